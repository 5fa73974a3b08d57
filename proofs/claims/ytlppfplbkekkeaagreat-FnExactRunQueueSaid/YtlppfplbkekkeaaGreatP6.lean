/- Texts Dbg0 .. Dbg26: the abstract machine, its laws and contracts of functions: lemmas for the statement. No condition. -/
import Derived.Test.YtlppfplbkekkeaaGreatP4
set_option linter.unusedSimpArgs false
set_option linter.unusedVariables false
namespace Go.Ab
open Go
structure qE where
 Agent:Int
 Slot:Int
deriving DecidableEq
def qE.enc(x:qE):AV:=.agg [iI x.Agent,iI x.Slot]
theorem qE.isSh:Sh qE.enc 2 (some 2):=⟨λx=>by simp[qE.enc,AV.tree,AV.trees],λ_=>rfl,λ_=>rfl,by decide,λx=>by simp[qE.enc]⟩
section
variable {x:qE}
@[go_sem] theorem qE.tr:x.enc.tree=true:=qE.isSh.tree x
@[go_sem] theorem qE.ln:x.enc.cells.length=2:=nr rfl
@[go_sem] theorem qE.all:x.enc.part 0 (some 2)=some x.enc:=nr rfl
@[go_sem] theorem qE.cs:x.enc.cells=[iI x.Agent,iI x.Slot]:=nr rfl
@[go_sem] theorem qE.p0:x.enc.part 0 none=some (iI x.Agent):=nr rfl
@[go_sem] theorem qE.p1:x.enc.part 1 none=some (iI x.Slot):=nr rfl
@[go_sem] theorem qE.eqf{y:qE}:VD false [1,1] (some x.enc) (some y.enc)=some (.bool (decide (x=y))):=by
 obtain⟨a0,a1⟩:=x;obtain⟨b0,b1⟩:=y;simp only[VD,qE.enc,lMc,List.map_nil,dig,and_self,if_true,QK,Wz,qE.mk.injEq]
 repeat' (split<;>simp_all)
@[go_sem] theorem qE.eqt{y:qE}:VD true [1,1] (some x.enc) (some y.enc)=some (.bool (!decide (x=y))):=by
 have h:=qE.eqf (x:=x) (y:=y);unfold VD at h|-;split<;>simp_all
end
structure qB where
 Kind:Int
 Level:Int
 Value:Int
 Data:List Int
 Ports:List qE
def qB.enc(x:qB):AV:=.agg [iI x.Kind,iI x.Level,iI x.Value,lQ x.Data,.lst 2 (x.Ports.map qE.enc) false]
theorem qB.isSh:Sh qB.enc 5 (some 5):=⟨λx=>by simp[qB.enc,AV.tree,AV.trees,qa qE.isSh.tree,qa shI.tree],λ_=>rfl,λ_=>rfl,by decide,λx=>by simp[qB.enc]⟩
section
variable {x:qB}
@[go_sem] theorem qB.tr:x.enc.tree=true:=qB.isSh.tree x
@[go_sem] theorem qB.ln:x.enc.cells.length=5:=nr rfl
@[go_sem] theorem qB.all:x.enc.part 0 (some 5)=some x.enc:=nr rfl
@[go_sem] theorem qB.cs:x.enc.cells=[iI x.Kind,iI x.Level,iI x.Value,lQ x.Data,.lst 2 (x.Ports.map qE.enc) false]:=nr rfl
@[go_sem] theorem qB.p0:x.enc.part 0 none=some (iI x.Kind):=nr rfl
@[go_sem] theorem qB.p1:x.enc.part 1 none=some (iI x.Level):=nr rfl
@[go_sem] theorem qB.p2:x.enc.part 2 none=some (iI x.Value):=nr rfl
@[go_sem] theorem qB.p3:x.enc.part 3 none=some (lQ x.Data):=nr rfl
@[go_sem] theorem qB.p4:x.enc.part 4 none=some (.lst 2 (x.Ports.map qE.enc) false):=nr rfl
end
def qB.sz(x:qB):Nat:=x.Data.length+x.Ports.length
def qB.bd(x:qB):Prop:=x.Data.length<=140737488355328/\x.Ports.length<=140737488355328
structure qD where
 Agents:List qB
def qD.enc(x:qD):AV:=.agg [.lst 5 (x.Agents.map qB.enc) false]
theorem qD.isSh:Sh qD.enc 1 (some 1):=⟨λx=>by simp[qD.enc,AV.tree,AV.trees,qa qB.isSh.tree],λ_=>rfl,λ_=>rfl,by decide,λx=>by simp[qD.enc]⟩
section
variable {x:qD}
@[go_sem] theorem qD.tr:x.enc.tree=true:=qD.isSh.tree x
@[go_sem] theorem qD.ln:x.enc.cells.length=1:=nr rfl
@[go_sem] theorem qD.all:x.enc.part 0 (some 1)=some x.enc:=nr rfl
@[go_sem] theorem qD.p0:x.enc.part 0 none=some (.lst 5 (x.Agents.map qB.enc) false):=nr rfl
@[go_sem] theorem qD.lst1{E:Ev}{t off:Nat}{cs:List AV}{l:List qA}{ks:List Fr1}{s m:qv}{h:List qC}{Q:qi->VSt->Prop}:Lst E t off 1 (some (.agg cs)) (some x.enc) l ks ⟨s,m,h⟩ Q=Qg E t (wY cs off (.lst 5 (x.Agents.map qB.enc) false)) l ks ⟨s,m,h⟩ Q:=Xe rfl
end
def qD.sz(x:qD):Nat:=(x.Agents.length+qH qB.sz x.Agents)
def qD.bd(x:qD):Prop:=x.Agents.length<=140737488355328/\(∀y∈x.Agents,qB.bd y)
structure qA8 where
 Step:Int
 Def:Int
 Source:Int
deriving DecidableEq
section
variable {x:qA8}
end
structure qaO where
 Kind:Int
 Value:Int
deriving DecidableEq
section
variable {x:qaO}
end
structure qaP where
 At:Int
 Net:qD
 Origins:List qA8
section
variable {x:qaP}
end
structure qg4 where
 Book:List qD
 Schedule:List Int
 Every:Int
 At:Int
 Net:qD
 Origins:List qA8
 Breaks:List qaO
 Points:List qaP
section
variable {x:qg4}
end
set_option maxRecDepth 10000
def sr(l:List qA)(c:qG):qG:=.seq (.reg true l) c
@[go_sem] theorem qwB{l:List qA}{c:qG}:sr l c=.seq (.reg true l) c:=nr rfl
def oL(i d t:Nat):qA:=.mk i (some d) none (.load none (.t t)) []
@[go_sem] theorem quT{i d t:Nat}:oL i d t=.mk i (some d) none (.load none (.t t)) []:=nr rfl
def oC(i d:Nat)(n:Int):qA:=.mk i (some d) none (.mov (.c (iI n))) []
@[go_sem] theorem quK{i d:Nat}{n:Int}:oC i d n=.mk i (some d) none (.mov (.c (iI n))) []:=nr rfl
def oQ(i d:Nat)(b:Bool):qA:=.mk i (some d) none (.mov (.c (.bool b))) []
@[go_sem] theorem quZ{i d:Nat}{b:Bool}:oQ i d b=.mk i (some d) none (.mov (.c (.bool b))) []:=nr rfl
def oE(i d:Nat)(op:BinOp)(a:Nat)(n:Int):qA:=.mk i (some d) none (.bin op (.t a) (.c (iI n))) []
@[go_sem] theorem quN{i d:Nat}{op:BinOp}{a:Nat}{n:Int}:oE i d op a n=.mk i (some d) none (.bin op (.t a) (.c (iI n))) []:=nr rfl
def oB(i d:Nat)(op:BinOp)(a b:Nat):qA:=.mk i (some d) none (.bin op (.t a) (.t b)) []
@[go_sem] theorem quJ{i d:Nat}{op:BinOp}{a b:Nat}:oB i d op a b=.mk i (some d) none (.bin op (.t a) (.t b)) []:=nr rfl
def oA(i d w a b:Nat):qA:=.mk i (some d) none (.iaddr w (.t a) (.t b)) []
@[go_sem] theorem quI{i d w a b:Nat}:oA i d w a b=.mk i (some d) none (.iaddr w (.t a) (.t b)) []:=nr rfl
def oX(i d t k:Nat):qA:=.mk i (some d) none (.lload t k none) []
@[go_sem] theorem qu5{i d t k:Nat}:oX i d t k=.mk i (some d) none (.lload t k none) []:=nr rfl
def oY(i d t k w:Nat):qA:=.mk i (some d) none (.lload t k (some w)) []
@[go_sem] theorem qu6{i d t k w:Nat}:oY i d t k w=.mk i (some d) none (.lload t k (some w)) []:=nr rfl
def oS(i t k w x:Nat):qA:=.mk i none none (.lstore t k w (.t x)) []
@[go_sem] theorem qu0{i t k w x:Nat}:oS i t k w x=.mk i none none (.lstore t k w (.t x)) []:=nr rfl
def oT(i w a b:Nat):qA:=.mk i none none (.store w (.t a) (.t b)) []
@[go_sem] theorem qu1{i w a b:Nat}:oT i w a b=.mk i none none (.store w (.t a) (.t b)) []:=nr rfl
def oF(i d k a:Nat):qA:=.mk i (some d) none (.faddr k (.t a)) []
@[go_sem] theorem quO{i d k a:Nat}:oF i d k a=.mk i (some d) none (.faddr k (.t a)) []:=nr rfl
def oK(i d a:Nat):qA:=.mk i (some d) none (.nilchk (.t a)) []
@[go_sem] theorem quS{i d a:Nat}:oK i d a=.mk i (some d) none (.nilchk (.t a)) []:=nr rfl
def oV(i d a k:Nat):qA:=.mk i (some d) none (.ext (.t a) k) []
@[go_sem] theorem qu3{i d a k:Nat}:oV i d a k=.mk i (some d) none (.ext (.t a) k) []:=nr rfl
def oU(i d a:Nat):qA:=.mk i (some d) none (.nop a) []
@[go_sem] theorem qu2{i d a:Nat}:oU i d a=.mk i (some d) none (.nop a) []:=nr rfl
def oJ(i d a:Nat):qA:=.mk i (some d) none (.not (.t a)) []
@[go_sem] theorem quR{i d a:Nat}:oJ i d a=.mk i (some d) none (.not (.t a)) []:=nr rfl
def oW(i d a:Nat):qA:=.mk i (some d) none (.len (.t a)) []
@[go_sem] theorem qu4{i d a:Nat}:oW i d a=.mk i (some d) none (.len (.t a)) []:=nr rfl
def oH(i d k:Nat)(b:Bool)(a:Nat):qA:=.mk i (some d) (some (k,b)) (.mov (.t a)) []
@[go_sem] theorem quQ{i d k:Nat}{b:Bool}{a:Nat}:oH i d k b a=.mk i (some d) (some (k,b)) (.mov (.t a)) []:=nr rfl
def oD1(i d g a:Nat):qA:=.mk i (some d) none (.call g [.t a]) []
@[go_sem] theorem quL{i d g a:Nat}:oD1 i d g a=.mk i (some d) none (.call g [.t a]) []:=nr rfl
def oD2(i d g a b:Nat):qA:=.mk i (some d) none (.call g [.t a,.t b]) []
@[go_sem] theorem quM{i d g a b:Nat}:oD2 i d g a b=.mk i (some d) none (.call g [.t a,.t b]) []:=nr rfl
def oPf(i d a b:Nat):qA:=.mk i (some d) none (.pick (.t a) (.t b) (.c (.bool false))) []
@[go_sem] theorem quX{i d a b:Nat}:oPf i d a b=.mk i (some d) none (.pick (.t a) (.t b) (.c (.bool false))) []:=nr rfl
def oPt(i d a b:Nat):qA:=.mk i (some d) none (.pick (.t a) (.c (.bool true)) (.t b)) []
@[go_sem] theorem quY{i d a b:Nat}:oPt i d a b=.mk i (some d) none (.pick (.t a) (.c (.bool true)) (.t b)) []:=nr rfl
def wM(i d g x:Nat):qA:=.mk i (some d) (some (g,false)) (.nilchk (.t x)) []
@[go_sem] theorem qvC{i d g x:Nat}:wM i d g x=.mk i (some d) (some (g,false)) (.nilchk (.t x)) []:=nr rfl
def wD(i d g x:Nat):qA:=.mk i (some d) (some (g,true)) (.nilchk (.t x)) []
@[go_sem] theorem qvD{i d g x:Nat}:wD i d g x=.mk i (some d) (some (g,true)) (.nilchk (.t x)) []:=nr rfl
def jq(i d g k x:Nat):qA:=.mk i (some d) (some (g,false)) (.faddr k (.t x)) []
@[go_sem] theorem qvA{i d g k x:Nat}:jq i d g k x=.mk i (some d) (some (g,false)) (.faddr k (.t x)) []:=nr rfl
def jg(i d g k x:Nat):qA:=.mk i (some d) (some (g,true)) (.faddr k (.t x)) []
@[go_sem] theorem qvB{i d g k x:Nat}:jg i d g k x=.mk i (some d) (some (g,true)) (.faddr k (.t x)) []:=nr rfl
def jh(i d g x:Nat):qA:=.mk i (some d) (some (g,false)) (.load none (.t x)) []
@[go_sem] theorem qvE{i d g x:Nat}:jh i d g x=.mk i (some d) (some (g,false)) (.load none (.t x)) []:=nr rfl
def jY(i d g x:Nat):qA:=.mk i (some d) (some (g,true)) (.load none (.t x)) []
@[go_sem] theorem qvF{i d g x:Nat}:jY i d g x=.mk i (some d) (some (g,true)) (.load none (.t x)) []:=nr rfl
def j4(i d g x:Nat):qA:=.mk i (some d) (some (g,false)) (.not (.t x)) []
@[go_sem] theorem qvG{i d g x:Nat}:j4 i d g x=.mk i (some d) (some (g,false)) (.not (.t x)) []:=nr rfl
def Yx(i d g x:Nat):qA:=.mk i (some d) (some (g,true)) (.not (.t x)) []
@[go_sem] theorem qvH{i d g x:Nat}:Yx i d g x=.mk i (some d) (some (g,true)) (.not (.t x)) []:=nr rfl
def Z6(i d g x:Nat):qA:=.mk i (some d) (some (g,false)) (.len (.t x)) []
@[go_sem] theorem qu8{i d g x:Nat}:Z6 i d g x=.mk i (some d) (some (g,false)) (.len (.t x)) []:=nr rfl
def Ju(i d g x:Nat):qA:=.mk i (some d) (some (g,true)) (.len (.t x)) []
@[go_sem] theorem qu9{i d g x:Nat}:Ju i d g x=.mk i (some d) (some (g,true)) (.len (.t x)) []:=nr rfl
def ja(i d g k x:Nat):qA:=.mk i (some d) (some (g,false)) (.lload k x none) []
@[go_sem] theorem qvK{i d g k x:Nat}:ja i d g k x=.mk i (some d) (some (g,false)) (.lload k x none) []:=nr rfl
def wN(i d g k x:Nat):qA:=.mk i (some d) (some (g,true)) (.lload k x none) []
@[go_sem] theorem qvL{i d g k x:Nat}:wN i d g k x=.mk i (some d) (some (g,true)) (.lload k x none) []:=nr rfl
def jZ(i d g x:Nat):qA:=.mk i (some d) (some (g,false)) (.nop x) []
@[go_sem] theorem qvI{i d g x:Nat}:jZ i d g x=.mk i (some d) (some (g,false)) (.nop x) []:=nr rfl
def wE(i d g x:Nat):qA:=.mk i (some d) (some (g,true)) (.nop x) []
@[go_sem] theorem qvJ{i d g x:Nat}:wE i d g x=.mk i (some d) (some (g,true)) (.nop x) []:=nr rfl
def F338:qJ:=KP
def qGC:qJ:=KP
def qV2:List qA:=[oU 0 5 2,oX 1 6 2 3,oM 2 7 1,oD2 3 8 338 6 7,oM 4 1 8]
def qV3:List qA:=[oU 0 11 2,oX 1 12 2 4,oM 2 13 1,oD2 3 14 1173 12 13,oM 4 1 14]
def qV1:qG:=sr qV3 (.seq (sr [oM 0 15 1,oE 1 16 .lss 15 0] (.cond (.t 16) (sr [oP 0 4 (.mov (.c (iI (-1))))] .ret) .skip)) (sr [oM 0 17 1,oM 1 4 17] .ret))
def F852:qJ:=⟨2,18,[.t 4],sr [oP 0 2 (.lbox 5 (.t 0)),oC 1 4 0] (sr qV2 (.seq (sr [oM 0 9 1,oE 1 10 .lss 9 0] (.cond (.t 10) (sr [oP 0 4 (.mov (.c (iI (-1))))] .ret) .skip)) qV1))⟩
def F501:qJ:=szS 5 (some 5) 852
def qOP:List qA:=[oU 0 5 2,oX 1 6 2 0,oM 2 7 1,oD2 3 8 501 6 7,oM 4 1 8]
def qOO:qG:=sr qOP (.seq (sr [oM 0 9 1,oE 1 10 .lss 9 0] (.cond (.t 10) (sr [oP 0 4 (.mov (.c (iI (-1))))] .ret) .skip)) (sr [oM 0 11 1,oM 1 4 11] .ret))
def F182:qJ:=⟨2,12,[.t 4],sr [oP 0 2 (.lbox 1 (.t 0)),oC 1 4 0] qOO⟩
def F181:qJ:=szS 1 (some 1) 182
def qP7:List qA:=[oM 0 7 0,oM 1 8 1,oB 2 9 .geq 7 8,oM 3 10 9,oH 4 11 10 true 0,oH 5 12 10 true 2,oG 6 13 10 true (.bin .leq (.t 11) (.t 12)),oPf 7 14 10 13,oM 8 6 14]
def F340:qJ:=⟨3,15,[.t 6],sr [oQ 0 6 false] (sr qP7 .ret)⟩
def qQ1:List qA:=[oM 0 7 3,oM 1 8 0,oW 2 9 8,oB 3 10 .lss 7 9]
def qQ2:List qA:=[oM 0 13 0,oM 1 14 3,oA 2 15 1 13 14,oL 3 16 15,oP 4 17 (.call 340 [.t 16,.c (iI 0),.c (iI 600)]),oJ 5 18 17]
def qQZ:qG:=.loop (.seq (sr qQ1 (.cond (.t 10) .skip (.exit 0))) (.seq (.blk 1 (sr qQ2 (.cond (.t 18) (sr [oQ 0 2 false] .ret) .skip))) (.reg true [oM 0 11 3,oE 1 12 .add 11 1,oM 2 3 12])))
def qQ0:qG:=.seq (sr [oM 0 4 0,oW 1 5 4,oE 2 6 .gtr 5 200] (.cond (.t 6) (sr [oQ 0 2 false] .ret) .skip)) (.seq (sr [oC 0 3 0] (.blk 0 qQZ)) (sr [oQ 0 2 true] .ret))
def F412:qJ:=⟨1,19,[.t 2],sr [oQ 0 2 false] qQ0⟩
def qQ4:List qA:=[oU 0 5 3,oX 1 6 3 0,oM 2 7 0,oW 3 8 7,oE 4 9 .sub 8 1,oP 5 10 (.call 340 [.t 6,.c (iI 0),.t 9]),oM 6 11 10,wE 7 12 11 3,wN 8 13 11 3 1,oH 9 14 11 true 0,wE 10 15 11 3,wN 11 16 11 3 0,oG 12 17 11 true (.iaddr 5 (.t 14) (.t 16)),jg 13 18 11 4 17,jY 14 19 11 18,Ju 15 20 11 19,oG 16 21 11 true (.bin .sub (.t 20) (.c (iI 1))),oG 17 22 11 true (.call 340 [.t 13,.c (iI 0),.t 21]),oPf 18 23 11 22,oM 19 4 23]
def F488:qJ:=⟨2,24,[.t 4],sr [oP 0 3 (.lbox 2 (.t 1)),oQ 1 4 false] (sr qQ4 .ret)⟩
def qLP:qG:=.seq (sr [oM 0 7 1,oP 1 8 (.call 340 [.t 7,.c (iI 0),.c (iI 3)])] (.cond (.t 8) (sr [oM 0 9 1,oP 1 10 (.bin .add (.c (iI 1)) (.t 9)),oM 2 4 10] .ret) .skip)) (sr [oC 0 4 0] .ret)
def qLQ:qG:=sr [oE 0 16 .eql 13 5,oM 1 14 16] (.cond (.t 14) .skip (sr [oE 0 17 .eql 13 6,oM 1 14 17] (.cond (.t 14) .skip (.reg true [oE 0 18 .eql 13 12,oM 1 14 18]))))
def qLR:qG:=sr [oE 0 20 .eql 13 8,oM 1 19 20] (.cond (.t 19) .skip (sr [oE 0 21 .eql 13 10,oM 1 19 21] (.cond (.t 19) .skip (.reg true [oE 0 22 .eql 13 11,oM 1 19 22]))))
def qLS:qG:=sr [oE 0 25 .eql 13 3,oM 1 23 25] (.cond (.t 23) .skip (sr [oE 0 26 .eql 13 4,oM 1 23 26] (.cond (.t 23) .skip (.reg true [oE 0 27 .eql 13 7,oM 1 23 27]))))
def qLT:qG:=.cond (.t 14) (sr [oC 0 4 1] .ret) (.seq qLR (.cond (.t 19) (sr [oC 0 4 2] .ret) (.seq (sr [oE 0 24 .eql 13 2,oM 1 23 24] (.cond (.t 23) .skip qLS)) (.cond (.t 23) (sr [oC 0 4 3] .ret) .skip))))
def qLU:qG:=.seq (sr [oM 0 11 1,oE 1 12 .neq 11 0] (.cond (.t 12) (sr [oC 0 4 0] .ret) .skip)) (.seq (sr [oM 0 13 0] (.blk 0 (.seq (sr [oE 0 15 .eql 13 1,oM 1 14 15] (.cond (.t 14) .skip qLQ)) qLT))) (sr [oC 0 4 0] .ret))
def kV:qJ:=⟨2,28,[.t 4],sr [oC 0 4 0] (.seq (sr [oM 0 5 0,oE 1 6 .eql 5 9] (.cond (.t 6) qLP .skip)) qLU)⟩
def qL1:List qA:=[oM 0 3 0,oK 1 4 3,oF 2 5 0 4,oL 3 6 5,oE 4 7 .eql 6 9]
def qL2:List qA:=[oM 0 8 0,oK 1 9 8,oF 2 10 4 9,oL 3 11 10,oW 4 12 11,oE 5 13 .sub 12 1,oM 6 2 13]
def kY:qJ:=⟨1,14,[.t 2],sr [oC 0 2 0] (.seq (sr qL1 (.cond (.t 7) (sr qL2 .ret) .skip)) (sr [oC 0 2 0] .ret))⟩
def qLV:qG:=sr [oE 0 11 .eql 3 10,oM 1 4 11] (.cond (.t 4) .skip (sr [oE 0 12 .eql 3 11,oM 1 4 12] (.cond (.t 4) .skip (.reg true [oE 0 13 .eql 3 12,oM 1 4 13]))))
def qLW:qG:=sr [oE 0 8 .eql 3 7,oM 1 4 8] (.cond (.t 4) .skip (sr [oE 0 9 .eql 3 8,oM 1 4 9] (.cond (.t 4) .skip (sr [oE 0 10 .eql 3 9,oM 1 4 10] (.cond (.t 4) .skip qLV)))))
def qLX:qG:=sr [oE 0 5 .eql 3 2,oM 1 4 5] (.cond (.t 4) .skip (sr [oE 0 6 .eql 3 3,oM 1 4 6] (.cond (.t 4) .skip (sr [oE 0 7 .eql 3 4,oM 1 4 7] (.cond (.t 4) .skip qLW)))))
def kW:qJ:=⟨1,14,[.t 2],sr [oQ 0 2 false] (.seq (sr [oM 0 3 0] (.blk 0 (.seq qLX (.cond (.t 4) (sr [oQ 0 2 true] .ret) .skip)))) (sr [oQ 0 2 false] .ret))⟩
def qAN:qJ:=⟨1,5,[.t 2],sr [oQ 0 2 false] (sr [oM 0 3 0,oP 1 4 (.call 340 [.t 3,.c (iI 1),.c (iI 12)]),oM 2 2 4] .ret)⟩
def qL3:List qA:=[oM 0 9 0,oD1 1 10 1489 9,oM 2 11 10,oH 3 12 11 true 1,oG 4 13 11 true (.bin .eql (.t 12) (.c (iI 0))),oPf 5 14 11 13,oM 6 4 14]
def kZ:qJ:=⟨2,15,[.t 4],sr [oQ 0 4 false] (.seq (sr [oM 0 5 0,oD1 1 6 1372 5] (.cond (.t 6) (sr [oM 0 7 1,oP 1 8 (.call 340 [.t 7,.c (iI 0),.c (iI 8)]),oM 2 4 8] .ret) .skip)) (sr qL3 .ret))⟩
def qAO:qJ:=⟨1,5,[.t 2],sr [oQ 0 2 false] (sr [oM 0 3 0,oP 1 4 (.call 340 [.t 3,.c (iI 0),.c (iI 23)]),oM 2 2 4] .ret)⟩
def qL8:List qA:=[oM 0 4 0,oK 1 5 4,oF 2 6 0 5,oL 3 7 6]
def qL9:List qA:=[oM 0 10 0,oK 1 11 10,oF 2 12 3 11,oL 3 13 12,oW 4 14 13,oE 5 15 .eql 14 0,oM 6 16 15,oH 7 17 16 true 0,wD 8 18 16 17,jg 9 19 16 2 18,jY 10 20 16 19,oG 11 21 16 true (.call 340 [.t 20,.c (iI (-2147483648)),.c (iI 2147483647)]),oPf 12 22 16 21,oM 13 2 22]
def qMB:List qA:=[oM 0 25 0,oK 1 26 25,oF 2 27 3 26,oL 3 28 27,oW 4 29 28,oE 5 30 .eql 29 0,oM 6 31 30,oH 7 32 31 true 0,wD 8 33 31 32,jg 9 34 31 2 33,jY 10 35 31 34,oG 11 36 31 true (.call 340 [.t 35,.c (iI 1),.c (iI 6)]),oPf 12 37 31 36,oM 13 2 37]
def qMC:List qA:=[oM 0 40 0,oK 1 41 40,oF 2 42 3 41,oL 3 43 42,oW 4 44 43,oE 5 45 .eql 44 1,oM 6 46 45,oH 7 47 46 true 0,wD 8 48 46 47,jg 9 49 46 2 48,jY 10 50 46 49,oG 11 51 46 true (.call 340 [.t 50,.c (iI 1),.c (iI 6)]),oPf 12 52 46 51,oM 13 53 52,oH 14 54 53 true 0,wD 15 55 53 54,jg 16 56 53 3 55,jY 17 57 53 56,oG 18 58 53 true (.iaddr 1 (.t 57) (.c (iI 0))),jY 19 59 53 58,oG 20 60 53 true (.call 340 [.t 59,.c (iI (-2147483648)),.c (iI 2147483647)]),oPf 21 61 53 60,oM 22 2 61]
def qMD:List qA:=[oM 0 64 0,oK 1 65 64,oF 2 66 3 65,oL 3 67 66,oW 4 68 67,oE 5 69 .eql 68 0,oM 6 70 69,oH 7 71 70 true 0,wD 8 72 70 71,jg 9 73 70 2 72,jY 10 74 70 73,oG 11 75 70 true (.call 340 [.t 74,.c (iI 0),.c (iI 3)]),oPf 12 76 70 75,oM 13 2 76]
def qME:List qA:=[oM 0 79 0,oK 1 80 79,oF 2 81 3 80,oL 3 82 81,oW 4 83 82,oE 5 84 .eql 83 0,oM 6 85 84,oH 7 86 85 true 0,wD 8 87 85 86,jg 9 88 85 2 87,jY 10 89 85 88,oG 11 90 85 true (.call 1494 [.t 89]),oPf 12 91 85 90,oM 13 2 91]
def qMF:List qA:=[oM 0 95 0,oK 1 96 95,oF 2 97 2 96,oL 3 98 97,oE 4 99 .neq 98 0,oM 5 100 99,oH 6 101 100 false 0,wM 7 102 100 101,jq 8 103 100 0 102,jh 9 104 100 103,oG 10 105 100 false (.bin .eql (.t 104) (.c (iI 11))),oH 11 106 100 false 105,oH 12 107 106 true 0,wD 13 108 106 107,jg 14 109 106 3 108,jY 15 110 106 109,Ju 16 111 106 110,oG 17 112 106 true (.bin .neq (.t 111) (.c (iI 2))),oG 18 113 100 false (.pick (.t 106) (.t 112) (.c (.bool false))),oPt 19 114 100 113,oM 20 115 114,oH 21 116 115 false 0,wM 22 117 115 116,jq 23 118 115 0 117,jh 24 119 115 118,oG 25 120 115 false (.bin .eql (.t 119) (.c (iI 10))),oH 26 121 115 false 120,oH 27 122 121 true 0,wD 28 123 121 122,jg 29 124 121 3 123,jY 30 125 121 124,Ju 31 126 121 125,oG 32 127 121 true (.call 340 [.t 126,.c (iI 1),.c (iI 4)]),Yx 33 128 121 127,oG 34 129 115 false (.pick (.t 121) (.t 128) (.c (.bool false))),oPt 35 130 115 129]
def qMG:List qA:=[oM 0 131 3,oM 1 132 0,oK 2 133 132,oF 3 134 3 133,oL 4 135 134,oW 5 136 135,oB 6 137 .lss 131 136]
def qMH:List qA:=[oM 0 140 0,oK 1 141 140,oF 2 142 3 141,oL 3 143 142,oM 4 144 3,oA 5 145 1 143 144,oL 6 146 145,oD1 7 147 1494 146,oJ 8 148 147]
def qL7:qG:=.loop (.seq (sr qMG (.cond (.t 137) .skip (.exit 1))) (.seq (.blk 2 (sr qMH (.cond (.t 148) (sr [oQ 0 2 false] .ret) .skip))) (.reg true [oM 0 138 3,oE 1 139 .add 138 1,oM 2 3 139])))
def qL4:qG:=.seq (sr [oE 0 93 .eql 7 10,oM 1 92 93] (.cond (.t 92) .skip (.reg true [oE 0 94 .eql 7 11,oM 1 92 94]))) (.cond (.t 92) (.seq (sr qMF (.cond (.t 130) (sr [oQ 0 2 false] .ret) .skip)) (.seq (sr [oC 0 3 0] (.blk 1 qL7)) (sr [oQ 0 2 true] .ret))) .skip)
def qL5:qG:=.cond (.t 38) (sr qMC .ret) (sr [oE 0 63 .eql 7 9,oM 1 62 63] (.cond (.t 62) (sr qMD .ret) (sr [oE 0 78 .eql 7 12,oM 1 77 78] (.cond (.t 77) (sr qME .ret) qL4))))
def qL6:qG:=sr [oE 0 9 .eql 7 6,oM 1 8 9] (.cond (.t 8) (sr qL9 .ret) (sr [oE 0 24 .eql 7 7,oM 1 23 24] (.cond (.t 23) (sr qMB .ret) (sr [oE 0 39 .eql 7 8,oM 1 38 39] qL5))))
def qMA:List qA:=[oM 0 149 0,oK 1 150 149,oF 2 151 2 150,oL 3 152 151,oE 4 153 .eql 152 0,oM 5 154 153,oH 6 155 154 true 0,wD 7 156 154 155,jg 8 157 154 3 156,jY 9 158 154 157,Ju 10 159 154 158,oG 11 160 154 true (.bin .eql (.t 159) (.c (iI 0))),oPf 12 161 154 160,oM 13 2 161]
def ke:qJ:=⟨1,162,[.t 2],sr [oQ 0 2 false] (.seq (sr qL8 (.blk 0 qL6)) (sr qMA .ret))⟩
def qE7:List qA:=[oM 0 4 0,oK 1 5 4,oF 2 6 0 5,oL 3 7 6,oM 4 8 0,⟨5,some 9,none,.call 1384 [.t 8],[⟨3,some 7,none,.load none (.t 6),[]⟩]⟩,oD2 6 10 1371 7 9,oM 7 3 10]
def qE8:List qA:=[oM 0 11 3,oE 1 12 .gtr 11 0,oM 2 13 12,oH 3 14 13 true 0,wD 4 15 13 14,jg 5 16 13 4 15,jY 6 17 13 16,Ju 7 18 13 17,oH 8 19 13 true 3,oG 9 20 13 true (.bin .eql (.t 18) (.t 19)),oPf 10 21 13 20,oM 11 22 21,oH 12 23 22 true 0,wD 13 24 22 23,jg 14 25 22 0 24,jY 15 26 22 25,oH 16 27 22 true 0,wD 17 28 22 27,jg 18 29 22 1 28,jY 19 30 22 29,oG 20 31 22 true (.call 1385 [.t 26,.t 30]),oPf 21 32 22 31,oM 22 33 32,oH 23 34 33 true 0,oG 24 35 33 true (.call 1386 [.t 34]),oPf 25 36 33 35,oM 26 2 36]
def Kc:qJ:=⟨1,37,[.t 2],sr [oQ 0 2 false] (sr qE7 (sr qE8 .ret))⟩
def qUH:List qA:=[oM 0 4 0,oW 1 5 4,oP 2 6 (.call 340 [.t 5,.c (iI 1),.c (iI 600)]),oJ 3 7 6]
def qUI:List qA:=[oM 0 8 3,oM 1 9 0,oW 2 10 9,oB 3 11 .lss 8 10]
def qUJ:List qA:=[oM 0 14 0,oM 1 15 3,oA 2 16 5 14 15,oD1 3 17 1096 16,oJ 4 18 17,oM 5 19 18,oH 6 20 19 false 0,oH 7 21 19 false 3,oG 8 22 19 false (.iaddr 5 (.t 20) (.t 21)),jq 9 23 19 0 22,jh 10 24 19 23,oG 11 25 19 false (.bin .eql (.t 24) (.c (iI 1))),oH 12 26 19 false 3,oG 13 27 19 false (.bin .eql (.t 26) (.c (iI 0))),oG 14 28 19 false (.beq true (.t 25) (.t 27)),oPt 15 29 19 28]
def qUG:qG:=.loop (.seq (sr qUI (.cond (.t 11) .skip (.exit 0))) (.seq (.blk 1 (sr qUJ (.cond (.t 29) (sr [oQ 0 2 false] .ret) .skip))) (.reg true [oM 0 12 3,oE 1 13 .add 12 1,oM 2 3 13])))
def F710:qJ:=⟨1,30,[.t 2],sr [oQ 0 2 false] (.seq (sr qUH (.cond (.t 7) (sr [oQ 0 2 false] .ret) .skip)) (.seq (sr [oC 0 3 0] (.blk 0 qUG)) (sr [oQ 0 2 true] .ret)))⟩
def qPY:List qA:=[oM 0 8 0,oK 1 9 8,oF 2 10 0 9,oL 3 11 10,oD1 4 12 710 11,oJ 5 13 12]
def qPZ:List qA:=[oM 0 14 3,oM 1 15 0,oK 2 16 15,oF 3 17 0 16,oL 4 18 17,oW 5 19 18,oB 6 20 .lss 14 19]
def qP0:List qA:=[oM 0 23 0,oK 1 24 23,oF 2 25 0 24,oL 3 26 25,oM 4 27 3,oA 5 28 5 26 27,oM 6 4 28]
def qP1:List qA:=[oM 0 29 5,oM 1 30 4,oK 2 31 30,oF 3 32 4 31,oL 4 33 32,oW 5 34 33,oB 6 35 .lss 29 34]
def qP2:List qA:=[oM 0 38 3,oM 1 39 5,oP 2 40 (.build (.agg [iI 0,iI 0]) [(0,1,.t 38),(1,1,.t 39)]),oP 3 6 (.lalloc (.agg [iI 0,iI 0])),oS 4 6 0 2 40]
def qP3:List qA:=[oM 0 41 4,oK 1 42 41,oF 2 43 4 42,oL 3 44 43,oM 4 45 5,oA 5 46 2 44 45,oP 6 47 (.load (some 2) (.t 46)),oP 7 7 (.lalloc (.agg [iI 0,iI 0])),oS 8 7 0 2 47]
def qP4:List qA:=[oY 0 48 7 0 2,oY 1 49 6 0 2,oP 2 50 (.seq false [1,1] (.t 48) (.t 49)),oM 3 51 50,oH 4 52 51 false 0,wM 5 53 51 52,jq 6 54 51 0 53,jh 7 55 51 54,oG 8 56 51 false (.lload 7 0 (some 2)),oG 9 57 51 false (.call 488 [.t 55,.t 56]),j4 10 58 51 57,oPt 11 59 51 58,oM 12 60 59,oH 13 61 60 false 0,wM 14 62 60 61,jq 15 63 60 0 62,jh 16 64 60 63,jZ 17 65 60 7,ja 18 66 60 7 0,oG 19 67 60 false (.iaddr 5 (.t 64) (.t 66)),jq 20 68 60 4 67,jh 21 69 60 68,jZ 22 70 60 7,ja 23 71 60 7 1,oG 24 72 60 false (.iaddr 2 (.t 69) (.t 71)),oG 25 73 60 false (.load (some 2) (.t 72)),oG 26 74 60 false (.lload 6 0 (some 2)),oG 27 75 60 false (.seq true [1,1] (.t 73) (.t 74)),oPt 28 76 60 75]
def qPV:qG:=.seq (.blk 3 (sr qP2 (sr qP3 (sr qP4 (.cond (.t 76) (sr [oQ 0 2 false] .ret) .skip))))) (.reg true [oM 0 36 5,oE 1 37 .add 36 1,oM 2 5 37])
def qPW:qG:=.seq (.blk 1 (sr qP0 (sr [oC 0 5 0] (.blk 2 (.loop (.seq (sr qP1 (.cond (.t 35) .skip (.exit 2))) qPV)))))) (.reg true [oM 0 21 3,oE 1 22 .add 21 1,oM 2 3 22])
def qPX:qG:=.seq (sr qPY (.cond (.t 13) (sr [oQ 0 2 false] .ret) .skip)) (.seq (sr [oC 0 3 0] (.blk 0 (.loop (.seq (sr qPZ (.cond (.t 20) .skip (.exit 0))) qPW)))) (sr [oQ 0 2 true] .ret))
def F318:qJ:=⟨1,77,[.t 2],sr [oQ 0 2 false] qPX⟩
def qT3:List qA:=[oM 0 7 3,oM 1 8 0,oW 2 9 8,oB 3 10 .lss 7 9]
def qT4:List qA:=[oM 0 13 0,oM 1 14 3,oA 2 15 1 13 14,oD1 3 16 318 15,oJ 4 17 16]
def qT1:qG:=.loop (.seq (sr qT3 (.cond (.t 10) .skip (.exit 0))) (.seq (.blk 1 (sr qT4 (.cond (.t 17) (sr [oQ 0 2 false] .ret) .skip))) (.reg true [oM 0 11 3,oE 1 12 .add 11 1,oM 2 3 12])))
def qT2:qG:=.seq (sr [oM 0 4 0,oW 1 5 4,oE 2 6 .gtr 5 24] (.cond (.t 6) (sr [oQ 0 2 false] .ret) .skip)) (.seq (sr [oC 0 3 0] (.blk 0 qT1)) (sr [oQ 0 2 true] .ret))
def F598:qJ:=⟨1,18,[.t 2],sr [oQ 0 2 false] qT2⟩
def qUU:List qA:=[oM 0 7 4,oM 1 8 0,oK 2 9 8,oF 3 10 0 9,oL 4 11 10,oW 5 12 11,oB 6 13 .lss 7 12]
def qUV:List qA:=[oM 0 16 0,oK 1 17 16,oF 2 18 0 17,oL 3 19 18,oM 4 20 4,oA 5 21 5 19 20,oF 6 22 0 21,oL 7 23 22,oE 8 24 .eql 23 0]
def qUW:List qA:=[oM 0 25 0,oK 1 26 25,oF 2 27 0 26,oL 3 28 27,oM 4 29 4,oA 5 30 5 28 29,oF 6 31 4 30,oL 7 32 31,oP 8 33 (.iaddr 2 (.t 32) (.c (iI 0))),oP 9 34 (.load (some 2) (.t 33)),oP 10 5 (.lalloc (.agg [iI 0,iI 0])),oS 11 5 0 2 34]
def qUX:List qA:=[oU 0 35 5,oX 1 36 5 1,oE 2 37 .eql 36 0,oM 3 38 37,wE 4 39 38 5,wN 5 40 38 5 0,oH 6 41 38 true 4,oG 7 42 38 true (.bin .gtr (.t 40) (.t 41)),oPf 8 43 38 42]
def qUY:List qA:=[oM 0 44 3,oM 1 45 4,oU 2 46 5,oX 3 47 5 0,oP 4 48 (.build (.agg [iI 0,iI 0]) [(0,1,.t 45),(1,1,.t 47)]),oP 5 49 (.bslice 2 (.agg [iI 0,iI 0]) 1 [(0,.t 48)]),oP 6 50 (.app 2 (.t 44) (.t 49)),oM 7 3 50]
def qUS:qG:=.seq (sr qUU (.cond (.t 13) .skip (.exit 0))) (.seq (.blk 1 (.seq (sr qUV (.cond (.t 24) (.exit 1) .skip)) (sr qUW (sr qUX (.cond (.t 43) (.reg true qUY) .skip))))) (.reg true [oM 0 14 4,oE 1 15 .add 14 1,oM 2 4 15]))
def qUT:qG:=sr [oP 0 6 (.mov (.c (.lst 2 [] true))),oM 1 3 6] (.seq (sr [oC 0 4 1] (.blk 0 (.loop qUS))) (sr [oM 0 51 3,oM 1 2 51] .ret))
def F742:qJ:=⟨1,52,[.t 2],sr [oP 0 2 (.mov (.c (.nils)))] qUT⟩
def qMP:List qA:=[oM 0 9 0,oM 1 10 1,oD2 2 11 1385 9 10,oM 3 12 11,oH 4 13 12 true 2,oH 5 14 12 true 3,oG 6 15 12 true (.call 1385 [.t 13,.t 14]),oPf 7 16 12 15,oM 8 17 16,oH 9 18 17 true 0,oG 10 19 17 true (.bin .neq (.t 18) (.c (iI 1))),oPf 11 20 17 19,oM 12 21 20,oH 13 22 21 true 2,oG 14 23 21 true (.bin .neq (.t 22) (.c (iI 1))),oPf 15 24 21 23,oM 16 8 24]
def kw:qJ:=⟨4,25,[.t 8],sr [oQ 0 8 false] (sr qMP .ret)⟩
def qOG:List qA:=[oM 0 7 0,oP 1 8 (.call 340 [.t 7,.c (iI 0),.c (iI 8)]),oJ 2 9 8,oM 3 10 9,oH 4 11 10 false 1,oH 5 12 10 false 2,oG 6 13 10 false (.call 1385 [.t 11,.t 12]),j4 7 14 10 13,oPt 8 15 10 14]
def qOH:List qA:=[oM 0 16 1,oE 1 17 .eql 16 6,oM 2 18 17,oH 3 19 18 false 1,oG 4 20 18 false (.bin .eql (.t 19) (.c (iI 12))),oPt 5 21 18 20]
def qOI:List qA:=[oM 0 22 1,oD1 1 23 1372 22,oM 2 24 23,oH 3 25 24 true 2,oH 4 26 24 true 0,oG 5 27 24 true (.bin .gtr (.t 25) (.t 26)),oPf 6 28 24 27,oM 7 6 28]
def qAQ:qJ:=⟨3,29,[.t 6],sr [oQ 0 6 false] (.seq (sr qOG (.cond (.t 15) (sr [oQ 0 6 false] .ret) .skip)) (.seq (sr qOH (.cond (.t 21) (sr [oQ 0 6 true] .ret) .skip)) (sr qOI .ret)))⟩
def qOJ:qG:=sr [oE 0 7 .eql 3 8,oM 1 4 7] (.cond (.t 4) .skip (sr [oE 0 8 .eql 3 10,oM 1 4 8] (.cond (.t 4) .skip (.reg true [oE 0 9 .eql 3 11,oM 1 4 9]))))
def qOK:qG:=sr [oM 0 3 0] (.blk 0 (.seq (sr [oE 0 5 .eql 3 3,oM 1 4 5] (.cond (.t 4) .skip (sr [oE 0 6 .eql 3 7,oM 1 4 6] (.cond (.t 4) .skip qOJ)))) (.cond (.t 4) (sr [oQ 0 2 true] .ret) .skip)))
def qAR:qJ:=⟨1,10,[.t 2],sr [oQ 0 2 false] (.seq qOK (sr [oQ 0 2 false] .ret))⟩
def qMV:List qA:=[oM 0 14 2,oE 1 15 .eql 14 4,oM 2 16 15,oH 3 17 16 true 1,oH 4 18 16 true 3,oG 5 19 16 true (.bin .eql (.t 17) (.t 18)),oPf 6 20 16 19]
def qMW:List qA:=[oM 0 21 1,oM 1 22 2,oM 2 23 3,oP 3 24 (.call 1499 [.t 21,.t 22,.t 23])]
def qMX:List qA:=[oM 0 27 2,oE 1 28 .eql 27 3,oM 2 29 28,oH 3 30 29 true 1,oH 4 31 29 true 3,oG 5 32 29 true (.bin .eql (.t 30) (.t 31)),oPf 6 33 29 32]
def qMQ:qG:=.seq (sr [oE 0 38 .eql 36 7,oM 1 37 38] (.cond (.t 37) .skip (.reg true [oE 0 39 .eql 36 8,oM 1 37 39]))) (.cond (.t 37) (sr [oC 0 8 5] .ret) (sr [oE 0 41 .eql 36 11,oM 1 40 41] (.cond (.t 40) (sr [oC 0 8 6] .ret) .skip)))
def qMR:qG:=.cond (.t 42) (sr [oM 0 44 2,oE 1 45 .eql 44 10] (.cond (.t 45) (sr [oC 0 8 6] .ret) .skip)) (sr [oE 0 47 .eql 9 12,oM 1 46 47] (.cond (.t 46) (sr [oM 0 48 2,oD1 1 49 1500 48] (.cond (.t 49) (sr [oC 0 8 7] .ret) .skip)) .skip))
def qMS:qG:=.cond (.t 25) (sr qMX (.cond (.t 33) (sr [oC 0 8 1] .ret) .skip)) (sr [oE 0 35 .eql 9 6,oM 1 34 35] (.cond (.t 34) (sr [oM 0 36 2] (.blk 1 qMQ)) (sr [oE 0 43 .eql 9 9,oM 1 42 43] qMR)))
def qMT:qG:=.cond (.t 12) (.seq (sr qMV (.cond (.t 20) (sr [oC 0 8 2] .ret) .skip)) (sr qMW (.cond (.t 24) (sr [oC 0 8 3] .ret) .skip))) (sr [oE 0 26 .eql 9 2,oM 1 25 26] qMS)
def qMU:qG:=sr [oM 0 9 0] (.blk 0 (sr [oE 0 11 .eql 9 5,oM 1 10 11] (.cond (.t 10) (sr [oC 0 8 4] .ret) (sr [oE 0 13 .eql 9 4,oM 1 12 13] qMT))))
def kz:qJ:=⟨4,50,[.t 8],sr [oC 0 8 0] (.seq qMU (sr [oC 0 8 0] .ret))⟩
def qFP:List qA:=[oM 0 9 0,oM 1 10 1,oM 2 11 2,oM 3 12 3,oP 4 13 (.call 1395 [.t 9,.t 10,.t 11,.t 12]),oJ 5 14 13]
def qFQ:List qA:=[oM 0 15 0,oM 1 16 1,oM 2 17 2,oM 3 18 3,oP 4 19 (.call 1396 [.t 15,.t 16,.t 17,.t 18]),oE 5 20 .neq 19 0]
def qFR:List qA:=[oM 0 21 2,oM 1 22 3,oM 2 23 0,oM 3 24 1,oP 4 25 (.call 1396 [.t 21,.t 22,.t 23,.t 24]),oE 5 26 .neq 25 0]
def qFO:qG:=.seq (sr qFP (.cond (.t 14) (sr [oC 0 8 0] .ret) .skip)) (.seq (sr qFQ (.cond (.t 20) (sr [oC 0 8 1] .ret) .skip)) (.seq (sr qFR (.cond (.t 26) (sr [oC 0 8 2] .ret) .skip)) (sr [oC 0 8 0] .ret)))
def Ke:qJ:=⟨4,27,[.t 8],sr [oC 0 8 0] qFO⟩
def qUZ:List qA:=[oM 0 10 0,oK 1 11 10,oF 2 12 0 11,oL 3 13 12,oM 4 14 1,oA 5 15 5 13 14,oM 6 8 15]
def qU0:List qA:=[oM 0 16 0,oK 1 17 16,oF 2 18 0 17,oL 3 19 18,oM 4 20 2,oA 5 21 5 19 20,oM 6 9 21]
def qU1:List qA:=[oM 0 22 8,oK 1 23 22,oF 2 24 0 23,oL 3 25 24,oM 4 26 8,oK 5 27 26,oF 6 28 1 27,oL 7 29 28,oM 8 30 9,oK 9 31 30,oF 10 32 0 31,oL 11 33 32,oM 12 34 9,oK 13 35 34,oF 14 36 1 35,oL 15 37 36,oP 16 38 (.call 1110 [.t 25,.t 29,.t 33,.t 37]),oE 17 39 .eql 38 2]
def qU2:List qA:=[oM 0 40 2,oM 1 41 1,oM 2 6 40,oM 3 7 41]
def qU3:List qA:=[oM 0 42 1,oM 1 43 2,oM 2 6 42,oM 3 7 43]
def F743:qJ:=⟨3,44,[.t 6,.t 7],sr [oC 0 6 0,oC 1 7 0] (sr qUZ (sr qU0 (.seq (sr qU1 (.cond (.t 39) (sr qU2 .ret) .skip)) (sr qU3 .ret))))⟩
def qFT:List qA:=[oM 0 10 0,oM 1 11 1,oM 2 12 2,oM 3 13 3,oP 4 14 (.call 1395 [.t 10,.t 11,.t 12,.t 13]),oJ 5 15 14]
def qFU:List qA:=[oM 0 16 0,oM 1 17 1,oM 2 18 2,oM 3 19 3,oP 4 20 (.call 1396 [.t 16,.t 17,.t 18,.t 19]),oM 5 9 20]
def qFV:List qA:=[oM 0 23 2,oM 1 24 3,oM 2 25 0,oM 3 26 1,oP 4 27 (.call 1396 [.t 23,.t 24,.t 25,.t 26]),oM 5 9 27]
def qFS:qG:=.seq (sr [oM 0 21 9,oE 1 22 .eql 21 0] (.cond (.t 22) (.reg true qFV) .skip)) (.seq (sr [oM 0 28 9,oE 1 29 .eql 28 0] (.cond (.t 29) (sr [oC 0 8 8] .ret) .skip)) (sr [oM 0 30 9,oM 1 8 30] .ret))
def Kf:qJ:=⟨4,31,[.t 8],sr [oC 0 8 0] (.seq (sr qFT (.cond (.t 15) (sr [oC 0 8 0] .ret) .skip)) (sr qFU qFS))⟩
def qU4:List qA:=[oM 0 5 0,oK 1 6 5,oF 2 7 0 6,oL 3 8 7,oE 4 9 .eql 8 9,oM 5 10 9,oH 6 11 10 true 1,wD 7 12 10 11,jg 8 13 10 0 12,jY 9 14 10 13,oG 10 15 10 true (.bin .eql (.t 14) (.c (iI 10))),oPf 11 16 10 15,oM 12 17 16,oH 13 18 17 true 0,wD 14 19 17 18,jg 15 20 17 2 19,jY 16 21 17 20,oH 17 22 17 true 1,wD 18 23 17 22,jg 19 24 17 3 23,jY 20 25 17 24,Ju 21 26 17 25,oG 22 27 17 true (.bin .geq (.t 21) (.t 26)),oPf 23 28 17 27]
def qU5:List qA:=[oM 0 29 0,oK 1 30 29,oF 2 31 0 30,oL 3 32 31,oE 4 33 .eql 32 10,oM 5 34 33,oH 6 35 34 true 1,wD 7 36 34 35,jg 8 37 34 0 36,jY 9 38 34 37,oG 10 39 34 true (.bin .eql (.t 38) (.c (iI 9))),oPf 11 40 34 39,oM 12 41 40,oH 13 42 41 true 1,wD 14 43 41 42,jg 15 44 41 2 43,jY 16 45 41 44,oH 17 46 41 true 0,wD 18 47 41 46,jg 19 48 41 3 47,jY 20 49 41 48,Ju 21 50 41 49,oG 22 51 41 true (.bin .geq (.t 45) (.t 50)),oPf 23 52 41 51]
def qU6:List qA:=[oM 0 53 0,oK 1 54 53,oF 2 55 0 54,oL 3 56 55,oM 4 57 0,oK 5 58 57,oF 6 59 1 58,oL 7 60 59,oM 8 61 1,oK 9 62 61,oF 10 63 0 62,oL 11 64 63,oM 12 65 1,oK 13 66 65,oF 14 67 1 66,oL 15 68 67,oP 16 69 (.call 1111 [.t 56,.t 60,.t 64,.t 68]),oM 17 4 69]
def F744:qJ:=⟨2,70,[.t 4],sr [oC 0 4 0] (.seq (sr qU4 (.cond (.t 28) (sr [oC 0 4 8] .ret) .skip)) (.seq (sr qU5 (.cond (.t 52) (sr [oC 0 4 8] .ret) .skip)) (sr qU6 .ret)))⟩
def F147:qJ:=VM
def qM7:List qA:=[oU 0 4 1,oX 1 5 1 0,oU 2 6 3,oS 3 3 0 1 5]
def qM8:List qA:=[oU 0 7 1,oX 1 8 1 1,oU 2 9 3,oS 3 3 1 1 8]
def YC:qJ:=⟨1,11,[.l 2 (some 2)],sr [oP 0 1 (.lbox 2 (.t 0)),oP 1 2 (.lalloc (.agg [iI 0,iI 0]))] (sr [oP 0 3 (.lalloc (.agg [iI 0,iI 0]))] (sr qM7 (sr qM8 (sr [oY 0 10 3 0 2,oS 1 2 0 2 10] .ret))))⟩
def Kl:qJ:=toS 2 (some 2) (.agg [iI 0,iI 0]) 1419
def qV6:List qA:=[oU 0 4 1,oX 1 5 1 0,oU 2 6 3,oS 3 3 0 1 5]
def qV7:List qA:=[oU 0 7 1,oX 1 8 1 1,oU 2 9 3,oS 3 3 1 1 8]
def qV8:List qA:=[oU 0 10 1,oX 1 11 1 2,oU 2 12 3,oS 3 3 2 1 11]
def qV9:List qA:=[oU 0 13 1,oX 1 14 1 3,oD1 2 15 147 14,oU 3 16 3,oS 4 3 3 1 15]
def qWA:List qA:=[oU 0 17 1,oX 1 18 1 4,oD1 2 19 1178 18,oU 3 20 3,oS 4 3 4 1 19]
def qV5:qG:=sr [oP 0 3 (.lalloc (.agg [iI 0,iI 0,iI 0,.nils,.nils]))] (sr qV6 (sr qV7 (sr qV8 (sr qV9 (sr qWA (sr [oY 0 21 3 0 5,oS 1 2 0 5 21] .ret))))))
def YH:qJ:=⟨1,22,[.l 2 (some 5)],sr [oP 0 1 (.lbox 5 (.t 0)),oP 1 2 (.lalloc (.agg [iI 0,iI 0,iI 0,.nils,.nils]))] qV5⟩
def F504:qJ:=toS 5 (some 5) (.agg [iI 0,iI 0,iI 0,.nils,.nils]) 858
def qOQ:List qA:=[oU 0 4 1,oX 1 5 1 0,oD1 2 6 504 5,oU 3 7 3,oS 4 3 0 1 6]
def YD:qJ:=⟨1,9,[.l 2 (some 1)],sr [oP 0 1 (.lbox 1 (.t 0)),oP 1 2 (.lalloc (.agg [.nils]))] (sr [oP 0 3 (.lalloc (.agg [.nils]))] (sr qOQ (sr [oY 0 8 3 0 1,oS 1 2 0 1 8] .ret)))⟩
def F184:qJ:=toS 1 (some 1) (.agg [.nils]) 185
def F774:qJ:=Zo 1 none
def F397:qJ:=YX 774
def qVO:List qA:=[oM 0 3 0,oE 1 4 .lss 3 0,oM 2 5 4,oH 3 6 5 false 0,oG 4 7 5 false (.bin .gtr (.t 6) (.c (iI 600))),oPt 5 8 5 7,oM 6 2 8]
def F775:qJ:=⟨1,9,[.t 2],sr [oQ 0 2 false] (sr qVO .ret)⟩
def qQY:List qA:=[oM 0 3 0,oW 1 4 3,oE 2 5 .leq 4 200,oM 3 6 5,oH 4 7 6 true 0,oG 5 8 6 true (.call 397 [.t 7,.f 775]),Yx 6 9 6 8,oPf 7 10 6 9,oM 8 2 10]
def F406:qJ:=⟨1,11,[.t 2],sr [oQ 0 2 false] (sr qQY .ret)⟩
def qVZ:List qA:=[oM 0 4 0,oE 1 5 .lss 4 0,oM 2 6 5,oH 3 7 6 false 0,jh 4 8 6 1,oG 5 9 6 false (.bin .gtr (.t 7) (.t 8)),oPt 6 10 6 9,oM 7 3 10]
def F801:qJ:=⟨2,11,[.t 3],sr [oQ 0 3 false] (sr qVZ .ret)⟩
def qQ3:List qA:=[oM 0 5 1,oP 1 6 (.mkfn 801 [.t 2]),oD2 2 7 397 5 6,oJ 3 8 7,oM 4 4 8]
def F436:qJ:=⟨2,9,[.t 4],sr [oP 0 2 (.hbox 1 (.t 0)),oQ 1 4 false] (sr qQ3 .ret)⟩
def qGG:qJ:=Zo 1 (some 1)
def F859:qJ:=YX 1179
def qRW:List qA:=[oM 0 7 0,oK 1 8 7,oF 2 9 0 8,oL 3 10 9,oW 4 11 10,oC 5 12 0]
def qRX:List qA:=[oM 0 14 12,oA 1 15 5 10 12,oP 2 16 (.load (some 5) (.t 15)),oP 3 5 (.lalloc (.agg [iI 0,iI 0,iI 0,.nils,.nils])),oM 4 4 14,oS 5 5 0 5 16]
def qRY:List qA:=[oU 0 17 5,oX 1 18 5 4,oW 2 19 18,oC 3 20 0]
def qRZ:List qA:=[oM 0 23 3,oM 1 24 4,oM 2 25 6,oP 3 26 (.build (.agg [iI 0,iI 0]) [(0,1,.t 24),(1,1,.t 25)]),oP 4 27 (.bslice 2 (.agg [iI 0,iI 0]) 1 [(0,.t 26)]),oP 5 28 (.app 2 (.t 23) (.t 27)),oM 6 3 28]
def qRU:qG:=sr [oB 0 21 .lss 20 19] (.seq (.cond (.t 21) .skip (.exit 2)) (.seq (.blk 3 (sr [oM 0 22 20,oM 1 6 22] (.reg true qRZ))) (.reg true [oE 0 29 .add 20 1,oM 1 20 29])))
def qRV:qG:=sr [oB 0 13 .lss 12 11] (.seq (.cond (.t 13) .skip (.exit 0)) (.seq (.blk 1 (sr qRX (sr qRY (.blk 2 (.loop qRU))))) (.reg true [oE 0 30 .add 12 1,oM 1 12 30])))
def F554:qJ:=⟨1,32,[.t 2],sr [oP 0 2 (.mov (.c (.nils)))] (sr [oP 0 3 (.mov (.c (.nils)))] (.seq (sr qRW (.blk 0 (.loop qRV))) (sr [oM 0 31 3,oM 1 2 31] .ret)))⟩
def qVP:List qA:=[oM 0 3 0,oE 1 4 .geq 3 0,oM 2 5 4,oH 3 6 5 true 0,oG 4 7 5 true (.bin .lss (.t 6) (.c (iI 24))),oPf 5 8 5 7,oM 6 2 8]
def F796:qJ:=⟨1,9,[.t 2],sr [oQ 0 2 false] (sr qVP .ret)⟩
def qE0:List qA:=[oM 0 3 0,oE 1 4 .geq 3 1,oM 2 5 4,oH 3 6 5 true 0,oG 4 7 5 true (.bin .leq (.t 6) (.c (iI 6))),oPf 5 8 5 7,oM 6 2 8]
def KY:qJ:=⟨1,9,[.t 2],sr [oQ 0 2 false] (sr qE0 .ret)⟩
def qE1:List qA:=[oM 0 3 0,oP 1 4 (.bin .geq (.t 3) (.c (iI (-2147483648)))),oM 2 5 4,oH 3 6 5 true 0,oG 4 7 5 true (.bin .leq (.t 6) (.c (iI 2147483647))),oPf 5 8 5 7,oM 6 2 8]
def KZ:qJ:=⟨1,9,[.t 2],sr [oQ 0 2 false] (sr qE1 .ret)⟩
def qOE:List qA:=[oM 0 3 0,oE 1 4 .geq 3 1,oM 2 5 4,oH 3 6 5 true 0,oG 4 7 5 true (.bin .leq (.t 6) (.c (iI 12))),oPf 5 8 5 7,oM 6 2 8]
def qAM:qJ:=⟨1,9,[.t 2],sr [oQ 0 2 false] (sr qOE .ret)⟩
def qMJ:List qA:=[oM 0 6 0,oE 1 7 .eql 6 9,oM 2 8 7,oH 3 9 8 true 1,oG 4 10 8 true (.bin .geq (.t 9) (.c (iI 0))),oPf 5 11 8 10,oM 6 12 11,oH 7 13 12 true 1,oG 8 14 12 true (.bin .leq (.t 13) (.c (iI 3))),oPf 9 15 12 14,oM 10 5 15]
def qMK:List qA:=[oM 0 19 0,oD1 1 20 1487 19,oJ 2 21 20,oM 3 22 21,oH 4 23 22 false 0,oG 5 24 22 false (.bin .eql (.t 23) (.c (iI 9))),oPt 6 25 22 24,oM 7 26 25,oH 8 27 26 false 1,oG 9 28 26 false (.bin .neq (.t 27) (.c (iI 0))),oPt 10 29 26 28,oM 11 18 29]
def qML:List qA:=[oP 0 30 (.build (.agg [iI 0,iI 0,iI 0,iI 0,iI 0,iI 0,iI 0,iI 0,iI 0,iI 0,iI 0,iI 0,iI 0]) [(1,1,.c (iI 1)),(2,1,.c (iI 3)),(3,1,.c (iI 3)),(4,1,.c (iI 3)),(5,1,.c (iI 1)),(6,1,.c (iI 1)),(7,1,.c (iI 3)),(8,1,.c (iI 2)),(10,1,.c (iI 2)),(11,1,.c (iI 2)),(12,1,.c (iI 1))]),oM 1 31 0,oP 2 32 (.aidx 13 1 none (.t 30) (.t 31)),oM 3 4 32]
def qMI:qG:=.seq (.blk 0 (sr qMJ (.cond (.t 5) (sr [oM 0 16 1,oE 1 17 .add 16 1,oM 2 4 17] .ret) (sr qMK (.cond (.t 18) (sr [oC 0 4 0] .ret) .skip))))) (sr qML .ret)
def kf:qJ:=⟨2,33,[.t 4],sr [oC 0 4 0] qMI⟩
def qMM:qG:=.seq (sr [oM 0 5 0,oE 1 6 .eql 5 9] (.cond (.t 6) (sr [oM 0 7 1,oE 1 8 .sub 7 1,oM 2 4 8] .ret) .skip)) (sr [oC 0 4 0] .ret)
def ki:qJ:=⟨2,9,[.t 4],sr [oC 0 4 0] qMM⟩
def qL0:List qA:=[oM 0 3 0,oD1 1 4 1487 3,oM 2 5 4,oH 3 6 5 true 0,oG 4 7 5 true (.bin .neq (.t 6) (.c (iI 1))),oPf 5 8 5 7,oM 6 9 8,oH 7 10 9 true 0,oG 8 11 9 true (.bin .neq (.t 10) (.c (iI 5))),oPf 9 12 9 11,oM 10 13 12,oH 11 14 13 true 0,oG 12 15 13 true (.bin .neq (.t 14) (.c (iI 6))),oPf 13 16 13 15,oM 14 2 16]
def kX:qJ:=⟨1,17,[.t 2],sr [oQ 0 2 false] (sr qL0 .ret)⟩
def qOF:List qA:=[oM 0 3 0,oE 1 4 .geq 3 0,oM 2 5 4,oH 3 6 5 true 0,oG 4 7 5 true (.bin .leq (.t 6) (.c (iI 8))),oPf 5 8 5 7,oM 6 2 8]
def qAP:qJ:=⟨1,9,[.t 2],sr [oQ 0 2 false] (sr qOF .ret)⟩
def qMN:List qA:=[oM 0 5 0,oD1 1 6 1487 5,oM 2 7 6,oH 3 8 7 true 1,oG 4 9 7 true (.bin .eql (.t 8) (.c (iI 0))),oH 5 10 7 true 9,oH 6 11 10 false 0,oG 7 12 10 false (.call 1375 [.t 11]),oH 8 13 10 false 12,oH 9 14 13 true 1,oG 10 15 13 true (.call 1495 [.t 14]),oG 11 16 10 false (.pick (.t 13) (.t 15) (.c (.bool false))),oG 12 17 7 true (.pick (.t 10) (.c (.bool true)) (.t 16)),oPf 13 18 7 17,oM 14 4 18]
def kq:qJ:=⟨2,19,[.t 4],sr [oQ 0 4 false] (sr qMN .ret)⟩
def qMO:List qA:=[oM 0 3 0,oD1 1 4 796 3,oJ 2 5 4,oM 3 2 5]
def ku:qJ:=⟨1,6,[.t 2],sr [oQ 0 2 false] (sr qMO .ret)⟩
def qFC:List qA:=[oU 0 6 1,oX 1 7 1 4,oW 2 8 7,oE 3 9 .eql 8 0,oM 4 10 9,jZ 5 11 10 1,ja 6 12 10 1 0,jZ 7 13 10 1,ja 8 14 10 1 0,jZ 9 15 10 1,ja 10 16 10 1 4,Z6 11 17 10 16,jZ 14 20 10 1,ja 15 21 10 1 4,Z6 16 22 10 21,oG 12 18 10 false (.call 1388 [.t 14,.t 17]),oG 13 19 10 false (.call 1387 [.t 12,.t 18]),oG 17 23 10 false (.bin .neq (.t 19) (.t 22)),oPt 18 24 10 23,oM 19 25 24,jZ 20 26 25 1,ja 21 27 25 1 0,jZ 22 28 25 1,ja 23 29 25 1 1,oG 24 30 25 false (.call 1389 [.t 27,.t 29]),j4 25 31 25 30,oPt 26 32 25 31]
def qFD:List qA:=[oU 0 33 1,oX 1 34 1 2,oE 2 35 .eql 34 0,oU 3 36 1,oX 4 37 1 3,oW 5 38 37,oE 6 39 .eql 38 0,oM 7 3 35,oM 8 4 39]
def qFF:List qA:=[oU 0 40 1,oX 1 41 1 3,oP 2 42 (.call 397 [.t 41,.f 1390]),oJ 3 43 42,oM 4 5 43]
def qFG:List qA:=[oU 0 48 1,oX 1 49 1 2,oD1 2 50 1051 49,oM 3 3 50]
def qFH:List qA:=[oU 0 53 1,oX 1 54 1 2,oD1 2 55 1050 54,oM 3 3 55]
def qFI:List qA:=[oU 0 58 1,oX 1 59 1 2,oD1 2 60 1050 59,oM 3 61 60,wE 4 62 61 1,wN 5 63 61 1 3,Ju 6 64 61 63,oG 7 65 61 true (.bin .eql (.t 64) (.c (iI 1))),oPf 8 66 61 65,oM 9 67 66,wE 10 68 67 1,wN 11 69 67 1 3,oG 12 70 67 true (.iaddr 1 (.t 69) (.c (iI 0))),jY 13 71 67 70,oG 14 72 67 true (.call 1051 [.t 71]),oPf 15 73 67 72,oM 16 2 73]
def qFJ:List qA:=[oU 0 76 1,oX 1 77 1 2,oE 2 78 .geq 77 0,oM 3 79 78,wE 4 80 79 1,wN 5 81 79 1 2,oG 6 82 79 true (.bin .lss (.t 81) (.c (iI 4))),oPf 7 83 79 82,oM 8 3 83]
def qFK:List qA:=[oU 0 86 1,oX 1 87 1 3,oW 2 88 87,oE 3 89 .geq 88 1,oM 4 90 89,wE 5 91 90 1,wN 6 92 90 1 3,Ju 7 93 90 92,oG 8 94 90 true (.bin .leq (.t 93) (.c (iI 4))),oPf 9 95 90 94,oM 10 96 95,oH 11 97 96 true 5,oPf 12 98 96 97,oM 13 4 98]
def qFL:List qA:=[oU 0 101 1,oX 1 102 1 3,oW 2 103 102,oE 3 104 .eql 103 2,oM 4 105 104,oH 5 106 105 true 5,oPf 6 107 105 106,oM 7 4 107]
def qFM:List qA:=[oU 0 110 1,oX 1 111 1 2,oD1 2 112 796 111,oM 3 3 112]
def qE9:qG:=.cond (.t 84) (.reg true qFK) (sr [oE 0 100 .eql 45 11,oM 1 99 100] (.cond (.t 99) (.reg true qFL) (sr [oE 0 109 .eql 45 12,oM 1 108 109] (.cond (.t 108) (.reg true qFM) .skip))))
def qFA:qG:=sr [oE 0 57 .eql 45 8,oM 1 56 57] (.cond (.t 56) (sr qFI .ret) (sr [oE 0 75 .eql 45 9,oM 1 74 75] (.cond (.t 74) (.reg true qFJ) (sr [oE 0 85 .eql 45 10,oM 1 84 85] qE9))))
def qFB:qG:=sr [oU 0 44 1,oX 1 45 1 0] (.blk 0 (sr [oE 0 47 .eql 45 6,oM 1 46 47] (.cond (.t 46) (.reg true qFG) (sr [oE 0 52 .eql 45 7,oM 1 51 52] (.cond (.t 51) (.reg true qFH) qFA)))))
def qFE:List qA:=[oM 0 113 3,oM 1 114 113,oH 2 115 114 true 4,oPf 3 116 114 115,oM 4 2 116]
def Kd:qJ:=⟨1,117,[.t 2],sr [oP 0 1 (.lbox 5 (.t 0)),oQ 1 2 false] (.seq (sr qFC (.cond (.t 32) (sr [oQ 0 2 false] .ret) .skip)) (sr qFD (sr qFF (.seq qFB (sr qFE .ret)))))⟩
def qUM:List qA:=[oM 0 5 0,oW 1 6 5,oE 2 7 .lss 6 1,oM 3 8 7,oH 4 9 8 false 0,Z6 5 10 8 9,oG 6 11 8 false (.bin .gtr (.t 10) (.c (iI 600))),oPt 7 12 8 11]
def qUN:List qA:=[oM 0 17 15,oA 1 18 5 13 15,oP 2 19 (.load (some 5) (.t 18)),oP 3 4 (.lalloc (.agg [iI 0,iI 0,iI 0,.nils,.nils])),oM 4 3 17,oS 5 4 0 5 19]
def qUO:List qA:=[oY 0 20 4 0 5,oD1 1 21 1097 20,oJ 2 22 21,oM 3 23 22,jZ 4 24 23 4,ja 5 25 23 4 0,oG 6 26 23 false (.bin .eql (.t 25) (.c (iI 1))),oH 7 27 23 false 3,oG 8 28 23 false (.bin .eql (.t 27) (.c (iI 0))),oG 9 29 23 false (.beq true (.t 26) (.t 28)),oPt 10 30 23 29]
def qUK:qG:=sr [oB 0 16 .lss 15 14] (.seq (.cond (.t 16) .skip (.exit 0)) (.seq (.blk 1 (sr qUN (sr qUO (.cond (.t 30) (sr [oQ 0 2 false] .ret) .skip)))) (.reg true [oE 0 31 .add 15 1,oM 1 15 31])))
def qUL:qG:=.seq (sr qUM (.cond (.t 12) (sr [oQ 0 2 false] .ret) .skip)) (.seq (sr [oM 0 13 0,oW 1 14 13,oC 2 15 0] (.blk 0 (.loop qUK))) (sr [oQ 0 2 true] .ret))
def F711:qJ:=⟨1,32,[.t 2],sr [oQ 0 2 false] qUL⟩
def qFN:qJ:=Zo 2 (some 2)
def F712:qJ:=YX 1098
def qR0:List qA:=[oM 0 5 0,oK 1 6 5,oF 2 7 0 6,oL 3 8 7,oU 4 9 3,oX 5 10 3 0,oA 6 11 5 8 10,oF 7 12 4 11,oL 8 13 12,oU 9 14 3,oX 10 15 3 1,oA 11 16 2 13 15,oP 12 17 (.load (some 2) (.t 16)),oS 13 4 0 2 17]
def WL:qJ:=⟨2,18,[.l 4 (some 2)],sr [oP 0 3 (.lbox 2 (.t 1)),oP 1 4 (.lalloc (.agg [iI 0,iI 0]))] (sr qR0 .ret)⟩
def qUR:List qA:=[oU 0 5 3,oX 1 6 3 0,oE 2 7 .geq 6 0,oM 3 8 7,wE 4 9 8 3,wN 5 10 8 3 0,oH 6 11 8 true 0,Ju 7 12 8 11,oG 8 13 8 true (.bin .lss (.t 10) (.t 12)),oPf 9 14 8 13,oM 10 15 14,wE 11 16 15 3,wN 12 17 15 3 1,oG 13 18 15 true (.bin .geq (.t 17) (.c (iI 0))),oPf 14 19 15 18,oM 15 20 19,wE 16 21 20 3,wN 17 22 20 3 1,oH 18 23 20 true 0,wE 19 24 20 3,wN 20 25 20 3 0,oG 21 26 20 true (.iaddr 5 (.t 23) (.t 25)),jg 22 27 20 4 26,jY 23 28 20 27,Ju 24 29 20 28,oG 25 30 20 true (.bin .lss (.t 22) (.t 29)),oPf 26 31 20 30,oM 27 4 31]
def F714:qJ:=⟨2,32,[.t 4],sr [oP 0 3 (.lbox 2 (.t 1)),oQ 1 4 false] (sr qUR .ret)⟩
def qUP:List qA:=[oY 0 5 2 0 2,oD2 1 6 555 1 5,oP 2 4 (.lalloc (.agg [iI 0,iI 0])),oS 3 4 0 2 6]
def qUQ:List qA:=[oY 0 7 4 0 2,oY 1 8 2 0 2,oP 2 9 (.seq false [1,1] (.t 7) (.t 8)),oM 3 10 9,jq 4 11 10 0 1,jh 5 12 10 11,oG 6 13 10 false (.lload 4 0 (some 2)),oG 7 14 10 false (.call 714 [.t 12,.t 13]),j4 8 15 10 14,oPt 9 16 10 15,oM 10 17 16,oG 11 18 17 false (.lload 4 0 (some 2)),oG 13 20 17 false (.lload 2 0 (some 2)),oG 12 19 17 false (.call 555 [.t 1,.t 18]),oG 14 21 17 false (.seq true [1,1] (.t 19) (.t 20)),oPt 15 22 17 21,oM 16 3 22]
def F713:qJ:=⟨2,23,[.t 3],sr [oP 0 2 (.lbox 2 (.t 0)),oQ 1 3 false] (sr qUP (sr qUQ .ret))⟩
def qP5:List qA:=[oF 0 3 0 1,oL 1 4 3,oD1 2 5 711 4,oJ 3 6 5]
def qP6:List qA:=[oD1 0 7 554 1,oP 1 8 (.mkfn 713 [.t 1]),oD2 2 9 712 7 8,oJ 3 10 9,oM 4 2 10]
def F319:qJ:=⟨1,11,[.t 2],sr [oP 0 1 (.hbox 1 (.t 0)),oQ 1 2 false] (.seq (sr qP5 (.cond (.t 6) (sr [oQ 0 2 false] .ret) .skip)) (sr qP6 .ret))⟩
def qWB:List qA:=[oY 0 3 1 0 1,oD1 1 4 319 3,oJ 2 5 4,oM 3 2 5]
def F860:qJ:=⟨1,6,[.t 2],sr [oP 0 1 (.lbox 1 (.t 0)),oQ 1 2 false] (sr qWB .ret)⟩
def qRB:List qA:=[oM 0 3 0,oW 1 4 3,oE 2 5 .leq 4 24,oM 3 6 5,oH 4 7 6 true 0,oG 5 8 6 true (.call 859 [.t 7,.f 860]),Yx 6 9 6 8,oPf 7 10 6 9,oM 8 2 10]
def F505:qJ:=⟨1,11,[.t 2],sr [oQ 0 2 false] (sr qRB .ret)⟩
def qP9:List qA:=[oM 0 7 0,oK 1 8 7,oF 2 9 0 8,oL 3 10 9,oW 4 11 10,oC 5 12 0]
def qQA:List qA:=[oM 0 14 12,oA 1 15 5 10 12,oP 2 16 (.load (some 5) (.t 15)),oP 3 5 (.lalloc (.agg [iI 0,iI 0,iI 0,.nils,.nils])),oM 4 4 14,oS 5 5 0 5 16]
def qQB:List qA:=[oU 0 17 5,oX 1 18 5 4,oP 2 19 (.iaddr 2 (.t 18) (.c (iI 0))),oP 3 20 (.load (some 2) (.t 19)),oP 4 6 (.lalloc (.agg [iI 0,iI 0])),oS 5 6 0 2 20]
def qQC:List qA:=[oU 0 21 6,oX 1 22 6 1,oE 2 23 .eql 22 0,oM 3 24 23,wE 4 25 24 6,wN 5 26 24 6 0,oH 6 27 24 true 4,oG 7 28 24 true (.bin .gtr (.t 26) (.t 27)),oPf 8 29 24 28,oM 9 30 29,wE 10 31 30 5,wN 11 32 30 5 0,oG 12 33 30 true (.bin .neq (.t 32) (.c (iI 1))),oPf 13 34 30 33]
def qQD:List qA:=[oM 0 35 3,oM 1 36 4,oU 2 37 6,oX 3 38 6 0,oP 4 39 (.build (.agg [iI 0,iI 0]) [(0,1,.t 36),(1,1,.t 38)]),oP 5 40 (.bslice 2 (.agg [iI 0,iI 0]) 1 [(0,.t 39)]),oP 6 41 (.app 2 (.t 35) (.t 40)),oM 7 3 41]
def qP8:qG:=sr [oB 0 13 .lss 12 11] (.seq (.cond (.t 13) .skip (.exit 0)) (.seq (.blk 1 (sr qQA (sr qQB (sr qQC (.cond (.t 34) (.reg true qQD) .skip))))) (.reg true [oE 0 42 .add 12 1,oM 1 12 42])))
def F376:qJ:=⟨1,44,[.t 2],sr [oP 0 2 (.mov (.c (.nils)))] (sr [oP 0 3 (.mov (.c (.nils)))] (.seq (sr qP9 (.blk 0 (.loop qP8))) (sr [oM 0 43 3,oM 1 2 43] .ret)))⟩
def qU7:List qA:=[oM 0 11 0,oM 1 12 2,oM 2 13 0,oW 3 14 13,oB 4 15 .rem 12 14,oA 5 16 1 11 15,oL 6 17 16,oM 7 7 17]
def qU8:List qA:=[oM 0 18 1,oM 1 19 7,oM 2 20 1,oW 3 21 20,oB 4 22 .rem 19 21,oA 5 23 2 18 22,oP 6 24 (.load (some 2) (.t 23)),oS 7 6 0 2 24]
def F750:qJ:=⟨3,25,[.l 6 (some 2)],sr [oP 0 6 (.lalloc (.agg [iI 0,iI 0]))] (sr [oC 0 7 0] (.seq (sr [oM 0 8 0,oW 1 9 8,oE 2 10 .gtr 9 0] (.cond (.t 10) (.reg true qU7) .skip)) (sr qU8 .ret)))⟩
def qOL:List qA:=[oM 0 7 0,oD1 1 8 1495 7,oJ 2 9 8,oM 3 10 9,oH 4 11 10 false 1,oH 5 12 10 false 2,oG 6 13 10 false (.call 1389 [.t 11,.t 12]),j4 7 14 10 13,oPt 8 15 10 14]
def qOM:List qA:=[oM 0 16 1,oE 1 17 .eql 16 6,oM 2 18 17,oH 3 19 18 false 1,oG 4 20 18 false (.bin .eql (.t 19) (.c (iI 12))),oPt 5 21 18 20,oM 6 22 21,oH 7 23 22 false 1,oG 8 24 22 false (.call 1375 [.t 23]),oH 9 25 22 false 24,oH 10 26 25 true 2,oH 11 27 25 true 0,oG 12 28 25 true (.bin .gtr (.t 26) (.t 27)),oG 13 29 22 false (.pick (.t 25) (.t 28) (.c (.bool false))),oPt 14 30 22 29,oM 15 6 30]
def qAS:qJ:=⟨3,31,[.t 6],sr [oQ 0 6 false] (.seq (sr qOL (.cond (.t 15) (sr [oQ 0 6 false] .ret) .skip)) (sr qOM .ret))⟩
def qON:List qA:=[oM 0 3 0,oE 1 4 .eql 3 3,oM 2 5 4,oH 3 6 5 false 0,oG 4 7 5 false (.bin .eql (.t 6) (.c (iI 7))),oPt 5 8 5 7,oM 6 9 8,oH 7 10 9 false 0,oG 8 11 9 false (.bin .eql (.t 10) (.c (iI 8))),oPt 9 12 9 11,oM 10 13 12,oH 11 14 13 false 0,oG 12 15 13 false (.bin .eql (.t 14) (.c (iI 10))),oPt 13 16 13 15,oM 14 17 16,oH 15 18 17 false 0,oG 16 19 17 false (.bin .eql (.t 18) (.c (iI 11))),oPt 17 20 17 19,oM 18 2 20]
def qAT:qJ:=⟨1,21,[.t 2],sr [oQ 0 2 false] (sr qON .ret)⟩
def qM3:List qA:=[oM 0 15 2,oE 1 16 .eql 15 4,oM 2 17 16,oH 3 18 17 true 1,oH 4 19 17 true 3,oG 5 20 17 true (.bin .eql (.t 18) (.t 19)),oPf 6 21 17 20,oM 7 14 21]
def qM4:List qA:=[oM 0 23 1,oM 1 24 2,oM 2 25 3,oP 3 26 (.call 1501 [.t 23,.t 24,.t 25]),oM 4 22 26]
def qM5:List qA:=[oM 0 29 2,oE 1 30 .eql 29 3,oM 2 31 30,oH 3 32 31 true 1,oH 4 33 31 true 3,oG 5 34 31 true (.bin .eql (.t 32) (.t 33)),oPf 6 35 31 34]
def qMY:qG:=.seq (sr [oE 0 40 .eql 38 7,oM 1 39 40] (.cond (.t 39) .skip (.reg true [oE 0 41 .eql 38 8,oM 1 39 41]))) (.cond (.t 39) (sr [oC 0 8 5] .ret) (sr [oE 0 43 .eql 38 11,oM 1 42 43] (.cond (.t 42) (sr [oC 0 8 6] .ret) .skip)))
def qMZ:qG:=.cond (.t 44) (sr [oM 0 46 2,oE 1 47 .eql 46 10] (.cond (.t 47) (sr [oC 0 8 6] .ret) .skip)) (sr [oE 0 49 .eql 9 12,oM 1 48 49] (.cond (.t 48) (sr [oM 0 50 2,oD1 1 51 1502 50] (.cond (.t 51) (sr [oC 0 8 7] .ret) .skip)) .skip))
def qM0:qG:=.cond (.t 27) (sr qM5 (.cond (.t 35) (sr [oC 0 8 1] .ret) .skip)) (sr [oE 0 37 .eql 9 6,oM 1 36 37] (.cond (.t 36) (sr [oM 0 38 2] (.blk 2 qMY)) (sr [oE 0 45 .eql 9 9,oM 1 44 45] qMZ)))
def qM1:qG:=.cond (.t 12) (.blk 1 (sr qM3 (.cond (.t 14) (sr [oC 0 8 2] .ret) (sr qM4 (.cond (.t 22) (sr [oC 0 8 3] .ret) .skip))))) (sr [oE 0 28 .eql 9 2,oM 1 27 28] qM0)
def qM2:qG:=sr [oM 0 9 0] (.blk 0 (sr [oE 0 11 .eql 9 5,oM 1 10 11] (.cond (.t 10) (sr [oC 0 8 4] .ret) (sr [oE 0 13 .eql 9 4,oM 1 12 13] qM1))))
def qAA:qJ:=⟨4,52,[.t 8],sr [oC 0 8 0] (.seq qM2 (sr [oC 0 8 0] .ret))⟩
def qFY:List qA:=[oM 0 12 0,oE 1 13 .eql 12 1,oM 2 14 13,oH 3 15 14 false 2,oG 4 16 14 false (.bin .eql (.t 15) (.c (iI 1))),oPt 5 17 14 16,oM 6 18 17,oH 7 19 18 false 0,oH 8 20 18 false 1,oG 9 21 18 false (.call 1389 [.t 19,.t 20]),j4 10 22 18 21,oPt 11 23 18 22,oM 12 24 23,oH 13 25 24 false 2,oH 14 26 24 false 3,oG 15 27 24 false (.call 1389 [.t 25,.t 26]),j4 16 28 24 27,oPt 17 29 24 28]
def qFZ:List qA:=[oM 0 30 0,oM 1 31 1,oM 2 32 2,oM 3 33 3,oP 4 34 (.call 1398 [.t 30,.t 31,.t 32,.t 33]),oM 5 10 34]
def qF0:List qA:=[oM 0 38 2,oM 1 39 3,oM 2 40 0,oM 3 41 1,oP 4 42 (.call 1398 [.t 38,.t 39,.t 40,.t 41]),oM 5 11 42]
def qFW:qG:=.seq (sr qF0 (sr [oM 0 43 11,oE 1 44 .neq 43 0] (.cond (.t 44) (sr [oM 0 45 11,oM 1 8 45,oC 2 9 2] .ret) .skip))) (sr [oC 0 8 8,oC 1 9 0] .ret)
def qFX:qG:=.seq (sr qFY (.cond (.t 29) (sr [oC 0 8 0,oC 1 9 0] .ret) .skip)) (.seq (sr qFZ (sr [oM 0 35 10,oE 1 36 .neq 35 0] (.cond (.t 36) (sr [oM 0 37 10,oM 1 8 37,oC 2 9 1] .ret) .skip))) qFW)
def Kg:qJ:=⟨4,46,[.t 8,.t 9],sr [oC 0 8 0,oC 1 9 0] qFX⟩
def qVA:List qA:=[oM 0 10 0,oK 1 11 10,oF 2 12 0 11,oL 3 13 12,oU 4 14 3,oX 5 15 3 0,oA 6 16 5 13 15,oP 7 17 (.load (some 5) (.t 16)),oM 8 18 0,oK 9 19 18,oF 10 20 0 19,oL 11 21 20,oU 12 22 3,oX 13 23 3 1,oA 14 24 5 21 23,oP 15 25 (.load (some 5) (.t 24)),oP 16 6 (.lalloc (.agg [.int .i64 0,.int .i64 0,.int .i64 0,.nils,.nils])),oP 17 7 (.lalloc (.agg [.int .i64 0,.int .i64 0,.int .i64 0,.nils,.nils])),oS 18 6 0 5 17,oS 19 7 0 5 25]
def qVB:List qA:=[oU 0 27 6,oX 1 28 6 0,oU 2 29 6,oX 3 30 6 1,oU 4 31 7,oX 5 32 7 0,oU 6 33 7,oX 7 34 7 1,oP 8 35 (.call 1115 [.t 28,.t 30,.t 32,.t 34]),oM 9 26 35,oV 10 36 26 0,oV 11 37 26 1,oM 12 8 36,oM 13 9 37]
def qVC:List qA:=[oY 0 40 7 0 5,oY 1 41 6 0 5,oS 2 6 0 5 40,oS 3 7 0 5 41]
def qVD:List qA:=[oM 0 42 8,oE 1 43 .eql 42 6,oM 2 44 43,wE 3 45 44 7,wN 4 46 44 7 0,oG 5 47 44 true (.bin .eql (.t 46) (.c (.int .i64 10))),oPf 6 48 44 47,oM 7 49 48,wE 8 50 49 6,wN 9 51 49 6 2,wE 10 52 49 7,wN 11 53 49 7 3,Ju 12 54 49 53,oG 13 55 49 true (.bin .geq (.t 51) (.t 54)),oPf 14 56 49 55]
def qVE:List qA:=[oM 0 57 8,oM 1 58 9,oE 2 59 .eql 58 2,oM 3 4 57,oM 4 5 59]
def qU9:qG:=.seq (sr [oM 0 38 9,oE 1 39 .eql 38 2] (.cond (.t 39) (.reg true qVC) .skip)) (.seq (sr qVD (.cond (.t 56) (sr [oC 0 4 8,oQ 1 5 false] .ret) .skip)) (sr qVE .ret))
def F751:qJ:=⟨2,60,[.t 4,.t 5],sr [oP 0 3 (.lbox 2 (.t 1)),oC 1 4 0,oQ 2 5 false] (sr qVA (sr qVB qU9))⟩
def F86:qJ:=eqS0
def qM9:List qA:=[oU 0 5 2,oX 1 6 2 0,oU 2 7 3,oX 3 8 3 0,oB 4 9 .neq 6 8]
def qNA:List qA:=[oU 0 10 2,oX 1 11 2 1,oU 2 12 3,oX 3 13 3 1,oB 4 14 .neq 11 13]
def qAC:qJ:=⟨2,15,[.t 4],sr [oP 0 2 (.lbox 2 (.t 0)),oP 1 3 (.lbox 2 (.t 1)),oQ 2 4 false] (.seq (sr qM9 (.cond (.t 9) (sr [oQ 0 4 false] .ret) .skip)) (.seq (sr qNA (.cond (.t 14) (sr [oQ 0 4 false] .ret) .skip)) (sr [oQ 0 4 true] .ret)))⟩
def qGH:qJ:=eqS 2 (some 2) 1422
def qWD:List qA:=[oU 0 5 2,oX 1 6 2 0,oU 2 7 3,oX 3 8 3 0,oB 4 9 .neq 6 8]
def qWE:List qA:=[oU 0 10 2,oX 1 11 2 1,oU 2 12 3,oX 3 13 3 1,oB 4 14 .neq 11 13]
def qWF:List qA:=[oU 0 15 2,oX 1 16 2 2,oU 2 17 3,oX 3 18 3 2,oB 4 19 .neq 16 18]
def qWG:List qA:=[oU 0 20 2,oX 1 21 2 3,oU 2 22 3,oX 3 23 3 3,oD2 4 24 86 21 23,oJ 5 25 24]
def qWH:List qA:=[oU 0 26 2,oX 1 27 2 4,oU 2 28 3,oX 3 29 3 4,oD2 4 30 1184 27 29,oJ 5 31 30]
def qWC:qG:=.seq (sr qWF (.cond (.t 19) (sr [oQ 0 4 false] .ret) .skip)) (.seq (sr qWG (.cond (.t 25) (sr [oQ 0 4 false] .ret) .skip)) (.seq (sr qWH (.cond (.t 31) (sr [oQ 0 4 false] .ret) .skip)) (sr [oQ 0 4 true] .ret)))
def F870:qJ:=⟨2,32,[.t 4],sr [oP 0 2 (.lbox 5 (.t 0)),oP 1 3 (.lbox 5 (.t 1)),oQ 2 4 false] (.seq (sr qWD (.cond (.t 9) (sr [oQ 0 4 false] .ret) .skip)) (.seq (sr qWE (.cond (.t 14) (sr [oQ 0 4 false] .ret) .skip)) qWC))⟩
def F508:qJ:=eqS 5 (some 5) 870
def qOR:List qA:=[oU 0 5 2,oX 1 6 2 0,oU 2 7 3,oX 3 8 3 0,oD2 4 9 508 6 8,oJ 5 10 9]
def F188:qJ:=⟨2,11,[.t 4],sr [oP 0 2 (.lbox 1 (.t 0)),oP 1 3 (.lbox 1 (.t 1)),oQ 2 4 false] (.seq (sr qOR (.cond (.t 10) (sr [oQ 0 4 false] .ret) .skip)) (sr [oQ 0 4 true] .ret))⟩
def F187:qJ:=eqS 1 (some 1) 188
def qQX:List qA:=[oP 0 3 (.mov (.c (.lst 1 [] true))),oM 1 4 0,oP 2 5 (.app 1 (.t 3) (.t 4)),oM 3 2 5]
def YF:qJ:=⟨1,6,[.t 2],sr [oP 0 2 (.mov (.c (.nils)))] (sr qQX .ret)⟩
def qV0:List qA:=[oM 0 3 0,oK 1 4 3,oF 2 5 0 4,oL 3 6 5,oM 4 7 0,oK 5 8 7,oF 6 9 1 8,oL 7 10 9,oM 8 11 0,oK 9 12 11,oF 10 13 2 12,oL 11 14 13,oM 12 15 0,oK 13 16 15,oF 14 17 3 16,oL 15 18 17,oP 17 20 (.mov (.c (.lst 2 [] true))),oM 18 21 0,oK 19 22 21,oF 20 23 4 22,oL 21 24 23,⟨16,some 19,none,.call 402 [.t 18],[⟨3,some 6,none,.load none (.t 5),[]⟩,⟨7,some 10,none,.load none (.t 9),[]⟩,⟨11,some 14,none,.load none (.t 13),[]⟩,⟨21,some 24,none,.load none (.t 23),[]⟩]⟩,⟨22,some 25,none,.app 2 (.t 20) (.t 24),[⟨3,some 6,none,.load none (.t 5),[]⟩,⟨7,some 10,none,.load none (.t 9),[]⟩,⟨11,some 14,none,.load none (.t 13),[]⟩]⟩,oP 23 26 (.build (.agg [iI 0,iI 0,iI 0,.nils,.nils]) [(0,1,.t 6),(1,1,.t 10),(2,1,.t 14),(3,1,.t 19),(4,1,.t 25)]),oS 24 2 0 5 26]
def YG:qJ:=⟨1,27,[.l 2 (some 5)],sr [oP 0 2 (.lalloc (.agg [iI 0,iI 0,iI 0,.nils,.nils]))] (sr qV0 .ret)⟩
def qQ6:List qA:=[oM 0 6 4,oM 1 7 0,oK 2 8 7,oF 3 9 0 8,oL 4 10 9,oW 5 11 10,oB 6 12 .lss 6 11]
def qQ7:List qA:=[oU 0 15 3,oX 1 16 3 0,oM 2 17 0,oK 3 18 17,oF 4 19 0 18,oL 5 20 19,oM 6 21 4,oA 7 22 5 20 21,oD1 8 23 837 22,oP 9 24 (.bslice 5 (.agg [iI 0,iI 0,iI 0,.nils,.nils]) 1 [(0,.t 23)]),oP 10 25 (.app 5 (.t 16) (.t 24)),oU 11 26 3,oS 12 3 0 1 25]
def qQ5:qG:=sr [oC 0 4 0] (.blk 0 (.loop (.seq (sr qQ6 (.cond (.t 12) .skip (.exit 0))) (.seq (.blk 1 (.reg true qQ7)) (.reg true [oM 0 13 4,oE 1 14 .add 13 1,oM 2 4 14])))))
def F489:qJ:=⟨1,28,[.l 2 (some 1)],sr [oP 0 2 (.lalloc (.agg [.nils]))] (sr [oP 0 5 (.build (.agg [.nils]) []),oP 1 3 (.lalloc (.agg [.nils])),oS 2 3 0 1 5] (.seq qQ5 (sr [oY 0 27 3 0 1,oS 1 2 0 1 27] .ret)))⟩
def qQW:List qA:=[oP 0 5 (.mov (.c (.lst 1 [] true))),oM 1 6 0,oP 2 7 (.app 1 (.t 5) (.t 6)),oM 3 2 7]
def F401:qJ:=⟨1,8,[.t 2],sr [oP 0 2 (.mov (.c (.nils)))] (.seq (sr [oM 0 3 0,oP 1 4 (.isnil 1 false (.t 3))] (.cond (.t 4) (sr [oP 0 2 (.mov (.c (.nils)))] .ret) .skip)) (sr qQW .ret))⟩
def qLZ:List qA:=[oP 0 5 (.mov (.c (.lst 2 [] true))),oM 1 6 0,oP 2 7 (.app 2 (.t 5) (.t 6)),oM 3 2 7]
def qLY:qJ:=⟨1,8,[.t 2],sr [oP 0 2 (.mov (.c (.nils)))] (.seq (sr [oM 0 3 0,oP 1 4 (.isnil 1 false (.t 3))] (.cond (.t 4) (sr [oP 0 2 (.mov (.c (.nils)))] .ret) .skip)) (sr qLZ .ret))⟩
def qE6:List qA:=[oU 0 3 1,oX 1 4 1 3,oU 3 6 1,oX 4 7 1 4,oD1 2 5 401 4,oU 6 9 1,oD1 5 8 1373 7,oS 7 1 3 1 5,oU 8 10 1,oS 9 1 4 1 8]
def Kb:qJ:=⟨1,12,[.l 2 (some 5)],sr [oP 0 1 (.lbox 5 (.t 0)),oP 1 2 (.lalloc (.agg [iI 0,iI 0,iI 0,.nils,.nils]))] (sr qE6 (sr [oY 0 11 1 0 5,oS 1 2 0 5 11] .ret))⟩
def qVV:List qA:=[oU 0 6 1,oX 1 7 1 0,oW 2 8 7,oP 3 9 (.mksl 5 (.agg [iI 0,iI 0,iI 0,.nils,.nils]) (.c (iI 0)) (.t 8)),oP 4 10 (.build (.agg [.nils]) [(0,1,.t 9)]),oP 5 3 (.lalloc (.agg [.nils])),oS 6 3 0 1 10]
def qVW:List qA:=[oU 0 11 1,oX 1 12 1 0,oW 2 13 12,oC 3 14 0]
def qVX:List qA:=[oA 0 16 5 12 14,oP 1 17 (.load (some 5) (.t 16)),oP 2 5 (.lalloc (.agg [iI 0,iI 0,iI 0,.nils,.nils])),oS 3 5 0 5 17]
def qVY:List qA:=[oU 0 18 3,oX 1 19 3 0,oY 2 20 5 0 5,oD1 3 21 1085 20,oP 4 22 (.bslice 5 (.agg [iI 0,iI 0,iI 0,.nils,.nils]) 1 [(0,.t 21)]),oP 5 23 (.app 5 (.t 19) (.t 22)),oU 6 24 3,oS 7 3 0 1 23]
def qVU:qG:=.loop (sr [oB 0 15 .lss 14 13] (.seq (.cond (.t 15) .skip (.exit 0)) (.seq (.blk 1 (sr qVX (.reg true qVY))) (.reg true [oE 0 25 .add 14 1,oM 1 14 25]))))
def F798:qJ:=⟨1,27,[.l 2 (some 1)],sr [oP 0 1 (.lbox 1 (.t 0)),oP 1 2 (.lalloc (.agg [.nils]))] (sr qVV (.seq (sr qVW (.blk 0 qVU)) (sr [oY 0 26 3 0 1,oS 1 2 0 1 26] .ret)))⟩
def qVS:List qA:=[oA 0 10 1 6 8,oP 1 11 (.load (some 1) (.t 10)),oP 2 5 (.lalloc (.agg [.nils])),oS 3 5 0 1 11]
def qVT:List qA:=[oM 0 12 3,oY 1 13 5 0 1,oD1 2 14 798 13,oP 3 15 (.bslice 1 (.agg [.nils]) 1 [(0,.t 14)]),oP 4 16 (.app 1 (.t 12) (.t 15)),oM 5 3 16]
def qVQ:qG:=.loop (sr [oB 0 9 .lss 8 7] (.seq (.cond (.t 9) .skip (.exit 0)) (.seq (.blk 1 (sr qVS (.reg true qVT))) (.reg true [oE 0 17 .add 8 1,oM 1 8 17]))))
def qVR:qG:=sr [oP 0 3 (.mov (.c (.nils)))] (.seq (sr [oM 0 6 0,oW 1 7 6,oC 2 8 0] (.blk 0 qVQ)) (sr [oM 0 18 3,oM 1 2 18] .ret))
def F797:qJ:=⟨1,19,[.t 2],sr [oP 0 2 (.mov (.c (.nils)))] qVR⟩
def qWT:List qA:=[oM 0 6 5,oM 1 7 0,oW 2 8 7,oB 3 9 .lss 6 8]
def qWU:List qA:=[oM 0 12 0,oM 1 13 5,oM 2 14 1,oA 3 15 1 12 13,oT 4 1 15 14]
def qWS:qG:=.seq (.blk 1 (sr qWU (.reg true [oM 0 16 1,oE 1 17 .add 16 1,oM 2 1 17]))) (.reg true [oM 0 10 5,oE 1 11 .add 10 1,oM 2 5 11])
def F90:qJ:=⟨2,19,[.t 4],sr [oC 0 4 0] (.seq (sr [oC 0 5 0] (.blk 0 (.loop (.seq (sr qWT (.cond (.t 9) .skip (.exit 0))) qWS)))) (sr [oM 0 18 1,oM 1 4 18] .ret))⟩
def qWK:List qA:=[oM 0 6 5,oM 1 7 0,oW 2 8 7,oB 3 9 .lss 6 8]
def qWL:List qA:=[oM 0 12 0,oM 1 13 5,oM 2 14 1,oA 3 15 2 12 13,oF 4 16 0 15,oT 5 1 16 14]
def qWM:List qA:=[oM 0 19 0,oM 1 20 5,oM 2 21 1,oA 3 22 2 19 20,oF 4 23 1 22,oT 5 1 23 21]
def qWI:qG:=sr [oM 0 17 1,oE 1 18 .add 17 1,oM 2 1 18] (sr qWM (.reg true [oM 0 24 1,oE 1 25 .add 24 1,oM 2 1 25]))
def qWJ:qG:=sr [oC 0 5 0] (.blk 0 (.loop (.seq (sr qWK (.cond (.t 9) .skip (.exit 0))) (.seq (.blk 1 (sr qWL qWI)) (.reg true [oM 0 10 5,oE 1 11 .add 10 1,oM 2 5 11])))))
def F885:qJ:=⟨2,27,[.t 4],sr [oC 0 4 0] (.seq qWJ (sr [oM 0 26 1,oM 1 4 26] .ret))⟩
def qRE:List qA:=[oM 0 6 5,oM 1 7 0,oW 2 8 7,oB 3 9 .lss 6 8]
def qRF:List qA:=[oM 0 12 0,oM 1 13 5,oM 2 14 1,oA 3 15 5 12 13,oF 4 16 0 15,oT 5 1 16 14]
def qRG:List qA:=[oM 0 19 0,oM 1 20 5,oM 2 21 1,oA 3 22 5 19 20,oF 4 23 1 22,oT 5 1 23 21]
def qRH:List qA:=[oM 0 26 0,oM 1 27 5,oM 2 28 1,oA 3 29 5 26 27,oF 4 30 2 29,oT 5 1 30 28]
def qRI:List qA:=[oM 0 33 0,oM 1 34 5,oA 2 35 5 33 34,oF 3 36 3 35,oL 4 37 36,oM 5 38 1,oD2 6 39 90 37 38,oM 7 1 39]
def qRJ:List qA:=[oM 0 40 0,oM 1 41 5,oA 2 42 5 40 41,oF 3 43 4 42,oL 4 44 43,oM 5 45 1,oD2 6 46 885 44 45,oM 7 1 46]
def qRC:qG:=sr [oM 0 24 1,oE 1 25 .add 24 1,oM 2 1 25] (sr qRH (sr [oM 0 31 1,oE 1 32 .add 31 1,oM 2 1 32] (sr qRI (.reg true qRJ))))
def qRD:qG:=.seq (.blk 1 (sr qRF (sr [oM 0 17 1,oE 1 18 .add 17 1,oM 2 1 18] (sr qRG qRC)))) (.reg true [oM 0 10 5,oE 1 11 .add 10 1,oM 2 5 11])
def F524:qJ:=⟨2,48,[.t 4],sr [oC 0 4 0] (.seq (sr [oC 0 5 0] (.blk 0 (.loop (.seq (sr qRE (.cond (.t 9) .skip (.exit 0))) qRD)))) (sr [oM 0 47 1,oM 1 4 47] .ret))⟩
def qOT:List qA:=[oM 0 6 5,oM 1 7 0,oW 2 8 7,oB 3 9 .lss 6 8]
def qOU:List qA:=[oM 0 12 0,oM 1 13 5,oA 2 14 1 12 13,oF 3 15 0 14,oL 4 16 15,oM 5 17 1,oD2 6 18 524 16 17,oM 7 1 18]
def qOS:qG:=sr [oC 0 5 0] (.blk 0 (.loop (.seq (sr qOT (.cond (.t 9) .skip (.exit 0))) (.seq (.blk 1 (.reg true qOU)) (.reg true [oM 0 10 5,oE 1 11 .add 10 1,oM 2 5 11])))))
def F225:qJ:=⟨2,20,[.t 4],sr [oC 0 4 0] (.seq qOS (sr [oM 0 19 1,oM 1 4 19] .ret))⟩
def qWW:List qA:=[oM 0 6 5,oM 1 7 0,oW 2 8 7,oB 3 9 .lss 6 8]
def qWX:List qA:=[oM 0 12 0,oM 1 13 5,oA 2 14 1 12 13,oL 3 15 14,oM 4 16 1,oB 5 17 .neq 15 16]
def qWV:qG:=.seq (.blk 1 (.seq (sr qWX (.cond (.t 17) (sr [oP 0 4 (.mov (.c (iI (-1))))] .ret) .skip)) (.reg true [oM 0 18 1,oE 1 19 .add 18 1,oM 2 1 19]))) (.reg true [oM 0 10 5,oE 1 11 .add 10 1,oM 2 5 11])
def F92:qJ:=⟨2,21,[.t 4],sr [oC 0 4 0] (.seq (sr [oC 0 5 0] (.blk 0 (.loop (.seq (sr qWW (.cond (.t 9) .skip (.exit 0))) qWV)))) (sr [oM 0 20 1,oM 1 4 20] .ret))⟩
def qWP:List qA:=[oM 0 6 5,oM 1 7 0,oW 2 8 7,oB 3 9 .lss 6 8]
def qWQ:List qA:=[oM 0 12 0,oM 1 13 5,oA 2 14 2 12 13,oF 3 15 0 14,oL 4 16 15,oM 5 17 1,oB 6 18 .neq 16 17]
def qWR:List qA:=[oM 0 21 0,oM 1 22 5,oA 2 23 2 21 22,oF 3 24 1 23,oL 4 25 24,oM 5 26 1,oB 6 27 .neq 25 26]
def qWN:qG:=sr [oM 0 19 1,oE 1 20 .add 19 1,oM 2 1 20] (.seq (sr qWR (.cond (.t 27) (sr [oP 0 4 (.mov (.c (iI (-1))))] .ret) .skip)) (.reg true [oM 0 28 1,oE 1 29 .add 28 1,oM 2 1 29]))
def qWO:qG:=.loop (.seq (sr qWP (.cond (.t 9) .skip (.exit 0))) (.seq (.blk 1 (.seq (sr qWQ (.cond (.t 18) (sr [oP 0 4 (.mov (.c (iI (-1))))] .ret) .skip)) qWN)) (.reg true [oM 0 10 5,oE 1 11 .add 10 1,oM 2 5 11])))
def F886:qJ:=⟨2,31,[.t 4],sr [oC 0 4 0] (.seq (sr [oC 0 5 0] (.blk 0 qWO)) (sr [oM 0 30 1,oM 1 4 30] .ret))⟩
def qRO:List qA:=[oM 0 6 5,oM 1 7 0,oW 2 8 7,oB 3 9 .lss 6 8]
def qRP:List qA:=[oM 0 12 0,oM 1 13 5,oA 2 14 5 12 13,oF 3 15 0 14,oL 4 16 15,oM 5 17 1,oB 6 18 .neq 16 17]
def qRQ:List qA:=[oM 0 21 0,oM 1 22 5,oA 2 23 5 21 22,oF 3 24 1 23,oL 4 25 24,oM 5 26 1,oB 6 27 .neq 25 26]
def qRR:List qA:=[oM 0 30 0,oM 1 31 5,oA 2 32 5 30 31,oF 3 33 2 32,oL 4 34 33,oM 5 35 1,oB 6 36 .neq 34 35]
def qRS:List qA:=[oM 0 39 0,oM 1 40 5,oA 2 41 5 39 40,oF 3 42 3 41,oL 4 43 42,oM 5 44 1,oD2 6 45 92 43 44,oM 7 1 45]
def qRT:List qA:=[oM 0 48 0,oM 1 49 5,oA 2 50 5 48 49,oF 3 51 4 50,oL 4 52 51,oM 5 53 1,oD2 6 54 886 52 53,oM 7 1 54]
def qRK:qG:=.seq (sr [oM 0 46 1,oE 1 47 .lss 46 0] (.cond (.t 47) (sr [oP 0 4 (.mov (.c (iI (-1))))] .ret) .skip)) (sr qRT (sr [oM 0 55 1,oE 1 56 .lss 55 0] (.cond (.t 56) (sr [oP 0 4 (.mov (.c (iI (-1))))] .ret) .skip)))
def qRL:qG:=sr [oM 0 28 1,oE 1 29 .add 28 1,oM 2 1 29] (.seq (sr qRR (.cond (.t 36) (sr [oP 0 4 (.mov (.c (iI (-1))))] .ret) .skip)) (sr [oM 0 37 1,oE 1 38 .add 37 1,oM 2 1 38] (sr qRS qRK)))
def qRM:qG:=.seq (sr qRP (.cond (.t 18) (sr [oP 0 4 (.mov (.c (iI (-1))))] .ret) .skip)) (sr [oM 0 19 1,oE 1 20 .add 19 1,oM 2 1 20] (.seq (sr qRQ (.cond (.t 27) (sr [oP 0 4 (.mov (.c (iI (-1))))] .ret) .skip)) qRL))
def qRN:qG:=sr [oC 0 5 0] (.blk 0 (.loop (.seq (sr qRO (.cond (.t 9) .skip (.exit 0))) (.seq (.blk 1 qRM) (.reg true [oM 0 10 5,oE 1 11 .add 10 1,oM 2 5 11])))))
def F525:qJ:=⟨2,58,[.t 4],sr [oC 0 4 0] (.seq qRN (sr [oM 0 57 1,oM 1 4 57] .ret))⟩
def qOW:List qA:=[oM 0 6 5,oM 1 7 0,oW 2 8 7,oB 3 9 .lss 6 8]
def qOX:List qA:=[oM 0 12 0,oM 1 13 5,oA 2 14 1 12 13,oF 3 15 0 14,oL 4 16 15,oM 5 17 1,oD2 6 18 525 16 17,oM 7 1 18]
def qOV:qG:=.seq (.blk 1 (sr qOX (sr [oM 0 19 1,oE 1 20 .lss 19 0] (.cond (.t 20) (sr [oP 0 4 (.mov (.c (iI (-1))))] .ret) .skip)))) (.reg true [oM 0 10 5,oE 1 11 .add 10 1,oM 2 5 11])
def F230:qJ:=⟨2,22,[.t 4],sr [oC 0 4 0] (.seq (sr [oC 0 5 0] (.blk 0 (.loop (.seq (sr qOW (.cond (.t 9) .skip (.exit 0))) qOV)))) (sr [oM 0 21 1,oM 1 4 21] .ret))⟩
def qWZ:List qA:=[oM 0 15 1,oM 1 16 2,oM 2 17 3,oM 3 18 4,oD1 4 19 402 18,oP 5 20 (.build (.agg [iI 0,iI 0,iI 0,.nils,.nils]) [(0,1,.t 15),(1,1,.t 16),(2,1,.t 17),(3,1,.t 19)]),oP 6 13 (.lalloc (.agg [iI 0,iI 0,iI 0,.nils,.nils])),oS 7 13 0 5 20]
def qW0:List qA:=[oU 0 26 13,oX 1 27 13 4,oP 2 28 (.build (.agg [iI 0,iI 0]) []),oP 3 29 (.bslice 2 (.agg [iI 0,iI 0]) 1 [(0,.t 28)]),oP 4 30 (.app 2 (.t 27) (.t 29)),oU 5 31 13,oS 6 13 4 1 30]
def qWY:qG:=.loop (.seq (sr [oM 0 22 14,oE 1 23 .gtr 22 0] (.cond (.t 23) .skip (.exit 0))) (.seq (.blk 1 (.reg true qW0)) (.reg true [oM 0 24 14,oE 1 25 .sub 24 1,oM 2 14 25])))
def qW1:List qA:=[oM 0 32 0,oM 1 33 0,oK 2 34 33,oF 3 35 0 34,oL 4 36 35,oY 5 37 13 0 5,oP 6 38 (.bslice 5 (.agg [iI 0,iI 0,iI 0,.nils,.nils]) 1 [(0,.t 37)]),oP 7 39 (.app 5 (.t 36) (.t 38)),oK 8 40 32,oF 9 41 0 40,oT 10 1 41 39]
def qW2:List qA:=[oM 0 42 0,oK 1 43 42,oF 2 44 0 43,oL 3 45 44,oW 4 46 45,oE 5 47 .sub 46 1,oM 6 12 47]
def F949:qJ:=⟨6,48,[.t 12],sr [oC 0 12 0] (sr qWZ (.seq (sr [oM 0 21 5,oM 1 14 21] (.blk 0 qWY)) (sr qW1 (sr qW2 .ret))))⟩
def qW3:List qA:=[oM 0 5 0,oM 1 6 1,oP 2 7 (.build (.agg [iI 0,iI 0]) [(0,1,.t 5),(1,1,.t 6)]),oS 3 4 0 2 7]
def F952:qJ:=⟨2,8,[.l 4 (some 2)],sr [oP 0 4 (.lalloc (.agg [iI 0,iI 0]))] (sr qW3 .ret)⟩
def qV4:qG:=.seq (sr [oM 0 5 0,oM 1 6 1,oB 2 7 .gtr 5 6] (.cond (.t 7) (sr [oM 0 8 0,oM 1 4 8] .ret) .skip)) (sr [oM 0 9 1,oM 1 4 9] .ret)
def F856:qJ:=⟨2,10,[.t 4],sr [oC 0 4 0] qV4⟩
def qGE:List qA:=[oM 0 5 4,oM 1 6 0,oK 2 7 6,oF 3 8 0 7,oL 4 9 8,oW 5 10 9,oB 6 11 .lss 5 10]
def qGF:List qA:=[oM 0 14 3,oM 1 15 0,oK 2 16 15,oF 3 17 0 16,oL 4 18 17,oM 5 19 4,oA 6 20 5 18 19,oF 7 21 1 20,oL 8 22 21,oD2 9 23 856 14 22,oM 10 3 23]
def qGD:qG:=sr [oC 0 4 0] (.blk 0 (.loop (.seq (sr qGE (.cond (.t 11) .skip (.exit 0))) (.seq (.blk 1 (.reg true qGF)) (.reg true [oM 0 12 4,oE 1 13 .add 12 1,oM 2 4 13])))))
def Kk:qJ:=⟨1,25,[.t 2],sr [oC 0 2 0] (sr [oC 0 3 0] (.seq qGD (sr [oM 0 24 3,oM 1 2 24] .ret)))⟩
def qN0:qG:=.cond (.t 26) (sr [oC 0 6 2] (sr [oC 0 7 600] (.reg true [oM 0 28 1,oE 1 29 .sub 28 2,oM 2 8 29]))) (sr [oC 0 4 0,oC 1 5 2] .ret)
def qN1:qG:=.cond (.t 22) (sr [oC 0 7 3] (.reg true [oM 0 24 1,oE 1 25 .sub 24 1,oM 2 8 25])) (sr [oE 0 27 .eql 9 7,oM 1 26 27] qN0)
def qN2:qG:=.cond (.t 16) (sr [oC 0 7 3] (.reg true [oM 0 18 1,oE 1 19 .sub 18 2,oM 2 8 19])) (sr [oE 0 21 .eql 9 5,oM 1 20 21] (.cond (.t 20) (.reg true [oP 0 8 (.mov (.c (iI (-1))))]) (sr [oE 0 23 .eql 9 6,oM 1 22 23] qN1)))
def qN3:qG:=sr [oE 0 14 .eql 9 3,oM 1 13 14] (.cond (.t 13) (sr [oC 0 7 3] (.reg true [oM 0 15 1,oM 1 8 15])) (sr [oE 0 17 .eql 9 4,oM 1 16 17] qN2))
def qN4:qG:=sr [oM 0 9 0] (.blk 0 (.seq (sr [oE 0 11 .eql 9 1,oM 1 10 11] (.cond (.t 10) .skip (.reg true [oE 0 12 .eql 9 2,oM 1 10 12]))) (.cond (.t 10) (.reg true [oP 0 8 (.mov (.c (iI (-2))))]) qN3)))
def qN6:List qA:=[oM 0 30 1,oM 1 31 6,oM 2 32 7,oP 3 33 (.call 340 [.t 30,.t 31,.t 32]),oJ 4 34 33]
def qN5:qG:=sr [oC 0 8 0] (.seq qN4 (.seq (sr qN6 (.cond (.t 34) (sr [oC 0 4 0,oC 1 5 2] .ret) .skip)) (sr [oM 0 35 8,oM 1 4 35,oC 2 5 0] .ret)))
def qAJ:qJ:=⟨2,36,[.t 4,.t 5],sr [oC 0 4 0,oC 1 5 0] (sr [oC 0 6 0] (sr [oC 0 7 0] qN5))⟩
def qHT:List qA:=[oM 0 17 1,oM 1 18 2,oM 2 19 3,oP 3 20 (.call 743 [.t 17,.t 18,.t 19]),oM 4 16 20,oV 5 21 16 0,oV 6 22 16 1,oM 7 2 21,oM 8 3 22]
def qHU:List qA:=[oM 0 23 1,oK 1 24 23,oF 2 25 0 24,oL 3 26 25,oM 4 27 2,oA 5 28 5 26 27,oM 6 10 28]
def qHW:List qA:=[oM 0 29 1,oK 1 30 29,oF 2 31 0 30,oL 3 32 31,oM 4 33 3,oA 5 34 5 32 33,oM 6 11 34]
def qHX:List qA:=[oM 0 35 10,oM 1 36 11,oD2 2 37 744 35 36,oM 3 12 37]
def qHY:List qA:=[oM 0 44 11,oK 1 45 44,oF 2 46 4 45,oL 3 47 46,oW 4 48 47,oE 5 49 .sub 48 1,oM 6 13 49]
def qHZ:List qA:=[oM 0 56 10,oK 1 57 56,oF 2 58 2 57,oL 3 59 58,oM 4 60 0,oW 5 61 60,oB 6 62 .geq 59 61]
def qH0:List qA:=[oM 0 63 0,oM 1 64 10,oK 2 65 64,oF 3 66 2 65,oL 4 67 66,oA 5 68 1 63 67,oF 6 69 0 68,oL 7 70 69,oW 8 71 70,oM 9 13 71]
def qH1:List qA:=[oM 0 72 0,oM 1 73 10,oK 2 74 73,oF 3 75 2 74,oL 4 76 75,oA 5 77 1 72 76,oM 7 79 10,oK 8 80 79,oF 9 81 1 80,oL 10 82 81,⟨6,some 78,none,.call 1177 [.t 77],[⟨10,some 82,none,.load none (.t 81),[]⟩]⟩,oB 11 83 .add 78 82,oE 12 84 .gtr 83 8]
def qHR:qG:=.seq (sr qHZ (.cond (.t 62) (sr [oC 0 8 0,oC 1 9 3] .ret) .skip)) (sr qH0 (sr qH1 (.cond (.t 84) (sr [oC 0 8 0,oC 1 9 9] .ret) .skip)))
def qHS:qG:=sr [oE 0 51 .eql 38 6,oM 1 50 51] (.cond (.t 50) (.reg true [oM 0 52 10,oD1 1 53 1384 52,oM 2 13 53]) (sr [oE 0 55 .eql 38 7,oM 1 54 55] (.cond (.t 54) qHR .skip)))
def qHP:qG:=.cond (.t 39) (sr [oC 0 8 0,oC 1 9 11] .ret) (.seq (sr [oE 0 42 .eql 38 3,oM 1 41 42] (.cond (.t 41) .skip (.reg true [oE 0 43 .eql 38 4,oM 1 41 43]))) (.cond (.t 41) (.reg true qHY) qHS))
def qHV:List qA:=[oM 0 86 12,oM 1 87 13,oD2 2 88 1460 86 87,oM 3 85 88,oV 4 89 85 0,oV 5 90 85 1,oM 6 14 89,oM 7 15 90]
def qHQ:qG:=.seq (sr [oM 0 38 12] (.blk 0 (sr [oE 0 40 .eql 38 8,oM 1 39 40] qHP))) (sr qHV (sr [oM 0 91 14,oM 1 8 91,oC 2 9 0] .ret))
def K6:qJ:=⟨4,92,[.t 8,.t 9],sr [oC 0 8 0,oC 1 9 0] (sr qHT (sr qHU (sr qHW (sr qHX (sr [oC 0 13 0] qHQ)))))⟩
def qH4:List qA:=[oM 0 5 4,oM 1 6 0,oK 2 7 6,oF 3 8 0 7,oL 4 9 8,oW 5 10 9,oB 6 11 .lss 5 10]
def qH5:List qA:=[oM 0 14 0,oK 1 15 14,oF 2 16 0 15,oL 3 17 16,oM 4 18 4,oA 5 19 5 17 18,oF 6 20 0 19,oL 7 21 20,oE 8 22 .neq 21 0]
def qH2:qG:=.seq (.blk 1 (sr qH5 (.cond (.t 22) (.reg true [oM 0 23 3,oE 1 24 .add 23 1,oM 2 3 24]) .skip))) (.reg true [oM 0 12 4,oE 1 13 .add 12 1,oM 2 4 13])
def qH3:qG:=sr [oC 0 3 0] (.seq (sr [oC 0 4 0] (.blk 0 (.loop (.seq (sr qH4 (.cond (.t 11) .skip (.exit 0))) qH2)))) (sr [oM 0 25 3,oM 1 2 25] .ret))
def K7:qJ:=⟨1,26,[.t 2],sr [oC 0 2 0] qH3⟩
def qQ8:List qA:=[oM 0 5 0,oK 1 6 5,oF 2 7 0 6,oL 3 8 7,oU 4 9 3,oX 5 10 3 0,oA 6 11 5 8 10,oF 7 12 4 11,oL 8 13 12,oU 9 14 3,oX 10 15 3 1,oA 11 16 2 13 15,oP 12 17 (.load (some 2) (.t 16)),oS 13 4 0 2 17]
def F490:qJ:=⟨2,18,[.l 4 (some 2)],sr [oP 0 3 (.lbox 2 (.t 1)),oP 1 4 (.lalloc (.agg [iI 0,iI 0]))] (sr qQ8 .ret)⟩
def qQ9:List qA:=[oM 0 6 0,oK 1 7 6,oF 2 8 0 7,oL 3 9 8,oU 4 10 4,oX 5 11 4 0,oA 6 12 5 9 11,oF 7 13 4 12,oL 8 14 13,oU 9 15 4,oX 10 16 4 1,oY 11 17 5 0 2,oA 12 18 2 14 16,oT 13 2 18 17]
def qRA:List qA:=[oM 0 19 0,oK 1 20 19,oF 2 21 0 20,oL 3 22 21,oU 4 23 5,oX 5 24 5 0,oA 6 25 5 22 24,oF 7 26 4 25,oL 8 27 26,oU 9 28 5,oX 10 29 5 1,oY 11 30 4 0 2,oA 12 31 2 27 29,oT 13 2 31 30]
def F491:qJ:=⟨3,32,[],sr [oP 0 4 (.lbox 2 (.t 1)),oP 1 5 (.lbox 2 (.t 2))] (sr qQ9 (.reg true qRA))⟩
def qH6:List qA:=[oM 0 8 0,oY 1 9 4 0 2,oD2 2 10 490 8 9,oP 3 6 (.lalloc (.agg [iI 0,iI 0])),oS 4 6 0 2 10]
def qH7:List qA:=[oM 0 11 0,oY 1 12 5 0 2,oD2 2 13 490 11 12,oP 3 7 (.lalloc (.agg [iI 0,iI 0])),oS 4 7 0 2 13]
def qH8:List qA:=[oM 0 17 0,oY 1 18 6 0 2,oY 2 19 7 0 2,oP 3 20 (.call 491 [.t 17,.t 18,.t 19])]
def K8:qJ:=⟨3,21,[],sr [oP 0 4 (.lbox 2 (.t 1)),oP 1 5 (.lbox 2 (.t 2))] (sr qH6 (sr qH7 (sr [oY 0 14 6 0 2,oY 1 15 5 0 2,oP 2 16 (.seq true [1,1] (.t 14) (.t 15))] (.cond (.t 16) (.reg true qH8) .skip))))⟩
def qIN:List qA:=[oM 0 6 0,oY 1 7 5 0 2,oM 2 8 0,oY 3 9 4 0 2,oD2 4 10 490 8 9,oP 5 11 (.call 491 [.t 6,.t 7,.t 10])]
def kD:qJ:=⟨3,12,[],sr [oP 0 4 (.lbox 2 (.t 1)),oP 1 5 (.lbox 2 (.t 2))] (.reg true qIN)⟩
def qIC:List qA:=[oM 0 14 0,oK 1 15 14,oF 2 16 0 15,oL 3 17 16,oM 4 18 1,oA 5 19 5 17 18,oF 6 20 1 19,oL 7 21 20,oM 8 6 21]
def qID:List qA:=[oM 0 22 0,oK 1 23 22,oF 2 24 0 23,oL 3 25 24,oM 4 26 2,oA 5 27 5 25 26,oD1 6 28 837 27,oP 7 7 (.lalloc (.agg [iI 0,iI 0,iI 0,.nils,.nils])),oS 8 7 0 5 28]
def qIG:List qA:=[oU 0 29 7,oX 1 30 7 4,oW 2 31 30,oM 3 8 31]
def qIH:List qA:=[oM 0 32 0,oU 1 33 7,oX 2 34 7 0,oU 3 35 7,oX 4 36 7 1,oU 5 37 7,oX 6 38 7 2,oU 7 39 7,oX 8 40 7 3,oM 9 41 8,oP 10 42 (.call 949 [.t 32,.t 34,.t 36,.t 38,.t 40,.t 41]),oM 11 9 42]
def qII:List qA:=[oM 0 43 0,oU 1 44 7,oX 2 45 7 0,oU 3 46 7,oX 4 47 7 1,oU 5 48 7,oX 6 49 7 2,oU 7 50 7,oX 8 51 7 3,oM 9 52 8,oP 10 53 (.call 949 [.t 43,.t 45,.t 47,.t 49,.t 51,.t 52]),oM 11 10 53]
def qIJ:List qA:=[oM 0 59 0,oM 1 60 6,oP 2 61 (.call 949 [.t 59,.c (iI 4),.t 60,.c (iI 0),.c (.nils),.c (iI 3)]),oM 3 12 61]
def qIK:List qA:=[oM 0 62 0,oM 1 63 12,oP 2 64 (.call 952 [.t 63,.c (iI 1)]),oM 3 65 9,oM 4 66 11,oD2 5 67 952 65 66,oP 6 68 (.call 491 [.t 62,.t 64,.t 67])]
def qIL:List qA:=[oM 0 69 0,oM 1 70 12,oP 2 71 (.call 952 [.t 70,.c (iI 2)]),oM 3 72 10,oM 4 73 11,oD2 5 74 952 72 73,oP 6 75 (.call 491 [.t 69,.t 71,.t 74])]
def qIB:qG:=.seq (sr [oM 0 54 11,oM 1 55 8,oB 2 56 .lss 54 55] (.cond (.t 56) .skip (.exit 0))) (.seq (.blk 1 (sr qIJ (sr qIK (.reg true qIL)))) (.reg true [oM 0 57 11,oE 1 58 .add 57 1,oM 2 11 58]))
def qIM:List qA:=[oM 0 76 0,oM 1 77 1,oP 2 78 (.call 952 [.t 77,.c (iI 1)]),oM 3 79 9,oP 4 80 (.call 952 [.t 79,.c (iI 0)]),oP 5 81 (.call 1300 [.t 76,.t 78,.t 80])]
def qIE:List qA:=[oM 0 82 0,oM 1 83 1,oP 2 84 (.call 952 [.t 83,.c (iI 2)]),oM 3 85 10,oP 4 86 (.call 952 [.t 85,.c (iI 0)]),oP 5 87 (.call 1300 [.t 82,.t 84,.t 86])]
def qIF:List qA:=[oM 0 93 0,oM 1 94 2,oM 2 95 13,oD2 3 96 952 94 95,oM 4 97 10,oM 5 98 13,oB 6 99 .add 97 98,oP 7 100 (.call 952 [.t 99,.c (iI 0)]),oP 8 101 (.call 1300 [.t 93,.t 96,.t 100])]
def qH9:qG:=.seq (sr [oM 0 88 13,oM 1 89 8,oB 2 90 .lss 88 89] (.cond (.t 90) .skip (.exit 2))) (.seq (.blk 3 (.reg true qIF)) (.reg true [oM 0 91 13,oE 1 92 .add 91 1,oM 2 13 92]))
def qIA:qG:=.seq (sr [oC 0 11 1] (.blk 0 (.loop qIB))) (sr qIM (sr qIE (sr [oC 0 13 1] (.blk 2 (.loop qH9)))))
def K9:qJ:=⟨3,102,[],sr qIC (sr qID (sr qIG (sr qIH (sr qII qIA))))⟩
def qGB:List qA:=[oM 0 3 0,oP 1 4 (.conv .u64 (.t 3)),oP 2 5 (.conv .u32 (.t 4)),oP 3 6 (.conv .i32 (.t 5)),oP 4 7 (.conv .i64 (.t 6)),oM 5 2 7]
def Ki:qJ:=⟨1,8,[.t 2],sr [oC 0 2 0] (sr qGB .ret)⟩
def Kj:qJ:=⟨1,4,[.t 2],sr [oC 0 2 0] (.seq (sr [oM 0 3 0] (.cond (.t 3) (sr [oC 0 2 1] .ret) .skip)) (sr [oC 0 2 0] .ret))⟩
def qVI:List qA:=[oM 0 16 7,oM 1 17 8,oB 2 18 .add 16 17,oD1 3 19 1125 18,oM 4 6 19]
def qVJ:List qA:=[oM 0 22 7,oM 1 23 8,oB 2 24 .sub 22 23,oD1 3 25 1125 24,oM 4 6 25]
def qVK:List qA:=[oM 0 28 7,oM 1 29 8,oB 2 30 .mul 28 29,oD1 3 31 1125 30,oM 4 6 31]
def qVL:List qA:=[oM 0 36 7,oM 1 37 8,oB 2 38 .quo 36 37,oD1 3 39 1125 38,oM 4 6 39]
def qVM:List qA:=[oM 0 42 7,oM 1 43 8,oB 2 44 .lss 42 43,oD1 3 45 1126 44,oM 4 6 45]
def qVN:List qA:=[oM 0 48 7,oM 1 49 8,oB 2 50 .eql 48 49,oD1 3 51 1126 50,oM 4 6 51]
def qVF:qG:=.cond (.t 32) (.seq (sr [oM 0 34 8,oE 1 35 .eql 34 0] (.cond (.t 35) (sr [oC 0 6 0] .ret) .skip)) (sr qVL .ret)) (sr [oE 0 41 .eql 13 5,oM 1 40 41] (.cond (.t 40) (sr qVM .ret) (sr [oE 0 47 .eql 13 6,oM 1 46 47] (.cond (.t 46) (sr qVN .ret) .skip))))
def qVG:qG:=sr [oE 0 21 .eql 13 2,oM 1 20 21] (.cond (.t 20) (sr qVJ .ret) (sr [oE 0 27 .eql 13 3,oM 1 26 27] (.cond (.t 26) (sr qVK .ret) (sr [oE 0 33 .eql 13 4,oM 1 32 33] qVF))))
def qVH:qG:=sr [oM 0 11 2,oD1 1 12 1125 11,oM 2 8 12] (.seq (sr [oM 0 13 0] (.blk 0 (sr [oE 0 15 .eql 13 1,oM 1 14 15] (.cond (.t 14) (sr qVI .ret) qVG)))) (sr [oC 0 6 0] .ret))
def F762:qJ:=⟨3,52,[.t 6],sr [oC 0 6 0] (sr [oM 0 9 1,oD1 1 10 1125 9,oM 2 7 10] qVH)⟩
def qIP:List qA:=[oM 0 10 0,oK 1 11 10,oF 2 12 0 11,oL 3 13 12,oM 4 14 2,oA 5 15 5 13 14,oD1 6 16 837 15,oP 7 6 (.lalloc (.agg [iI 0,iI 0,iI 0,.nils,.nils])),oS 8 6 0 5 16]
def qIQ:List qA:=[oM 0 17 0,oK 1 18 17,oF 2 19 0 18,oL 3 20 19,oM 4 21 1,oA 5 22 5 20 21,oF 6 23 2 22,oL 7 24 23,oM 8 7 24]
def qIR:List qA:=[oM 0 28 0,oU 1 29 6,oX 2 30 6 2,oU 3 31 6,oX 4 32 6 3,oP 5 33 (.iaddr 1 (.t 32) (.c (iI 0))),oL 6 34 33,oM 7 35 7,oP 8 36 (.call 762 [.t 30,.t 34,.t 35]),oP 9 37 (.call 949 [.t 28,.c (iI 6),.c (iI 0),.t 36,.c (.nils),.c (iI 1)]),oM 10 8 37]
def qIS:List qA:=[oM 0 38 0,oM 1 39 2,oP 2 40 (.call 952 [.t 39,.c (iI 1)]),oM 3 41 8,oP 4 42 (.call 952 [.t 41,.c (iI 0)]),oP 5 43 (.call 1300 [.t 38,.t 40,.t 42])]
def qIT:List qA:=[oM 0 44 0,oU 1 45 6,oX 2 46 6 1,oU 3 47 6,oX 4 48 6 2,oM 5 49 7,oP 6 50 (.bslice 1 (iI 0) 1 [(0,.t 49)]),oP 7 51 (.call 949 [.t 44,.c (iI 8),.t 46,.t 48,.t 50,.c (iI 2)]),oM 8 9 51]
def qIU:List qA:=[oM 0 52 0,oM 1 53 2,oP 2 54 (.call 952 [.t 53,.c (iI 1)]),oM 3 55 9,oP 4 56 (.call 952 [.t 55,.c (iI 0)]),oP 5 57 (.call 1300 [.t 52,.t 54,.t 56])]
def qIV:List qA:=[oM 0 58 0,oM 1 59 2,oP 2 60 (.call 952 [.t 59,.c (iI 2)]),oM 3 61 9,oP 4 62 (.call 952 [.t 61,.c (iI 1)]),oP 5 63 (.call 1300 [.t 58,.t 60,.t 62])]
def qIO:qG:=.seq (sr [oU 0 25 6,oX 1 26 6 0,oE 2 27 .eql 26 8] (.cond (.t 27) (sr qIR (sr qIS .ret)) .skip)) (sr qIT (sr qIU (.reg true qIV)))
def kE:qJ:=⟨3,64,[],sr qIP (sr qIQ qIO)⟩
def qIZ:List qA:=[oM 0 14 0,oK 1 15 14,oF 2 16 0 15,oL 3 17 16,oM 4 18 2,oA 5 19 5 17 18,oD1 6 20 837 19,oP 7 6 (.lalloc (.agg [iI 0,iI 0,iI 0,.nils,.nils])),oS 8 6 0 5 20]
def qI0:List qA:=[oU 0 24 6,oX 1 25 6 3,oP 2 26 (.iaddr 1 (.t 25) (.c (iI 1))),oL 3 27 26,oM 4 7 27]
def qI5:List qA:=[oM 0 28 0,oK 1 29 28,oF 2 30 0 29,oL 3 31 30,oM 4 32 1,oA 5 33 5 31 32,oF 6 34 2 33,oL 7 35 34,oE 8 36 .neq 35 0]
def qI6:List qA:=[oU 0 37 6,oX 1 38 6 3,oP 2 39 (.iaddr 1 (.t 38) (.c (iI 0))),oL 3 40 39,oM 4 7 40]
def qI7:List qA:=[oM 0 41 0,oU 1 42 6,oX 2 43 6 1,oM 3 44 7,oP 4 45 (.call 949 [.t 41,.c (iI 12),.t 43,.t 44,.c (.nils),.c (iI 1)]),oM 5 8 45]
def qI8:List qA:=[oM 0 46 0,oM 1 47 2,oP 2 48 (.call 952 [.t 47,.c (iI 1)]),oM 3 49 8,oP 4 50 (.call 952 [.t 49,.c (iI 0)]),oP 5 51 (.call 1300 [.t 46,.t 48,.t 50])]
def qIY:qG:=sr [oU 0 21 6,oX 1 22 6 0,oE 2 23 .eql 22 11] (.cond (.t 23) (sr qI0 (.seq (sr qI5 (.cond (.t 36) (.reg true qI6) .skip)) (sr qI7 (sr qI8 .ret)))) .skip)
def qI9:List qA:=[oM 0 52 0,oK 1 53 52,oF 2 54 0 53,oL 3 55 54,oM 4 56 1,oA 5 57 5 55 56,oD1 6 58 1384 57,oM 7 9 58]
def qJA:List qA:=[oM 0 59 0,oU 1 60 6,oX 2 61 6 1,oU 3 62 6,oX 4 63 6 3,oM 5 64 0,oK 6 65 64,oF 7 66 0 65,oL 8 67 66,oM 9 68 1,oA 10 69 5 67 68,oF 11 70 2 69,oL 12 71 70,oA 13 72 1 63 71,oL 14 73 72,oP 15 74 (.call 949 [.t 59,.c (iI 12),.t 61,.t 73,.c (.nils),.c (iI 1)]),oM 16 10 74]
def qJB:List qA:=[oM 0 75 10,oP 1 76 (.call 952 [.t 75,.c (iI 0)]),oP 2 11 (.lalloc (.agg [iI 0,iI 0])),oS 3 11 0 2 76]
def qI1:List qA:=[oM 0 82 0,oU 1 83 6,oX 2 84 6 1,oP 3 85 (.call 949 [.t 82,.c (iI 3),.t 84,.c (iI 0),.c (.nils),.c (iI 3)]),oM 4 13 85]
def qI2:List qA:=[oM 0 86 0,oY 1 87 11 0 2,oM 2 88 13,oP 3 89 (.call 952 [.t 88,.c (iI 0)]),oP 4 90 (.call 491 [.t 86,.t 87,.t 89])]
def qI3:List qA:=[oM 0 91 0,oM 1 92 1,oM 2 93 12,oD2 3 94 952 92 93,oM 4 95 13,oP 5 96 (.call 952 [.t 95,.c (iI 1)]),oP 6 97 (.call 1300 [.t 91,.t 94,.t 96])]
def qIW:qG:=.seq (.blk 1 (sr qI1 (sr qI2 (sr qI3 (.reg true [oM 0 98 13,oP 1 99 (.call 952 [.t 98,.c (iI 2)]),oS 2 11 0 2 99]))))) (.reg true [oM 0 80 12,oE 1 81 .add 80 1,oM 2 12 81])
def qI4:List qA:=[oM 0 100 0,oM 1 101 2,oY 3 103 11 0 2,oP 2 102 (.call 952 [.t 101,.c (iI 1)]),oP 4 104 (.call 1300 [.t 100,.t 102,.t 103])]
def qIX:qG:=.seq (sr [oC 0 12 1] (.blk 0 (.loop (.seq (sr [oM 0 77 12,oM 1 78 9,oB 2 79 .leq 77 78] (.cond (.t 79) .skip (.exit 0))) qIW)))) (.reg true qI4)
def kF:qJ:=⟨3,105,[],sr qIZ (.seq qIY (sr qI9 (sr qJA (sr qJB qIX))))⟩
def qJE:List qA:=[oM 0 14 1,oK 1 15 14,oF 2 16 0 15,oL 3 17 16,oM 4 18 2,oA 5 19 5 17 18,oF 6 20 1 19,oL 7 21 20,oM 8 8 21]
def qJF:List qA:=[oM 0 22 1,oK 1 23 22,oF 2 24 0 23,oL 3 25 24,oW 4 26 25,oE 5 27 .sub 26 1,oM 6 9 27]
def qJI:List qA:=[oM 0 28 10,oM 1 29 0,oK 2 30 29,oF 3 31 0 30,oL 4 32 31,oW 5 33 32,oB 6 34 .lss 28 33]
def qJJ:List qA:=[oM 0 37 0,oK 1 38 37,oF 2 39 0 38,oL 3 40 39,oM 4 41 10,oA 5 42 5 40 41,oD1 6 43 837 42,oP 7 11 (.lalloc (.agg [iI 0,iI 0,iI 0,.nils,.nils])),oS 8 11 0 5 43]
def qJK:List qA:=[oU 0 47 11,oX 1 48 11 1,oM 2 49 8,oB 3 50 .add 48 49,oU 4 51 11,oS 5 11 1 1 50]
def qJL:List qA:=[oM 0 52 12,oU 1 53 11,oX 2 54 11 4,oW 3 55 54,oB 4 56 .lss 52 55]
def qJM:List qA:=[oU 0 59 11,oX 1 60 11 4,oM 2 61 12,oA 3 62 2 60 61,oF 4 63 0 62,oL 5 64 63,oM 6 65 9,oB 7 66 .add 64 65,oA 8 67 2 60 61,oF 9 68 0 67,oT 10 1 68 66]
def qJC:qG:=sr [oC 0 12 0] (.blk 2 (.loop (.seq (sr qJL (.cond (.t 56) .skip (.exit 2))) (.seq (.blk 3 (.reg true qJM)) (.reg true [oM 0 57 12,oE 1 58 .add 57 1,oM 2 12 58])))))
def qJN:List qA:=[oM 0 69 1,oM 1 70 1,oK 2 71 70,oF 3 72 0 71,oL 4 73 72,oY 5 74 11 0 5,oP 6 75 (.bslice 5 (.agg [iI 0,iI 0,iI 0,.nils,.nils]) 1 [(0,.t 74)]),oP 7 76 (.app 5 (.t 73) (.t 75)),oK 8 77 69,oF 9 78 0 77,oT 10 1 78 76]
def qJD:qG:=.seq (.blk 1 (sr qJJ (.seq (sr [oU 0 44 11,oX 1 45 11 0,oD1 2 46 1372 45] (.cond (.t 46) (.reg true qJK) .skip)) (.seq qJC (.reg true qJN))))) (.reg true [oM 0 35 10,oE 1 36 .add 35 1,oM 2 10 36])
def qJG:List qA:=[oM 0 79 0,oK 1 80 79,oF 2 81 0 80,oL 3 82 81,oP 4 83 (.iaddr 5 (.t 82) (.c (iI 0))),oF 5 84 4 83,oL 6 85 84,oP 7 86 (.iaddr 2 (.t 85) (.c (iI 0))),oP 8 87 (.load (some 2) (.t 86)),oP 9 13 (.lalloc (.agg [iI 0,iI 0])),oS 10 13 0 2 87]
def qJH:List qA:=[oM 0 88 1,oM 1 89 9,oU 2 90 13,oX 3 91 13 0,oB 4 92 .add 89 91,oU 5 93 13,oX 6 94 13 1,oD2 7 95 952 92 94,oM 8 96 3,oP 9 97 (.call 952 [.t 96,.c (iI 0)]),oP 10 98 (.call 491 [.t 88,.t 95,.t 97])]
def kJ:qJ:=⟨4,99,[],sr qJE (sr qJF (.seq (sr [oC 0 10 1] (.blk 0 (.loop (.seq (sr qJI (.cond (.t 34) .skip (.exit 0))) qJD)))) (sr qJG (.reg true qJH))))⟩
def qJO:List qA:=[oM 0 4 0,oK 1 5 4,oF 2 6 0 5,oL 3 7 6,oM 4 8 1,oP 5 9 (.build (.agg [iI 0,iI 0,iI 0,.nils,.nils]) []),oA 6 10 5 7 8,oT 7 5 10 9]
def kK:qJ:=⟨2,11,[],.reg true qJO⟩
def qZB:List qA:=[oM 0 16 0,oM 1 17 1,oM 2 18 2,oM 3 19 3,oP 4 20 (.call 1296 [.t 16,.t 17,.t 18,.t 19]),oM 5 15 20,oV 6 21 15 0,oV 7 22 15 1,oM 8 9 21,oM 9 10 22]
def qZC:List qA:=[oM 0 26 1,oD1 1 27 1297 26,oM 2 28 9,oB 3 29 .add 27 28,oE 4 30 .gtr 29 600]
def qZG:List qA:=[oM 0 32 1,oM 1 33 2,oM 2 34 3,oP 3 35 (.call 743 [.t 32,.t 33,.t 34]),oM 4 31 35,oV 5 36 31 0,oV 6 37 31 1,oM 7 2 36,oM 8 3 37]
def qZH:List qA:=[oM 0 38 1,oK 1 39 38,oF 2 40 0 39,oL 3 41 40,oM 4 42 2,oA 5 43 5 41 42,oM 6 44 1,oK 7 45 44,oF 8 46 0 45,oL 9 47 46,oM 10 48 3,oA 11 49 5 47 48,oD2 12 50 744 43 49,oM 13 11 50]
def qZI:List qA:=[oM 0 55 1,oM 1 56 2,oP 2 57 (.call 952 [.t 56,.c (iI 1)]),oM 3 58 3,oP 4 59 (.call 952 [.t 58,.c (iI 1)]),oP 5 60 (.call 1298 [.t 55,.t 57,.t 59])]
def qZJ:List qA:=[oM 0 61 1,oM 1 62 2,oP 2 63 (.call 952 [.t 62,.c (iI 2)]),oM 3 64 3,oP 4 65 (.call 952 [.t 64,.c (iI 2)]),oP 5 66 (.call 1298 [.t 61,.t 63,.t 65])]
def qZK:List qA:=[oM 0 69 1,oM 1 70 2,oM 2 71 3,oP 3 72 (.call 1299 [.t 69,.t 70,.t 71])]
def qZL:List qA:=[oM 0 75 1,oK 1 76 75,oF 2 77 0 76,oL 3 78 77,oM 4 79 3,oA 5 80 5 78 79,oF 6 81 4 80,oL 7 82 81,oW 8 83 82,oM 9 12 83]
def qZM:List qA:=[oM 0 91 1,oM 1 92 3,oM 2 93 13,oD2 3 94 952 92 93,oM 4 95 14,oP 5 96 (.call 952 [.t 95,.c (iI 0)]),oP 6 97 (.call 1300 [.t 91,.t 94,.t 96])]
def qZA:qG:=.seq (.blk 2 (sr [oM 0 89 1,oP 1 90 (.call 949 [.t 89,.c (iI 5),.c (iI 0),.c (iI 0),.c (.nils),.c (iI 1)]),oM 2 14 90] (.reg true qZM))) (.reg true [oM 0 87 13,oE 1 88 .add 87 1,oM 2 13 88])
def qY5:qG:=sr qZL (sr [oC 0 13 1] (.blk 1 (.loop (.seq (sr [oM 0 84 13,oM 1 85 12,oB 2 86 .lss 84 85] (.cond (.t 86) .skip (.exit 1))) qZA))))
def qZD:List qA:=[oM 0 100 1,oM 1 101 2,oM 2 102 3,oP 3 103 (.call 1301 [.t 100,.t 101,.t 102])]
def qZE:List qA:=[oM 0 106 1,oM 1 107 2,oM 2 108 3,oP 3 109 (.call 1302 [.t 106,.t 107,.t 108])]
def qZF:List qA:=[oM 0 112 0,oM 1 113 1,oK 2 114 113,oF 3 115 0 114,oL 4 116 115,oM 5 117 2,oA 6 118 5 116 117,oF 7 119 2 118,oL 8 120 119,oA 9 121 1 112 120,oM 10 122 1,oM 11 123 2,oM 12 124 3,oP 13 125 (.call 1303 [.t 121,.t 122,.t 123,.t 124])]
def qY6:qG:=.cond (.t 98) (.reg true qZD) (sr [oE 0 105 .eql 51 6,oM 1 104 105] (.cond (.t 104) (.reg true qZE) (sr [oE 0 111 .eql 51 7,oM 1 110 111] (.cond (.t 110) (.reg true qZF) .skip))))
def qY7:qG:=sr [oE 0 68 .eql 51 3,oM 1 67 68] (.cond (.t 67) (.reg true qZK) (sr [oE 0 74 .eql 51 4,oM 1 73 74] (.cond (.t 73) qY5 (sr [oE 0 99 .eql 51 5,oM 1 98 99] qY6))))
def qY8:qG:=sr [oM 0 51 11] (.blk 0 (.seq (sr [oE 0 53 .eql 51 1,oM 1 52 53] (.cond (.t 52) .skip (.reg true [oE 0 54 .eql 51 2,oM 1 52 54]))) (.cond (.t 52) (sr qZI (.reg true qZJ)) qY7)))
def qA7:qG:=.seq (sr [oM 0 129 11,oE 1 130 .neq 129 7] (.cond (.t 130) (.reg true [oM 0 131 1,oM 1 132 3,oD2 2 133 1304 131 132]) .skip)) (sr [oC 0 8 0] .ret)
def qY9:qG:=.seq (sr qZC (.cond (.t 30) (sr [oC 0 8 4] .ret) .skip)) (sr qZG (sr qZH (.seq qY8 (sr [oM 0 126 1,oM 1 127 2,oD2 2 128 1304 126 127] qA7))))
def F979:qJ:=⟨4,134,[.t 8],sr [oC 0 8 0] (sr qZB (.seq (sr [oM 0 23 10,oE 1 24 .neq 23 0] (.cond (.t 24) (sr [oM 0 25 10,oM 1 8 25] .ret) .skip)) qY9))⟩
def qZR:List qA:=[oM 0 10 4,oM 1 11 0,oK 2 12 11,oF 3 13 0 12,oL 4 14 13,oW 5 15 14,oB 6 16 .lss 10 15]
def qZS:List qA:=[oM 0 19 2,oM 1 20 3,oP 2 21 (.bslice 1 (iI 0) 1 [(0,.t 20)]),oP 3 22 (.app 1 (.t 19) (.t 21)),oM 4 2 22]
def qZV:List qA:=[oM 0 23 0,oK 1 24 23,oF 2 25 0 24,oL 3 26 25,oM 4 27 4,oA 5 28 5 26 27,oF 6 29 0 28,oL 7 30 29,oE 8 31 .neq 30 0]
def qZP:qG:=.seq (.blk 1 (sr qZS (sr qZV (.cond (.t 31) (.reg true [oM 0 32 3,oE 1 33 .add 32 1,oM 2 3 33]) .skip)))) (.reg true [oM 0 17 4,oE 1 18 .add 17 1,oM 2 4 18])
def qZW:List qA:=[oM 0 35 6,oM 1 36 0,oK 2 37 36,oF 3 38 0 37,oL 4 39 38,oW 5 40 39,oB 6 41 .lss 35 40]
def qZX:List qA:=[oM 0 44 0,oK 1 45 44,oF 2 46 0 45,oL 3 47 46,oM 4 48 6,oA 5 49 5 47 48,oF 6 50 0 49,oL 7 51 50,oE 8 52 .neq 51 0]
def qZY:List qA:=[oM 0 53 0,oK 1 54 53,oF 2 55 0 54,oL 3 56 55,oM 4 57 6,oA 5 58 5 56 57,oD1 6 59 837 58,oP 7 7 (.lalloc (.agg [iI 0,iI 0,iI 0,.nils,.nils])),oS 8 7 0 5 59]
def qZZ:List qA:=[oM 0 60 8,oU 1 61 7,oX 2 62 7 4,oW 3 63 62,oB 4 64 .lss 60 63]
def qZ0:List qA:=[oU 0 67 7,oX 1 68 7 4,oM 2 69 8,oM 3 70 2,oU 4 71 7,oX 5 72 7 4,oM 6 73 8,oA 7 74 2 72 73,oF 8 75 0 74,oL 9 76 75,oA 10 77 1 70 76,oL 11 78 77,oA 12 79 2 68 69,oF 13 80 0 79,oT 14 1 80 78]
def qZQ:qG:=sr [oC 0 8 0] (.blk 4 (.loop (.seq (sr qZZ (.cond (.t 64) .skip (.exit 4))) (.seq (.blk 5 (.reg true qZ0)) (.reg true [oM 0 65 8,oE 1 66 .add 65 1,oM 2 8 66])))))
def qZT:List qA:=[oM 0 81 5,oY 1 82 7 0 5,oP 2 83 (.bslice 5 (.agg [iI 0,iI 0,iI 0,.nils,.nils]) 1 [(0,.t 82)]),oP 3 84 (.app 5 (.t 81) (.t 83)),oM 4 5 84]
def qZN:qG:=.loop (.seq (sr qZW (.cond (.t 41) .skip (.exit 2))) (.seq (.blk 3 (sr qZX (.cond (.t 52) (sr qZY (.seq qZQ (.reg true qZT))) .skip))) (.reg true [oM 0 42 6,oE 1 43 .add 42 1,oM 2 6 43])))
def qZU:List qA:=[oM 0 85 0,oM 1 86 5,oK 2 87 85,oF 3 88 0 87,oT 4 1 88 86]
def qZO:qG:=.seq (sr [oC 0 4 0] (.blk 0 (.loop (.seq (sr qZR (.cond (.t 16) .skip (.exit 0))) qZP)))) (sr [oP 0 34 (.mov (.c (.lst 5 [] true))),oM 1 5 34] (.seq (sr [oC 0 6 0] (.blk 2 qZN)) (.reg true qZU)))
def F981:qJ:=⟨1,89,[],sr [oP 0 9 (.mov (.c (.lst 1 [] true))),oM 1 2 9] (sr [oC 0 3 0] qZO)⟩
def qZ1:List qA:=[oY 0 5 3 0 1,oD1 1 6 798 5,oM 2 7 0,oP 3 8 (.mkmap),oP 4 9 (.build (.agg [.nils,.nils,.nilm]) [(0,1,.t 6),(1,1,.t 7),(2,1,.t 8)]),oP 5 10 (.hbox 3 (.t 9)),oM 6 4 10]
def F982:qJ:=⟨2,11,[.t 4],sr [oP 0 3 (.lbox 1 (.t 1)),oP 1 4 (.mov (.c (.nilp)))] (sr qZ1 .ret)⟩
def qNU:List qA:=[oY 0 9 2 0 1,oD1 1 10 798 9,oP 2 6 (.lalloc (.agg [.nils])),oS 3 6 0 1 10]
def qNV:List qA:=[oU 0 11 6,oX 1 12 6 0,oW 2 13 12,oC 3 14 0]
def qNW:List qA:=[oU 0 17 6,oX 1 18 6 0,oM 2 19 7,oA 3 20 5 18 19,oM 4 8 20]
def qNX:List qA:=[oM 0 21 8,oK 1 22 21,oF 2 23 0 22,oL 3 24 23,oD1 4 25 1375 24,oJ 5 26 25]
def qNY:List qA:=[oM 0 27 8,oK 1 28 27,oF 2 29 1 28,oL 3 30 29,oM 4 31 1,oB 5 32 .add 30 31,oK 6 33 27,oF 7 34 1 33,oT 8 1 34 32]
def qNZ:List qA:=[oM 0 35 8,oK 1 36 35,oF 2 37 1 36,oL 3 38 37,oE 4 39 .gtr 38 8]
def qNS:qG:=sr [oM 0 16 14,oM 1 7 16] (sr qNW (.seq (sr qNX (.cond (.t 26) (.exit 1) .skip)) (sr qNY (sr qNZ (.cond (.t 39) (sr [oP 0 40 (.build (.agg [.nils]) []),oS 1 4 0 1 40,oQ 2 5 false] .ret) .skip)))))
def qNT:qG:=.seq (sr qNV (.blk 0 (.loop (sr [oB 0 15 .lss 14 13] (.seq (.cond (.t 15) .skip (.exit 0)) (.seq (.blk 1 qNS) (.reg true [oE 0 41 .add 14 1,oM 1 14 41]))))))) (sr [oY 0 42 6 0 1,oS 1 4 0 1 42,oQ 2 5 true] .ret)
def qAI:qJ:=⟨2,43,[.l 4 (some 1),.t 5],sr [oP 0 2 (.lbox 1 (.t 0)),oP 1 4 (.lalloc (.agg [.nils])),oQ 2 5 false] (sr qNU qNT)⟩
def qJR:List qA:=[oP 0 3 (.lbox 2 (.t 1)),oC 1 4 0,oC 2 5 0,oC 3 6 0,oC 4 7 0]
def qJS:List qA:=[oM 0 13 0,oK 1 14 13,oF 2 15 0 14,oY 3 16 3 0 2,oD2 4 17 751 15 16,oM 5 12 17,oV 6 18 12 0,oV 7 19 12 1,oM 8 4 18,oM 9 8 19]
def qJU:List qA:=[oU 0 20 3,oX 1 21 3 0,oU 2 22 3,oX 3 23 3 1,oM 4 5 21,oM 5 6 23]
def qJV:List qA:=[oM 0 25 6,oM 1 26 5,oM 2 5 25,oM 3 6 26]
def qJW:List qA:=[oC 0 4 0,oC 1 5 0,oC 2 6 0,oC 3 7 11]
def qJX:List qA:=[oM 0 32 0,oK 1 33 32,oF 2 34 0 33,oF 3 35 0 34,oL 4 36 35,oM 5 37 5,oA 6 38 5 36 37,oP 7 39 (.load (some 5) (.t 38)),oP 8 9 (.lalloc (.agg [.int .i64 0,.int .i64 0,.int .i64 0,.nils,.nils])),oS 9 9 0 5 39]
def qJY:List qA:=[oU 0 40 9,oX 1 41 9 2,oM 2 42 0,oK 3 43 42,oF 4 44 1 43,oL 5 45 44,oW 6 46 45,oB 7 47 .geq 41 46]
def qJZ:List qA:=[oC 0 4 0,oC 1 5 0,oC 2 6 0,oC 3 7 3]
def qJ0:List qA:=[oM 0 49 0,oK 1 50 49,oF 2 51 1 50,oL 3 52 51,oU 4 53 9,oX 5 54 9 2,oA 6 55 1 52 54,oP 7 56 (.load (some 1) (.t 55)),oU 8 57 9,oX 9 58 9 1,oP 14 10 (.lalloc (.agg [.nils])),oD2 10 59 1456 56 58,oM 11 48 59,oV 12 60 48 0,oV 13 61 48 1,oS 15 10 0 1 60,oM 16 11 61]
def qJ1:List qA:=[oC 0 4 0,oC 1 5 0,oC 2 6 0,oC 3 7 9]
def qJP:qG:=sr [oE 0 31 .eql 27 7,oM 1 30 31] (.cond (.t 30) (sr qJX (.seq (sr qJY (.cond (.t 47) (sr qJZ .ret) .skip)) (sr qJ0 (sr [oM 0 62 11,oJ 1 63 62] (.cond (.t 63) (sr qJ1 .ret) .skip))))) .skip)
def qJT:List qA:=[oM 0 64 4,oM 1 65 5,oM 2 66 6,oM 3 4 64,oM 4 5 65,oM 5 6 66,oC 6 7 0]
def qJQ:qG:=.seq (sr [oM 0 24 8] (.cond (.t 24) (.reg true qJV) .skip)) (.seq (sr [oM 0 27 4] (.blk 0 (sr [oE 0 29 .eql 27 8,oM 1 28 29] (.cond (.t 28) (sr qJW .ret) qJP)))) (sr qJT .ret))
def kL:qJ:=⟨2,67,[.t 4,.t 5,.t 6,.t 7],sr qJR (sr qJS (sr qJU qJQ))⟩
def qJ2:List qA:=[oM 0 3 0,oK 1 4 3,oF 2 5 0 4,oF 3 6 0 5,oL 4 7 6,oW 5 8 7,oM 6 9 0,oK 7 10 9,oF 8 11 2 10,oL 9 12 11,oP 10 13 (.mlen (.t 12)),oB 11 14 .sub 8 13,oM 12 2 14]
def XE:qJ:=⟨1,15,[.t 2],sr [oC 0 2 0] (sr qJ2 .ret)⟩
def qN7:qG:=sr [oE 0 22 .eql 9 7,oM 1 21 22] (.cond (.t 21) (.reg true [oC 0 6 2,oC 1 7 600,oP 2 8 (.mov (.c (iI (-2))))]) (sr [oC 0 4 0,oC 1 5 2] .ret))
def qN8:qG:=sr [oE 0 18 .eql 9 5,oM 1 17 18] (.cond (.t 17) (.reg true [oP 0 8 (.mov (.c (iI (-1))))]) (sr [oE 0 20 .eql 9 6,oM 1 19 20] (.cond (.t 19) (.reg true [oC 0 7 3,oP 1 8 (.mov (.c (iI (-1))))]) qN7)))
def qN9:qG:=sr [oE 0 14 .eql 9 3,oM 1 13 14] (.cond (.t 13) (.reg true [oC 0 7 3]) (sr [oE 0 16 .eql 9 4,oM 1 15 16] (.cond (.t 15) (.reg true [oC 0 7 3,oP 1 8 (.mov (.c (iI (-2))))]) qN8)))
def qOA:qG:=sr [oM 0 9 0] (.blk 0 (.seq (sr [oE 0 11 .eql 9 1,oM 1 10 11] (.cond (.t 10) .skip (.reg true [oE 0 12 .eql 9 2,oM 1 10 12]))) (.cond (.t 10) (.reg true [oP 0 8 (.mov (.c (iI (-2))))]) qN9)))
def qOC:List qA:=[oM 0 23 1,oM 1 24 6,oB 2 25 .lss 23 24,oM 3 26 25,oH 4 27 26 false 1,oH 5 28 26 false 7,oG 6 29 26 false (.bin .gtr (.t 27) (.t 28)),oPt 7 30 26 29]
def qOD:List qA:=[oM 0 31 1,oM 1 32 8,oB 2 33 .add 31 32,oM 3 4 33,oC 4 5 0]
def qOB:qG:=sr [oC 0 6 0,oC 1 7 0,oC 2 8 0] (.seq qOA (.seq (sr qOC (.cond (.t 30) (sr [oC 0 4 0,oC 1 5 2] .ret) .skip)) (sr qOD .ret)))
def qAK:qJ:=⟨2,34,[.t 4,.t 5],sr [oC 0 4 0,oC 1 5 0] qOB⟩
def qJ5:List qA:=[oM 0 16 0,oK 1 17 16,oF 2 18 0 17,oF 3 19 0 18,oL 4 20 19,oM 5 21 3,oA 6 22 5 20 21,oF 7 23 4 22,oL 8 24 23,oW 9 25 24,oE 10 26 .sub 25 1,oM 11 9 26]
def qJ6:List qA:=[oM 0 29 0,oK 1 30 29,oF 2 31 0 30,oF 3 32 0 31,oL 4 33 32,oM 5 34 2,oA 6 35 5 33 34,oF 7 36 0 35,oL 8 37 36,oE 9 38 .eql 37 9]
def qJ7:List qA:=[oM 0 39 0,oK 1 40 39,oF 2 41 0 40,oF 3 42 0 41,oL 4 43 42,oM 5 44 2,oA 6 45 5 43 44,oF 7 46 4 45,oL 8 47 46,oW 9 48 47,oE 10 49 .sub 48 1,oM 11 9 49]
def qJ8:List qA:=[oM 0 52 0,oK 1 53 52,oF 2 54 1 53,oL 3 55 54,oM 4 56 0,oK 5 57 56,oF 6 58 0 57,oF 7 59 0 58,oL 8 60 59,oM 9 61 2,oA 10 62 5 60 61,oF 11 63 2 62,oL 12 64 63,oA 13 65 1 55 64,oF 14 66 0 65,oL 15 67 66,oW 16 68 67,oM 17 9 68]
def qJ3:qG:=sr [oE 0 28 .eql 12 6,oM 1 27 28] (.cond (.t 27) (sr qJ6 (.cond (.t 38) (.reg true qJ7) .skip)) (sr [oE 0 51 .eql 12 7,oM 1 50 51] (.cond (.t 50) (.reg true qJ8) .skip)))
def qJ4:qG:=sr [oM 0 12 1] (.blk 0 (.seq (sr [oE 0 14 .eql 12 3,oM 1 13 14] (.cond (.t 13) .skip (.reg true [oE 0 15 .eql 12 4,oM 1 13 15]))) (.cond (.t 13) (.reg true qJ5) qJ3)))
def qJ9:List qA:=[oM 0 70 1,oM 1 71 9,oD2 2 72 1461 70 71,oM 3 69 72,oV 4 73 69 0,oV 5 74 69 1,oM 6 10 73,oM 7 11 74]
def kM:qJ:=⟨4,76,[.t 8],sr [oC 0 8 0] (sr [oC 0 9 0] (.seq qJ4 (sr qJ9 (sr [oM 0 75 10,oM 1 8 75] .ret))))⟩
def qGI:List qA:=[oM 0 6 0,oK 1 7 6,oF 2 8 0 7,oL 3 9 8,oU 4 10 4,oX 5 11 4 0,oA 6 12 5 9 11,oF 7 13 4 12,oL 8 14 13,oU 9 15 4,oX 10 16 4 1,oY 11 17 5 0 2,oA 12 18 2 14 16,oT 13 2 18 17]
def qGJ:List qA:=[oM 0 19 0,oK 1 20 19,oF 2 21 0 20,oL 3 22 21,oU 4 23 5,oX 5 24 5 0,oA 6 25 5 22 24,oF 7 26 4 25,oL 8 27 26,oU 9 28 5,oX 10 29 5 1,oY 11 30 4 0 2,oA 12 31 2 27 29,oT 13 2 31 30]
def Km:qJ:=⟨3,32,[],sr [oP 0 4 (.lbox 2 (.t 1)),oP 1 5 (.lbox 2 (.t 2))] (sr qGI (.reg true qGJ))⟩
def qKA:List qA:=[oM 0 8 0,oK 1 9 8,oF 2 10 0 9,oY 3 11 4 0 2,oM 5 13 0,oK 6 14 13,oF 7 15 0 14,oY 8 16 5 0 2,oP 10 6 (.lalloc (.agg [iI 0,iI 0])),oP 11 7 (.lalloc (.agg [iI 0,iI 0])),oD2 4 12 555 10 11,oD2 9 17 555 15 16,oS 12 6 0 2 12,oS 13 7 0 2 17]
def qKB:List qA:=[oM 0 21 0,oK 1 22 21,oF 2 23 0 22,oY 3 24 6 0 2,oY 4 25 7 0 2,oP 5 26 (.call 1196 [.t 23,.t 24,.t 25])]
def kN:qJ:=⟨3,27,[],sr [oP 0 4 (.lbox 2 (.t 1)),oP 1 5 (.lbox 2 (.t 2))] (sr qKA (sr [oY 0 18 6 0 2,oY 1 19 5 0 2,oP 2 20 (.seq true [1,1] (.t 18) (.t 19))] (.cond (.t 20) (.reg true qKB) .skip)))⟩
def qKR:List qA:=[oM 0 6 0,oK 1 7 6,oF 2 8 0 7,oM 3 9 0,oK 4 10 9,oF 5 11 0 10,oY 6 12 4 0 2,oY 8 14 5 0 2,oD2 7 13 555 11 12,oP 9 15 (.call 1196 [.t 8,.t 13,.t 14])]
def kP:qJ:=⟨3,16,[],sr [oP 0 4 (.lbox 2 (.t 1)),oP 1 5 (.lbox 2 (.t 2))] (.reg true qKR)⟩
def qKS:List qA:=[oM 0 13 0,oM 1 14 0,oK 2 15 14,oF 3 16 0 15,oF 4 17 0 16,oL 5 18 17,oM 6 19 1,oM 7 20 2,oM 8 21 3,oM 9 22 4,oM 11 24 5,⟨10,some 23,none,.call 401 [.t 22],[⟨5,some 18,none,.load none (.t 17),[]⟩]⟩,oP 12 25 (.mksl 2 (.agg [iI 0,iI 0]) (.t 24) (.t 24)),oP 13 26 (.build (.agg [iI 0,iI 0,iI 0,.nils,.nils]) [(0,1,.t 19),(1,1,.t 20),(2,1,.t 21),(3,1,.t 23),(4,1,.t 25)]),oP 14 27 (.bslice 5 (.agg [iI 0,iI 0,iI 0,.nils,.nils]) 1 [(0,.t 26)]),oP 15 28 (.app 5 (.t 18) (.t 27)),oK 16 29 13,oF 17 30 0 29,oF 18 31 0 30,oT 19 1 31 28]
def qKT:List qA:=[oM 0 32 0,oK 1 33 32,oF 2 34 0 33,oF 3 35 0 34,oL 4 36 35,oW 5 37 36,oE 6 38 .sub 37 1,oM 7 12 38]
def kQ:qJ:=⟨6,39,[.t 12],sr [oC 0 12 0] (.seq (.reg false qKS) (sr qKT .ret))⟩
def qKF:List qA:=[oM 0 14 0,oK 1 15 14,oF 2 16 0 15,oF 3 17 0 16,oL 4 18 17,oM 5 19 2,oA 6 20 5 18 19,oP 7 21 (.load (some 5) (.t 20)),oP 8 6 (.lalloc (.agg [iI 0,iI 0,iI 0,.nils,.nils])),oS 9 6 0 5 21]
def qKG:List qA:=[oM 0 22 0,oU 1 23 6,oX 2 24 6 0,oU 3 25 6,oX 4 26 6 1,oU 5 27 6,oX 6 28 6 2,oU 7 29 6,oX 8 30 6 3,oU 9 31 6,oX 10 32 6 4,oW 11 33 32,oP 12 34 (.call 1311 [.t 22,.t 24,.t 26,.t 28,.t 30,.t 33]),oM 13 7 34]
def qKK:List qA:=[oM 0 35 0,oU 1 36 6,oX 2 37 6 0,oU 3 38 6,oX 4 39 6 1,oU 5 40 6,oX 6 41 6 2,oU 7 42 6,oX 8 43 6 3,oU 9 44 6,oX 10 45 6 4,oW 11 46 45,oP 12 47 (.call 1311 [.t 35,.t 37,.t 39,.t 41,.t 43,.t 46]),oM 13 8 47]
def qKL:List qA:=[oM 0 48 10,oU 1 49 6,oX 2 50 6 4,oW 3 51 50,oB 4 52 .lss 48 51]
def qKM:List qA:=[oM 0 55 0,oM 1 56 0,oK 2 57 56,oF 3 58 0 57,oF 4 59 0 58,oL 5 60 59,oM 6 61 1,oA 7 62 5 60 61,oF 8 63 1 62,oL 9 64 63,oP 10 65 (.call 1311 [.t 55,.c (iI 4),.t 64,.c (iI 0),.c (.nils),.c (iI 3)]),oM 11 11 65]
def qKN:List qA:=[oM 0 66 0,oK 1 67 66,oF 2 68 0 67,oM 3 69 11,oP 4 70 (.build (.agg [iI 0,iI 0]) [(0,1,.t 69),(1,1,.c (iI 1))]),oM 5 71 7,oM 6 72 10,oP 7 73 (.build (.agg [iI 0,iI 0]) [(0,1,.t 71),(1,1,.t 72)]),oP 8 74 (.call 1196 [.t 68,.t 70,.t 73])]
def qKO:List qA:=[oM 0 75 0,oK 1 76 75,oF 2 77 0 76,oM 3 78 11,oP 4 79 (.build (.agg [iI 0,iI 0]) [(0,1,.t 78),(1,1,.c (iI 2))]),oM 5 80 8,oM 6 81 10,oP 7 82 (.build (.agg [iI 0,iI 0]) [(0,1,.t 80),(1,1,.t 81)]),oP 8 83 (.call 1196 [.t 77,.t 79,.t 82])]
def qKP:List qA:=[oM 0 84 9,oM 1 85 11,oP 2 86 (.bslice 1 (iI 0) 1 [(0,.t 85)]),oP 3 87 (.app 1 (.t 84) (.t 86)),oM 4 9 87]
def qKE:qG:=.seq (sr qKL (.cond (.t 52) .skip (.exit 0))) (.seq (.blk 1 (sr qKM (sr qKN (sr qKO (.reg true qKP))))) (.reg true [oM 0 53 10,oE 1 54 .add 53 1,oM 2 10 54]))
def qKQ:List qA:=[oM 0 88 0,oM 1 89 1,oP 2 90 (.build (.agg [iI 0,iI 0]) [(0,1,.t 89),(1,1,.c (iI 1))]),oM 3 91 7,oP 4 92 (.build (.agg [iI 0,iI 0]) [(0,1,.t 91),(1,1,.c (iI 0))]),oP 5 93 (.call 1310 [.t 88,.t 90,.t 92])]
def qKH:List qA:=[oM 0 94 0,oM 1 95 1,oP 2 96 (.build (.agg [iI 0,iI 0]) [(0,1,.t 95),(1,1,.c (iI 2))]),oM 3 97 8,oP 4 98 (.build (.agg [iI 0,iI 0]) [(0,1,.t 97),(1,1,.c (iI 0))]),oP 5 99 (.call 1310 [.t 94,.t 96,.t 98])]
def qKI:List qA:=[oM 0 104 102,oA 1 105 1 100 102,oL 2 106 105,oM 3 12 104,oM 4 13 106]
def qKJ:List qA:=[oM 0 107 0,oM 1 108 2,oM 2 109 12,oE 3 110 .add 109 1,oP 4 111 (.build (.agg [iI 0,iI 0]) [(0,1,.t 108),(1,1,.t 110)]),oM 5 112 13,oP 6 113 (.build (.agg [iI 0,iI 0]) [(0,1,.t 112),(1,1,.c (iI 0))]),oP 7 114 (.call 1310 [.t 107,.t 111,.t 113])]
def qKC:qG:=.loop (sr [oB 0 103 .lss 102 101] (.seq (.cond (.t 103) .skip (.exit 2)) (.seq (.blk 3 (sr qKI (.reg true qKJ))) (.reg true [oE 0 115 .add 102 1,oM 1 102 115]))))
def qKD:qG:=.seq (sr [oC 0 10 1] (.blk 0 (.loop qKE))) (sr qKQ (sr qKH (sr [oM 0 100 9,oW 1 101 100,oC 2 102 0] (.blk 2 qKC))))
def kO:qJ:=⟨3,116,[],sr qKF (sr qKG (sr qKK (sr [oP 0 9 (.mov (.c (.nils)))] qKD)))⟩
def F566:qJ:=⟨1,4,[.t 2],sr [oC 0 2 0] (.seq (sr [oM 0 3 0] (.cond (.t 3) (sr [oC 0 2 1] .ret) .skip)) (sr [oC 0 2 0] .ret))⟩
def qM6:List qA:=[oM 0 3 0,oP 1 4 (.conv .i32 (.t 3)),oP 2 5 (.conv .i64 (.t 4)),oM 3 2 5]
def qAB:qJ:=⟨1,6,[.t 2],sr [oC 0 2 0] (sr qM6 .ret)⟩
def qF4:List qA:=[oM 0 9 1,oD1 1 10 1400 9,oM 2 11 2,oD1 3 12 1400 11,oM 4 7 10,oM 5 8 12]
def qF5:List qA:=[oM 0 16 7,oM 1 17 8,oB 2 18 .add 16 17,oD1 3 19 1400 18,oM 4 6 19]
def qF6:List qA:=[oM 0 22 7,oM 1 23 8,oB 2 24 .sub 22 23,oD1 3 25 1400 24,oM 4 6 25]
def qF7:List qA:=[oM 0 28 7,oM 1 29 8,oB 2 30 .mul 28 29,oD1 3 31 1400 30,oM 4 6 31]
def qF8:List qA:=[oM 0 36 7,oM 1 37 8,oB 2 38 .quo 36 37,oD1 3 39 1400 38,oM 4 6 39]
def qF9:List qA:=[oM 0 42 7,oM 1 43 8,oB 2 44 .lss 42 43,oD1 3 45 566 44,oM 4 6 45]
def qGA:List qA:=[oM 0 48 7,oM 1 49 8,oB 2 50 .eql 48 49,oD1 3 51 566 50,oM 4 6 51]
def qF1:qG:=.cond (.t 32) (.seq (sr [oM 0 34 8,oE 1 35 .eql 34 0] (.cond (.t 35) (sr [oC 0 6 0] .ret) .skip)) (sr qF8 .ret)) (sr [oE 0 41 .eql 13 5,oM 1 40 41] (.cond (.t 40) (sr qF9 .ret) (sr [oE 0 47 .eql 13 6,oM 1 46 47] (.cond (.t 46) (sr qGA .ret) .skip))))
def qF2:qG:=sr [oE 0 21 .eql 13 2,oM 1 20 21] (.cond (.t 20) (sr qF6 .ret) (sr [oE 0 27 .eql 13 3,oM 1 26 27] (.cond (.t 26) (sr qF7 .ret) (sr [oE 0 33 .eql 13 4,oM 1 32 33] qF1))))
def qF3:qG:=sr qF4 (.seq (sr [oM 0 13 0] (.blk 0 (sr [oE 0 15 .eql 13 1,oM 1 14 15] (.cond (.t 14) (sr qF5 .ret) qF2)))) (sr [oC 0 6 0] .ret))
def Kh:qJ:=⟨3,52,[.t 6],sr [oC 0 6 0] qF3⟩
def qKU:List qA:=[oM 0 9 0,oK 1 10 9,oF 2 11 0 10,oF 3 12 0 11,oL 4 13 12,oM 5 14 1,oA 6 15 5 13 14,oF 7 16 2 15,oL 8 17 16,oM 9 18 0,oK 10 19 18,oF 11 20 0 19,oF 12 21 0 20,oL 13 22 21,oM 14 23 2,oA 15 24 5 22 23,oP 16 25 (.load (some 5) (.t 24)),oP 17 7 (.lalloc (.agg [iI 0,iI 0,iI 0,.nils,.nils])),oM 18 6 17,oS 19 7 0 5 25]
def qKV:List qA:=[oM 0 29 0,oU 1 30 7,oX 2 31 7 1,oU 3 32 7,oX 4 33 7 2,oM 5 34 6,oP 6 35 (.bslice 1 (iI 0) 1 [(0,.t 34)]),oP 7 36 (.call 1311 [.t 29,.c (iI 8),.t 31,.t 33,.t 35,.c (iI 2)]),oM 8 8 36]
def qKW:List qA:=[oM 0 37 0,oM 1 38 2,oP 2 39 (.build (.agg [iI 0,iI 0]) [(0,1,.t 38),(1,1,.c (iI 1))]),oM 3 40 8,oP 4 41 (.build (.agg [iI 0,iI 0]) [(0,1,.t 40),(1,1,.c (iI 0))]),oP 5 42 (.call 1310 [.t 37,.t 39,.t 41])]
def qKX:List qA:=[oM 0 43 0,oM 1 44 2,oP 2 45 (.build (.agg [iI 0,iI 0]) [(0,1,.t 44),(1,1,.c (iI 2))]),oM 3 46 8,oP 4 47 (.build (.agg [iI 0,iI 0]) [(0,1,.t 46),(1,1,.c (iI 1))]),oP 5 48 (.call 1310 [.t 43,.t 45,.t 47])]
def qKY:List qA:=[oM 0 49 0,oM 1 50 2,oP 2 51 (.build (.agg [iI 0,iI 0]) [(0,1,.t 50),(1,1,.c (iI 1))]),oM 3 52 0,oU 4 53 7,oX 5 54 7 2,oU 6 55 7,oX 7 56 7 3,oP 8 57 (.iaddr 1 (.t 56) (.c (iI 0))),oL 9 58 57,oM 10 59 6,oP 11 60 (.call 1118 [.t 54,.t 58,.t 59]),oP 12 61 (.call 1311 [.t 52,.c (iI 6),.c (iI 0),.t 60,.c (.nils),.c (iI 1)]),oP 13 62 (.build (.agg [iI 0,iI 0]) [(0,1,.t 61),(1,1,.c (iI 0))]),oP 14 63 (.call 1310 [.t 49,.t 51,.t 62])]
def kR:qJ:=⟨3,64,[],sr qKU (.seq (sr [oU 0 26 7,oX 1 27 7 0,oE 2 28 .eql 27 7] (.cond (.t 28) (sr qKV (sr qKW (sr qKX .ret))) .skip)) (.reg true qKY))⟩
def qK2:List qA:=[oM 0 13 0,oK 1 14 13,oF 2 15 0 14,oF 3 16 0 15,oL 4 17 16,oM 5 18 1,oA 6 19 5 17 18,oP 7 20 (.load (some 5) (.t 19)),oM 8 21 0,oK 9 22 21,oF 10 23 0 22,oF 11 24 0 23,oL 12 25 24,oM 13 26 2,oA 14 27 5 25 26,oP 15 28 (.load (some 5) (.t 27)),oP 16 6 (.lalloc (.agg [iI 0,iI 0,iI 0,.nils,.nils])),oP 17 7 (.lalloc (.agg [iI 0,iI 0,iI 0,.nils,.nils])),oS 18 6 0 5 20,oS 19 7 0 5 28]
def qK3:List qA:=[oM 0 32 0,oM 1 33 2,oP 2 34 (.build (.agg [iI 0,iI 0]) [(0,1,.t 33),(1,1,.c (iI 1))]),oM 3 35 0,oU 4 36 7,oX 5 37 7 1,oU 6 38 7,oX 7 39 7 3,oU 8 40 6,oX 9 41 6 2,oE 10 42 .eql 41 0,oD1 11 43 566 42,oA 12 44 1 39 43,oL 13 45 44,oP 14 46 (.call 1311 [.t 35,.c (iI 12),.t 37,.t 45,.c (.nils),.c (iI 1)]),oP 15 47 (.build (.agg [iI 0,iI 0]) [(0,1,.t 46),(1,1,.c (iI 0))]),oP 16 48 (.call 1310 [.t 32,.t 34,.t 47])]
def qK5:List qA:=[oM 0 49 0,oU 1 50 7,oX 2 51 7 1,oU 3 52 7,oX 4 53 7 3,oU 5 54 6,oX 6 55 6 2,oA 7 56 1 53 55,oL 8 57 56,oP 11 8 (.lalloc (.agg [iI 0,iI 0])),oP 9 58 (.call 1311 [.t 49,.c (iI 12),.t 51,.t 57,.c (.nils),.c (iI 1)]),oP 10 59 (.build (.agg [iI 0,iI 0]) [(0,1,.t 58),(1,1,.c (iI 0))]),oS 12 8 0 2 59]
def qK6:List qA:=[oU 0 60 6,oX 1 61 6 4,oW 2 62 61,oE 3 63 .sub 62 1,oC 4 64 0]
def qK7:List qA:=[oM 0 66 0,oU 1 67 7,oX 2 68 7 1,oP 3 69 (.call 1311 [.t 66,.c (iI 3),.t 68,.c (iI 0),.c (.nils),.c (iI 3)]),oM 4 10 69]
def qK8:List qA:=[oM 0 70 0,oK 1 71 70,oF 2 72 0 71,oM 3 73 10,oP 4 74 (.build (.agg [iI 0,iI 0]) [(0,1,.t 73),(1,1,.c (iI 0))]),oY 5 75 8 0 2,oP 6 76 (.call 1196 [.t 72,.t 74,.t 75])]
def qK9:List qA:=[oM 0 79 9,oM 1 80 10,oP 2 81 (.bslice 1 (iI 0) 1 [(0,.t 80)]),oP 3 82 (.app 1 (.t 79) (.t 81)),oM 4 9 82]
def qK1:qG:=.seq (.blk 1 (sr qK7 (sr qK8 (sr [oM 0 77 10,oP 1 78 (.build (.agg [iI 0,iI 0]) [(0,1,.t 77),(1,1,.c (iI 2))]),oS 2 8 0 2 78] (.reg true qK9))))) (.reg true [oE 0 83 .add 64 1,oM 1 64 83])
def qLA:List qA:=[oM 0 88 86,oA 1 89 1 84 86,oL 2 90 89,oM 3 11 88,oM 4 12 90]
def qLB:List qA:=[oM 0 91 0,oM 1 92 1,oM 2 93 11,oE 3 94 .add 93 1,oP 4 95 (.build (.agg [iI 0,iI 0]) [(0,1,.t 92),(1,1,.t 94)]),oM 5 96 12,oP 6 97 (.build (.agg [iI 0,iI 0]) [(0,1,.t 96),(1,1,.c (iI 1))]),oP 7 98 (.call 1310 [.t 91,.t 95,.t 97])]
def qKZ:qG:=.loop (sr [oB 0 87 .lss 86 85] (.seq (.cond (.t 87) .skip (.exit 2)) (.seq (.blk 3 (sr qLA (.reg true qLB))) (.reg true [oE 0 99 .add 86 1,oM 1 86 99]))))
def qK4:List qA:=[oM 0 100 0,oM 1 101 2,oP 2 102 (.build (.agg [iI 0,iI 0]) [(0,1,.t 101),(1,1,.c (iI 1))]),oY 3 103 8 0 2,oP 4 104 (.call 1310 [.t 100,.t 102,.t 103])]
def qK0:qG:=.seq (sr qK6 (.blk 0 (.loop (sr [oB 0 65 .lss 64 63] (.seq (.cond (.t 65) .skip (.exit 0)) qK1))))) (.seq (sr [oM 0 84 9,oW 1 85 84,oC 2 86 0] (.blk 2 qKZ)) (.reg true qK4))
def kS:qJ:=⟨3,105,[],sr qK2 (.seq (sr [oU 0 29 6,oX 1 30 6 0,oE 2 31 .eql 30 6] (.cond (.t 31) (sr qK3 .ret) .skip)) (sr qK5 (sr [oP 0 9 (.mov (.c (.nils)))] qK0)))⟩
def qLE:List qA:=[oM 0 14 0,oK 1 15 14,oF 2 16 1 15,oL 3 17 16,oM 4 18 0,oK 5 19 18,oF 6 20 0 19,oF 7 21 0 20,oL 8 22 21,oM 9 23 1,oA 10 24 5 22 23,oF 11 25 2 24,oL 12 26 25,oA 13 27 1 17 26,oP 14 28 (.load (some 1) (.t 27)),oM 15 29 0,oK 16 30 29,oF 17 31 0 30,oF 18 32 0 31,oL 19 33 32,oM 20 34 1,oA 21 35 5 33 34,oF 22 36 1 35,oL 23 37 36,oD2 24 38 1456 28 37,oM 25 13 38,oV 26 39 13 0,oV 27 40 13 1,oP 28 6 (.halloc 1 (.agg [.nils])),oT 29 1 6 39,oM 30 7 40]
def qLF:List qA:=[oM 0 41 0,oK 1 42 41,oF 2 43 0 42,oF 3 44 0 43,oL 4 45 44,oW 5 46 45,oE 6 47 .sub 46 1,oM 7 8 47]
def qLH:List qA:=[oP 0 48 (.build (.agg [iI 0,iI 0]) [(0,1,.c (iI 0)),(1,1,.c (iI 0))]),oD2 1 49 555 6 48,oP 2 9 (.lalloc (.agg [iI 0,iI 0])),oS 3 9 0 2 49]
def qLI:List qA:=[oF 0 50 0 6,oL 1 51 50,oP 2 52 (.slc 5 (.t 51) (some (.c (iI 1))) none none),oW 3 53 52,oC 4 54 0]
def qLJ:List qA:=[oA 0 56 5 52 54,oP 1 57 (.load (some 5) (.t 56)),oP 2 11 (.lalloc (.agg [iI 0,iI 0,iI 0,.nils,.nils])),oS 3 11 0 5 57]
def qLK:List qA:=[oU 0 58 11,oX 1 59 11 4,oW 2 60 59,oC 3 61 0]
def qLL:List qA:=[oU 0 64 11,oX 1 65 11 4,oM 2 66 12,oA 3 67 2 65 66,oF 4 68 0 67,oL 5 69 68,oM 6 70 8,oB 7 71 .add 69 70,oA 8 72 2 65 66,oF 9 73 0 72,oT 10 1 73 71]
def qLC:qG:=sr [oB 0 62 .lss 61 60] (.seq (.cond (.t 62) .skip (.exit 2)) (.seq (.blk 3 (sr [oM 0 63 61,oM 1 12 63] (.reg true qLL))) (.reg true [oE 0 74 .add 61 1,oM 1 61 74])))
def qLM:List qA:=[oM 0 75 0,oM 1 76 0,oK 2 77 76,oF 3 78 0 77,oF 4 79 0 78,oL 5 80 79,oY 6 81 11 0 5,oP 7 82 (.bslice 5 (.agg [iI 0,iI 0,iI 0,.nils,.nils]) 1 [(0,.t 81)]),oP 8 83 (.app 5 (.t 80) (.t 82)),oK 9 84 75,oF 10 85 0 84,oF 11 86 0 85,oT 12 1 86 83]
def qLD:qG:=sr [oB 0 55 .lss 54 53] (.seq (.cond (.t 55) .skip (.exit 0)) (.seq (.blk 1 (sr qLJ (.seq (sr qLK (.blk 2 (.loop qLC))) (.reg true qLM)))) (.reg true [oE 0 87 .add 54 1,oM 1 54 87])))
def qLG:List qA:=[oM 0 88 0,oK 1 89 88,oF 2 90 0 89,oM 3 91 2,oP 4 92 (.build (.agg [iI 0,iI 0]) [(0,1,.t 91),(1,1,.c (iI 0))]),oU 5 93 9,oX 6 94 9 0,oM 7 95 8,oB 8 96 .add 94 95,oU 9 97 9,oX 10 98 9 1,oP 11 99 (.build (.agg [iI 0,iI 0]) [(0,1,.t 96),(1,1,.t 98)]),oP 12 100 (.call 1196 [.t 90,.t 92,.t 99])]
def kT:qJ:=⟨3,101,[],.seq (.reg false qLE) (sr qLF (sr qLH (.seq (sr qLI (.blk 0 (.loop qLD))) (.reg true qLG))))⟩
def qLO:List qA:=[oM 0 12 0,oK 1 13 12,oF 2 14 2 13,oL 3 15 14,oM 4 16 5,oN 5 (.mupd (.t 15) (.t 16) (.c (.bool true)))]
def qLN:qG:=sr [oB 0 9 .lss 8 7] (.seq (.cond (.t 9) .skip (.exit 0)) (.seq (.blk 1 (sr [oA 0 10 1 6 8,oL 1 11 10,oM 2 5 11] (.reg true qLO))) (.reg true [oE 0 17 .add 8 1,oM 1 8 17])))
def kU:qJ:=⟨2,18,[],sr [oM 0 6 1,oW 1 7 6,oC 2 8 0] (.blk 0 (.loop qLN))⟩
def qZ7:List qA:=[oM 0 11 0,oY 1 12 3 0 2,oD2 2 13 1305 11 12,oM 3 10 13,oV 4 14 10 0,oV 5 15 10 1,oV 6 16 10 2,oV 7 17 10 3,oM 8 5 14,oM 9 6 15,oM 10 7 16,oM 11 8 17]
def qZ8:List qA:=[oM 0 21 0,oD1 1 22 1306 21,oM 2 23 0,oM 3 24 5,oM 4 25 6,oM 5 26 7,oP 6 27 (.call 1307 [.t 23,.t 24,.t 25,.t 26]),oB 7 28 .add 22 27,oE 8 29 .gtr 28 600]
def qaC:List qA:=[oM 0 34 0,oM 1 35 6,oP 2 36 (.build (.agg [iI 0,iI 0]) [(0,1,.t 35),(1,1,.c (iI 1))]),oM 3 37 7,oP 4 38 (.build (.agg [iI 0,iI 0]) [(0,1,.t 37),(1,1,.c (iI 1))]),oP 5 39 (.call 1308 [.t 34,.t 36,.t 38])]
def qaD:List qA:=[oM 0 40 0,oM 1 41 6,oP 2 42 (.build (.agg [iI 0,iI 0]) [(0,1,.t 41),(1,1,.c (iI 2))]),oM 3 43 7,oP 4 44 (.build (.agg [iI 0,iI 0]) [(0,1,.t 43),(1,1,.c (iI 2))]),oP 5 45 (.call 1308 [.t 40,.t 42,.t 44])]
def qaE:List qA:=[oM 0 48 0,oM 1 49 6,oM 2 50 7,oP 3 51 (.call 1309 [.t 48,.t 49,.t 50])]
def qaF:List qA:=[oM 0 54 9,oM 1 55 0,oK 2 56 55,oF 3 57 0 56,oF 4 58 0 57,oL 5 59 58,oM 6 60 7,oA 7 61 5 59 60,oF 8 62 4 61,oL 9 63 62,oW 10 64 63,oB 11 65 .lss 54 64]
def qaG:List qA:=[oM 0 68 0,oM 1 69 7,oM 2 70 9,oP 3 71 (.build (.agg [iI 0,iI 0]) [(0,1,.t 69),(1,1,.t 70)]),oM 4 72 0,oP 5 73 (.call 1311 [.t 72,.c (iI 5),.c (iI 0),.c (iI 0),.c (.nils),.c (iI 1)]),oP 6 74 (.build (.agg [iI 0,iI 0]) [(0,1,.t 73),(1,1,.c (iI 0))]),oP 7 75 (.call 1310 [.t 68,.t 71,.t 74])]
def qZ6:qG:=sr [oC 0 9 1] (.blk 1 (.loop (.seq (sr qaF (.cond (.t 65) .skip (.exit 1))) (.seq (.blk 2 (.reg true qaG)) (.reg true [oM 0 66 9,oE 1 67 .add 66 1,oM 2 9 67])))))
def qaH:List qA:=[oM 0 78 0,oM 1 79 6,oM 2 80 7,oP 3 81 (.call 1312 [.t 78,.t 79,.t 80])]
def qaI:List qA:=[oM 0 84 0,oM 1 85 6,oM 2 86 7,oP 3 87 (.call 1313 [.t 84,.t 85,.t 86])]
def qZ9:List qA:=[oM 0 90 0,oM 1 91 6,oM 2 92 7,oP 3 93 (.call 1314 [.t 90,.t 91,.t 92])]
def qaA:List qA:=[oM 0 94 0,oM 1 95 6,oP 2 96 (.bslice 1 (iI 0) 1 [(0,.t 95)]),oD2 3 97 1315 94 96]
def qZ2:qG:=sr [oE 0 83 .eql 30 6,oM 1 82 83] (.cond (.t 82) (.reg true qaI) (sr [oE 0 89 .eql 30 7,oM 1 88 89] (.cond (.t 88) (sr qZ9 (sr qaA (sr [oC 0 4 0] .ret))) .skip)))
def qZ3:qG:=sr [oE 0 47 .eql 30 3,oM 1 46 47] (.cond (.t 46) (.reg true qaE) (sr [oE 0 53 .eql 30 4,oM 1 52 53] (.cond (.t 52) qZ6 (sr [oE 0 77 .eql 30 5,oM 1 76 77] (.cond (.t 76) (.reg true qaH) qZ2)))))
def qZ4:qG:=sr [oM 0 30 5] (.blk 0 (.seq (sr [oE 0 32 .eql 30 1,oM 1 31 32] (.cond (.t 31) .skip (.reg true [oE 0 33 .eql 30 2,oM 1 31 33]))) (.cond (.t 31) (sr qaC (.reg true qaD)) qZ3)))
def qaB:List qA:=[oM 0 98 0,oM 1 99 6,oM 2 100 7,oP 3 101 (.bslice 1 (iI 0) 2 [(0,.t 99),(1,.t 100)]),oD2 4 102 1315 98 101]
def qZ5:qG:=.seq (sr [oM 0 18 8,oE 1 19 .neq 18 0] (.cond (.t 19) (sr [oM 0 20 8,oM 1 4 20] .ret) .skip)) (.seq (sr qZ8 (.cond (.t 29) (sr [oC 0 4 4] .ret) .skip)) (.seq qZ4 (sr qaB (sr [oC 0 4 0] .ret))))
def F983:qJ:=⟨2,103,[.t 4],sr [oP 0 3 (.lbox 2 (.t 1)),oC 1 4 0] (sr qZ7 qZ5)⟩
def qUA:List qA:=[oM 0 18 16,oA 1 19 1 14 16,oL 2 20 19,oM 3 6 18,oM 4 7 20]
def qUB:List qA:=[oM 0 21 5,oM 1 22 7,oM 2 23 6,oN 3 (.mupd (.t 21) (.t 22) (.t 23))]
def qT6:qG:=.loop (sr [oB 0 17 .lss 16 15] (.seq (.cond (.t 17) .skip (.exit 0)) (.seq (.blk 1 (sr qUA (.reg true qUB))) (.reg true [oE 0 24 .add 16 1,oM 1 16 24]))))
def qUC:List qA:=[oM 0 31 0,oK 1 32 31,oF 2 33 0 32,oL 3 34 33,oM 4 35 10,oA 5 36 5 34 35,oP 6 37 (.load (some 5) (.t 36)),oD1 7 38 1085 37,oP 8 11 (.lalloc (.agg [iI 0,iI 0,iI 0,.nils,.nils])),oS 9 11 0 5 38]
def qUD:List qA:=[oU 0 39 11,oX 1 40 11 4,oW 2 41 40,oC 3 42 0]
def qUE:List qA:=[oU 0 45 11,oX 1 46 11 4,oM 2 47 12,oM 3 48 5,oU 4 49 11,oX 5 50 11 4,oM 6 51 12,oA 7 52 2 50 51,oF 8 53 0 52,oL 9 54 53,oP 10 55 (.look (iI 0) (.t 48) (.t 54) false),oA 11 56 2 46 47,oF 12 57 0 56,oT 13 1 57 55]
def qT7:qG:=sr [oB 0 43 .lss 42 41] (.seq (.cond (.t 43) .skip (.exit 4)) (.seq (.blk 5 (sr [oM 0 44 42,oM 1 12 44] (.reg true qUE))) (.reg true [oE 0 58 .add 42 1,oM 1 42 58])))
def qUF:List qA:=[oU 0 59 8,oX 1 60 8 0,oY 2 61 11 0 5,oP 3 62 (.bslice 5 (.agg [iI 0,iI 0,iI 0,.nils,.nils]) 1 [(0,.t 61)]),oP 4 63 (.app 5 (.t 60) (.t 62)),oU 5 64 8,oS 6 8 0 1 63]
def qT8:qG:=sr [oA 0 29 1 25 27,oL 1 30 29,oM 2 10 30] (sr qUC (.seq (sr qUD (.blk 4 (.loop qT7))) (.reg true qUF)))
def qT9:qG:=sr [oM 0 25 1,oW 1 26 25,oC 2 27 0] (.blk 2 (.loop (sr [oB 0 28 .lss 27 26] (.seq (.cond (.t 28) .skip (.exit 2)) (.seq (.blk 3 qT8) (.reg true [oE 0 65 .add 27 1,oM 1 27 65]))))))
def qT5:qG:=.seq (sr [oM 0 14 1,oW 1 15 14,oC 2 16 0] (.blk 0 qT6)) (sr [oP 0 8 (.lalloc (.agg [.nils]))] (.seq qT9 (sr [oY 0 66 8 0 1,oS 1 4 0 1 66] .ret)))
def F702:qJ:=⟨2,67,[.l 4 (some 1)],sr [oP 0 4 (.lalloc (.agg [.nils]))] (sr [oP 0 13 (.mkmap),oM 1 5 13] qT5)⟩
def qaK:List qA:=[oM 0 5 0,oK 1 6 5,oF 2 7 0 6,oF 3 8 0 7,oL 4 9 8,oW 5 10 9,oC 6 11 0]
def qaL:List qA:=[oM 0 14 0,oK 1 15 14,oF 2 16 2 15,oL 3 17 16,oM 4 18 4,oP 5 19 (.look (.bool false) (.t 17) (.t 18) false),oJ 6 20 19]
def qaM:List qA:=[oM 0 21 3,oM 1 22 4,oP 2 23 (.bslice 1 (iI 0) 1 [(0,.t 22)]),oP 3 24 (.app 1 (.t 21) (.t 23)),oM 4 3 24]
def qaJ:qG:=sr [oB 0 12 .lss 11 10] (.seq (.cond (.t 12) .skip (.exit 0)) (.seq (.blk 1 (sr [oM 0 13 11,oM 1 4 13] (sr qaL (.cond (.t 20) (.reg true qaM) .skip)))) (.reg true [oE 0 25 .add 11 1,oM 1 11 25])))
def qaN:List qA:=[oM 0 26 0,oK 1 27 26,oF 2 28 0 27,oM 3 29 3,oD2 4 30 702 28 29,oS 5 2 0 1 30]
def F985:qJ:=⟨1,31,[.l 2 (some 1)],sr [oP 0 2 (.lalloc (.agg [.nils]))] (sr [oP 0 3 (.mov (.c (.nils)))] (.seq (sr qaK (.blk 0 (.loop qaJ))) (sr qaN .ret)))⟩
def qY4:qG:=.seq (sr [oM 0 5 0,oM 1 6 1,oB 2 7 .lss 5 6] (.cond (.t 7) (sr [oM 0 8 0,oM 1 4 8] .ret) .skip)) (sr [oM 0 9 1,oM 1 4 9] .ret)
def F978:qJ:=⟨2,10,[.t 4],sr [oC 0 4 0] qY4⟩
def qW6:List qA:=[oU 0 5 2,oX 1 6 2 6,oM 2 7 1,oD2 3 8 338 6 7,oM 4 1 8]
def qW7:List qA:=[oU 0 11 2,oX 1 12 2 7,oM 2 13 1,oD2 3 14 338 12 13,oM 4 1 14]
def qW8:List qA:=[oU 0 17 2,oX 1 18 2 8,oM 2 19 1,oD2 3 20 181 18 19,oM 4 1 20]
def qW9:List qA:=[oU 0 23 2,oY 1 24 2 9 1,oM 2 25 1,oD2 3 26 182 24 25,oM 4 1 26]
def qW4:qG:=sr qW9 (.seq (sr [oM 0 27 1,oE 1 28 .lss 27 0] (.cond (.t 28) (sr [oP 0 4 (.mov (.c (iI (-1))))] .ret) .skip)) (sr [oM 0 29 1,oM 1 4 29] .ret))
def qW5:qG:=.seq (sr [oM 0 15 1,oE 1 16 .lss 15 0] (.cond (.t 16) (sr [oP 0 4 (.mov (.c (iI (-1))))] .ret) .skip)) (sr qW8 (.seq (sr [oM 0 21 1,oE 1 22 .lss 21 0] (.cond (.t 22) (sr [oP 0 4 (.mov (.c (iI (-1))))] .ret) .skip)) qW4))
def F959:qJ:=⟨2,30,[.t 4],sr [oP 0 2 (.lbox 10 (.t 0)),oC 1 4 0] (sr qW6 (.seq (sr [oM 0 9 1,oE 1 10 .lss 9 0] (.cond (.t 10) (sr [oP 0 4 (.mov (.c (iI (-1))))] .ret) .skip)) (sr qW7 qW5)))⟩
def F583:qJ:=szS 10 (some 10) 959
def qOZ:List qA:=[oU 0 5 2,oX 1 6 2 3,oM 2 7 1,oD2 3 8 583 6 7,oM 4 1 8]
def qOY:qG:=sr qOZ (.seq (sr [oM 0 9 1,oE 1 10 .lss 9 0] (.cond (.t 10) (sr [oP 0 4 (.mov (.c (iI (-1))))] .ret) .skip)) (sr [oM 0 11 1,oM 1 4 11] .ret))
def F231:qJ:=⟨2,12,[.t 4],sr [oP 0 2 (.lbox 4 (.t 0)),oC 1 4 0] qOY⟩
def qE3:List qA:=[oM 0 4 3,oM 1 5 0,oW 2 6 5,oB 3 7 .lss 4 6]
def qE4:List qA:=[oM 0 10 0,oM 1 11 3,oA 2 12 1 10 11,oL 3 13 12,oP 4 14 (.call 340 [.t 13,.c (iI 0),.c (iI 1000000000)]),oJ 5 15 14]
def qE2:qG:=.loop (.seq (sr qE3 (.cond (.t 7) .skip (.exit 0))) (.seq (.blk 1 (sr qE4 (.cond (.t 15) (sr [oQ 0 2 false] .ret) .skip))) (.reg true [oM 0 8 3,oE 1 9 .add 8 1,oM 2 3 9])))
def qE5:List qA:=[oM 0 16 0,oW 1 17 16,oE 2 18 .eql 17 7,oM 3 2 18]
def Ka:qJ:=⟨1,19,[.t 2],sr [oQ 0 2 false] (.seq (sr [oC 0 3 0] (.blk 0 qE2)) (sr qE5 .ret))⟩
def qGL:List qA:=[oM 0 5 4,oM 1 6 0,oW 2 7 6,oB 3 8 .lss 5 7]
def qGM:List qA:=[oM 0 11 3,oM 1 12 0,oM 2 13 4,oA 3 14 1 12 13,oL 4 15 14,oB 5 16 .add 11 15,oM 6 3 16]
def qGK:qG:=sr [oC 0 4 0] (.blk 0 (.loop (.seq (sr qGL (.cond (.t 8) .skip (.exit 0))) (.seq (.blk 1 (.reg true qGM)) (.reg true [oM 0 9 4,oE 1 10 .add 9 1,oM 2 4 10])))))
def Kn:qJ:=⟨1,18,[.t 2],sr [oC 0 2 0] (sr [oC 0 3 0] (.seq qGK (sr [oM 0 17 3,oM 1 2 17] .ret)))⟩
def qGN:List qA:=[oM 0 3 0,oK 1 4 3,oF 2 5 2 4,oL 3 6 5,oE 4 7 .eql 6 1]
def qGO:List qA:=[oM 0 8 0,oK 1 9 8,oF 2 10 6 9,oL 3 11 10,oD1 4 12 1263 11,oM 5 2 12]
def qGP:List qA:=[oM 0 13 0,oK 1 14 13,oF 2 15 6 14,oL 3 16 15,oD1 4 17 1263 16,oE 5 18 .add 17 1,oM 6 2 18]
def Ko:qJ:=⟨1,19,[.t 2],sr [oC 0 2 0] (.seq (sr qGN (.cond (.t 7) (sr qGO .ret) .skip)) (sr qGP .ret))⟩
def qGQ:List qA:=[oM 0 3 0,oK 1 4 3,oF 2 5 0 4,oL 3 6 5,oW 4 7 6,oE 5 8 .eql 7 0,oM 6 2 8]
def Kp:qJ:=⟨1,9,[.t 2],sr [oQ 0 2 false] (sr qGQ .ret)⟩
def qXB:List qA:=[oM 0 3 0,oK 1 4 3,oF 2 5 1 4,oL 3 6 5,oP 4 7 (.call 340 [.t 6,.c (iI 1),.c (iI 4)]),oJ 5 8 7,oM 6 9 8,oH 7 10 9 false 0,wM 8 11 9 10,jq 9 12 9 2 11,jh 10 13 9 12,oG 11 14 9 false (.call 340 [.t 13,.c (iI 1),.c (iI 4)]),j4 12 15 9 14,oPt 13 16 9 15,oM 14 17 16,oH 15 18 17 false 0,wM 16 19 17 18,jq 17 20 17 4 19,jh 18 21 17 20,oG 19 22 17 false (.call 340 [.t 21,.c (iI 0),.c (iI 4000)]),j4 20 23 17 22,oPt 21 24 17 23,oM 22 25 24,oH 23 26 25 false 0,wM 24 27 25 26,jq 25 28 25 6 27,jh 26 29 25 28,oG 27 30 25 false (.call 1056 [.t 29]),j4 28 31 25 30,oPt 29 32 25 31,oM 30 33 32,oH 31 34 33 false 0,wM 32 35 33 34,jq 33 36 33 6 35,jh 34 37 33 36,oH 36 39 33 false 0,wM 37 40 33 39,jq 38 41 33 4 40,jh 39 42 33 41,⟨35,some 38,(some (33,false)),.call 1263 [.t 37],[⟨39,some 42,(some (33,false)),.load none (.t 41),[]⟩]⟩,oG 40 43 33 false (.bin .add (.t 38) (.t 42)),oG 41 44 33 false (.bin .gtr (.t 43) (.c (iI 4000))),oPt 42 45 33 44,oM 43 46 45,oH 44 47 46 false 0,wM 45 48 46 47,jq 46 49 46 5 48,jh 47 50 46 49,oH 48 51 46 false 0,⟨49,some 52,(some (46,false)),.call 1264 [.t 51],[⟨47,some 50,(some (46,false)),.load none (.t 49),[]⟩]⟩,oG 50 53 46 false (.call 340 [.t 50,.c (iI 0),.t 52]),j4 51 54 46 53,oPt 52 55 46 54,oM 53 56 55,oH 54 57 56 false 0,wM 55 58 56 57,jq 56 59 56 3 58,jh 57 60 56 59,oG 58 61 56 false (.call 340 [.t 60,.c (iI 0),.c (iI 14)]),j4 59 62 56 61,oPt 60 63 56 62,oM 61 64 63,oH 62 65 64 false 0,wM 63 66 64 65,jq 64 67 64 2 66,jh 65 68 64 67,oG 66 69 64 false (.bin .eql (.t 68) (.c (iI 3))),oH 67 70 64 false 0,wM 68 71 64 70,jq 69 72 64 3 71,jh 70 73 64 72,oG 71 74 64 false (.bin .neq (.t 73) (.c (iI 0))),oG 72 75 64 false (.beq true (.t 69) (.t 74)),oPt 73 76 64 75]
def qXC:List qA:=[oM 0 77 0,oK 1 78 77,oF 2 79 2 78,oL 3 80 79,oE 4 81 .eql 80 1]
def qXD:List qA:=[oM 0 82 0,oK 1 83 82,oF 2 84 7 83,oL 3 85 84,oD1 4 86 412 85,oM 5 87 86,oH 6 88 87 true 0,wD 7 89 87 88,jg 8 90 87 8 89,jY 9 91 87 90,oG 10 92 87 true (.call 598 [.t 91]),oPf 11 93 87 92,oM 12 94 93,oH 13 95 94 true 0,wD 14 96 94 95,jg 15 97 94 9 96,oG 16 98 94 true (.call 318 [.t 97]),oPf 17 99 94 98,oM 18 2 99]
def qXE:List qA:=[oM 0 100 0,oK 1 101 100,oF 2 102 7 101,oL 3 103 102,oW 4 104 103,oE 5 105 .gtr 104 0,oM 6 106 105,oH 7 107 106 false 0,wM 8 108 106 107,jq 9 109 106 8 108,jh 10 110 106 109,Z6 11 111 106 110,oG 12 112 106 false (.bin .gtr (.t 111) (.c (iI 0))),oPt 13 113 106 112]
def qXF:List qA:=[oM 0 114 0,oK 1 115 114,oF 2 116 2 115,oL 3 117 116,oE 4 118 .eql 117 2]
def qXG:List qA:=[oM 0 119 0,oK 1 120 119,oF 2 121 9 120,oD1 3 122 318 121,oM 4 2 122]
def qXH:List qA:=[oM 0 123 0,oK 1 124 123,oF 2 125 9 124,oD1 3 126 1265 125,oM 4 2 126]
def qXA:qG:=.seq (sr qXB (.cond (.t 76) (sr [oQ 0 2 false] .ret) .skip)) (.seq (sr qXC (.cond (.t 81) (sr qXD .ret) .skip)) (.seq (sr qXE (.cond (.t 113) (sr [oQ 0 2 false] .ret) .skip)) (.seq (sr qXF (.cond (.t 118) (sr qXG .ret) .skip)) (sr qXH .ret))))
def F960:qJ:=⟨1,127,[.t 2],sr [oQ 0 2 false] qXA⟩
def qR6:List qA:=[oM 0 5 0,oK 1 6 5,oF 2 7 0 6,oL 3 8 7,oP 4 9 (.call 340 [.t 8,.c (iI 1),.c (iI 50)]),oJ 5 10 9,oM 6 11 10,oH 7 12 11 false 0,wM 8 13 11 12,jq 9 14 11 1 13,jh 10 15 11 14,oG 11 16 11 false (.call 340 [.t 15,.c (iI 1),.c (iI 1000000000)]),j4 12 17 11 16,oPt 13 18 11 17,oM 14 19 18,oH 15 20 19 false 0,wM 16 21 19 20,jq 17 22 19 3 21,jh 18 23 19 22,Z6 19 24 19 23,oG 20 25 19 false (.bin .gtr (.t 24) (.c (iI 6))),oPt 21 26 19 25,oM 22 27 26,oH 23 28 27 false 0,wM 24 29 27 28,jq 25 30 27 2 29,jh 26 31 27 30,oH 27 32 27 false 0,wM 28 33 27 32,jq 29 34 27 3 33,jh 30 35 27 34,Z6 31 36 27 35,oG 32 37 27 false (.bin .sub (.t 36) (.c (iI 1))),⟨33,some 38,(some (27,false)),.call 856 [.c (iI 0),.t 37],[⟨26,some 31,(some (27,false)),.load none (.t 30),[]⟩]⟩,oG 34 39 27 false (.call 340 [.t 31,.c (iI 0),.t 38]),j4 35 40 27 39,oPt 36 41 27 40]
def qR7:List qA:=[oM 0 42 4,oM 1 43 0,oK 2 44 43,oF 3 45 3 44,oL 4 46 45,oW 5 47 46,oB 6 48 .lss 42 47]
def qR8:List qA:=[oM 0 51 0,oK 1 52 51,oF 2 53 3 52,oL 3 54 53,oM 4 55 4,oA 5 56 10 54 55,oF 6 57 0 56,oL 7 58 57,oM 8 59 3,oE 9 60 .add 59 1,oM 10 61 0,oK 11 62 61,oF 12 63 1 62,oL 13 64 63,oE 14 65 .sub 64 1,oP 15 66 (.call 340 [.t 58,.t 60,.t 65]),oJ 16 67 66,oM 17 68 67,oH 18 69 68 false 0,wM 19 70 68 69,jq 20 71 68 3 70,jh 21 72 68 71,oH 22 73 68 false 4,oG 23 74 68 false (.iaddr 10 (.t 72) (.t 73)),oG 24 75 68 false (.call 960 [.t 74]),j4 25 76 68 75,oPt 26 77 68 76]
def qR9:List qA:=[oM 0 78 0,oK 1 79 78,oF 2 80 3 79,oL 3 81 80,oM 4 82 4,oA 5 83 10 81 82,oF 6 84 0 83,oL 7 85 84,oM 8 3 85]
def qR4:qG:=.seq (sr qR7 (.cond (.t 48) .skip (.exit 0))) (.seq (.blk 1 (.seq (sr qR8 (.cond (.t 77) (sr [oQ 0 2 false] .ret) .skip)) (.reg true qR9))) (.reg true [oM 0 49 4,oE 1 50 .add 49 1,oM 2 4 50]))
def qR5:qG:=.seq (sr qR6 (.cond (.t 41) (sr [oQ 0 2 false] .ret) .skip)) (sr [oC 0 3 0] (.seq (sr [oC 0 4 0] (.blk 0 (.loop qR4))) (sr [oQ 0 2 true] .ret)))
def F584:qJ:=⟨1,86,[.t 2],sr [oQ 0 2 false] qR5⟩
def qSC:List qA:=[oM 0 6 0,oK 1 7 6,oF 2 8 3 7,oL 3 9 8,oW 4 10 9,oM 5 3 10]
def qSD:List qA:=[oM 0 16 0,oK 1 17 16,oF 2 18 2 17,oL 3 19 18,oM 4 20 4,oB 5 21 .add 19 20,oM 6 22 3,oB 7 23 .rem 21 22,oM 8 5 23]
def qSE:List qA:=[oM 0 24 0,oK 1 25 24,oF 2 26 3 25,oL 3 27 26,oM 4 28 5,oA 5 29 10 27 28,oF 6 30 2 29,oL 7 31 30,oE 8 32 .eql 31 1]
def qSA:qG:=.seq (.blk 1 (sr qSD (sr qSE (.cond (.t 32) (sr [oM 0 33 5,oM 1 2 33] .ret) .skip)))) (.reg true [oM 0 14 4,oE 1 15 .add 14 1,oM 2 4 15])
def qSB:qG:=.seq (sr [oC 0 4 0] (.blk 0 (.loop (.seq (sr [oM 0 11 4,oM 1 12 3,oB 2 13 .lss 11 12] (.cond (.t 13) .skip (.exit 0))) qSA)))) (sr [oP 0 2 (.mov (.c (iI (-1))))] .ret)
def F585:qJ:=⟨1,34,[.t 2],sr [oC 0 2 0] (sr qSC qSB)⟩
def qXK:List qA:=[oM 0 5 0,oK 1 6 5,oP 2 7 (.load (some 10) (.t 6)),oP 3 3 (.lalloc (.agg [iI 0,iI 0,iI 0,iI 0,iI 0,iI 0,.nils,.nils,.nils,.nils])),oS 4 3 0 10 7]
def qXL:List qA:=[oM 0 8 0,oK 1 9 8,oF 2 10 6 9,oL 3 11 10,oD1 4 12 402 11,oU 5 13 3,oS 6 3 6 1 12]
def qXM:List qA:=[oM 0 14 0,oK 1 15 14,oF 2 16 7 15,oL 3 17 16,oD1 4 18 402 17,oU 5 19 3,oS 6 3 7 1 18]
def qXN:List qA:=[oM 0 21 4,oM 1 22 0,oK 2 23 22,oF 3 24 8 23,oL 4 25 24,oW 5 26 25,oB 6 27 .lss 21 26]
def qXO:List qA:=[oU 0 30 3,oX 1 31 3 8,oM 2 32 0,oK 3 33 32,oF 4 34 8 33,oL 5 35 34,oM 6 36 4,oA 7 37 1 35 36,oD1 8 38 489 37,oP 9 39 (.bslice 1 (.agg [.nils]) 1 [(0,.t 38)]),oP 10 40 (.app 1 (.t 31) (.t 39)),oU 11 41 3,oS 12 3 8 1 40]
def qXI:qG:=sr [oC 0 4 0] (.blk 0 (.loop (.seq (sr qXN (.cond (.t 27) .skip (.exit 0))) (.seq (.blk 1 (.reg true qXO)) (.reg true [oM 0 28 4,oE 1 29 .add 28 1,oM 2 4 29])))))
def qXP:List qA:=[oM 0 42 0,oK 1 43 42,oF 2 44 9 43,oD1 3 45 489 44,oU 4 46 3,oS 5 3 9 1 45]
def qXJ:qG:=sr qXL (sr qXM (sr [oU 0 20 3,oN 1 (.lstore 3 8 1 (.c (.nils)))] (.seq qXI (sr qXP (sr [oY 0 47 3 0 10,oS 1 2 0 10 47] .ret)))))
def F961:qJ:=⟨1,48,[.l 2 (some 10)],sr [oP 0 2 (.lalloc (.agg [iI 0,iI 0,iI 0,iI 0,iI 0,iI 0,.nils,.nils,.nils,.nils]))] (sr qXK qXJ)⟩
def qSG:List qA:=[oM 0 5 0,oK 1 6 5,oF 2 7 0 6,oL 3 8 7,oM 4 9 0,oK 5 10 9,oF 6 11 1 10,oL 7 12 11,oM 8 13 0,oK 9 14 13,oF 10 15 2 14,oL 11 16 15,oP 12 17 (.build (.agg [iI 0,iI 0,iI 0,.nils]) [(0,1,.t 8),(1,1,.t 12),(2,1,.t 16)]),oP 13 3 (.lalloc (.agg [iI 0,iI 0,iI 0,.nils])),oS 14 3 0 4 17]
def qSH:List qA:=[oM 0 18 4,oM 1 19 0,oK 2 20 19,oF 3 21 3 20,oL 4 22 21,oW 5 23 22,oB 6 24 .lss 18 23]
def qSI:List qA:=[oU 0 27 3,oX 1 28 3 3,oM 2 29 0,oK 3 30 29,oF 4 31 3 30,oL 5 32 31,oM 6 33 4,oA 7 34 10 32 33,oD1 8 35 961 34,oP 9 36 (.bslice 10 (.agg [iI 0,iI 0,iI 0,iI 0,iI 0,iI 0,.nils,.nils,.nils,.nils]) 1 [(0,.t 35)]),oP 10 37 (.app 10 (.t 28) (.t 36)),oU 11 38 3,oS 12 3 3 1 37]
def qSF:qG:=sr [oC 0 4 0] (.blk 0 (.loop (.seq (sr qSH (.cond (.t 24) .skip (.exit 0))) (.seq (.blk 1 (.reg true qSI)) (.reg true [oM 0 25 4,oE 1 26 .add 25 1,oM 2 4 26])))))
def F586:qJ:=⟨1,40,[.l 2 (some 4)],sr [oP 0 2 (.lalloc (.agg [iI 0,iI 0,iI 0,.nils]))] (sr qSG (.seq qSF (sr [oY 0 39 3 0 4,oS 1 2 0 4 39] .ret)))⟩
def qR2:List qA:=[oM 0 6 4,oM 1 7 0,oW 2 8 7,oB 3 9 .lss 6 8]
def qR3:List qA:=[oM 0 12 3,oM 1 13 0,oM 2 14 4,oA 3 15 1 13 14,oL 4 16 15,oE 5 17 .sub 16 1,oA 6 18 1 12 17,oL 7 19 18,oE 8 20 .add 19 1,oA 9 21 1 12 17,oT 10 1 21 20]
def qR1:qG:=sr [oC 0 4 0] (.blk 0 (.loop (.seq (sr qR2 (.cond (.t 9) .skip (.exit 0))) (.seq (.blk 1 (.reg true qR3)) (.reg true [oM 0 10 4,oE 1 11 .add 10 1,oM 2 4 11])))))
def F571:qJ:=⟨1,23,[.t 2],sr [oP 0 2 (.mov (.c (.nils)))] (sr [oP 0 5 (.bslice 1 (iI 0) 7 [(0,.c (iI 0)),(1,.c (iI 0)),(2,.c (iI 0)),(3,.c (iI 0)),(4,.c (iI 0)),(5,.c (iI 0)),(6,.c (iI 0))]),oM 1 3 5] (.seq qR1 (sr [oM 0 22 3,oM 1 2 22] .ret)))⟩
def qGR:List qA:=[oM 0 3 0,oM 2 5 0,oK 3 6 5,oF 4 7 0 6,oL 5 8 7,oW 6 9 8,⟨1,some 4,none,.call 489 [.t 3],[⟨5,some 8,none,.load none (.t 7),[]⟩]⟩,oP 7 10 (.build (.agg [.nils,.nils,iI 0]) [(0,1,.t 4),(2,1,.t 9)]),oP 8 11 (.hbox 3 (.t 10)),oM 9 2 11]
def Kq:qJ:=⟨1,12,[.t 2],sr [oP 0 2 (.mov (.c (.nilp)))] (sr qGR .ret)⟩
def qNC:List qA:=[oM 0 9 1,oK 1 10 9,oF 2 11 0 10,oF 3 12 0 11,oL 4 13 12,oU 5 14 5,oX 6 15 5 0,oA 7 16 5 13 15,oM 8 17 1,oK 9 18 17,oF 10 19 0 18,oF 11 20 0 19,oL 12 21 20,oU 13 22 5,oX 14 23 5 1,oA 15 24 5 21 23,oD2 16 25 744 16 24,oM 17 7 25]
def qND:List qA:=[oM 0 26 0,oM 1 27 1,oK 2 28 27,oF 3 29 0 28,oU 4 30 5,oX 5 31 5 0,oU 6 32 5,oX 7 33 5 1,oP 8 34 (.call 979 [.t 26,.t 29,.t 31,.t 33]),oM 9 8 34]
def qNE:List qA:=[oM 0 38 1,oM 1 39 1,oK 2 40 39,oF 3 41 1 40,oL 4 42 41,oM 5 43 7,oP 6 44 (.bslice 1 (iI 0) 1 [(0,.t 43)]),oP 7 45 (.app 1 (.t 42) (.t 44)),oK 8 46 38,oF 9 47 1 46,oT 10 1 47 45]
def qNF:List qA:=[oM 0 48 1,oM 1 49 1,oK 2 50 49,oF 3 51 2 50,oL 4 52 51,oM 5 53 1,oK 6 54 53,oF 7 55 0 54,⟨8,some 56,none,.call 1297 [.t 55],[⟨4,some 52,none,.load none (.t 51),[]⟩]⟩,oD2 9 57 856 52 56,oK 10 58 48,oF 11 59 2 58,oT 12 1 59 57]
def qNB:qG:=.seq (sr [oM 0 35 8,oE 1 36 .neq 35 0] (.cond (.t 36) (sr [oM 0 37 8,oM 1 6 37] .ret) .skip)) (sr qNE (sr qNF (sr [oC 0 6 0] .ret)))
def qAD:qJ:=⟨3,60,[.t 6],sr [oP 0 5 (.lbox 2 (.t 2)),oC 1 6 0] (sr qNC (sr qND qNB))⟩
def qGV:List qA:=[oM 0 14 1,oK 1 15 14,oF 2 16 0 15,oF 3 17 0 16,oL 4 18 17,oW 5 19 18,oE 6 20 .gtr 19 1200]
def qGW:List qA:=[oM 0 21 1,oK 1 22 21,oF 2 23 0 22,oD1 3 24 981 23]
def qGX:List qA:=[oM 0 25 1,oK 1 26 25,oF 2 27 0 26,oD1 3 28 742 27,oM 4 10 28]
def qGY:List qA:=[oM 0 32 1,oK 1 33 32,oF 2 34 1 33,oL 3 35 34,oW 4 36 35,oM 5 11 36]
def qGZ:List qA:=[oM 0 43 2,oM 1 44 11,oM 2 45 2,oW 3 46 45,oB 4 47 .rem 44 46,oA 5 48 1 43 47,oL 6 49 48,oM 7 50 10,oW 8 51 50,oB 9 52 .rem 49 51,oM 10 12 52]
def qG0:List qA:=[oM 0 53 0,oM 1 54 1,oM 2 55 10,oM 3 56 12,oA 4 57 2 55 56,oP 5 58 (.load (some 2) (.t 57)),oP 6 59 (.call 1450 [.t 53,.t 54,.t 58]),oM 7 13 59]
def qGS:qG:=.seq (sr [oM 0 40 2,oW 1 41 40,oE 2 42 .gtr 41 0] (.cond (.t 42) (.reg true qGZ) .skip)) (sr qG0 (sr [oM 0 60 13,oE 1 61 .neq 60 0] (.cond (.t 61) (sr [oM 0 62 13,oQ 1 8 false,oM 2 9 62] .ret) .skip)))
def qGT:qG:=.seq (sr [oM 0 37 11,oM 1 38 3,oB 2 39 .geq 37 38] (.cond (.t 39) (sr [oQ 0 8 false,oC 1 9 0] .ret) .skip)) (sr [oC 0 12 0] qGS)
def qGU:qG:=sr qGX (.seq (sr [oM 0 29 10,oW 1 30 29,oE 2 31 .eql 30 0] (.cond (.t 31) (sr [oQ 0 8 true,oC 1 9 0] .ret) .skip)) (sr qGY qGT))
def Kr:qJ:=⟨4,63,[.t 8,.t 9],sr [oQ 0 8 false,oC 1 9 0] (.blk 0 (.loop (.blk 1 (.seq (sr qGV (.cond (.t 20) (.reg true qGW) .skip)) qGU))))⟩
def qG1:List qA:=[oM 0 8 0,oM 1 9 1,oK 2 10 8,oF 3 11 2 10,oT 4 1 11 9]
def qG2:List qA:=[oM 0 12 0,oM 1 13 2,oK 2 14 12,oF 3 15 3 14,oT 4 1 15 13]
def qG3:List qA:=[oM 0 16 0,oK 1 17 16,oF 2 18 7 17,oN 3 (.store 1 (.t 18) (.c (.nils)))]
def qG4:List qA:=[oM 0 19 0,oK 1 20 19,oF 2 21 8 20,oN 3 (.store 1 (.t 21) (.c (.nils)))]
def qG5:List qA:=[oM 0 22 0,oY 1 23 7 0 1,oK 2 24 22,oF 3 25 9 24,oT 4 1 25 23]
def Ks:qJ:=⟨4,26,[],sr [oP 0 7 (.lbox 1 (.t 3))] (sr qG1 (sr qG2 (sr qG3 (sr qG4 (.reg true qG5)))))⟩
def qXU:List qA:=[oM 0 12 0,oK 1 13 12,oF 2 14 5 13,oL 3 15 14,oE 4 16 .add 15 1,oK 5 17 12,oF 6 18 5 17,oT 7 1 18 16]
def qXV:List qA:=[oM 0 19 0,oK 1 20 19,oF 2 21 9 20,oD1 3 22 1266 21,oM 4 4 22]
def qX2:List qA:=[oM 0 23 0,oK 1 24 23,oF 2 25 6 24,oL 3 26 25,oD1 4 27 1263 26,oM 5 5 27]
def qX3:List qA:=[oM 0 29 7,oM 1 30 0,oK 2 31 30,oF 3 32 7 31,oL 4 33 32,oW 5 34 33,oB 6 35 .lss 29 34]
def qX4:List qA:=[oM 0 38 6,oM 1 39 0,oK 2 40 39,oF 3 41 7 40,oL 4 42 41,oM 5 43 5,oM 6 44 7,oB 7 45 .add 43 44,oM 8 46 0,oK 9 47 46,oF 10 48 7 47,oL 11 49 48,oW 12 50 49,oB 13 51 .rem 45 50,oA 14 52 1 42 51,oL 15 53 52,oP 16 54 (.bslice 1 (iI 0) 1 [(0,.t 53)]),oP 17 55 (.app 1 (.t 38) (.t 54)),oM 18 6 55]
def qXT:qG:=sr [oC 0 7 0] (.blk 0 (.loop (.seq (sr qX3 (.cond (.t 35) .skip (.exit 0))) (.seq (.blk 1 (.reg true qX4)) (.reg true [oM 0 36 7,oE 1 37 .add 36 1,oM 2 7 37])))))
def qX5:List qA:=[oM 0 57 0,oK 1 58 57,oF 2 59 8 58,oL 3 60 59,oM 4 61 4,oM 5 62 6,oM 6 63 1,oM 7 64 0,oK 8 65 64,oF 9 66 1 65,oL 10 67 66,oB 11 68 .mul 63 67,oM 12 69 0,oK 13 70 69,oF 14 71 4 70,oL 15 72 71,⟨16,some 73,none,.call 978 [.t 68,.t 72],[⟨3,some 60,none,.load none (.t 59),[]⟩]⟩,oP 17 74 (.call 1267 [.t 60,.t 61,.t 62,.t 73]),oM 18 56 74,oV 19 75 56 0,oV 20 76 56 1,oM 21 8 75,oM 22 9 76]
def qX6:List qA:=[oM 0 77 4,oK 1 78 77,oF 2 79 1 78,oL 3 80 79,oD1 4 81 571 80,oM 5 10 81]
def qX7:List qA:=[oM 0 82 11,oM 1 83 10,oW 2 84 83,oB 3 85 .lss 82 84]
def qX8:List qA:=[oM 0 88 0,oK 1 89 88,oF 2 90 6 89,oL 3 91 90,oM 4 92 11,oA 5 93 1 91 92,oL 6 94 93,oM 7 95 10,oM 8 96 11,oA 9 97 1 95 96,oL 10 98 97,oB 11 99 .add 94 98,oA 12 100 1 91 92,oT 13 1 100 99]
def qXQ:qG:=sr [oC 0 11 0] (.blk 2 (.loop (.seq (sr qX7 (.cond (.t 85) .skip (.exit 2))) (.seq (.blk 3 (.reg true qX8)) (.reg true [oM 0 86 11,oE 1 87 .add 86 1,oM 2 11 87])))))
def qXW:List qA:=[oM 0 101 0,oK 1 102 101,oF 2 103 4 102,oL 3 104 103,oM 4 105 4,oK 5 106 105,oF 6 107 1 106,oL 7 108 107,oW 8 109 108,oB 9 110 .sub 104 109,oK 10 111 101,oF 11 112 4 111,oT 12 1 112 110]
def qXX:List qA:=[oM 0 113 4,oK 1 114 113,oF 2 115 0 114,oD1 3 116 981 115]
def qXY:List qA:=[oM 0 127 0,oM 1 128 9,oP 2 129 (.build (.agg [.nils]) []),oP 3 130 (.call 1268 [.t 127,.c (iI 3),.t 128,.t 129])]
def qXZ:List qA:=[oM 0 133 0,oM 1 134 4,oK 2 135 134,oF 3 136 0 135,oP 4 137 (.load (some 1) (.t 136)),oP 5 138 (.call 1268 [.t 133,.c (iI 2),.c (iI 0),.t 137])]
def qX0:List qA:=[oM 0 140 0,oK 1 141 140,oF 2 142 4 141,oL 3 143 142,oE 4 144 .eql 143 0,oM 5 139 144]
def qX1:List qA:=[oM 0 117 0,oM 1 118 4,oK 2 119 118,oF 3 120 0 119,oP 4 121 (.load (some 1) (.t 120)),oK 5 122 117,oF 6 123 9 122,oT 7 1 123 121]
def qXR:qG:=sr [oM 0 132 8,oM 1 131 132] (.cond (.t 131) (.reg true qXZ) (sr qX0 (.cond (.t 139) (.reg true [oM 0 145 0,oP 1 146 (.build (.agg [.nils]) []),oP 2 147 (.call 1268 [.t 145,.c (iI 3),.c (iI 12),.t 146])]) (.reg true qX1))))
def qXS:qG:=sr qX5 (sr qX6 (.seq qXQ (sr qXW (sr qXX (.blk 4 (sr [oM 0 125 9,oE 1 126 .neq 125 0,oM 2 124 126] (.cond (.t 124) (.reg true qXY) qXR)))))))
def F962:qJ:=⟨2,148,[],sr qXU (sr qXV (sr qX2 (sr [oP 0 28 (.mov (.c (.lst 1 [] true))),oM 1 6 28] (.seq qXT qXS))))⟩
def qSJ:List qA:=[oM 0 4 0,oK 1 5 4,oF 2 6 3 5,oL 3 7 6,oM 4 8 1,oA 5 9 10 7 8,oM 6 10 0,oK 7 11 10,oF 8 12 0 11,oL 9 13 12,oD2 10 14 962 9 13]
def qSK:List qA:=[oM 0 15 0,oM 1 16 1,oE 2 17 .add 16 1,oM 3 18 0,oK 4 19 18,oF 5 20 3 19,oL 6 21 20,oW 7 22 21,oB 8 23 .rem 17 22,oK 9 24 15,oF 10 25 2 24,oT 11 1 25 23]
def F587:qJ:=⟨2,26,[],sr qSJ (.reg true qSK)⟩
def qYA:List qA:=[oU 0 4 1,oX 1 5 1 0,oU 2 6 3,oS 3 3 0 1 5]
def qYB:List qA:=[oU 0 7 1,oX 1 8 1 1,oU 2 9 3,oS 3 3 1 1 8]
def qYC:List qA:=[oU 0 10 1,oX 1 11 1 2,oU 2 12 3,oS 3 3 2 1 11]
def qYD:List qA:=[oU 0 13 1,oX 1 14 1 3,oU 2 15 3,oS 3 3 3 1 14]
def qYE:List qA:=[oU 0 16 1,oX 1 17 1 4,oU 2 18 3,oS 3 3 4 1 17]
def qYF:List qA:=[oU 0 19 1,oX 1 20 1 5,oU 2 21 3,oS 3 3 5 1 20]
def qYG:List qA:=[oU 0 22 1,oX 1 23 1 6,oD1 2 24 147 23,oU 3 25 3,oS 4 3 6 1 24]
def qYH:List qA:=[oU 0 26 1,oX 1 27 1 7,oD1 2 28 147 27,oU 3 29 3,oS 4 3 7 1 28]
def qYI:List qA:=[oU 0 30 1,oX 1 31 1 8,oD1 2 32 184 31,oU 3 33 3,oS 4 3 8 1 32]
def qYJ:List qA:=[oU 0 34 1,oY 1 35 1 9 1,oD1 2 36 185 35,oU 3 37 3,oS 4 3 9 1 36]
def qX9:qG:=sr qYE (sr qYF (sr qYG (sr qYH (sr qYI (sr qYJ (sr [oY 0 38 3 0 10,oS 1 2 0 10 38] .ret))))))
def YI:qJ:=⟨1,39,[.l 2 (some 10)],sr [oP 0 1 (.lbox 10 (.t 0)),oP 1 2 (.lalloc (.agg [iI 0,iI 0,iI 0,iI 0,iI 0,iI 0,.nils,.nils,.nils,.nils]))] (sr [oP 0 3 (.lalloc (.agg [iI 0,iI 0,iI 0,iI 0,iI 0,iI 0,.nils,.nils,.nils,.nils]))] (sr qYA (sr qYB (sr qYC (sr qYD qX9)))))⟩
def F588:qJ:=toS 10 (some 10) (.agg [iI 0,iI 0,iI 0,iI 0,iI 0,iI 0,.nils,.nils,.nils,.nils]) 963
def qO1:List qA:=[oU 0 4 1,oX 1 5 1 0,oU 2 6 3,oS 3 3 0 1 5]
def qO2:List qA:=[oU 0 7 1,oX 1 8 1 1,oU 2 9 3,oS 3 3 1 1 8]
def qO3:List qA:=[oU 0 10 1,oX 1 11 1 2,oU 2 12 3,oS 3 3 2 1 11]
def qO4:List qA:=[oU 0 13 1,oX 1 14 1 3,oD1 2 15 588 14,oU 3 16 3,oS 4 3 3 1 15]
def qO0:qG:=sr [oP 0 3 (.lalloc (.agg [iI 0,iI 0,iI 0,.nils]))] (sr qO1 (sr qO2 (sr qO3 (sr qO4 (sr [oY 0 17 3 0 4,oS 1 2 0 4 17] .ret)))))
def YE:qJ:=⟨1,18,[.l 2 (some 4)],sr [oP 0 1 (.lbox 4 (.t 0)),oP 1 2 (.lalloc (.agg [iI 0,iI 0,iI 0,.nils]))] qO0⟩
def qNG:List qA:=[oM 0 3 0,oE 1 4 .lss 3 0,oM 2 5 4,oH 3 6 5 false 0,oG 4 7 5 false (.bin .gtr (.t 6) (.c (iI 1000000000))),oPt 5 8 5 7,oM 6 2 8]
def qAE:qJ:=⟨1,9,[.t 2],sr [oQ 0 2 false] (sr qNG .ret)⟩
def qG6:List qA:=[oM 0 3 0,oW 1 4 3,oE 2 5 .eql 4 7,oM 3 6 5,oH 4 7 6 true 0,oG 5 8 6 true (.call 397 [.t 7,.f 1451]),Yx 6 9 6 8,oPf 7 10 6 9,oM 8 2 10]
def Kt:qJ:=⟨1,11,[.t 2],sr [oQ 0 2 false] (sr qG6 .ret)⟩
def qG9:List qA:=[oM 0 15 3,oM 1 16 5,oB 2 17 .add 15 16,oM 3 3 17]
def qG7:qG:=sr [oB 0 12 .lss 11 10] (.seq (.cond (.t 12) .skip (.exit 0)) (.seq (.blk 1 (sr [oA 0 13 1 9 11,oL 1 14 13,oM 2 5 14] (.reg true qG9))) (.reg true [oE 0 18 .add 11 1,oM 1 11 18])))
def qG8:qG:=.seq (sr [oM 0 9 0,oW 1 10 9,oC 2 11 0] (.blk 0 (.loop qG7))) (sr [oM 0 19 3,oM 1 2 19] .ret)
def Ku:qJ:=⟨1,20,[.t 2],sr [oC 0 2 0] (.seq (sr [oM 0 6 0,oD1 1 7 1269 6,oJ 2 8 7] (.cond (.t 8) (sr [oC 0 2 0] .ret) .skip)) (sr [oC 0 3 0] qG8))⟩
def qNH:List qA:=[oU 0 3 1,oX 1 4 1 0,oW 2 5 4,oE 3 6 .eql 5 0,oM 4 2 6]
def qAF:qJ:=⟨1,7,[.t 2],sr [oP 0 1 (.lbox 1 (.t 0)),oQ 1 2 false] (sr qNH .ret)⟩
def qHB:List qA:=[oU 0 6 1,oX 1 7 1 7,oD1 2 8 406 7,oM 3 9 8,wE 4 10 9 1,wN 5 11 9 1 8,oG 6 12 9 true (.call 505 [.t 11]),oPf 7 13 9 12,oM 8 14 13,wE 9 15 14 1,oG 10 16 14 true (.lload 1 9 (some 1)),oG 11 17 14 true (.call 319 [.t 16]),oPf 12 18 14 17,oM 13 2 18]
def qHC:List qA:=[oU 0 19 1,oX 1 20 1 7,oW 2 21 20,oU 3 22 1,oX 4 23 1 8,oW 5 24 23,oB 6 25 .add 21 24,oE 7 26 .gtr 25 0]
def qHD:List qA:=[oU 0 30 1,oY 1 31 1 9 1,oD1 2 32 319 31,oM 3 2 32]
def qHE:List qA:=[oU 0 33 1,oY 1 34 1 9 1,oD1 2 35 1452 34,oM 3 2 35]
def qHA:qG:=.seq (sr qHC (.cond (.t 26) (sr [oQ 0 2 false] .ret) .skip)) (.seq (sr [oU 0 27 1,oX 1 28 1 2,oE 2 29 .eql 28 2] (.cond (.t 29) (sr qHD .ret) .skip)) (sr qHE .ret))
def Kv:qJ:=⟨1,36,[.t 2],sr [oP 0 1 (.lbox 10 (.t 0)),oQ 1 2 false] (.seq (sr [oU 0 3 1,oX 1 4 1 2,oE 2 5 .eql 4 1] (.cond (.t 5) (sr qHB .ret) .skip)) qHA)⟩
def qYL:List qA:=[oU 0 5 1,oX 1 6 1 1,oE 2 7 .lss 6 1,oM 3 8 7,jZ 4 9 8 1,ja 5 10 8 1 1,oG 6 11 8 false (.bin .gtr (.t 10) (.c (iI 4))),oPt 7 12 8 11,oM 8 13 12,jZ 9 14 13 1,ja 10 15 13 1 2,oG 11 16 13 false (.bin .lss (.t 15) (.c (iI 1))),oPt 12 17 13 16,oM 13 18 17,jZ 14 19 18 1,ja 15 20 18 1 2,oG 16 21 18 false (.bin .gtr (.t 20) (.c (iI 4))),oPt 17 22 18 21,oM 18 23 22,jZ 19 24 23 1,ja 20 25 23 1 4,oG 21 26 23 false (.bslice 1 (iI 0) 1 [(0,.t 25)]),oG 22 27 23 false (.call 436 [.c (iI 4000),.t 26]),j4 23 28 23 27,oPt 24 29 23 28,oM 25 30 29,jZ 26 31 30 1,ja 27 32 30 1 6,oG 28 33 30 false (.call 1269 [.t 32]),j4 29 34 30 33,oPt 30 35 30 34]
def qYM:List qA:=[oU 0 36 1,oX 1 37 1 6,oD1 2 38 1270 37,oM 3 3 38]
def qYN:List qA:=[oM 0 39 3,oU 1 40 1,oX 2 41 1 2,oE 3 42 .neq 41 1,oD1 4 43 566 42,oB 5 44 .add 39 43,oM 6 4 44]
def qYO:List qA:=[oM 0 45 3,oU 1 46 1,oX 2 47 1 4,oB 3 48 .add 45 47,oE 4 49 .gtr 48 4000,oM 5 50 49,oH 6 51 50 false 4,jZ 7 52 50 1,ja 8 53 50 1 5,oG 9 54 50 false (.bslice 1 (iI 0) 1 [(0,.t 53)]),oG 10 55 50 false (.call 436 [.t 51,.t 54]),j4 11 56 50 55,oPt 12 57 50 56,oM 13 58 57,jZ 14 59 58 1,ja 15 60 58 1 3,oG 16 61 58 false (.bslice 1 (iI 0) 1 [(0,.t 60)]),oG 17 62 58 false (.call 436 [.c (iI 14),.t 61]),j4 18 63 58 62,oPt 19 64 58 63,oM 20 65 64,jZ 21 66 65 1,ja 22 67 65 1 3,oG 23 68 65 false (.bin .eql (.t 67) (.c (iI 0))),jZ 24 69 65 1,ja 25 70 65 1 2,oG 26 71 65 false (.bin .neq (.t 70) (.c (iI 3))),oG 27 72 65 false (.beq true (.t 68) (.t 71)),oPt 28 73 65 72]
def qYK:qG:=sr qYM (sr qYN (.seq (sr qYO (.cond (.t 73) (sr [oQ 0 2 false] .ret) .skip)) (sr [oY 0 74 1 0 10,oD1 1 75 1271 74,oM 2 2 75] .ret)))
def F964:qJ:=⟨1,76,[.t 2],sr [oP 0 1 (.lbox 10 (.t 0)),oQ 1 2 false] (.seq (sr qYL (.cond (.t 35) (sr [oQ 0 2 false] .ret) .skip)) qYK)⟩
def qSN:List qA:=[oU 0 5 1,oX 1 6 1 0,oE 2 7 .lss 6 1,oM 3 8 7,jZ 4 9 8 1,ja 5 10 8 1 0,oG 6 11 8 false (.bin .gtr (.t 10) (.c (iI 50))),oPt 7 12 8 11,oM 8 13 12,jZ 9 14 13 1,ja 10 15 13 1 1,oG 11 16 13 false (.bin .lss (.t 15) (.c (iI 1))),oPt 12 17 13 16,oM 13 18 17,jZ 14 19 18 1,ja 15 20 18 1 1,oG 16 21 18 false (.bin .gtr (.t 20) (.c (iI 1000000000))),oPt 17 22 18 21,oM 18 23 22,jZ 19 24 23 1,ja 20 25 23 1 3,Z6 21 26 23 25,oG 22 27 23 false (.bin .gtr (.t 26) (.c (iI 6))),oPt 23 28 23 27]
def qSO:List qA:=[oU 0 29 1,oX 1 30 1 3,oW 2 31 30,oE 3 32 .sub 31 1,oP 4 33 (.max (.t 32) (.c (iI 0))),oU 5 34 1,oX 6 35 1 2,oP 7 36 (.bslice 1 (iI 0) 1 [(0,.t 35)]),oD2 8 37 436 33 36,oJ 9 38 37]
def qSP:List qA:=[oU 0 39 1,oX 1 40 1 3,oW 2 41 40,oC 3 42 0]
def qSQ:List qA:=[oM 0 44 42,oA 1 45 10 40 42,oP 2 46 (.load (some 10) (.t 45)),oP 3 4 (.lalloc (.agg [iI 0,iI 0,iI 0,iI 0,iI 0,iI 0,.nils,.nils,.nils,.nils])),oM 4 3 44,oS 5 4 0 10 46]
def qSR:List qA:=[oU 0 47 4,oX 1 48 4 0,oE 2 49 .lss 48 1,oM 3 50 49,jZ 4 51 50 4,ja 5 52 50 4 0,jZ 6 53 50 1,ja 7 54 50 1 1,oG 8 55 50 false (.bin .geq (.t 52) (.t 54)),oPt 9 56 50 55,oM 10 57 56,oH 11 58 57 false 3,oG 12 59 57 false (.bin .gtr (.t 58) (.c (iI 0))),oH 13 60 57 false 59,wE 14 61 60 1,wN 15 62 60 1 3,oH 16 63 60 true 3,oG 17 64 60 true (.bin .sub (.t 63) (.c (iI 1))),oG 18 65 60 true (.iaddr 10 (.t 62) (.t 64)),jg 19 66 60 0 65,jY 20 67 60 66,wE 21 68 60 4,wN 22 69 60 4 0,oG 23 70 60 true (.bin .geq (.t 67) (.t 69)),oG 24 71 57 false (.pick (.t 60) (.t 70) (.c (.bool false))),oPt 25 72 57 71,oM 26 73 72,oG 27 74 73 false (.lload 4 0 (some 10)),oG 28 75 73 false (.call 964 [.t 74]),j4 29 76 73 75,oPt 30 77 73 76]
def qSL:qG:=sr [oB 0 43 .lss 42 41] (.seq (.cond (.t 43) .skip (.exit 0)) (.seq (.blk 1 (sr qSQ (sr qSR (.cond (.t 77) (sr [oQ 0 2 false] .ret) .skip)))) (.reg true [oE 0 78 .add 42 1,oM 1 42 78])))
def qSM:qG:=.seq (sr qSN (.cond (.t 28) (sr [oQ 0 2 false] .ret) .skip)) (.seq (sr qSO (.cond (.t 38) (sr [oQ 0 2 false] .ret) .skip)) (.seq (sr qSP (.blk 0 (.loop qSL))) (sr [oQ 0 2 true] .ret)))
def F589:qJ:=⟨1,79,[.t 2],sr [oP 0 1 (.lbox 4 (.t 0)),oQ 1 2 false] qSM⟩
def qYP:List qA:=[oU 0 3 1,oX 1 4 1 6,oU 3 6 1,oX 4 7 1 7,oU 6 9 1,oX 7 10 1 8,oU 9 12 1,oY 10 13 1 9 1,oD1 2 5 401 4,oU 12 15 1,oD1 5 8 401 7,oD1 8 11 797 10,oD1 11 14 798 13,oS 13 1 6 1 5,oU 14 16 1,oS 15 1 7 1 8,oU 16 17 1,oS 17 1 8 1 11,oU 18 18 1,oS 19 1 9 1 14]
def F965:qJ:=⟨1,20,[.l 2 (some 10)],sr [oP 0 1 (.lbox 10 (.t 0)),oP 1 2 (.lalloc (.agg [iI 0,iI 0,iI 0,iI 0,iI 0,iI 0,.nils,.nils,.nils,.nils]))] (sr qYP (sr [oY 0 19 1 0 10,oS 1 2 0 10 19] .ret))⟩
def qSU:List qA:=[oA 0 13 10 9 11,oP 1 14 (.load (some 10) (.t 13)),oP 2 5 (.lalloc (.agg [iI 0,iI 0,iI 0,iI 0,iI 0,iI 0,.nils,.nils,.nils,.nils])),oS 3 5 0 10 14]
def qSV:List qA:=[oU 0 15 1,oX 1 16 1 3,oY 2 17 5 0 10,oD1 3 18 965 17,oP 4 19 (.bslice 10 (.agg [iI 0,iI 0,iI 0,iI 0,iI 0,iI 0,.nils,.nils,.nils,.nils]) 1 [(0,.t 18)]),oP 5 20 (.app 10 (.t 16) (.t 19)),oU 6 21 1,oS 7 1 3 1 20]
def qSS:qG:=.loop (sr [oB 0 12 .lss 11 10] (.seq (.cond (.t 12) .skip (.exit 0)) (.seq (.blk 1 (sr qSU (.reg true qSV))) (.reg true [oE 0 22 .add 11 1,oM 1 11 22]))))
def qST:qG:=sr [oU 0 8 1,oN 1 (.lstore 1 3 1 (.c (.nils)))] (.seq (sr [oM 0 9 3,oW 1 10 9,oC 2 11 0] (.blk 0 qSS)) (sr [oY 0 23 1 0 4,oS 1 2 0 4 23] .ret))
def F590:qJ:=⟨1,24,[.l 2 (some 4)],sr [oP 0 1 (.lbox 4 (.t 0)),oP 1 2 (.lalloc (.agg [iI 0,iI 0,iI 0,.nils]))] (sr [oU 0 6 1,oX 1 7 1 3,oM 2 3 7] qST)⟩
def qTY:List qA:=[oM 0 5 0,oK 1 6 5,oF 2 7 3 6,oL 3 8 7,oW 4 9 8,oC 5 10 0]
def qTZ:List qA:=[oM 0 13 0,oK 1 14 13,oF 2 15 2 14,oL 3 16 15,oM 4 17 3,oB 5 18 .add 16 17,oM 6 19 0,oK 7 20 19,oF 8 21 3 20,oL 9 22 21,oW 10 23 22,oB 11 24 .rem 18 23,oM 12 4 24]
def qT0:List qA:=[oM 0 25 0,oK 1 26 25,oF 2 27 3 26,oL 3 28 27,oM 4 29 4,oA 5 30 10 28 29,oF 6 31 2 30,oL 7 32 31,oE 8 33 .eql 32 1]
def qTX:qG:=.seq (.blk 1 (sr [oM 0 12 10,oM 1 3 12] (sr qTZ (sr qT0 (.cond (.t 33) (sr [oM 0 34 4,oM 1 2 34] .ret) .skip))))) (.reg true [oE 0 35 .add 10 1,oM 1 10 35])
def F597:qJ:=⟨1,36,[.t 2],sr [oC 0 2 0] (.seq (sr qTY (.blk 0 (.loop (sr [oB 0 11 .lss 10 9] (.seq (.cond (.t 11) .skip (.exit 0)) qTX))))) (sr [oP 0 2 (.mov (.c (iI (-1))))] .ret))⟩
def qHF:List qA:=[oM 0 5 0,oY 1 6 3 0 1,oU 4 9 3,oX 5 10 3 0,oW 6 11 10,oD2 2 7 982 5 6,oP 3 8 (.mksl 1 (iI 0) (.c (iI 7)) (.c (iI 7))),oP 7 12 (.bslice 1 (iI 0) 1 [(0,.t 11)]),oP 8 13 (.build (.agg [.nilp,.nils,.nils,.nils,.nils]) [(0,1,.t 7),(1,1,.t 8),(2,1,.c (.nils)),(3,1,.t 12),(4,1,.c (.nils))]),oP 9 14 (.hbox 5 (.t 13)),oM 10 4 14]
def Kw:qJ:=⟨2,15,[.t 4],sr [oP 0 3 (.lbox 1 (.t 1)),oP 1 4 (.mov (.c (.nilp)))] (.seq (.reg false qHF) .ret)⟩
def qAL:qJ:=Zo 2 (some 2)
def qNK:List qA:=[oM 0 8 0,oM 1 9 1,oD2 2 10 1485 8 9,oM 3 5 10]
def qNL:List qA:=[oM 0 16 6,oM 1 17 0,oW 2 18 17,oB 3 19 .lss 16 18]
def qNM:List qA:=[oM 0 22 0,oM 1 23 6,oA 2 24 2 22 23,oP 3 25 (.load (some 2) (.t 24)),oP 4 7 (.lalloc (.agg [iI 0,iI 0])),oS 5 7 0 2 25]
def qNN:List qA:=[oM 0 26 1,oY 1 27 7 0 2,oP 2 28 (.callv (.t 26) [.t 27]),oJ 3 29 28]
def qNO:List qA:=[oM 0 30 0,oM 1 31 5,oY 2 32 7 0 2,oA 3 33 2 30 31,oT 4 2 33 32]
def qNI:qG:=.seq (.blk 1 (sr qNM (sr qNN (.cond (.t 29) (sr qNO (.reg true [oM 0 34 5,oE 1 35 .add 34 1,oM 2 5 35])) .skip)))) (.reg true [oM 0 20 6,oE 1 21 .add 20 1,oM 2 6 21])
def qNP:List qA:=[oM 0 36 0,oM 1 37 5,oP 2 38 (.slc 2 (.t 36) (some (.t 37)) none none),oN 3 (.clear 2 (.agg [iI 0,iI 0]) (.t 38))]
def qNQ:List qA:=[oM 0 39 0,oM 1 40 5,oP 2 41 (.slc 2 (.t 39) none (some (.t 40)) none),oM 3 4 41]
def qNJ:qG:=.seq (sr [oM 0 14 5,oE 1 15 .add 14 1,oM 2 6 15] (.blk 0 (.loop (.seq (sr qNL (.cond (.t 19) .skip (.exit 0))) qNI)))) (sr qNP (sr qNQ .ret))
def qAG:qJ:=⟨2,42,[.t 4],sr [oP 0 4 (.mov (.c (.nils)))] (sr qNK (.seq (sr [oM 0 11 5,oP 1 12 (.bin .eql (.t 11) (.c (iI (-1))))] (.cond (.t 12) (sr [oM 0 13 0,oM 1 4 13] .ret) .skip)) qNJ))⟩
def qNR:List qA:=[oL 0 4 1,oK 1 5 4,oF 2 6 0 5,oL 3 7 6,oK 4 8 7,oF 5 9 2 8,oL 6 10 9,oU 7 11 2,oX 8 12 2 0,oP 9 13 (.look (.bool false) (.t 10) (.t 12) false),oM 10 3 13]
def qAH:qJ:=⟨2,14,[.t 3],sr [oP 0 2 (.lbox 2 (.t 0)),oQ 1 3 false] (sr qNR .ret)⟩
def qHG:List qA:=[oL 0 3 1,oK 1 4 3,oF 2 5 0 4,oL 3 6 5,oK 4 7 6,oF 5 8 0 7,oD1 6 9 376 8,oP 7 10 (.mkfn 1454 [.t 1]),oD2 8 11 1453 9 10,oM 9 2 11]
def Kx:qJ:=⟨1,12,[.t 2],sr [oP 0 1 (.hbox 1 (.t 0)),oP 1 2 (.mov (.c (.nils)))] (sr qHG .ret)⟩
def qHH:List qA:=[oM 0 3 0,oK 1 4 3,oF 2 5 2 4,oL 3 6 5,oW 4 7 6,oM 5 2 7]
def VT:qJ:=⟨1,8,[.t 2],sr [oC 0 2 0] (sr qHH .ret)⟩
def qHK:List qA:=[oM 0 11 0,oK 1 12 11,oF 2 13 0 12,oL 3 14 13,oK 4 15 14,oF 5 16 0 15,oY 6 17 3 0 2,oD2 7 18 751 16 17,oM 8 10 18,oV 9 19 10 0,oV 10 20 10 1,oM 11 5 19,oM 12 6 20]
def qHL:List qA:=[oM 0 26 0,oK 1 27 26,oF 2 28 0 27,oL 3 29 28,oK 4 30 29,oF 5 31 0 30,oF 6 32 0 31,oL 7 33 32,oM 8 34 7,oA 9 35 5 33 34,oF 10 36 2 35,oL 11 37 36,oM 12 8 37]
def qHM:List qA:=[oM 0 38 0,oK 1 39 38,oF 2 40 0 39,oL 3 41 40,oY 4 42 3 0 2,oD2 5 43 983 41 42,oM 6 9 43]
def qHN:List qA:=[oM 0 49 0,oM 1 50 0,oK 2 51 50,oF 3 52 4 51,oL 4 53 52,oM 5 54 8,oP 6 55 (.bslice 1 (iI 0) 1 [(0,.t 54)]),oP 7 56 (.app 1 (.t 53) (.t 55)),oK 8 57 49,oF 9 58 4 57,oT 10 1 58 56]
def Kz:List qA:=[oM 0 59 0,oK 1 60 59,oF 2 61 1 60,oL 3 62 61,oM 4 63 5,oE 5 64 .sub 63 1,oA 6 65 1 62 64,oL 7 66 65,oE 8 67 .add 66 1,oA 9 68 1 62 64,oT 10 1 68 67]
def K0:List qA:=[oM 0 69 0,oM 1 70 0,oK 2 71 70,oF 3 72 2 71,oL 4 73 72,oM 5 74 5,oP 6 75 (.bslice 1 (iI 0) 1 [(0,.t 74)]),oP 7 76 (.app 1 (.t 73) (.t 75)),oK 8 77 69,oF 9 78 2 77,oT 10 1 78 76]
def K2:List qA:=[oM 0 79 0,oM 1 80 0,oK 2 81 80,oF 3 82 3 81,oL 4 83 82,oM 5 84 0,oK 6 85 84,oF 7 86 0 85,oL 8 87 86,⟨9,some 88,none,.call 1306 [.t 87],[⟨4,some 83,none,.load none (.t 82),[]⟩]⟩,oP 10 89 (.bslice 1 (iI 0) 1 [(0,.t 88)]),oP 11 90 (.app 1 (.t 83) (.t 89)),oK 12 91 79,oF 13 92 3 91,oT 14 1 92 90]
def K3:List qA:=[oM 0 93 0,oK 1 94 93,oF 2 95 0 94,oL 3 96 95,oK 4 97 96,oF 5 98 0 97,oF 6 99 0 98,oL 7 100 99,oW 8 101 100,oE 9 102 .gtr 101 2400]
def K4:List qA:=[oM 0 103 0,oM 1 104 0,oK 2 105 104,oF 3 106 0 105,oL 4 107 106,oK 5 108 107,oF 6 109 1 108,oL 7 110 109,oM 8 111 0,oK 9 112 111,oF 10 113 0 112,oL 11 114 113,⟨12,some 115,none,.call 985 [.t 114],[⟨4,some 107,none,.load none (.t 106),[]⟩,⟨7,some 110,none,.load none (.t 109),[]⟩]⟩,oD2 13 116 982 110 115,oK 14 117 103,oF 15 118 0 117,oT 16 1 118 116]
def qHJ:qG:=.seq (sr [oM 0 47 5,oE 1 48 .eql 47 7] (.cond (.t 48) (.reg true qHN) .skip)) (sr Kz (sr K0 (sr K2 (.seq (sr K3 (.cond (.t 102) (.reg true K4) .skip)) (sr [oC 0 4 0] .ret)))))
def qHI:qG:=.seq (sr [oM 0 23 6] (.cond (.t 23) (.reg true [oU 0 24 3,oX 1 25 3 1,oM 2 7 25]) .skip)) (sr qHL (.seq (sr qHM (sr [oM 0 44 9,oE 1 45 .neq 44 0] (.cond (.t 45) (sr [oM 0 46 9,oM 1 4 46] .ret) .skip))) qHJ))
def Ky:qJ:=⟨2,119,[.t 4],sr [oP 0 3 (.lbox 2 (.t 1)),oC 1 4 0] (sr qHK (sr [oU 0 21 3,oX 1 22 3 0,oM 2 7 22] qHI))⟩
def qHO:List qA:=[oM 0 8 0,oM 1 9 0,oM 2 10 0,oM 3 11 0,oM 4 12 0,oM 5 13 1,oM 6 14 2,oY 7 15 7 0 1,oK 8 16 8,oF 9 17 2 16,oT 10 1 17 13,oK 11 18 9,oF 12 19 3 18,oT 13 1 19 14,oK 14 20 10,oF 15 21 7 20,oN 16 (.store 1 (.t 21) (.c (.nils))),oK 17 22 11,oF 18 23 8 22,oN 19 (.store 1 (.t 23) (.c (.nils))),oK 20 24 12,oF 21 25 9 24,oT 22 1 25 15]
def K5:qJ:=⟨4,26,[],sr [oP 0 7 (.lbox 1 (.t 3))] (.reg true qHO)⟩
def qAW:List qA:=[oM 0 10 0,oK 1 11 10,oF 2 12 8 11,oL 3 13 12,oM 4 14 0,oK 5 15 14,oF 6 16 9 15,oP 7 17 (.load (some 1) (.t 16)),oD2 8 18 1272 13 17,oM 9 4 18]
def qAX:List qA:=[oM 0 19 0,oK 1 20 19,oF 2 21 6 20,oL 3 22 21,oD1 4 23 1270 22,oM 5 5 23]
def qA3:List qA:=[oM 0 26 7,oW 1 27 26,oE 2 28 .gtr 27 0,oM 3 29 28,oH 4 30 29 true 4,oG 5 31 29 true (.call 1274 [.t 30]),oH 6 32 29 true 1,oG 7 33 29 true (.bin .lss (.t 31) (.t 32)),oPf 8 34 29 33,oM 9 35 34,oH 10 36 35 true 6,oG 11 37 35 true (.bin .eql (.t 36) (.c (iI 0))),oPf 12 38 35 37]
def qA4:List qA:=[oM 0 39 4,oM 1 40 0,oK 2 41 40,oF 3 42 7 41,oL 4 43 42,oM 5 44 7,oM 6 45 5,oM 7 46 4,⟨8,some 47,none,.call 1274 [.t 46],[⟨4,some 43,none,.load none (.t 42),[]⟩]⟩,oB 9 48 .add 45 47,oP 10 49 (.call 750 [.t 43,.t 44,.t 48]),oD2 11 50 1275 39 49,oM 12 6 50]
def VU:List qA:=[oM 0 53 0,oK 1 54 53,oF 2 55 5 54,oL 3 56 55,oE 4 57 .add 56 1,oK 5 58 53,oF 6 59 5 58,oT 7 1 59 57]
def VV:List qA:=[oM 0 60 0,oK 1 61 60,oF 2 62 4 61,oL 3 63 62,oM 4 64 4,⟨5,some 65,none,.call 1274 [.t 64],[⟨3,some 63,none,.load none (.t 62),[]⟩]⟩,oB 6 66 .sub 63 65,oK 7 67 60,oF 8 68 4 67,oT 9 1 68 66]
def VW:List qA:=[oM 0 69 4,oK 1 70 69,oF 2 71 1 70,oL 3 72 71,oW 4 73 72,oC 5 74 0]
def qA5:List qA:=[oM 0 76 74,oA 1 77 1 72 74,oL 2 78 77,oM 3 8 76,oM 4 9 78]
def qA6:List qA:=[oM 0 79 0,oK 1 80 79,oF 2 81 6 80,oL 3 82 81,oM 4 83 8,oA 5 84 1 82 83,oL 6 85 84,oM 7 86 9,oB 8 87 .add 85 86,oA 9 88 1 82 83,oT 10 1 88 87]
def qAV:qG:=.loop (sr [oB 0 75 .lss 74 73] (.seq (.cond (.t 75) .skip (.exit 2)) (.seq (.blk 3 (sr qA5 (.reg true qA6))) (.reg true [oE 0 89 .add 74 1,oM 1 74 89]))))
def qAY:List qA:=[oM 0 101 0,oM 1 102 6,oP 2 103 (.build (.agg [.nils]) []),oP 3 104 (.call 1276 [.t 101,.c (iI 3),.t 102,.t 103])]
def qAZ:List qA:=[oM 0 106 7,oW 1 107 106,oE 2 108 .eql 107 0,oM 3 105 108]
def qA0:List qA:=[oM 0 109 0,oM 1 110 4,oK 2 111 110,oF 3 112 0 111,oL 4 113 112,oD1 5 114 985 113,oP 6 115 (.call 1276 [.t 109,.c (iI 2),.c (iI 0),.t 114])]
def qA1:List qA:=[oM 0 117 0,oK 1 118 117,oF 2 119 4 118,oL 3 120 119,oE 4 121 .eql 120 0,oM 5 116 121]
def qA2:List qA:=[oM 0 90 0,oM 1 91 4,oK 2 92 91,oF 3 93 0 92,oL 4 94 93,oD1 5 95 985 94,oK 6 96 90,oF 7 97 9 96,oT 8 1 97 95]
def qAU:qG:=.cond (.t 98) (.reg true qAY) (sr qAZ (.cond (.t 105) (.reg true qA0) (sr qA1 (.cond (.t 116) (.reg true [oM 0 122 0,oP 1 123 (.build (.agg [.nils]) []),oP 2 124 (.call 1276 [.t 122,.c (iI 3),.c (iI 12),.t 123])]) (.reg true qA2)))))
def qYQ:qG:=.seq (.blk 0 (.loop (.seq (sr qA3 (.cond (.t 38) .skip (.exit 0))) (.blk 1 (sr qA4 (.reg true [oM 0 51 4,oD1 1 52 1273 51,oM 2 7 52])))))) (sr VU (sr VV (.seq (sr VW (.blk 2 qAV)) (.blk 4 (sr [oM 0 99 6,oE 1 100 .neq 99 0,oM 2 98 100] qAU)))))
def F966:qJ:=⟨2,125,[],sr qAW (sr qAX (sr [oC 0 6 0] (sr [oM 0 24 4,oD1 1 25 1273 24,oM 2 7 25] qYQ)))⟩
def qSX:List qA:=[oM 0 9 0,oK 1 10 9,oF 2 11 3 10,oL 3 12 11,oM 4 13 3,oA 5 14 10 12 13,oM 6 4 14]
def qSY:List qA:=[oM 0 15 4,oM 1 16 0,oK 2 17 16,oF 3 18 0 17,oL 4 19 18,oM 5 20 4,oK 6 21 20,oF 7 22 1 21,oL 8 23 22,oB 9 24 .mul 19 23,oM 10 25 4,oK 11 26 25,oF 12 27 4 26,oL 13 28 27,oP 14 29 (.min (.t 24) (.t 28)),oD2 15 30 966 15 29]
def qSZ:List qA:=[oM 0 31 0,oM 1 32 3,oE 2 33 .add 32 1,oM 3 34 0,oK 4 35 34,oF 5 36 3 35,oL 6 37 36,oW 7 38 37,oB 8 39 .rem 33 38,oK 9 40 31,oF 10 41 2 40,oT 11 1 41 39]
def qSW:qG:=.seq (sr [oM 0 7 3,oE 1 8 .lss 7 0] (.cond (.t 8) (sr [oP 0 2 (.mov (.c (iI (-1))))] .ret) .skip)) (sr qSX (sr qSY (sr qSZ (sr [oM 0 42 3,oM 1 2 42] .ret))))
def F591:qJ:=⟨1,43,[.t 2],sr [oC 0 2 0] (sr [oM 0 5 0,oD1 1 6 597 5,oM 2 3 6] qSW)⟩
def qYU:List qA:=[oU 0 5 2,oX 1 6 2 0,oU 2 7 3,oX 3 8 3 0,oB 4 9 .neq 6 8]
def qYV:List qA:=[oU 0 10 2,oX 1 11 2 1,oU 2 12 3,oX 3 13 3 1,oB 4 14 .neq 11 13]
def qYW:List qA:=[oU 0 15 2,oX 1 16 2 2,oU 2 17 3,oX 3 18 3 2,oB 4 19 .neq 16 18]
def qYX:List qA:=[oU 0 20 2,oX 1 21 2 3,oU 2 22 3,oX 3 23 3 3,oB 4 24 .neq 21 23]
def qYY:List qA:=[oU 0 25 2,oX 1 26 2 4,oU 2 27 3,oX 3 28 3 4,oB 4 29 .neq 26 28]
def qYZ:List qA:=[oU 0 30 2,oX 1 31 2 5,oU 2 32 3,oX 3 33 3 5,oB 4 34 .neq 31 33]
def qY0:List qA:=[oU 0 35 2,oX 1 36 2 6,oU 2 37 3,oX 3 38 3 6,oD2 4 39 86 36 38,oJ 5 40 39]
def qY1:List qA:=[oU 0 41 2,oX 1 42 2 7,oU 2 43 3,oX 3 44 3 7,oD2 4 45 86 42 44,oJ 5 46 45]
def qY2:List qA:=[oU 0 47 2,oX 1 48 2 8,oU 2 49 3,oX 3 50 3 8,oD2 4 51 187 48 50,oJ 5 52 51]
def qY3:List qA:=[oU 0 53 2,oY 1 54 2 9 1,oU 2 55 3,oY 3 56 3 9 1,oD2 4 57 188 54 56,oJ 5 58 57]
def qYR:qG:=.seq (sr qY1 (.cond (.t 46) (sr [oQ 0 4 false] .ret) .skip)) (.seq (sr qY2 (.cond (.t 52) (sr [oQ 0 4 false] .ret) .skip)) (.seq (sr qY3 (.cond (.t 58) (sr [oQ 0 4 false] .ret) .skip)) (sr [oQ 0 4 true] .ret)))
def qYS:qG:=.seq (sr qYY (.cond (.t 29) (sr [oQ 0 4 false] .ret) .skip)) (.seq (sr qYZ (.cond (.t 34) (sr [oQ 0 4 false] .ret) .skip)) (.seq (sr qY0 (.cond (.t 40) (sr [oQ 0 4 false] .ret) .skip)) qYR))
def qYT:qG:=.seq (sr qYV (.cond (.t 14) (sr [oQ 0 4 false] .ret) .skip)) (.seq (sr qYW (.cond (.t 19) (sr [oQ 0 4 false] .ret) .skip)) (.seq (sr qYX (.cond (.t 24) (sr [oQ 0 4 false] .ret) .skip)) qYS))
def F967:qJ:=⟨2,59,[.t 4],sr [oP 0 2 (.lbox 10 (.t 0)),oP 1 3 (.lbox 10 (.t 1)),oQ 2 4 false] (.seq (sr qYU (.cond (.t 9) (sr [oQ 0 4 false] .ret) .skip)) qYT)⟩
def F592:qJ:=eqS 10 (some 10) 967
def qO6:List qA:=[oU 0 5 2,oX 1 6 2 0,oU 2 7 3,oX 3 8 3 0,oB 4 9 .neq 6 8]
def qO7:List qA:=[oU 0 10 2,oX 1 11 2 1,oU 2 12 3,oX 3 13 3 1,oB 4 14 .neq 11 13]
def qO8:List qA:=[oU 0 15 2,oX 1 16 2 2,oU 2 17 3,oX 3 18 3 2,oB 4 19 .neq 16 18]
def qO9:List qA:=[oU 0 20 2,oX 1 21 2 3,oU 2 22 3,oX 3 23 3 3,oD2 4 24 592 21 23,oJ 5 25 24]
def qO5:qG:=.seq (sr qO7 (.cond (.t 14) (sr [oQ 0 4 false] .ret) .skip)) (.seq (sr qO8 (.cond (.t 19) (sr [oQ 0 4 false] .ret) .skip)) (.seq (sr qO9 (.cond (.t 25) (sr [oQ 0 4 false] .ret) .skip)) (sr [oQ 0 4 true] .ret)))
def F235:qJ:=⟨2,26,[.t 4],sr [oP 0 2 (.lbox 4 (.t 0)),oP 1 3 (.lbox 4 (.t 1)),oQ 2 4 false] (.seq (sr qO6 (.cond (.t 9) (sr [oQ 0 4 false] .ret) .skip)) qO5)⟩
def qS4:List qA:=[oM 0 6 5,oM 1 7 0,oW 2 8 7,oB 3 9 .lss 6 8]
def qS5:List qA:=[oM 0 12 0,oM 1 13 5,oM 2 14 1,oA 3 15 10 12 13,oF 4 16 0 15,oT 5 1 16 14]
def qS7:List qA:=[oM 0 19 0,oM 1 20 5,oM 2 21 1,oA 3 22 10 19 20,oF 4 23 1 22,oT 5 1 23 21]
def qS8:List qA:=[oM 0 26 0,oM 1 27 5,oM 2 28 1,oA 3 29 10 26 27,oF 4 30 2 29,oT 5 1 30 28]
def qS9:List qA:=[oM 0 33 0,oM 1 34 5,oM 2 35 1,oA 3 36 10 33 34,oF 4 37 3 36,oT 5 1 37 35]
def qTA:List qA:=[oM 0 40 0,oM 1 41 5,oM 2 42 1,oA 3 43 10 40 41,oF 4 44 4 43,oT 5 1 44 42]
def qTB:List qA:=[oM 0 47 0,oM 1 48 5,oM 2 49 1,oA 3 50 10 47 48,oF 4 51 5 50,oT 5 1 51 49]
def qTC:List qA:=[oM 0 54 0,oM 1 55 5,oA 2 56 10 54 55,oF 3 57 6 56,oL 4 58 57,oM 5 59 1,oD2 6 60 90 58 59,oM 7 1 60]
def qTD:List qA:=[oM 0 61 0,oM 1 62 5,oA 2 63 10 61 62,oF 3 64 7 63,oL 4 65 64,oM 5 66 1,oD2 6 67 90 65 66,oM 7 1 67]
def qTE:List qA:=[oM 0 68 0,oM 1 69 5,oA 2 70 10 68 69,oF 3 71 8 70,oL 4 72 71,oM 5 73 1,oD2 6 74 225 72 73,oM 7 1 74]
def qS6:List qA:=[oM 0 75 0,oM 1 76 5,oA 2 77 10 75 76,oF 3 78 9 77,oF 4 79 0 78,oL 5 80 79,oM 6 81 1,oD2 7 82 524 80 81,oM 8 1 82]
def qS0:qG:=sr qTB (sr [oM 0 52 1,oE 1 53 .add 52 1,oM 2 1 53] (sr qTC (sr qTD (sr qTE (.reg true qS6)))))
def qS1:qG:=sr [oM 0 38 1,oE 1 39 .add 38 1,oM 2 1 39] (sr qTA (sr [oM 0 45 1,oE 1 46 .add 45 1,oM 2 1 46] qS0))
def qS2:qG:=sr [oM 0 24 1,oE 1 25 .add 24 1,oM 2 1 25] (sr qS8 (sr [oM 0 31 1,oE 1 32 .add 31 1,oM 2 1 32] (sr qS9 qS1)))
def qS3:qG:=.seq (.blk 1 (sr qS5 (sr [oM 0 17 1,oE 1 18 .add 17 1,oM 2 1 18] (sr qS7 qS2)))) (.reg true [oM 0 10 5,oE 1 11 .add 10 1,oM 2 5 11])
def F593:qJ:=⟨2,84,[.t 4],sr [oC 0 4 0] (.seq (sr [oC 0 5 0] (.blk 0 (.loop (.seq (sr qS4 (.cond (.t 9) .skip (.exit 0))) qS3)))) (sr [oM 0 83 1,oM 1 4 83] .ret))⟩
def qPA:List qA:=[oU 0 5 2,oX 1 6 2 3,oM 2 7 1,oD2 3 8 593 6 7,oM 4 1 8]
def F236:qJ:=⟨2,10,[.t 4],sr [oP 0 2 (.lbox 4 (.t 0)),oC 1 4 0] (sr qPA (sr [oM 0 9 1,oM 1 4 9] .ret))⟩
def qTM:List qA:=[oM 0 6 5,oM 1 7 0,oW 2 8 7,oB 3 9 .lss 6 8]
def qTN:List qA:=[oM 0 12 0,oM 1 13 5,oA 2 14 10 12 13,oF 3 15 0 14,oL 4 16 15,oM 5 17 1,oB 6 18 .neq 16 17]
def qTP:List qA:=[oM 0 21 0,oM 1 22 5,oA 2 23 10 21 22,oF 3 24 1 23,oL 4 25 24,oM 5 26 1,oB 6 27 .neq 25 26]
def qTQ:List qA:=[oM 0 30 0,oM 1 31 5,oA 2 32 10 30 31,oF 3 33 2 32,oL 4 34 33,oM 5 35 1,oB 6 36 .neq 34 35]
def qTR:List qA:=[oM 0 39 0,oM 1 40 5,oA 2 41 10 39 40,oF 3 42 3 41,oL 4 43 42,oM 5 44 1,oB 6 45 .neq 43 44]
def qTS:List qA:=[oM 0 48 0,oM 1 49 5,oA 2 50 10 48 49,oF 3 51 4 50,oL 4 52 51,oM 5 53 1,oB 6 54 .neq 52 53]
def qTT:List qA:=[oM 0 57 0,oM 1 58 5,oA 2 59 10 57 58,oF 3 60 5 59,oL 4 61 60,oM 5 62 1,oB 6 63 .neq 61 62]
def qTU:List qA:=[oM 0 66 0,oM 1 67 5,oA 2 68 10 66 67,oF 3 69 6 68,oL 4 70 69,oM 5 71 1,oD2 6 72 92 70 71,oM 7 1 72]
def qTV:List qA:=[oM 0 75 0,oM 1 76 5,oA 2 77 10 75 76,oF 3 78 7 77,oL 4 79 78,oM 5 80 1,oD2 6 81 92 79 80,oM 7 1 81]
def qTW:List qA:=[oM 0 84 0,oM 1 85 5,oA 2 86 10 84 85,oF 3 87 8 86,oL 4 88 87,oM 5 89 1,oD2 6 90 230 88 89,oM 7 1 90]
def qTO:List qA:=[oM 0 93 0,oM 1 94 5,oA 2 95 10 93 94,oF 3 96 9 95,oF 4 97 0 96,oL 5 98 97,oM 6 99 1,oD2 7 100 525 98 99,oM 8 1 100]
def qTF:qG:=.seq (sr [oM 0 91 1,oE 1 92 .lss 91 0] (.cond (.t 92) (sr [oP 0 4 (.mov (.c (iI (-1))))] .ret) .skip)) (sr qTO (sr [oM 0 101 1,oE 1 102 .lss 101 0] (.cond (.t 102) (sr [oP 0 4 (.mov (.c (iI (-1))))] .ret) .skip)))
def qTG:qG:=.seq (sr [oM 0 73 1,oE 1 74 .lss 73 0] (.cond (.t 74) (sr [oP 0 4 (.mov (.c (iI (-1))))] .ret) .skip)) (sr qTV (.seq (sr [oM 0 82 1,oE 1 83 .lss 82 0] (.cond (.t 83) (sr [oP 0 4 (.mov (.c (iI (-1))))] .ret) .skip)) (sr qTW qTF)))
def qTH:qG:=sr [oM 0 55 1,oE 1 56 .add 55 1,oM 2 1 56] (.seq (sr qTT (.cond (.t 63) (sr [oP 0 4 (.mov (.c (iI (-1))))] .ret) .skip)) (sr [oM 0 64 1,oE 1 65 .add 64 1,oM 2 1 65] (sr qTU qTG)))
def qTI:qG:=.seq (sr qTR (.cond (.t 45) (sr [oP 0 4 (.mov (.c (iI (-1))))] .ret) .skip)) (sr [oM 0 46 1,oE 1 47 .add 46 1,oM 2 1 47] (.seq (sr qTS (.cond (.t 54) (sr [oP 0 4 (.mov (.c (iI (-1))))] .ret) .skip)) qTH))
def qTJ:qG:=sr [oM 0 28 1,oE 1 29 .add 28 1,oM 2 1 29] (.seq (sr qTQ (.cond (.t 36) (sr [oP 0 4 (.mov (.c (iI (-1))))] .ret) .skip)) (sr [oM 0 37 1,oE 1 38 .add 37 1,oM 2 1 38] qTI))
def qTK:qG:=.seq (sr qTN (.cond (.t 18) (sr [oP 0 4 (.mov (.c (iI (-1))))] .ret) .skip)) (sr [oM 0 19 1,oE 1 20 .add 19 1,oM 2 1 20] (.seq (sr qTP (.cond (.t 27) (sr [oP 0 4 (.mov (.c (iI (-1))))] .ret) .skip)) qTJ))
def qTL:qG:=sr [oC 0 5 0] (.blk 0 (.loop (.seq (sr qTM (.cond (.t 9) .skip (.exit 0))) (.seq (.blk 1 qTK) (.reg true [oM 0 10 5,oE 1 11 .add 10 1,oM 2 5 11])))))
def F594:qJ:=⟨2,104,[.t 4],sr [oC 0 4 0] (.seq qTL (sr [oM 0 103 1,oM 1 4 103] .ret))⟩
def qPC:List qA:=[oU 0 5 2,oX 1 6 2 3,oM 2 7 1,oD2 3 8 594 6 7,oM 4 1 8]
def qPB:qG:=sr qPC (.seq (sr [oM 0 9 1,oE 1 10 .lss 9 0] (.cond (.t 10) (sr [oP 0 4 (.mov (.c (iI (-1))))] .ret) .skip)) (sr [oM 0 11 1,oM 1 4 11] .ret))
def F237:qJ:=⟨2,12,[.t 4],sr [oP 0 2 (.lbox 4 (.t 0)),oC 1 4 0] qPB⟩
def qPG:List qA:=[oP 0 2 (.hbox 4 (.t 0)),oP 1 4 (.lalloc (.agg [iI 0,iI 0,iI 0,.nils])),oC 2 5 0,oC 3 6 0]
def qPH:List qA:=[oP 0 12 (.build (.agg [iI 0,iI 0,iI 0,.nils]) []),oS 1 4 0 4 12,oC 2 5 0,oC 3 6 1]
def qPI:List qA:=[oP 0 16 (.build (.agg [iI 0,iI 0,iI 0,.nils]) []),oS 1 4 0 4 16,oC 2 5 0,oC 3 6 2]
def qPJ:List qA:=[oP 0 23 (.load (some 4) (.t 7)),oM 1 24 8,oS 2 4 0 4 23,oM 3 5 24,oC 4 6 0]
def qPK:List qA:=[oP 0 28 (.build (.agg [iI 0,iI 0,iI 0,.nils]) []),oS 1 4 0 4 28,oC 2 5 0,oC 3 6 12]
def qPD:qG:=.seq (sr [oM 0 21 9,oE 1 22 .lss 21 0] (.cond (.t 22) (sr qPJ .ret) .skip)) (.seq (sr [oM 0 25 8,oM 1 26 1,oB 2 27 .eql 25 26] (.cond (.t 27) (sr qPK .ret) .skip)) (.reg true [oM 0 29 9,oD2 1 30 587 7 29]))
def qPE:qG:=.loop (.seq (.blk 1 (sr [oD1 0 20 585 7,oM 1 9 20] qPD)) (.reg true [oM 0 18 8,oE 1 19 .add 18 1,oM 2 8 19]))
def qPF:qG:=.seq (sr [oM 0 13 1,oP 1 14 (.call 340 [.t 13,.c (iI 0),.c (iI 4000)]),oJ 2 15 14] (.cond (.t 15) (sr qPI .ret) .skip)) (sr [oD1 0 17 586 2,oP 1 7 (.halloc 4 (.agg [iI 0,iI 0,iI 0,.nils])),oT 2 4 7 17] (sr [oC 0 8 0] (.blk 0 qPE)))
def F241:qJ:=⟨2,31,[.l 4 (some 4),.t 5,.t 6],sr qPG (.seq (sr [oD1 0 10 584 2,oJ 1 11 10] (.cond (.t 11) (sr qPH .ret) .skip)) qPF)⟩
def qPN:List qA:=[oP 0 2 (.lbox 4 (.t 0)),oP 1 4 (.lalloc (.agg [iI 0,iI 0,iI 0,.nils])),oC 2 5 0,oC 3 6 0]
def qPO:List qA:=[oY 0 10 2 0 4,oD1 1 11 589 10,oJ 2 12 11,oM 3 9 12]
def qPP:List qA:=[oP 0 13 (.build (.agg [iI 0,iI 0,iI 0,.nils]) []),oS 1 4 0 4 13,oC 2 5 0,oC 3 6 1]
def qPQ:List qA:=[oM 0 15 1,oP 1 16 (.bslice 1 (iI 0) 1 [(0,.t 15)]),oP 2 17 (.call 436 [.c (iI 4000),.t 16]),oJ 3 18 17,oM 4 14 18]
def qPR:List qA:=[oP 0 19 (.build (.agg [iI 0,iI 0,iI 0,.nils]) []),oS 1 4 0 4 19,oC 2 5 0,oC 3 6 2]
def qPS:List qA:=[oY 0 20 2 0 4,oD1 1 21 590 20,oP 2 7 (.halloc 4 (.agg [iI 0,iI 0,iI 0,.nils])),oT 3 4 7 21]
def qPT:List qA:=[oP 0 27 (.build (.agg [iI 0,iI 0,iI 0,.nils]) []),oS 1 4 0 4 27,oC 2 5 0,oC 3 6 12]
def qPL:qG:=.seq (sr [oM 0 24 8,oM 1 25 1,oB 2 26 .eql 24 25] (.cond (.t 26) (sr qPT .ret) .skip)) (sr [oD1 0 28 591 7] (.reg true [oM 0 29 8,oE 1 30 .add 29 1,oM 2 8 30]))
def qPU:List qA:=[oP 0 31 (.load (some 4) (.t 7)),oM 1 32 8,oS 2 4 0 4 31,oM 3 5 32,oC 4 6 0]
def qPM:qG:=sr qPS (sr [oC 0 8 0] (.seq (.blk 1 (.loop (.seq (sr [oD1 0 22 597 7,oE 1 23 .geq 22 0] (.cond (.t 23) .skip (.exit 1))) (.blk 2 qPL)))) (sr qPU .ret)))
def F242:qJ:=⟨2,33,[.l 4 (some 4),.t 5,.t 6],sr qPN (.seq (.blk 0 (sr qPO (.cond (.t 9) (sr qPP .ret) (sr qPQ (.cond (.t 14) (sr qPR .ret) .skip))))) qPM)⟩
def qQJ:List qA:=[oY 0 19 2 0 4,oM 1 20 5,oD2 2 21 231 19 20,oM 3 5 21]
def qQK:List qA:=[oY 0 25 2 0 4,oD1 1 26 233 25,oM 2 27 1,oD2 3 28 241 26 27,oM 4 24 28,oV 5 29 24 0,oV 6 30 24 1,oV 7 31 24 2,oP 8 6 (.lalloc (.agg [iI 0,iI 0,iI 0,.nils])),oS 9 6 0 4 29,oM 10 7 30,oM 11 8 31]
def qQO:List qA:=[oY 0 32 2 0 4,oD1 1 33 233 32,oP 2 9 (.lalloc (.agg [iI 0,iI 0,iI 0,.nils])),oS 3 9 0 4 33]
def qQP:List qA:=[oY 0 35 9 0 4,oM 1 36 1,oD2 2 37 242 35 36,oM 3 34 37,oV 4 38 34 0,oV 5 39 34 1,oV 6 40 34 2,oP 7 10 (.lalloc (.agg [iI 0,iI 0,iI 0,.nils])),oS 8 10 0 4 38,oM 9 11 39,oM 10 12 40]
def qQQ:List qA:=[oY 0 41 10 0 4,oY 1 42 6 0 4,oD2 2 43 235 41 42,oJ 3 44 43,oM 4 45 44,oH 5 46 45 false 11,oH 6 47 45 false 7,oG 7 48 45 false (.bin .neq (.t 46) (.t 47)),oPt 8 49 45 48,oM 9 50 49,oH 10 51 50 false 12,oH 11 52 50 false 8,oG 12 53 50 false (.bin .neq (.t 51) (.t 52)),oPt 13 54 50 53]
def qQR:List qA:=[oY 0 55 9 0 4,oY 1 56 2 0 4,oD1 2 57 233 56,oD2 3 58 235 55 57,oJ 4 59 58]
def qQS:List qA:=[oY 0 60 9 0 4,oM 1 61 13,oD2 2 62 236 60 61,oM 3 13 62]
def qQT:List qA:=[oM 0 63 13,oE 1 64 .lss 63 0,oM 2 65 64,oG 3 66 65 false (.lload 10 0 (some 4)),oG 4 67 65 false (.lload 6 0 (some 4)),oG 5 68 65 false (.call 235 [.t 66,.t 67]),j4 6 69 65 68,oPt 7 70 65 69,oM 8 71 70,oH 9 72 71 false 11,oH 10 73 71 false 7,oG 11 74 71 false (.bin .neq (.t 72) (.t 73)),oPt 12 75 71 74,oM 13 76 75,oH 14 77 76 false 12,oH 15 78 76 false 8,oG 16 79 76 false (.bin .neq (.t 77) (.t 78)),oPt 17 80 76 79]
def qQU:List qA:=[oY 0 81 10 0 4,oM 1 82 14,oD2 2 83 236 81 82,oM 3 14 83]
def qQV:List qA:=[oY 0 84 10 0 4,oM 1 85 15,oD2 2 86 237 84 85,oM 3 15 86]
def qQL:List qA:=[oY 0 93 2 0 4,oD1 1 94 233 93,oM 2 95 1,oD2 3 96 242 94 95,oM 4 92 96,oV 5 97 92 0,oV 6 98 92 1,oV 7 99 92 2,oP 8 16 (.lalloc (.agg [iI 0,iI 0,iI 0,.nils])),oS 9 16 0 4 97,oM 10 17 98,oM 11 18 99]
def qQM:List qA:=[oY 0 100 16 0 4,oY 1 101 6 0 4,oD2 2 102 235 100 101,oJ 3 103 102,oM 4 104 103,oH 5 105 104 false 17,oH 6 106 104 false 7,oG 7 107 104 false (.bin .neq (.t 105) (.t 106)),oPt 8 108 104 107,oM 9 109 108,oH 10 110 109 false 18,oH 11 111 109 false 8,oG 12 112 109 false (.bin .neq (.t 110) (.t 111)),oPt 13 113 109 112]
def qQN:List qA:=[oY 0 114 10 0 4,oM 1 115 15,oD2 2 116 237 114 115,oM 3 15 116]
def qQE:qG:=.seq (sr [oM 0 117 15,oE 1 118 .lss 117 0] (.cond (.t 118) (sr [oQ 0 4 false] .ret) .skip)) (.seq (sr [oM 0 119 15,oM 1 120 14,oB 2 121 .neq 119 120] (.cond (.t 121) (sr [oQ 0 4 false] .ret) .skip)) (sr [oQ 0 4 true] .ret))
def qQF:qG:=.seq (sr [oM 0 89 15,oM 1 90 14,oB 2 91 .neq 89 90] (.cond (.t 91) (sr [oQ 0 4 false] .ret) .skip)) (sr qQL (.seq (sr qQM (.cond (.t 113) (sr [oQ 0 4 false] .ret) .skip)) (sr [oC 0 15 1] (sr qQN qQE))))
def qQG:qG:=sr qQU (sr [oC 0 15 1] (sr qQV (.seq (sr [oM 0 87 15,oE 1 88 .lss 87 0] (.cond (.t 88) (sr [oQ 0 4 false] .ret) .skip)) qQF)))
def qQH:qG:=.seq (sr qQR (.cond (.t 59) (sr [oQ 0 4 false] .ret) .skip)) (sr [oC 0 13 1] (sr qQS (.seq (sr qQT (.cond (.t 80) (sr [oQ 0 4 false] .ret) .skip)) (sr [oC 0 14 1] qQG))))
def qQI:qG:=.seq (sr [oM 0 22 5,oE 1 23 .lss 22 0] (.cond (.t 23) (sr [oQ 0 4 true] .ret) .skip)) (sr qQK (sr qQO (sr qQP (.seq (sr qQQ (.cond (.t 54) (sr [oQ 0 4 false] .ret) .skip)) qQH))))
def F37:qJ:=⟨2,122,[.t 4],sr [oP 0 2 (.lbox 4 (.t 0)),oQ 1 4 false] (sr [oC 0 5 1048576] (sr qQJ qQI))⟩
@[go_sem] theorem rR0:OE qV2.eq_1/\OE qV3.eq_1/\CE qV1.eq_1/\OE qOP.eq_1/\CE qOO.eq_1/\OE qP7.eq_1/\OE qQ1.eq_1/\OE qQ2.eq_1/\CE qQZ.eq_1/\CE qQ0.eq_1/\OE qQ4.eq_1/\CE qLP.eq_1/\CE qLQ.eq_1/\CE qLR.eq_1/\CE qLS.eq_1/\CE qLT.eq_1/\CE qLU.eq_1/\OE qL1.eq_1/\OE qL2.eq_1/\CE qLV.eq_1/\CE qLW.eq_1/\CE qLX.eq_1/\OE qL3.eq_1/\OE qL8.eq_1/\OE qL9.eq_1/\OE qMB.eq_1/\OE qMC.eq_1/\OE qMD.eq_1/\OE qME.eq_1/\OE qMF.eq_1/\OE qMG.eq_1/\OE qMH.eq_1/\CE qL7.eq_1/\CE qL4.eq_1/\CE qL5.eq_1/\CE qL6.eq_1/\OE qMA.eq_1/\OE qE7.eq_1/\OE qE8.eq_1/\OE qUH.eq_1/\OE qUI.eq_1/\OE qUJ.eq_1/\CE qUG.eq_1/\OE qPY.eq_1/\OE qPZ.eq_1/\OE qP0.eq_1/\OE qP1.eq_1/\OE qP2.eq_1/\OE qP3.eq_1/\OE qP4.eq_1/\CE qPV.eq_1/\CE qPW.eq_1/\CE qPX.eq_1/\OE qT3.eq_1/\OE qT4.eq_1/\CE qT1.eq_1/\CE qT2.eq_1/\OE qUU.eq_1/\OE qUV.eq_1/\OE qUW.eq_1:=by and_intros<;>first|exact OEM _|exact CEM _
@[go_sem] theorem rR1:OE qUX.eq_1/\OE qUY.eq_1/\CE qUS.eq_1/\CE qUT.eq_1/\OE qMP.eq_1/\OE qOG.eq_1/\OE qOH.eq_1/\OE qOI.eq_1/\CE qOJ.eq_1/\CE qOK.eq_1/\OE qMV.eq_1/\OE qMW.eq_1/\OE qMX.eq_1/\CE qMQ.eq_1/\CE qMR.eq_1/\CE qMS.eq_1/\CE qMT.eq_1/\CE qMU.eq_1/\OE qFP.eq_1/\OE qFQ.eq_1/\OE qFR.eq_1/\CE qFO.eq_1/\OE qUZ.eq_1/\OE qU0.eq_1/\OE qU1.eq_1/\OE qU2.eq_1/\OE qU3.eq_1/\OE qFT.eq_1/\OE qFU.eq_1/\OE qFV.eq_1/\CE qFS.eq_1/\OE qU4.eq_1/\OE qU5.eq_1/\OE qU6.eq_1/\OE qM7.eq_1/\OE qM8.eq_1/\OE qV6.eq_1/\OE qV7.eq_1/\OE qV8.eq_1/\OE qV9.eq_1/\OE qWA.eq_1/\CE qV5.eq_1/\OE qOQ.eq_1/\OE qVO.eq_1/\OE qQY.eq_1/\OE qVZ.eq_1/\OE qQ3.eq_1/\OE qRW.eq_1/\OE qRX.eq_1/\OE qRY.eq_1/\OE qRZ.eq_1/\CE qRU.eq_1/\CE qRV.eq_1/\OE qVP.eq_1/\OE qE0.eq_1/\OE qE1.eq_1/\OE qOE.eq_1/\OE qMJ.eq_1/\OE qMK.eq_1/\OE qML.eq_1:=by and_intros<;>first|exact OEM _|exact CEM _
@[go_sem] theorem rR2:CE qMI.eq_1/\CE qMM.eq_1/\OE qL0.eq_1/\OE qOF.eq_1/\OE qMN.eq_1/\OE qMO.eq_1/\OE qFC.eq_1/\OE qFD.eq_1/\OE qFF.eq_1/\OE qFG.eq_1/\OE qFH.eq_1/\OE qFI.eq_1/\OE qFJ.eq_1/\OE qFK.eq_1/\OE qFL.eq_1/\OE qFM.eq_1/\CE qE9.eq_1/\CE qFA.eq_1/\CE qFB.eq_1/\OE qFE.eq_1/\OE qUM.eq_1/\OE qUN.eq_1/\OE qUO.eq_1/\CE qUK.eq_1/\CE qUL.eq_1/\OE qR0.eq_1/\OE qUR.eq_1/\OE qUP.eq_1/\OE qUQ.eq_1/\OE qP5.eq_1/\OE qP6.eq_1/\OE qWB.eq_1/\OE qRB.eq_1/\OE qP9.eq_1/\OE qQA.eq_1/\OE qQB.eq_1/\OE qQC.eq_1/\OE qQD.eq_1/\CE qP8.eq_1/\OE qU7.eq_1/\OE qU8.eq_1/\OE qOL.eq_1/\OE qOM.eq_1/\OE qON.eq_1/\OE qM3.eq_1/\OE qM4.eq_1/\OE qM5.eq_1/\CE qMY.eq_1/\CE qMZ.eq_1/\CE qM0.eq_1/\CE qM1.eq_1/\CE qM2.eq_1/\OE qFY.eq_1/\OE qFZ.eq_1/\OE qF0.eq_1/\CE qFW.eq_1/\CE qFX.eq_1/\OE qVA.eq_1/\OE qVB.eq_1/\OE qVC.eq_1:=by and_intros<;>first|exact OEM _|exact CEM _
@[go_sem] theorem rR3:OE qVD.eq_1/\OE qVE.eq_1/\CE qU9.eq_1/\OE qM9.eq_1/\OE qNA.eq_1/\OE qWD.eq_1/\OE qWE.eq_1/\OE qWF.eq_1/\OE qWG.eq_1/\OE qWH.eq_1/\CE qWC.eq_1/\OE qOR.eq_1/\OE qQX.eq_1/\OE qV0.eq_1/\OE qQ6.eq_1/\OE qQ7.eq_1/\CE qQ5.eq_1/\OE qQW.eq_1/\OE qLZ.eq_1/\OE qE6.eq_1/\OE qVV.eq_1/\OE qVW.eq_1/\OE qVX.eq_1/\OE qVY.eq_1/\CE qVU.eq_1/\OE qVS.eq_1/\OE qVT.eq_1/\CE qVQ.eq_1/\CE qVR.eq_1/\OE qWT.eq_1/\OE qWU.eq_1/\CE qWS.eq_1/\OE qWK.eq_1/\OE qWL.eq_1/\OE qWM.eq_1/\CE qWI.eq_1/\CE qWJ.eq_1/\OE qRE.eq_1/\OE qRF.eq_1/\OE qRG.eq_1/\OE qRH.eq_1/\OE qRI.eq_1/\OE qRJ.eq_1/\CE qRC.eq_1/\CE qRD.eq_1/\OE qOT.eq_1/\OE qOU.eq_1/\CE qOS.eq_1/\OE qWW.eq_1/\OE qWX.eq_1/\CE qWV.eq_1/\OE qWP.eq_1/\OE qWQ.eq_1/\OE qWR.eq_1/\CE qWN.eq_1/\CE qWO.eq_1/\OE qRO.eq_1/\OE qRP.eq_1/\OE qRQ.eq_1/\OE qRR.eq_1:=by and_intros<;>first|exact OEM _|exact CEM _
@[go_sem] theorem rR4:OE qRS.eq_1/\OE qRT.eq_1/\CE qRK.eq_1/\CE qRL.eq_1/\CE qRM.eq_1/\CE qRN.eq_1/\OE qOW.eq_1/\OE qOX.eq_1/\CE qOV.eq_1/\OE qWZ.eq_1/\OE qW0.eq_1/\CE qWY.eq_1/\OE qW1.eq_1/\OE qW2.eq_1/\OE qW3.eq_1/\CE qV4.eq_1/\OE qGE.eq_1/\OE qGF.eq_1/\CE qGD.eq_1/\CE qN0.eq_1/\CE qN1.eq_1/\CE qN2.eq_1/\CE qN3.eq_1/\CE qN4.eq_1/\OE qN6.eq_1/\CE qN5.eq_1/\OE qHT.eq_1/\OE qHU.eq_1/\OE qHW.eq_1/\OE qHX.eq_1/\OE qHY.eq_1/\OE qHZ.eq_1/\OE qH0.eq_1/\OE qH1.eq_1/\CE qHR.eq_1/\CE qHS.eq_1/\CE qHP.eq_1/\OE qHV.eq_1/\CE qHQ.eq_1/\OE qH4.eq_1/\OE qH5.eq_1/\CE qH2.eq_1/\CE qH3.eq_1/\OE qQ8.eq_1/\OE qQ9.eq_1/\OE qRA.eq_1/\OE qH6.eq_1/\OE qH7.eq_1/\OE qH8.eq_1/\OE qIN.eq_1/\OE qIC.eq_1/\OE qID.eq_1/\OE qIG.eq_1/\OE qIH.eq_1/\OE qII.eq_1/\OE qIJ.eq_1/\OE qIK.eq_1/\OE qIL.eq_1/\CE qIB.eq_1/\OE qIM.eq_1:=by and_intros<;>first|exact OEM _|exact CEM _
@[go_sem] theorem rR5:OE qIE.eq_1/\OE qIF.eq_1/\CE qH9.eq_1/\CE qIA.eq_1/\OE qGB.eq_1/\OE qVI.eq_1/\OE qVJ.eq_1/\OE qVK.eq_1/\OE qVL.eq_1/\OE qVM.eq_1/\OE qVN.eq_1/\CE qVF.eq_1/\CE qVG.eq_1/\CE qVH.eq_1/\OE qIP.eq_1/\OE qIQ.eq_1/\OE qIR.eq_1/\OE qIS.eq_1/\OE qIT.eq_1/\OE qIU.eq_1/\OE qIV.eq_1/\CE qIO.eq_1/\OE qIZ.eq_1/\OE qI0.eq_1/\OE qI5.eq_1/\OE qI6.eq_1/\OE qI7.eq_1/\OE qI8.eq_1/\CE qIY.eq_1/\OE qI9.eq_1/\OE qJA.eq_1/\OE qJB.eq_1/\OE qI1.eq_1/\OE qI2.eq_1/\OE qI3.eq_1/\CE qIW.eq_1/\OE qI4.eq_1/\CE qIX.eq_1/\OE qJE.eq_1/\OE qJF.eq_1/\OE qJI.eq_1/\OE qJJ.eq_1/\OE qJK.eq_1/\OE qJL.eq_1/\OE qJM.eq_1/\CE qJC.eq_1/\OE qJN.eq_1/\CE qJD.eq_1/\OE qJG.eq_1/\OE qJH.eq_1/\OE qJO.eq_1/\OE qZB.eq_1/\OE qZC.eq_1/\OE qZG.eq_1/\OE qZH.eq_1/\OE qZI.eq_1/\OE qZJ.eq_1/\OE qZK.eq_1/\OE qZL.eq_1/\OE qZM.eq_1:=by and_intros<;>first|exact OEM _|exact CEM _
@[go_sem] theorem rR6:CE qZA.eq_1/\CE qY5.eq_1/\OE qZD.eq_1/\OE qZE.eq_1/\OE qZF.eq_1/\CE qY6.eq_1/\CE qY7.eq_1/\CE qY8.eq_1/\CE qA7.eq_1/\CE qY9.eq_1/\OE qZR.eq_1/\OE qZS.eq_1/\OE qZV.eq_1/\CE qZP.eq_1/\OE qZW.eq_1/\OE qZX.eq_1/\OE qZY.eq_1/\OE qZZ.eq_1/\OE qZ0.eq_1/\CE qZQ.eq_1/\OE qZT.eq_1/\CE qZN.eq_1/\OE qZU.eq_1/\CE qZO.eq_1/\OE qZ1.eq_1/\OE qNU.eq_1/\OE qNV.eq_1/\OE qNW.eq_1/\OE qNX.eq_1/\OE qNY.eq_1/\OE qNZ.eq_1/\CE qNS.eq_1/\CE qNT.eq_1/\OE qJR.eq_1/\OE qJS.eq_1/\OE qJU.eq_1/\OE qJV.eq_1/\OE qJW.eq_1/\OE qJX.eq_1/\OE qJY.eq_1/\OE qJZ.eq_1/\OE qJ0.eq_1/\OE qJ1.eq_1/\CE qJP.eq_1/\OE qJT.eq_1/\CE qJQ.eq_1/\OE qJ2.eq_1/\CE qN7.eq_1/\CE qN8.eq_1/\CE qN9.eq_1/\CE qOA.eq_1/\OE qOC.eq_1/\OE qOD.eq_1/\CE qOB.eq_1/\OE qJ5.eq_1/\OE qJ6.eq_1/\OE qJ7.eq_1/\OE qJ8.eq_1/\CE qJ3.eq_1/\CE qJ4.eq_1:=by and_intros<;>first|exact OEM _|exact CEM _
@[go_sem] theorem rR7:OE qJ9.eq_1/\OE qGI.eq_1/\OE qGJ.eq_1/\OE qKA.eq_1/\OE qKB.eq_1/\OE qKR.eq_1/\OE qKS.eq_1/\OE qKT.eq_1/\OE qKF.eq_1/\OE qKG.eq_1/\OE qKK.eq_1/\OE qKL.eq_1/\OE qKM.eq_1/\OE qKN.eq_1/\OE qKO.eq_1/\OE qKP.eq_1/\CE qKE.eq_1/\OE qKQ.eq_1/\OE qKH.eq_1/\OE qKI.eq_1/\OE qKJ.eq_1/\CE qKC.eq_1/\CE qKD.eq_1/\OE qM6.eq_1/\OE qF4.eq_1/\OE qF5.eq_1/\OE qF6.eq_1/\OE qF7.eq_1/\OE qF8.eq_1/\OE qF9.eq_1/\OE qGA.eq_1/\CE qF1.eq_1/\CE qF2.eq_1/\CE qF3.eq_1/\OE qKU.eq_1/\OE qKV.eq_1/\OE qKW.eq_1/\OE qKX.eq_1/\OE qKY.eq_1/\OE qK2.eq_1/\OE qK3.eq_1/\OE qK5.eq_1/\OE qK6.eq_1/\OE qK7.eq_1/\OE qK8.eq_1/\OE qK9.eq_1/\CE qK1.eq_1/\OE qLA.eq_1/\OE qLB.eq_1/\CE qKZ.eq_1/\OE qK4.eq_1/\CE qK0.eq_1/\OE qLE.eq_1/\OE qLF.eq_1/\OE qLH.eq_1/\OE qLI.eq_1/\OE qLJ.eq_1/\OE qLK.eq_1/\OE qLL.eq_1/\CE qLC.eq_1:=by and_intros<;>first|exact OEM _|exact CEM _
@[go_sem] theorem rR8:OE qLM.eq_1/\CE qLD.eq_1/\OE qLG.eq_1/\OE qLO.eq_1/\CE qLN.eq_1/\OE qZ7.eq_1/\OE qZ8.eq_1/\OE qaC.eq_1/\OE qaD.eq_1/\OE qaE.eq_1/\OE qaF.eq_1/\OE qaG.eq_1/\CE qZ6.eq_1/\OE qaH.eq_1/\OE qaI.eq_1/\OE qZ9.eq_1/\OE qaA.eq_1/\CE qZ2.eq_1/\CE qZ3.eq_1/\CE qZ4.eq_1/\OE qaB.eq_1/\CE qZ5.eq_1/\OE qUA.eq_1/\OE qUB.eq_1/\CE qT6.eq_1/\OE qUC.eq_1/\OE qUD.eq_1/\OE qUE.eq_1/\CE qT7.eq_1/\OE qUF.eq_1/\CE qT8.eq_1/\CE qT9.eq_1/\CE qT5.eq_1/\OE qaK.eq_1/\OE qaL.eq_1/\OE qaM.eq_1/\CE qaJ.eq_1/\OE qaN.eq_1/\CE qY4.eq_1/\OE qW6.eq_1/\OE qW7.eq_1/\OE qW8.eq_1/\OE qW9.eq_1/\CE qW4.eq_1/\CE qW5.eq_1/\OE qOZ.eq_1/\CE qOY.eq_1/\OE qE3.eq_1/\OE qE4.eq_1/\CE qE2.eq_1/\OE qE5.eq_1/\OE qGL.eq_1/\OE qGM.eq_1/\CE qGK.eq_1/\OE qGN.eq_1/\OE qGO.eq_1/\OE qGP.eq_1/\OE qGQ.eq_1/\OE qXB.eq_1/\OE qXC.eq_1:=by and_intros<;>first|exact OEM _|exact CEM _
@[go_sem] theorem rR9:OE qXD.eq_1/\OE qXE.eq_1/\OE qXF.eq_1/\OE qXG.eq_1/\OE qXH.eq_1/\CE qXA.eq_1/\OE qR6.eq_1/\OE qR7.eq_1/\OE qR8.eq_1/\OE qR9.eq_1/\CE qR4.eq_1/\CE qR5.eq_1/\OE qSC.eq_1/\OE qSD.eq_1/\OE qSE.eq_1/\CE qSA.eq_1/\CE qSB.eq_1/\OE qXK.eq_1/\OE qXL.eq_1/\OE qXM.eq_1/\OE qXN.eq_1/\OE qXO.eq_1/\CE qXI.eq_1/\OE qXP.eq_1/\CE qXJ.eq_1/\OE qSG.eq_1/\OE qSH.eq_1/\OE qSI.eq_1/\CE qSF.eq_1/\OE qR2.eq_1/\OE qR3.eq_1/\CE qR1.eq_1/\OE qGR.eq_1/\OE qNC.eq_1/\OE qND.eq_1/\OE qNE.eq_1/\OE qNF.eq_1/\CE qNB.eq_1/\OE qGV.eq_1/\OE qGW.eq_1/\OE qGX.eq_1/\OE qGY.eq_1/\OE qGZ.eq_1/\OE qG0.eq_1/\CE qGS.eq_1/\CE qGT.eq_1/\CE qGU.eq_1/\OE qG1.eq_1/\OE qG2.eq_1/\OE qG3.eq_1/\OE qG4.eq_1/\OE qG5.eq_1/\OE qXU.eq_1/\OE qXV.eq_1/\OE qX2.eq_1/\OE qX3.eq_1/\OE qX4.eq_1/\CE qXT.eq_1/\OE qX5.eq_1/\OE qX6.eq_1:=by and_intros<;>first|exact OEM _|exact CEM _
@[go_sem] theorem rR10:OE qX7.eq_1/\OE qX8.eq_1/\CE qXQ.eq_1/\OE qXW.eq_1/\OE qXX.eq_1/\OE qXY.eq_1/\OE qXZ.eq_1/\OE qX0.eq_1/\OE qX1.eq_1/\CE qXR.eq_1/\CE qXS.eq_1/\OE qSJ.eq_1/\OE qSK.eq_1/\OE qYA.eq_1/\OE qYB.eq_1/\OE qYC.eq_1/\OE qYD.eq_1/\OE qYE.eq_1/\OE qYF.eq_1/\OE qYG.eq_1/\OE qYH.eq_1/\OE qYI.eq_1/\OE qYJ.eq_1/\CE qX9.eq_1/\OE qO1.eq_1/\OE qO2.eq_1/\OE qO3.eq_1/\OE qO4.eq_1/\CE qO0.eq_1/\OE qNG.eq_1/\OE qG6.eq_1/\OE qG9.eq_1/\CE qG7.eq_1/\CE qG8.eq_1/\OE qNH.eq_1/\OE qHB.eq_1/\OE qHC.eq_1/\OE qHD.eq_1/\OE qHE.eq_1/\CE qHA.eq_1/\OE qYL.eq_1/\OE qYM.eq_1/\OE qYN.eq_1/\OE qYO.eq_1/\CE qYK.eq_1/\OE qSN.eq_1/\OE qSO.eq_1/\OE qSP.eq_1/\OE qSQ.eq_1/\OE qSR.eq_1/\CE qSL.eq_1/\CE qSM.eq_1/\OE qYP.eq_1/\OE qSU.eq_1/\OE qSV.eq_1/\CE qSS.eq_1/\CE qST.eq_1/\OE qTY.eq_1/\OE qTZ.eq_1/\OE qT0.eq_1:=by and_intros<;>first|exact OEM _|exact CEM _
@[go_sem] theorem rR11:CE qTX.eq_1/\OE qHF.eq_1/\OE qNK.eq_1/\OE qNL.eq_1/\OE qNM.eq_1/\OE qNN.eq_1/\OE qNO.eq_1/\CE qNI.eq_1/\OE qNP.eq_1/\OE qNQ.eq_1/\CE qNJ.eq_1/\OE qNR.eq_1/\OE qHG.eq_1/\OE qHH.eq_1/\OE qHK.eq_1/\OE qHL.eq_1/\OE qHM.eq_1/\OE qHN.eq_1/\OE Kz.eq_1/\OE K0.eq_1/\OE K2.eq_1/\OE K3.eq_1/\OE K4.eq_1/\CE qHJ.eq_1/\CE qHI.eq_1/\OE qHO.eq_1/\OE qAW.eq_1/\OE qAX.eq_1/\OE qA3.eq_1/\OE qA4.eq_1/\OE VU.eq_1/\OE VV.eq_1/\OE VW.eq_1/\OE qA5.eq_1/\OE qA6.eq_1/\CE qAV.eq_1/\OE qAY.eq_1/\OE qAZ.eq_1/\OE qA0.eq_1/\OE qA1.eq_1/\OE qA2.eq_1/\CE qAU.eq_1/\CE qYQ.eq_1/\OE qSX.eq_1/\OE qSY.eq_1/\OE qSZ.eq_1/\CE qSW.eq_1/\OE qYU.eq_1/\OE qYV.eq_1/\OE qYW.eq_1/\OE qYX.eq_1/\OE qYY.eq_1/\OE qYZ.eq_1/\OE qY0.eq_1/\OE qY1.eq_1/\OE qY2.eq_1/\OE qY3.eq_1/\CE qYR.eq_1/\CE qYS.eq_1/\CE qYT.eq_1:=by and_intros<;>first|exact OEM _|exact CEM _
@[go_sem] theorem rR12:OE qO6.eq_1/\OE qO7.eq_1/\OE qO8.eq_1/\OE qO9.eq_1/\CE qO5.eq_1/\OE qS4.eq_1/\OE qS5.eq_1/\OE qS7.eq_1/\OE qS8.eq_1/\OE qS9.eq_1/\OE qTA.eq_1/\OE qTB.eq_1/\OE qTC.eq_1/\OE qTD.eq_1/\OE qTE.eq_1/\OE qS6.eq_1/\CE qS0.eq_1/\CE qS1.eq_1/\CE qS2.eq_1/\CE qS3.eq_1/\OE qPA.eq_1/\OE qTM.eq_1/\OE qTN.eq_1/\OE qTP.eq_1/\OE qTQ.eq_1/\OE qTR.eq_1/\OE qTS.eq_1/\OE qTT.eq_1/\OE qTU.eq_1/\OE qTV.eq_1/\OE qTW.eq_1/\OE qTO.eq_1/\CE qTF.eq_1/\CE qTG.eq_1/\CE qTH.eq_1/\CE qTI.eq_1/\CE qTJ.eq_1/\CE qTK.eq_1/\CE qTL.eq_1/\OE qPC.eq_1/\CE qPB.eq_1/\OE qPG.eq_1/\OE qPH.eq_1/\OE qPI.eq_1/\OE qPJ.eq_1/\OE qPK.eq_1/\CE qPD.eq_1/\CE qPE.eq_1/\CE qPF.eq_1/\OE qPN.eq_1/\OE qPO.eq_1/\OE qPP.eq_1/\OE qPQ.eq_1/\OE qPR.eq_1/\OE qPS.eq_1/\OE qPT.eq_1/\CE qPL.eq_1/\OE qPU.eq_1/\CE qPM.eq_1/\OE qQJ.eq_1:=by and_intros<;>first|exact OEM _|exact CEM _
@[go_sem] theorem rR13:OE qQK.eq_1/\OE qQO.eq_1/\OE qQP.eq_1/\OE qQQ.eq_1/\OE qQR.eq_1/\OE qQS.eq_1/\OE qQT.eq_1/\OE qQU.eq_1/\OE qQV.eq_1/\OE qQL.eq_1/\OE qQM.eq_1/\OE qQN.eq_1/\CE qQE.eq_1/\CE qQF.eq_1/\CE qQG.eq_1/\CE qQH.eq_1/\CE qQI.eq_1:=by and_intros<;>first|exact OEM _|exact CEM _
def tabm:List (Nat×qJ):=[(338,F338),(1173,qGC),(852,F852),(501,F501),(182,F182),(181,F181),(340,F340),(412,F412),(488,F488),(1371,kV),(1384,kY),(1372,kW),(1489,qAN),(1385,kZ),(1494,qAO),(1386,ke),(1096,Kc),(710,F710),(318,F318),(598,F598),(742,F742),(1395,kw),(1499,qAQ),(1500,qAR),(1396,kz),(1110,Ke),(743,F743),(1111,Kf),(744,F744),(147,F147),(1419,YC),(1178,Kl),(858,YH),(504,F504),(185,YD),(184,F184),(774,F774),(397,F397),(775,F775),(406,F406),(801,F801),(436,F436),(1179,qGG),(859,F859),(554,F554),(796,F796),(1050,KY),(1051,KZ),(1487,qAM),(1387,kf),(1388,ki),(1375,kX),(1495,qAP),(1389,kq),(1390,ku),(1097,Kd),(711,F711),(1098,qFN),(712,F712),(555,WL),(714,F714),(713,F713),(319,F319),(860,F860),(505,F505),(376,F376),(750,F750),(1501,qAS),(1502,qAT),(1398,qAA),(1115,Kg),(751,F751),(86,F86),(1422,qAC),(1184,qGH),(870,F870),(508,F508),(188,F188),(187,F187),(402,YF),(837,YG),(489,F489),(401,F401),(1373,qLY),(1085,Kb),(798,F798),(797,F797),(90,F90),(885,F885),(524,F524),(225,F225),(92,F92),(886,F886),(525,F525),(230,F230),(949,F949),(952,F952),(856,F856),(1177,Kk),(1460,qAJ),(1296,K6),(1297,K7),(490,F490),(491,F491),(1298,K8),(1300,kD),(1299,K9),(1125,Ki),(1126,Kj),(762,F762),(1301,kE),(1302,kF),(1303,kJ),(1304,kK),(979,F979),(981,F981),(982,F982),(1456,qAI),(1305,kL),(1306,XE),(1461,qAK),(1307,kM),(1196,Km),(1308,kN),(1310,kP),(1311,kQ),(1309,kO),(566,F566),(1400,qAB),(1118,Kh),(1312,kR),(1313,kS),(1314,kT),(1315,kU),(983,F983),(702,F702),(985,F985),(978,F978),(959,F959),(583,F583),(231,F231),(1056,Ka),(1263,Kn),(1264,Ko),(1265,Kp),(960,F960),(584,F584),(585,F585),(961,F961),(586,F586),(571,F571),(1266,Kq),(1450,qAD),(1267,Kr),(1268,Ks),(962,F962),(587,F587),(963,YI),(588,F588),(233,YE),(1451,qAE),(1269,Kt),(1270,Ku),(1452,qAF),(1271,Kv),(964,F964),(589,F589),(965,F965),(590,F590),(597,F597),(1272,Kw),(1485,qAL),(1453,qAG),(1454,qAH),(1273,Kx),(1274,VT),(1275,Ky),(1276,K5),(966,F966),(591,F591),(967,F967),(592,F592),(235,F235),(593,F593),(236,F236),(594,F594),(237,F237),(241,F241),(242,F242),(37,F37)]
def Gm(g:Nat):Option AFn:=Zu g tabm
theorem gk(g:Nat)(F:qJ)(h:Gm g=some (.fn F):=by kernel_rfl):Gm g=some (.fn F):=h
theorem pI{Γ:Nat->Option AFn}{g:Nat}(F:qJ){as:List AV}{v:AV}(ht:AV.trees as=true)(hv:v.tree=true)(hR:R ⟨Γ,0,[],[]⟩ [.code F.body] ⟨qM 0 as,[],[]⟩ (Yf F.res v))(hg:Γ g=some (.fn F):=by kernel_rfl)(hok:F.body.ok=true:=by kernel_rfl)(hn:as.length=F.np:=by rfl):Pure Γ g as v:=Pure.intro [] [] hg hok hn ht hv hR
theorem fI{Γ:Nat->Option AFn}{g:Nat}(F:qJ){as:List AV}{t:AV}(ht:AV.trees as=true)(hp:t.pl=true)(hR:R ⟨Γ,0,[],[]⟩ [.code F.body] ⟨qM 0 as,[],[]⟩ (UN F.res t))(hg:Γ g=some (.fn F):=by kernel_rfl)(hok:F.body.ok=true:=by kernel_rfl)(hn:as.length=F.np:=by rfl):Fresh Γ g as t:=Fresh.intro [] [] hg hok hn ht hp hR
theorem sI{Γ:Nat->Option AFn}{g:Nat}{vs:List AV}{h:List qC}(F:qJ){K:AV->List qC->Prop}(hR:R ⟨Γ,h.length,[],[]⟩ [.code F.body] ⟨qM 0 vs,[],h⟩ (Jq F.res K))(hg:Γ g=some (.fn F):=by kernel_rfl)(hok:F.body.ok=true:=by kernel_rfl)(hn:vs.length=F.np:=by rfl):SCall Γ g vs h K:=SCall.run [] [] hg hok hn hR
theorem pJ{Γ:Nat->Option AFn}{g:Nat}(F:qJ){as:List AV}{v:AV}(hR:R ⟨Γ,0,[],[]⟩ [.code F.body] ⟨qM 0 as,[],[]⟩ (Yf F.res v))(hg:Γ g=some (.fn F):=by kernel_rfl)(hok:F.body.ok=true:=by kernel_rfl)(hn:as.length=F.np:=by rfl)(ht:AV.trees as=true:=by simp[AV.trees,AV.tree,go_sem])(hv:v.tree=true:=by rfl):Pure Γ g as v:=Pure.intro [] [] hg hok hn ht hv hR
theorem c338(xs:List Int)(hx:xs.length<=140737488355328)(left:Nat)(hl:left<=1048576):Pure Gm 338 [lQ xs,iI left] (iI (wU xs.length left)):=
 qgR (gk _ F338) shI.tree xs left hl hx
theorem qh0(xs:List qE)(hx:xs.length<=140737488355328)(left:Nat)(hl:left<=1048576):Pure Gm 1173 [.lst 2 (xs.map qE.enc) false,iI left] (iI (wU xs.length left)):=
 qgR (gk _ qGC) qE.isSh.tree xs left hl hx
theorem c852(x:qB)(hb:x.bd)(left:Nat)(hl:left<=1048576):Pure Gm 852 [x.enc,iI left] (iI (wU x.sz left)):=by
 refine pI F852 (by simp[AV.trees,AV.tree,qB.tr]) rfl ?_;simp only[F852,qM,go_sem];refine qZ rfl ?_;simp only[go_sem];unfold qB.bd at hb;refine qL (c338 _ hb.1 _ (by omega)) ?_;simp only[go_sem];apply qI<;>intro hc<;>simp only[hc,go_sem]
 ·have hq:=odT hc;rw[wV]at hq;exact qO rfl (by rw[Jg (by unfold qB.sz;omega)])
 have hq:=odF hc;rw[wV]at hq;rw[wh (by omega)];clear hc;refine qL (qh0 _ hb.2 _ (by omega)) ?_;simp only[go_sem];apply qI<;>intro hc<;>simp only[hc,go_sem]
 ·have hq:=odT hc;rw[wV]at hq;exact qO rfl (by rw[Jg (by unfold qB.sz;omega)])
 have hq:=odF hc;rw[wV]at hq;rw[wh (by omega)];clear hc;exact qO rfl (by rw[wh (by unfold qB.sz;omega)];unfold qB.sz;first | rfl | (congr 2;omega))
theorem c501(xs:List qB)(hx:xs.length<=140737488355328/\(∀y∈xs,qB.bd y))(left:Nat)(hl:left<=1048576):Pure Gm 501 [.lst 5 (xs.map qB.enc) false,iI left] (iI (wU (xs.length+qH qB.sz xs) left)):=
 qEM qB.isSh (gk _ F501) qB.sz xs (λx hm lf hlf=>c852 x (hx.2 x hm) lf hlf) left hl hx.1
theorem c182(x:qD)(hb:x.bd)(left:Nat)(hl:left<=1048576):Pure Gm 182 [x.enc,iI left] (iI (wU x.sz left)):=by
 refine pI F182 (by simp[AV.trees,AV.tree,qD.tr]) rfl ?_;simp only[F182,qM,go_sem];refine qZ rfl ?_;simp only[go_sem];unfold qD.bd at hb;refine qL (c501 _ ⟨hb.1,hb.2⟩ _ (by omega)) ?_;simp only[go_sem];apply qI<;>intro hc<;>simp only[hc,go_sem]
 ·have hq:=odT hc;rw[wV]at hq;exact qO rfl (by rw[Jg (by unfold qD.sz;omega)])
 have hq:=odF hc;rw[wV]at hq;rw[wh (by omega)];clear hc;exact qO rfl (by rw[wh (by unfold qD.sz;omega)];unfold qD.sz;first | rfl | (congr 2;omega))
theorem c181(xs:List qD)(hx:xs.length<=140737488355328/\(∀y∈xs,qD.bd y))(left:Nat)(hl:left<=1048576):Pure Gm 181 [.lst 1 (xs.map qD.enc) false,iI left] (iI (wU (xs.length+qH qD.sz xs) left)):=
 qEM qD.isSh (gk _ F181) qD.sz xs (λx hm lf hlf=>c182 x (hx.2 x hm) lf hlf) left hl hx.1
theorem c147(xs:List Int)(hl:xs.length<=1048576):Pure Gm 147 [lQ xs] (lQ xs):=qqC (gk _ F147) xs hl
theorem qiF(x:qE):Pure Gm 1419 [x.enc] x.enc:=by
 refine pI YC (by simp[AV.trees,qE.tr]) qE.tr ?_;simp only[YC,qM,go_sem];refine qZ rfl ?_;simp only[go_sem];refine lsA ?_;simp only[go_sem];exact qO qE.tr rfl
theorem qh2(xs:List qE)(hl:xs.length<=1048576):Pure Gm 1178 [.lst 2 (xs.map qE.enc) false] (.lst 2 (xs.map qE.enc) false):=
 KS qE.isSh rfl rfl (by simp) (gk _ Kl) xs (λx hm=>qiF x) (by omega)
theorem c858(x:qB)(hz:x.sz<=1048576):Pure Gm 858 [x.enc] x.enc:=by
 refine pI YH (by simp[AV.trees,qB.tr]) qB.tr ?_;simp only[YH,qM,go_sem];refine qZ rfl ?_;simp only[go_sem];unfold qB.sz at hz;refine qL (c147 _ (by omega)) ?_;simp only[go_sem];refine qL (qh2 _ (by omega)) ?_;simp only[go_sem];refine lsA ?_;simp only[go_sem];exact qO qB.tr rfl
theorem c504(xs:List qB)(hl:xs.length+qH qB.sz xs<=1048576):Pure Gm 504 [.lst 5 (xs.map qB.enc) false] (.lst 5 (xs.map qB.enc) false):=
 KS qB.isSh rfl rfl (by simp) (gk _ F504) xs (λx hm=>c858 x (by have:=zx (f:=qB.sz) hm;omega)) (by omega)
theorem c185(x:qD)(hz:x.sz<=1048576):Pure Gm 185 [x.enc] x.enc:=by
 refine pI YD (by simp[AV.trees,qD.tr]) qD.tr ?_;simp only[YD,qM,go_sem];refine qZ rfl ?_;simp only[go_sem];unfold qD.sz at hz;refine qL (c504 _ (by omega)) ?_;simp only[go_sem];exact qO qD.tr rfl
theorem c184(xs:List qD)(hl:xs.length+qH qD.sz xs<=1048576):Pure Gm 184 [.lst 1 (xs.map qD.enc) false] (.lst 1 (xs.map qD.enc) false):=
 KS qD.isSh rfl rfl (by simp) (gk _ F184) xs (λx hm=>c185 x (by have:=zx (f:=qD.sz) hm;omega)) (by omega)
theorem c86(xs:List Int)(hl:xs.length<=1073741824):Pure Gm 86 [lQ xs,lQ xs] (.bool true):=qkA (gk _ F86) xs hl
theorem qiG(x:qE):Pure Gm 1422 [x.enc,x.enc] (.bool true):=by
 refine pI qAC (by simp[AV.trees,qE.tr]) rfl ?_;simp only[qAC,qM,go_sem];refine qZ rfl ?_;simp only[go_sem];refine qZ rfl ?_;simp only[go_sem];exact qO rfl rfl
theorem qh3(xs:List qE)(hl:xs.length<=1073741824):Pure Gm 1184 [.lst 2 (xs.map qE.enc) false,.lst 2 (xs.map qE.enc) false] (.bool true):=
 UE qE.isSh (gk _ qGH) xs (λx hm=>qiG x) (by omega)
theorem c870(x:qB)(hz:x.sz<=1073741824):Pure Gm 870 [x.enc,x.enc] (.bool true):=by
 refine pI F870 (by simp[AV.trees,qB.tr]) rfl ?_;simp only[F870,qM,go_sem];refine qZ rfl ?_;simp only[go_sem];refine qZ rfl ?_;simp only[go_sem];unfold qB.sz at hz;refine qL (c86 _ (by omega)) ?_;simp only[go_sem];refine qL (qh3 _ (by omega)) ?_;simp only[go_sem];exact qO rfl rfl
theorem c508(xs:List qB)(hl:xs.length+qH qB.sz xs<=1073741824):Pure Gm 508 [.lst 5 (xs.map qB.enc) false,.lst 5 (xs.map qB.enc) false] (.bool true):=
 UE qB.isSh (gk _ F508) xs (λx hm=>c870 x (by have:=zx (f:=qB.sz) hm;omega)) (by omega)
theorem c188(x:qD)(hz:x.sz<=1073741824):Pure Gm 188 [x.enc,x.enc] (.bool true):=by
 refine pI F188 (by simp[AV.trees,qD.tr]) rfl ?_;simp only[F188,qM,go_sem];refine qZ rfl ?_;simp only[go_sem];refine qZ rfl ?_;simp only[go_sem];unfold qD.sz at hz;refine qL (c508 _ (by omega)) ?_;simp only[go_sem];exact qO rfl rfl
theorem c187(xs:List qD)(hl:xs.length+qH qD.sz xs<=1073741824):Pure Gm 187 [.lst 1 (xs.map qD.enc) false,.lst 1 (xs.map qD.enc) false] (.bool true):=
 UE qD.isSh (gk _ F187) xs (λx hm=>c188 x (by have:=zx (f:=qD.sz) hm;omega)) (by omega)
def inI(n lo hi:Int):Bool:=decide (lo<=n)&&decide (n<=hi)
def wk(k f:Int):Int:=
 if k=9 then(if inI f 0 3 then f+1 else 0)else if f≠0 then 0 else
 if k=1\/k=5\/k=6\/k=12 then 1 else if k=8\/k=10\/k=11 then 2 else if k=2\/k=3\/k=4\/k=7 then 3 else 0
def wx(k:Int):Bool:=decide (k=2) || decide (k=3) || decide (k=4) || decide (k=7) || decide (k=8) || decide (k=9) || decide (k=10) || decide (k=11) || decide (k=12)
def Zq(k:Int):Bool:=inI k 1 12
def wB(k l:Int):Bool:=if wx k then inI l 0 8 else Zq k&&decide (l=0)
def wS(n:Int):Bool:=inI n 0 23
def fieldsOf(x:qB):Int:=if x.Kind=9 then(x.Ports.length:Int)-1 else 0
def z7(x:qB):Bool:=
 if x.Kind=6 then decide ((x.Data.length:Int)=0)&&inI x.Value (-2147483648) 2147483647
 else if x.Kind=7 then decide ((x.Data.length:Int)=0)&&inI x.Value 1 6
 else if x.Kind=8 then decide ((x.Data.length:Int)=1)&&inI x.Value 1 6&&x.Data.all λd=>inI d (-2147483648) 2147483647
 else if x.Kind=9 then decide ((x.Data.length:Int)=0)&&inI x.Value 0 3
 else if x.Kind=12 then decide ((x.Data.length:Int)=0)&&wS x.Value
 else if x.Kind=10 then decide (x.Value=0)&&inI x.Data.length 1 4&&x.Data.all wS
 else if x.Kind=11 then decide (x.Value=0)&&decide ((x.Data.length:Int)=2)&&x.Data.all wS
 else decide (x.Value=0)&&decide ((x.Data.length:Int)=0)
def qe(x:qB):Bool:=decide (0<wk x.Kind (fieldsOf x))&&decide ((x.Ports.length:Int)=wk x.Kind (fieldsOf x))&&wB x.Kind x.Level&&z7 x
def j7:List qB->Nat->Bool
 |[],_=>true
 | x::xs,i=>qe x&&(decide (x.Kind=1)==decide (i=0))&&j7 xs (i+1)
def wb(xs:List qB):Bool:=inI xs.length 1 600&&j7 xs 0
def QF(xs:List qB)(a:Int):Nat:=match xs[a.toNat]? with
 | some x=>x.Ports.length
 | none=>0
def JL(xs:List qB)(p:qE):Bool:=inI p.Agent 0 ((xs.length:Int)-1)&&inI p.Slot 0 ((QF xs p.Agent:Int)-1)
theorem wu{α:Type}{xs:List α}{i:Nat}(h:i<xs.length):xs.drop i=xs[i]::xs.drop (i+1):=by simp
theorem JB{n lo hi:Int}:Pure Gm 340 [iI n,iI lo,iI hi] (.bool (inI n lo hi)):=by
 refine pJ F340 ?_;simp only[F340,qM,go_sem]
 repeat' (first | (refine qZ rfl ?_;simp only[go_sem]) | ((first | apply qk | apply qI)<;>intro hc<;>simp only[hc,go_sem]) | refine qO rfl ?_)
 all_goals (simp_all[inI]<;>omega)
theorem qBI{k:Int}:Pure Gm 1372 [iI k] (.bool (wx k)):=by
 refine pJ kW ?_;simp only[kW,qM,go_sem]
 repeat' (first | (refine qZ rfl ?_;simp only[go_sem]) | ((first | apply qk | apply qI)<;>intro hc<;>simp only[hc,go_sem]) | refine qO rfl ?_)
 all_goals (simp_all[wx])
theorem qiJ{k:Int}:Pure Gm 1489 [iI k] (.bool (Zq k)):=by
 refine pJ qAN ?_;simp only[qAN,qM,go_sem]
 repeat' (first | (refine qZ rfl ?_;simp only[go_sem]) | ((first | apply qk | apply qI)<;>intro hc<;>simp only[hc,go_sem]) | (refine qL (JB) ?_;simp only[go_sem]) | refine qO rfl ?_)
 all_goals (simp_all[Zq])
theorem qBL{k l:Int}:Pure Gm 1385 [iI k,iI l] (.bool (wB k l)):=by
 refine pJ kZ ?_;simp only[kZ,qM,go_sem]
 repeat' (first | (refine qZ rfl ?_;simp only[go_sem]) | ((first | apply qk | apply qI)<;>intro hc<;>simp only[hc,go_sem]) | (refine qL (JB) ?_;simp only[go_sem]) | (refine qL (qBI) ?_;simp only[go_sem]) | (refine qL (qiJ) ?_;simp only[go_sem]) | refine qO rfl ?_)
 all_goals (simp_all[wB])
theorem qbU{k:Int}:Pure Gm 1494 [iI k] (.bool (wS k)):=by
 refine pJ qAO ?_;simp only[qAO,qM,go_sem]
 repeat' (first | (refine qZ rfl ?_;simp only[go_sem]) | ((first | apply qk | apply qI)<;>intro hc<;>simp only[hc,go_sem]) | (refine qL (JB) ?_;simp only[go_sem]) | refine qO rfl ?_)
 all_goals (simp_all[wS])
theorem qh8{k f:Int}:Pure Gm 1371 [iI k,iI f] (iI (wk k f)):=by
 refine pJ kV ?_;simp only[kV,qM,go_sem]
 repeat' (first | (refine qZ rfl ?_;simp only[go_sem]) | ((first | apply qk | apply qI)<;>intro hc<;>simp only[hc,go_sem]) | (refine qL (JB) ?_;simp only[go_sem]) | refine qO rfl ?_)
 all_goals ((try rw[W8 (by simp_all[inI];omega) (by simp_all[inI];omega)]);simp_all[wk]<;>omega)
theorem qBK{x:qB}(hx:x.Ports.length<=140737488355328):Pure Gm 1384 [.ept x.enc 0] (iI (fieldsOf x)):=by
 refine pJ kY ?_;simp only[kY,qM,go_sem]
 repeat' (first | (refine qZ rfl ?_;simp only[go_sem]) | ((first | apply qk | apply qI)<;>intro hc<;>simp only[hc,go_sem]) | refine qO rfl ?_)
 all_goals ((try rw[wsA]);simp_all[fieldsOf]<;>omega)
theorem qh9{x:qB}(hx:x.Data.length<=1048576):Pure Gm 1386 [.ept x.enc 0] (.bool (z7 x)):=by
 refine pJ ke ?_;simp only[ke,qM,go_sem];have one:(x.Data.length:Int)=1->∃d,x.Data=[d]:=λh=>List.length_eq_one_iff.1 (by omega);have z0:(x.Data.length:Int)=1->(x.Data.map qQ)[0]?=some (iI (x.Data.headD 0)):=λh=>by
  obtain⟨d,hd⟩:=one h;rw[hd];rfl
 have z1:(x.Data.length:Int)=1->(x.Data.all λd=>inI d (-2147483648) 2147483647)=inI (x.Data.headD 0) (-2147483648) 2147483647:=λh=>by
  obtain⟨d,hd⟩:=one h;rw[hd];simp
 repeat' (first
  | ((first | apply qk | apply qI)<;>intro hc<;>simp only[hc,go_sem])
  | (refine qL (JB) ?_;simp only[go_sem])
  | (refine qL (qbU) ?_;simp only[go_sem])
  | refine qO rfl ?_
  | (rw[z0 (odT (by assumption))];simp only[oMs];simp only[go_sem])
  | (refine Sem.loop (λi:Nat=>i<=x.Data.length/\z7 x=(x.Data.drop i).all wS) (λi=>(⟨[(0,.ept x.enc 0),(3,iI (i:Nat))],[],[]⟩:VSt)) (λi=>x.Data.length-i) 0 (by kernel_rfl) ⟨nZl _, ?_⟩ csA ?_))
 all_goals try (simp_all[z7];done)
 all_goals
  clear z0 z1 one;rintro i ⟨hi,hI⟩;simp only[go_sem];apply qI<;>intro hc<;>simp only[hc,go_sem]
  ·have hlt:i<x.Data.length:=by have:=odT hc;omega
   simp only[gMp,gEg hlt,oMs,go_sem];simp only[qQ];simp only[go_sem];refine qL qbU ?_;simp only[go_sem];apply qI<;>intro hc<;>simp only[hc,go_sem]
   ·refine qO rfl ?_;have hd:wS x.Data[i]=false:=by simpa using hc
    rw[hI,wu hlt,lAc,hd,Bool.false_and]
   ·simp only[wuA (n:=i)];refine qb (i+1) ⟨by omega, ?_⟩ (by omega) csA;have hd:wS x.Data[i]=true:=by simpa using hc
    rw[hI,wu hlt,lAc,hd,Bool.true_and]
  ·have hge:i=x.Data.length:=by have:=odF hc;omega
   subst hge;refine qO rfl ?_;rw[hI];simp
theorem qhU{x:qB}(hz:x.sz<=1048576):Pure Gm 1096 [.ept x.enc 0] (.bool (qe x)):=by
 refine pJ Kc ?_;simp only[Kc,qM,go_sem]
 repeat' (first | (refine qZ rfl ?_;simp only[go_sem]) | ((first | apply qk | apply qI)<;>intro hc<;>simp only[hc,go_sem]) | (refine qL (qBK (by unfold qB.sz at hz;omega)) ?_;simp only[go_sem]) | (refine qL (qh8) ?_;simp only[go_sem]) | (refine qL (qBL) ?_;simp only[go_sem]) | (refine qL (qh9 (by unfold qB.sz at hz;omega)) ?_;simp only[go_sem]) | refine qO rfl ?_)
 all_goals (simp_all[qe]<;>omega)
theorem c710{xs:List qB}(hl:xs.length+qH qB.sz xs<=1048576):Pure Gm 710 [.lst 5 (xs.map qB.enc) false] (.bool (wb xs)):=by
 refine pI F710 (by simp[AV.trees,AV.tree,qa qB.isSh.tree]) rfl ?_;simp only[F710,qM,go_sem];refine qL JB ?_;simp only[go_sem];apply qI<;>intro hc<;>simp only[hc,go_sem]
 ·refine qO rfl ?_;simp_all[wb]
 refine Sem.loop (λi:Nat=>i<=xs.length/\wb xs=j7 (xs.drop i) i) (λi=>(⟨[(0,.lst 5 (xs.map qB.enc) false),(3,iI (i:Nat))],[],[]⟩:VSt)) (λi=>xs.length-i) 0 (by kernel_rfl) ⟨nZl _,by simp_all[wb]⟩ csA ?_;rintro i ⟨hi,hI⟩;simp only[go_sem];apply qI<;>intro hc<;>simp only[hc,go_sem]
 ·have hlt:i<xs.length:=by have:=odT hc;omega
  simp only[gMp,gEg hlt,oMs,go_sem];have hs:=zx (f:=qB.sz) (gMm hlt);refine qL (qhU (by omega)) ?_;simp only[go_sem];apply qk<;>intro hc<;>simp only[hc,go_sem]
  ·simp only[gMp,gEg hlt,oMs,go_sem];apply qI<;>intro hc<;>simp only[hc,go_sem]
   ·refine qO rfl ?_;rw[hI,wu hlt];simp_all[j7]
   ·simp only[wuA (n:=i)];refine qb (i+1) ⟨by omega, ?_⟩ (by omega) csA;rw[hI,wu hlt];simp_all[j7]
  ·refine qO rfl ?_;rw[hI,wu hlt];simp_all[j7]
 ·obtain rfl:i=xs.length:=by have:=odF hc;omega
  refine qO rfl ?_;rw[hI];simp[j7]
theorem zK{n lo hi:Int}:inI n lo hi=true↔lo<=n/\n<=hi:=by simp[inI]
def ZS(xs:List qB)(q:qE):Option qE:=match xs[q.Agent.toNat]? with
 | some y=>y.Ports[q.Slot.toNat]?
 | none=>none
def JO(xs:List qB)(me q:qE):Bool:= !(decide (q=me))&&JL xs q&&decide (ZS xs q=some me)
def Jx(xs:List qB)(i:Nat):List qE->Nat->Bool
 |[],_=>true
 | q::qs,k=>JO xs ⟨i,k⟩ q&&Jx xs i qs (k+1)
def QU(xs:List qB):List qB->Nat->Bool
 |[],_=>true
 | x::r,i=>Jx xs i x.Ports 0&&QU xs r (i+1)
def zB(n:qD):Bool:=wb n.Agents&&QU n.Agents n.Agents 0
def wm(xs:List Int):Bool:=decide (xs.length<=200)&&xs.all λn=>inI n 0 600
def ju(xs:List qD):Bool:=decide (xs.length<=24)&&xs.all zB
theorem c488{xs:List qB}{p:qE}(hl:xs.length+qH qB.sz xs<=1048576):Pure Gm 488 [.lst 5 (xs.map qB.enc) false,p.enc] (.bool (JL xs p)):=by
 refine pI F488 (by simp[AV.trees,AV.tree,qa qB.isSh.tree,qE.tr]) rfl ?_;simp only[F488,qM,go_sem];refine qZ rfl ?_;simp only[go_sem];rw[wsA];refine qL JB ?_;simp only[go_sem];apply qk<;>intro hc<;>simp only[hc,go_sem]
 ·have h:=zK.1 hc;have hlt:p.Agent.toNat<xs.length:=by omega
  rw[Qn h.1];simp only[gMp,gEg hlt,oMs,go_sem];have hs:xs[p.Agent.toNat].Data.length+xs[p.Agent.toNat].Ports.length<=qH qB.sz xs:=zx (f:=qB.sz) (gMm hlt);rw[wsA];refine qL JB ?_;simp only[go_sem];refine qO rfl ?_;simp[JL,hc,QF,gEg hlt]
 ·refine qO rfl ?_;simp_all[JL]
theorem c412{xs:List Int}(hl:xs.length<=1048576):Pure Gm 412 [lQ xs] (.bool (wm xs)):=by
 refine pI F412 (by simp[AV.trees,AV.tree,qa shI.tree]) rfl ?_;simp only[F412,qM,go_sem];apply qI<;>intro hc<;>simp only[hc,go_sem]
 ·refine qO rfl ?_;have:=odT hc;have h2:¬xs.length<=200:=by omega
  simp[wm,h2]
 have h0:xs.length<=200:=by have:=odF hc;omega
 refine Sem.loop (λi:Nat=>i<=xs.length/\wm xs=(xs.drop i).all λn=>inI n 0 600) (λi=>(⟨[(0,lQ xs),(3,iI (i:Nat))],[],[]⟩:VSt)) (λi=>xs.length-i) 0 (by kernel_rfl) ⟨nZl _,by simp[wm,h0]⟩ csA ?_;rintro i ⟨hi,hI⟩;simp only[go_sem];apply qI<;>intro hc<;>simp only[hc,go_sem]
 ·have hlt:i<xs.length:=by have:=odT hc;omega
  simp only[gMp,gEg hlt,oMs,go_sem];simp only[qQ];simp only[go_sem];refine qL JB ?_;simp only[go_sem];apply qI<;>intro hc<;>simp only[hc,go_sem]
  ·refine qO rfl ?_;rw[hI,wu hlt,lAc];simp_all
  ·simp only[wuA (n:=i)];refine qb (i+1) ⟨by omega, ?_⟩ (by omega) csA;rw[hI,wu hlt,lAc];simp_all
 ·obtain rfl:i=xs.length:=by have:=odF hc;omega
  refine qO rfl ?_;rw[hI];simp
theorem c318{n:qD}(hz:n.sz<=1048576):Pure Gm 318 [.ept n.enc 0] (.bool (zB n)):=by
 refine pJ F318 ?_;simp only[F318,qM,go_sem];have hz':n.Agents.length+qH qB.sz n.Agents<=1048576:=hz;refine qL (c710 hz') ?_;simp only[go_sem];apply qI<;>intro hc<;>simp only[hc,go_sem]
 ·refine qO rfl ?_;simp_all[zB]
 refine Sem.loop (λi:Nat=>i<=n.Agents.length/\zB n=QU n.Agents (n.Agents.drop i) i) (λi=>(⟨[(0,.ept n.enc 0),(3,iI (i:Nat))],[],[]⟩:VSt)) (λi=>n.Agents.length-i) 0 (by kernel_rfl) ⟨nZl _,by simp_all[zB]⟩ csA ?_;rintro i ⟨hi,hI⟩;simp only[go_sem];apply qI<;>intro hc<;>simp only[hc,go_sem]
 ·have hlt:i<n.Agents.length:=by have:=odT hc;omega
  simp only[gMp,gEg hlt,oMs,go_sem];have hs:n.Agents[i].Data.length+n.Agents[i].Ports.length<=qH qB.sz n.Agents:=zx (f:=qB.sz) (gMm hlt);refine Sem.loop (λk:Nat=>k<=n.Agents[i].Ports.length/\zB n=(Jx n.Agents i (n.Agents[i].Ports.drop k) k&&QU n.Agents (n.Agents.drop (i+1)) (i+1))) (λk=>(⟨[(0,.ept n.enc 0),(3,iI (i:Nat)),(4,.ept n.Agents[i].enc 0),(5,iI (k:Nat))],[],[]⟩:VSt)) (λk=>n.Agents[i].Ports.length-k) 0 (by kernel_rfl) ⟨nZl _,by rw[hI,wu hlt];rfl⟩ csA ?_;rintro k ⟨hk,hK⟩;simp only[go_sem];apply qI<;>intro hc<;>simp only[hc,go_sem]
  ·have hkl:k<n.Agents[i].Ports.length:=by have:=odT hc;omega
   rw[show AV.agg [AV.int IntKind.i64 (i:Nat),AV.int IntKind.i64 (k:Nat)]=qE.enc ⟨i,k⟩from rfl];refine lsA ?_;simp only[gMp,gEg hkl,oMs,go_sem];refine lsA ?_;simp only[go_sem];have stop:JO n.Agents ⟨i,k⟩ n.Agents[i].Ports[k]=false->zB n=false:=λh=>by rw[hK,wu hkl];simp[Jx,h]
   have go:JO n.Agents ⟨i,k⟩ n.Agents[i].Ports[k]=true->zB n=(Jx n.Agents i (n.Agents[i].Ports.drop (k+1)) (k+1)&&QU n.Agents (n.Agents.drop (i+1)) (i+1)):=λh=>by rw[hK,wu hkl];simp[Jx,h]
   apply qk<;>intro hc<;>simp only[hc,go_sem]
   ·have hne:¬n.Agents[i].Ports[k]=⟨i,k⟩:=odF hc;refine qL (c488 hz') ?_;simp only[go_sem];apply qk<;>intro hc<;>simp only[hc,go_sem]
    ·have hp:JL n.Agents n.Agents[i].Ports[k]=true:=by simpa using hc
     have hp2:=hp;simp only[JL,bAt,zK]at hp2;have hlt2:n.Agents[i].Ports[k].Agent.toNat<n.Agents.length:=by omega
     have hpl:QF n.Agents n.Agents[i].Ports[k].Agent=n.Agents[n.Agents[i].Ports[k].Agent.toNat].Ports.length:=by simp[QF,gEg hlt2]
     rw[hpl]at hp2;have hlt3:n.Agents[i].Ports[k].Slot.toNat<n.Agents[n.Agents[i].Ports[k].Agent.toNat].Ports.length:=by omega
     have hpe:ZS n.Agents n.Agents[i].Ports[k]=some n.Agents[n.Agents[i].Ports[k].Agent.toNat].Ports[n.Agents[i].Ports[k].Slot.toNat]:=by simp[ZS,gEg hlt2,gEg hlt3]
     rw[Qn (by omega)];simp only[gMp,gEg hlt2,oMs,go_sem];rw[Qn (by omega)];simp only[gMp,gEg hlt3,oMs,go_sem];apply qI<;>intro hc<;>simp only[hc,go_sem]
     ·refine qO rfl ?_;rw[stop (by simp[JO,hpe];intro _ _;simpa using hc)]
     ·simp only[wuA (n:=k)];refine qb (k+1) ⟨by omega, ?_⟩ (by omega) csA;exact go (by simp[JO,hpe,hp,hne];simpa using hc)
    ·refine qO rfl ?_;have hp:JL n.Agents n.Agents[i].Ports[k]=false:=by simpa using hc
     rw[stop (by simp[JO,hp])]
   ·refine qO rfl ?_;have he:n.Agents[i].Ports[k]=⟨i,k⟩:=odT hc;rw[stop (by simp[JO,he])]
  ·obtain rfl:k=n.Agents[i].Ports.length:=by have:=odF hc;omega
   simp only[wuA (n:=i)];refine qb (i+1) ⟨by omega, ?_⟩ (by omega) csA;rw[hK];simp[Jx]
 ·obtain rfl:i=n.Agents.length:=by have:=odF hc;omega
  refine qO rfl ?_;rw[hI];simp[QU]
theorem c598{xs:List qD}(hl:xs.length+qH qD.sz xs<=1048576):Pure Gm 598 [.lst 1 (xs.map qD.enc) false] (.bool (ju xs)):=by
 refine pI F598 (by simp[AV.trees,AV.tree,qa qD.isSh.tree]) rfl ?_;simp only[F598,qM,go_sem];apply qI<;>intro hc<;>simp only[hc,go_sem]
 ·refine qO rfl ?_;have:=odT hc;have h2:¬xs.length<=24:=by omega
  simp[ju,h2]
 have h0:xs.length<=24:=by have:=odF hc;omega
 refine Sem.loop (λi:Nat=>i<=xs.length/\ju xs=(xs.drop i).all zB) (λi=>(⟨[(0,.lst 1 (xs.map qD.enc) false),(3,iI (i:Nat))],[],[]⟩:VSt)) (λi=>xs.length-i) 0 (by kernel_rfl) ⟨nZl _,by simp[ju,h0]⟩ csA ?_;rintro i ⟨hi,hI⟩;simp only[go_sem];apply qI<;>intro hc<;>simp only[hc,go_sem]
 ·have hlt:i<xs.length:=by have:=odT hc;omega
  simp only[gMp,gEg hlt,oMs,go_sem];have hs:=zx (f:=qD.sz) (gMm hlt);refine qL (c318 (by omega)) ?_;simp only[go_sem];apply qI<;>intro hc<;>simp only[hc,go_sem]
  ·refine qO rfl ?_;rw[hI,wu hlt,lAc];simp_all
  ·simp only[wuA (n:=i)];refine qb (i+1) ⟨by omega, ?_⟩ (by omega) csA;rw[hI,wu hlt,lAc];simp_all
 ·obtain rfl:i=xs.length:=by have:=odF hc;omega
  refine qO rfl ?_;rw[hI];simp
def jr(ka la kb lb:Int):Bool:=wB ka la&&wB kb lb&& !decide (ka=1)&& !decide (kb=1)
def Yc(l k m:Int):Bool:=inI l 0 8&&wB k m&&(decide (k=6) || decide (k=12) || wx k&&decide (l<m))
def WZ(k:Int):Bool:=decide (k=3) || decide (k=7) || decide (k=8) || decide (k=10) || decide (k=11)
def zL(ka la kb lb:Int):Int:=
 if ka=5 then 4 else if ka=4 then(if kb=4/\la=lb then 2 else if Yc la kb lb then 3 else 0)
 else if ka=2 then(if kb=3/\la=lb then 1 else 0)
 else if ka=6 then(if kb=7\/kb=8 then 5 else if kb=11 then 6 else 0)
 else if ka=9 then(if kb=10 then 6 else 0)
 else if ka=12 then(if WZ kb then 7 else 0)else 0
def zY(ka la kb lb:Int):Int:=if jr ka la kb lb then(if zL ka la kb lb≠0 then 1 else if zL kb lb ka la≠0 then 2 else 0)else 0
def jL(ka la kb lb:Int):Int:=if jr ka la kb lb then(if zL ka la kb lb≠0 then zL ka la kb lb else if zL kb lb ka la≠0 then zL kb lb ka la else 8)else 0
def qN(x y:qB):Int:=
 if x.Kind=9/\y.Kind=10/\(y.Data.length:Int)<=x.Value then 8 else if x.Kind=10/\y.Kind=9/\(x.Data.length:Int)<=y.Value then 8
 else jL x.Kind x.Level y.Kind y.Level
theorem qbS{ka la kb lb:Int}:Pure Gm 1395 [iI ka,iI la,iI kb,iI lb] (.bool (jr ka la kb lb)):=by
 refine pJ kw ?_;simp only[kw,qM,go_sem]
 repeat' (first | (refine qZ rfl ?_;simp only[go_sem]) | ((first | apply qk | apply qI)<;>intro hc<;>simp only[hc,go_sem]) | (refine qL (qBL) ?_;simp only[go_sem]) | refine qO rfl ?_)
 all_goals (simp_all[jr])
theorem qiK{l k m:Int}:Pure Gm 1499 [iI l,iI k,iI m] (.bool (Yc l k m)):=by
 refine pJ qAQ ?_;simp only[qAQ,qM,go_sem]
 repeat' (first | (refine qZ rfl ?_;simp only[go_sem]) | ((first | apply qk | apply qI)<;>intro hc<;>simp only[hc,go_sem]) | (refine qL (JB) ?_;simp only[go_sem]) | (refine qL (qBL) ?_;simp only[go_sem]) | (refine qL (qBI) ?_;simp only[go_sem]) | refine qO rfl ?_)
 all_goals (simp_all[Yc])
theorem qiL{k:Int}:Pure Gm 1500 [iI k] (.bool (WZ k)):=by
 refine pJ qAR ?_;simp only[qAR,qM,go_sem]
 repeat' (first | (refine qZ rfl ?_;simp only[go_sem]) | ((first | apply qk | apply qI)<;>intro hc<;>simp only[hc,go_sem]) | refine qO rfl ?_)
 all_goals (simp_all[WZ])
theorem qbT{ka la kb lb:Int}:Pure Gm 1396 [iI ka,iI la,iI kb,iI lb] (iI (zL ka la kb lb)):=by
 refine pJ kz ?_;simp only[kz,qM,go_sem]
 repeat' (first | (refine qZ rfl ?_;simp only[go_sem]) | ((first | apply qk | apply qI)<;>intro hc<;>simp only[hc,go_sem]) | (refine qL (qiK) ?_;simp only[go_sem]) | (refine qL (qiL) ?_;simp only[go_sem]) | refine qO rfl ?_)
 all_goals (simp_all[zL])
theorem qhW{ka la kb lb:Int}:Pure Gm 1110 [iI ka,iI la,iI kb,iI lb] (iI (zY ka la kb lb)):=by
 refine pJ Ke ?_;simp only[Ke,qM,go_sem]
 repeat' (first | (refine qZ rfl ?_;simp only[go_sem]) | ((first | apply qk | apply qI)<;>intro hc<;>simp only[hc,go_sem]) | (refine qL (qbS) ?_;simp only[go_sem]) | (refine qL (qbT) ?_;simp only[go_sem]) | refine qO rfl ?_)
 all_goals (simp_all[zY])
theorem qhX{ka la kb lb:Int}:Pure Gm 1111 [iI ka,iI la,iI kb,iI lb] (iI (jL ka la kb lb)):=by
 refine pJ Kf ?_;simp only[Kf,qM,go_sem]
 repeat' (first | (refine qZ rfl ?_;simp only[go_sem]) | ((first | apply qk | apply qI)<;>intro hc<;>simp only[hc,go_sem]) | (refine qL (qbS) ?_;simp only[go_sem]) | (refine qL (qbT) ?_;simp only[go_sem]) | refine qO rfl ?_)
 all_goals (simp_all[jL])
theorem c744{x y:qB}:Pure Gm 744 [.ept x.enc 0,.ept y.enc 0] (iI (qN x y)):=by
 refine pJ F744 ?_;simp only[F744,qM,go_sem]
 repeat' (first | (refine qZ rfl ?_;simp only[go_sem]) | ((first | apply qk | apply qI)<;>intro hc<;>simp only[hc,go_sem]) | (refine qL (qhX) ?_;simp only[go_sem]) | refine qO rfl ?_)
 all_goals (simp_all[qN]<;>(intro h;omega))
def fil(e:Env)(w:Nat)(el:List AV)(i:Nat)(v:Option AV)(r:List (Nat×Ao)):Option (List AV):=match v with
 | some v=>if v.cells.length=w/\i<el.length then jA e w (el.set i v) r else none
 | none=>none
section
variable {e:Env} {w i:Nat} {el:List AV} {v:AV} {x:Ao} {r:List (Nat×Ao)}
@[go_sem] theorem qkL:jA e w el []=some el:=nr (by unfold jA;rfl)
@[go_sem] theorem qrU:jA e w el ((i,x)::r)=fil e w el i (ev e x) r:=nr (by unfold jA;rfl)
@[go_sem] theorem qkM{el0:AV}(h:v.cells.length=w):fil e w [el0] 0 (some v) r=jA e w [v] r:=by
 show (if v.cells.length=w/\0<1 then _ else _)=_;rw[if_pos ⟨h,by omega⟩];rfl
@[go_sem] theorem rep1{v:AV}:List.replicate 1 v=[v]:=nr rfl
end
structure qV where
 A:Int
 B:Int
deriving DecidableEq
def qV.enc(x:qV):AV:=.agg [iI x.A,iI x.B]
theorem qV.isSh:Sh qV.enc 2 (some 2):=⟨λx=>by simp[qV.enc,AV.tree,AV.trees],λ_=>rfl,λ_=>rfl,by decide,λx=>by simp[qV.enc]⟩
section
variable {x:qV}
@[go_sem] theorem qV.tr:x.enc.tree=true:=qV.isSh.tree x
@[go_sem] theorem qV.all:x.enc.part 0 (some 2)=some x.enc:=nr rfl
end
def zI(x y:qB):Bool:=decide (zY x.Kind x.Level y.Kind y.Level=2)
def wj(xs:List qB)(k:Nat):List qV:=match xs[k]? with
 | some x=>if x.Kind=0 then []else match x.Ports[0]? with
  | some p=>if p.Slot=0/\(k:Int)<p.Agent then [⟨k,p.Agent⟩]else []
  | none=>[]
 | none=>[]
def zE(xs:List qB):Nat->List qV
 | 0=>[]
 | i+1=>zE xs i++wj xs (i+1)
theorem qnJ(xs:List qB)(k:Nat):(wj xs k).length<=1:=by
 unfold wj;repeat' (split<;>try simp)
theorem Y1(xs:List qB):∀i,(zE xs i).length<=i
 | 0=>nLr _
 | i+1=>by have:=Y1 xs i;have:=qnJ xs (i+1);simp[zE];omega
theorem c743{n:qD}{a b:Nat}(ha:a<n.Agents.length)(hb:b<n.Agents.length):Pure Gm 743 [.ept n.enc 0,iI (a:Int),iI (b:Int)] (if zI n.Agents[a] n.Agents[b]then .tup [iI (b:Int),iI (a:Int)]else .tup [iI (a:Int),iI (b:Int)]):=by
 refine pI F743 (by simp[AV.trees,AV.tree,go_sem]) (by split<;>rfl) ?_;simp only[F743,qM,go_sem];simp only[gMp,gEg ha,oMs,go_sem];simp only[gEg hb,oMs,go_sem];refine qL qhW ?_;simp only[go_sem];apply qI<;>intro hc<;>simp only[hc,go_sem]
 ·refine JU (by split<;>rfl) ?_;simp_all[zI]
 ·refine JU (by split<;>rfl) ?_;simp_all[zI]
theorem qEP{xs:List qB}{i:Nat}:∀{qs:List qE}{j:Nat},Jx xs i qs j=true->∀(m:Nat)(hm:m<qs.length),JO xs ⟨i,(j+m:Nat)⟩ qs[m]=true
 |[],_,_,m,hm=>by simp at hm
 | q::qs,j,h,m,hm=>by
  simp only[Jx,bAt]at h;cases m with
  | zero=>exact h.1
  | succ m=>
   have:=qEP h.2 m (by simpa using hm);rw[show j+(m+1)=j+1+m by omega];simpa using this
theorem qC8{xs:List qB}:∀{l:List qB}{i:Nat},QU xs l i=true->∀(k:Nat)(hk:k<l.length),Jx xs (i+k) l[k].Ports 0=true
 |[],_,_,k,hk=>by simp at hk
 | x::l,i,h,k,hk=>by
  simp only[QU,bAt]at h;cases k with
  | zero=>exact h.1
  | succ k=>
   have:=qC8 h.2 k (by simpa using hk);rw[show i+(k+1)=i+1+k by omega];simpa using this
theorem JT:∀{l:List qB}{i:Nat},j7 l i=true->∀x∈l,qe x=true
 |[],_,_,x,hx=>by cases hx
 | y::l,i,h,x,hx=>by
  simp only[j7,bAt]at h;rcases List.mem_cons.1 hx with rfl | hx
  ·exact h.1.1
  ·exact JT h.2 x hx
def JJ(n:qD):List qV:=zE n.Agents (n.Agents.length-1)
def Jz(n:qD)(a:Int):qB:=(n.Agents[a.toNat]?).getD ⟨0,0,0,[],[]⟩
def Uv(n:qD)(p:qV):qV:=if zI (Jz n p.A) (Jz n p.B)then⟨p.B,p.A⟩else p
theorem qEN{a:Int}{m:Nat}(h:0<=a):a.tmod m=((a.toNat%m:Nat):Int):=by
 conv=>lhs;rw[<-Int.toNat_of_nonneg h]
 exact(Int.ofNat_tmod _ _).symm
theorem qf9{xs:List Int}(h:wm xs=true){i:Nat}(hi:i<xs.length):0<=xs[i]:=by
 simp only[wm,bAt,lAt]at h;exact(zK.1 (h.2 _ (gMm hi))).1
def fzp(n id:Nat)(o:Option qC)(st:VSt):VSt:=match o with
 | some (.row w [v] true)=>if w=0 then st else{s:=(n,.ept v 0)::st.s,l:=st.l,h:=st.h.set id .dead}
 | _=>st
def fzo(n:Nat)(v:Option AV)(st:VSt):VSt:=match v with
 | none=>st
 | some (.ept _ _)=>st
 | some (.lst _ _ _)=>st
 | some (.int _ _)=>st
 | some (.bool _)=>st
 | some .nils=>st
 | some (.agg _)=>st
 | some (.ptr id 0 0)=>fzp n id st.h[id]? st
 | _=>ZH n st
section
variable {n id:Nat} {s m:qv} {h:List qC} {v x:AV} {st:VSt}
@[go_sem] theorem qr4:ZH n ⟨s,m,h⟩=fzo n (get s n) ⟨s,m,h⟩:=by
 unfold fzo;split<;>rename_i e<;>try (simp only[ZH,e];done)
 ·simp only[ZH,e,fzp];split<;>rename_i e2<;>simp only[e2]
  ·split<;>split<;>first | rfl | omega
@[go_sem] theorem qsA:get [] n=none:=nr rfl
@[go_sem] theorem qr6:fzo n none st=st:=nr rfl
@[go_sem] theorem qr5{j:Nat}:fzo n (some (.ept v j)) st=st:=nr rfl
@[go_sem] theorem qr7:fzo n (some (.ptr id 0 0)) ⟨s,m,h⟩=fzp n id h[id]? ⟨s,m,h⟩:=nr rfl
@[go_sem] theorem qr8{w:Nat}:fzp n id (some (.row w [v] true)) ⟨s,m,h⟩=if w=0 then⟨s,m,h⟩else⟨(n,.ept v 0)::s,m,h.set id .dead⟩:=nr rfl
end
theorem Vo{f:AV}(p:Int->Bool)(hft:f.tree=true)(xs:List Int)(hf:∀x∈xs,YJ Gm f [qQ x] (.bool (p x)))(hl:xs.length<=1048576):Pure Gm 397 [lQ xs,f] (.bool (xs.any p)):=
 qBW shI (gc:=774) (gk _ F397) (gk _ F774) f p hft xs hf hl
theorem c859{f:AV}(p:qD->Bool)(hft:f.tree=true)(xs:List qD)(hf:∀x∈xs,YJ Gm f [x.enc] (.bool (p x)))(hl:xs.length<=1048576):Pure Gm 859 [.lst 1 (xs.map qD.enc) false,f] (.bool (xs.any p)):=
 qBW qD.isSh (gc:=1179) (gk _ F859) (gk _ qGG) f p hft xs hf hl
theorem c712{f:AV}(p:qE->Bool)(hft:f.tree=true)(xs:List qE)(hf:∀x∈xs,YJ Gm f [x.enc] (.bool (p x)))(hl:xs.length<=1048576):Pure Gm 712 [.lst 2 (xs.map qE.enc) false,f] (.bool (xs.any p)):=
 qBW qE.isSh (gc:=1098) (gk _ F712) (gk _ qFN) f p hft xs hf hl
theorem XG{α:Type}(p:α->Bool)(xs:List α):(!xs.any λx=> !p x)=xs.all p:=by
 induction xs with
 | nil=>rfl
 | cons x xs ih=>simp only[List.any_cons,lAc,Bool.not_or,Bool.not_not,ih]
theorem c775{n:Int}:Pure Gm 775 [iI n] (.bool (!inI n 0 600)):=by
 refine pJ F775 ?_;simp only[F775,qM,go_sem]
 repeat' (first | (refine qZ rfl ?_;simp only[go_sem]) | ((first | apply qk | apply qI)<;>intro hc<;>simp only[hc,go_sem]) | refine qO rfl ?_)
 all_goals ((simp only[inI,AV.bool.injEq];rw[Bool.eq_iff_iff];simp at*;try omega))
theorem c406{xs:List Int}(hl:xs.length<=1048576):Pure Gm 406 [lQ xs] (.bool (wm xs)):=by
 refine pI F406 (by simp[AV.trees,AV.tree,qa shI.tree]) rfl ?_;simp only[F406,qM,go_sem]
 (first | apply qk | apply qI)<;>intro hc<;>simp only[hc,go_sem]
 ·refine qL (Vo (f:=.fn 775 []) (λn=> !inI n 0 600) rfl xs (λx _=>⟨775,[],rfl,c775⟩) hl) ?_;simp only[go_sem];refine qO rfl ?_;rw[XG];simp_all[wm]<;>omega
 ·refine qO rfl ?_;simp_all[wm]<;>omega
theorem qBN{k:Int}:Pure Gm 1487 [iI k] (.bool (Zq k)):=by
 refine pJ qAM ?_;simp only[qAM,qM,go_sem]
 repeat' (first | (refine qZ rfl ?_;simp only[go_sem]) | ((first | apply qk | apply qI)<;>intro hc<;>simp only[hc,go_sem]) | refine qO rfl ?_)
 all_goals ((simp only[Zq,inI,AV.bool.injEq];rw[Bool.eq_iff_iff];simp at*;try omega))
theorem qBJ{k:Int}:Pure Gm 1375 [iI k] (.bool (wx k)):=by
 refine pJ kX ?_;simp only[kX,qM,go_sem]
 repeat' (first | (refine qZ rfl ?_;simp only[go_sem]) | ((first | apply qk | apply qI)<;>intro hc<;>simp only[hc,go_sem]) | (refine qL (qBN) ?_;simp only[go_sem]) | refine qO rfl ?_)
 all_goals ((simp only[wx,Zq,inI,AV.bool.injEq]at*;rw[Bool.eq_iff_iff];simp at*;try omega))
theorem qbV{l:Int}:Pure Gm 1495 [iI l] (.bool (inI l 0 8)):=by
 refine pJ qAP ?_;simp only[qAP,qM,go_sem]
 repeat' (first | (refine qZ rfl ?_;simp only[go_sem]) | ((first | apply qk | apply qI)<;>intro hc<;>simp only[hc,go_sem]) | refine qO rfl ?_)
 all_goals ((simp only[inI,AV.bool.injEq];rw[Bool.eq_iff_iff];simp at*;try omega))
theorem qBM{k l:Int}:Pure Gm 1389 [iI k,iI l] (.bool (wB k l)):=by
 refine pJ kq ?_;simp only[kq,qM,go_sem]
 repeat' (first | (refine qZ rfl ?_;simp only[go_sem]) | ((first | apply qk | apply qI)<;>intro hc<;>simp only[hc,go_sem]) | (refine qL (qBN) ?_;simp only[go_sem]) | (refine qL (qBJ) ?_;simp only[go_sem]) | (refine qL (qbV) ?_;simp only[go_sem]) | refine qO rfl ?_)
 all_goals ((unfold wB;split<;>(simp only[wx,Zq,inI,AV.bool.injEq]at* <;>(rw[Bool.eq_iff_iff];simp at* <;>try omega))))
theorem c796{n:Int}:Pure Gm 796 [iI n] (.bool (wS n)):=by
 refine pJ F796 ?_;simp only[F796,qM,go_sem]
 repeat' (first | (refine qZ rfl ?_;simp only[go_sem]) | ((first | apply qk | apply qI)<;>intro hc<;>simp only[hc,go_sem]) | refine qO rfl ?_)
 all_goals (simp_all[wS,inI]<;>omega)
theorem qhS{n:Int}:Pure Gm 1050 [iI n] (.bool (inI n 1 6)):=by
 refine pJ KY ?_;simp only[KY,qM,go_sem]
 repeat' (first | (refine qZ rfl ?_;simp only[go_sem]) | ((first | apply qk | apply qI)<;>intro hc<;>simp only[hc,go_sem]) | refine qO rfl ?_)
 all_goals ((simp only[inI,AV.bool.injEq];rw[Bool.eq_iff_iff];simp at*;try omega))
theorem qbN{n:Int}:Pure Gm 1051 [iI n] (.bool (inI n (-2147483648) 2147483647)):=by
 refine pJ KZ ?_;simp only[KZ,qM,go_sem]
 repeat' (first | (refine qZ rfl ?_;simp only[go_sem]) | ((first | apply qk | apply qI)<;>intro hc<;>simp only[hc,go_sem]) | refine qO rfl ?_)
 all_goals ((simp only[inI,AV.bool.injEq];rw[Bool.eq_iff_iff];simp at*;try omega))
theorem qiD{n:Int}:Pure Gm 1390 [iI n] (.bool (!wS n)):=by
 refine pJ ku ?_;simp only[ku,qM,go_sem]
 repeat' (first | (refine qZ rfl ?_;simp only[go_sem]) | ((first | apply qk | apply qI)<;>intro hc<;>simp only[hc,go_sem]) | (refine qL (c796) ?_;simp only[go_sem]) | refine qO rfl ?_)
 all_goals (simp_all)
theorem qDS{E:Ev}{o:Option AV}{v:AV}{k:Nat}{l:List qA}{ks:List Fr1}{s m:qv}{h:List qC}{Q:qi->VSt->Prop}(ho:o=some v)(hr:R E (.ops l::ks) ⟨(k,v)::s,m,h⟩ Q):Put E o (some k) l ks ⟨s,m,h⟩ Q:=by
 subst ho;rw[qfJ];exact hr
theorem qiB{k:Int}{n:Nat}(hn:n<=1048576):Pure Gm 1388 [iI k,iI (n:Int)] (iI (if k=9 then(n:Int)-1 else 0)):=by
 refine pJ ki ?_;simp only[ki,qM,go_sem];apply qI<;>intro hc<;>simp only[hc,go_sem]
 ·rw[wsA];refine qO rfl ?_;simp_all
 ·refine qO rfl ?_;simp_all
theorem qiA{k f:Int}:Pure Gm 1387 [iI k,iI f] (iI (wk k f)):=by
 refine pJ kf ?_;simp only[kf,qM,go_sem]
 repeat' (first
  | (first | (refine qk ?_ ?_<;>intro hc<;>simp only[hc,go_sem]) | (refine qI ?_ ?_<;>intro hc<;>simp only[hc,go_sem]))
  | (refine qL qBN ?_;simp only[go_sem])
  | refine qO rfl ?_)
 all_goals simp only[Bool.not_eq_false',bNt,Bool.not_true,Bool.not_false,dTe,decide_eq_false_iff_not,Zq,inI,bAt,Bool.and_eq_false_iff]at*
 case refine_2.refine_1.refine_1.refine_2=>
  subst hc;have:k=1\/k=2\/k=3\/k=4\/k=5\/k=6\/k=7\/k=8\/k=10\/k=11\/k=12:=by omega
  rcases this with rfl | rfl | rfl | rfl | rfl | rfl | rfl | rfl | rfl | rfl | rfl
  all_goals
   first | refine qDS (v:=iI 1) rfl ?_ | refine qDS (v:=iI 2) rfl ?_ | refine qDS (v:=iI 3) rfl ?_
   simp only[go_sem];refine qO rfl rfl
 all_goals try rw[wsA]
 all_goals (simp only[wk,inI,AV.int.injEq,true_and,bAt,dTe];repeat' split)
 all_goals try omega
theorem c801{n m:Int}:Pure Gm 801 [iI n,.ept (iI m) 0] (.bool (!inI n 0 m)):=by
 refine pJ F801 ?_;simp only[F801,qM,go_sem]
 repeat' (first | (refine qZ rfl ?_;simp only[go_sem]) | ((first | apply qk | apply qI)<;>intro hc<;>simp only[hc,go_sem]) | refine qO rfl ?_)
 all_goals ((simp only[inI,AV.bool.injEq];rw[Bool.eq_iff_iff];simp at*;try omega))
theorem YS{m:Int}{xs:List Int}(hl:xs.length<=1048576):Pure Gm 436 [iI m,lQ xs] (.bool (xs.all λn=>inI n 0 m)):=by
 refine Pure.intro [2] [] (gk _ F436) (by kernel_rfl) rfl (by simp[AV.trees,AV.tree,qa shI.tree]) rfl ?_;simp only[F436,qM,go_sem];refine WX rfl ?_;simp only[go_sem,lNa,lSz];refine qL (Vo (f:=.fn 801 [.ept (iI m) 0]) (λn=> !inI n 0 m) rfl xs (λx _=>⟨801,_,rfl,c801⟩) hl) ?_;simp only[go_sem];refine qO rfl ?_;rw[XG]
set_option maxHeartbeats 2000000
theorem qiC{x:qB}(hn:x.Ports.length<=1048576):Pure Gm 1388 [iI x.Kind,iI (x.Ports.length:Int)] (iI (fieldsOf x)):=qiB hn
theorem Vd{x:qB}(h1:¬(x.Ports.length:Int)=0)(h2:wk x.Kind (fieldsOf x)=x.Ports.length)(h3:wB x.Kind x.Level=true):qe x=z7 x:=by
 have h:(0:Int)<x.Ports.length:=by omega
 unfold qe;rw[h2,h3];simp only[decide_eq_true h,decide_true,Bool.true_and]
theorem qhV{x:qB}(hd:x.Data.length<=1048576)(hn:x.Ports.length<=1048576):Pure Gm 1097 [x.enc] (.bool (qe x)):=by
 refine pI Kd (by simp[AV.trees,go_sem]) rfl ?_;simp only[Kd,qM,go_sem]
 repeat' (first
  | (refine qZ rfl ?_;simp only[go_sem])
  | (first | (refine qk ?_ ?_<;>intro hc<;>simp only[hc,go_sem]) | (refine qI ?_ ?_<;>intro hc<;>simp only[hc,go_sem]))
  | (refine qL (qiC hn) ?_;simp only[go_sem])
  | (refine qL qiA ?_;simp only[go_sem])
  | (refine qL qBM ?_;simp only[go_sem])
  | (refine qL (Vo (f:=.fn 1390 []) (λn=> !wS n) rfl x.Data (λ_ _=>⟨1390,[],rfl,qiD⟩) hd) ?_;simp only[XG,go_sem])
  | (refine qL qhS ?_;simp only[go_sem])
  | (refine qL qbN ?_;simp only[go_sem])
  | (refine qL c796 ?_;simp only[go_sem])
  | refine qO rfl ?_)
 case refine_1.refine_1.refine_2.refine_2.refine_2.refine_1.refine_1.refine_1=>
  obtain⟨d,hd1⟩:∃d,x.Data=[d]:=List.length_eq_one_iff.1 (by have:=odT hc;omega);simp only[hd1,lMc,List.map_nil,qQ,go_sem];simp only[oMs,go_sem];refine qL qbN ?_;simp only[go_sem];refine qO rfl ?_;simp only[Bool.not_eq_false',dTe,decide_eq_false_iff_not]at*;rw[Vd (by assumption) (by assumption) (by assumption)];simp[z7, *]
 all_goals simp only[Bool.not_true,Bool.not_false,bNt,Bool.not_eq_false',dTe,decide_eq_false_iff_not]at*
 all_goals first
  | (rw[Vd (by assumption) (by assumption) (by assumption)];simp only[AV.bool.injEq];rw[Bool.eq_iff_iff];simp[z7, *];done)
  | (rw[Vd (by assumption) (by assumption) (by assumption)];simp only[AV.bool.injEq];rw[Bool.eq_iff_iff];simp[z7,inI, *];omega)
  | (rw[Vd (by assumption) (by assumption) (by assumption)];simp only[AV.bool.injEq];rw[Bool.eq_iff_iff];simp[z7,inI, *];done)
  | (simp[qe, *];done)
  | (simp[qe, *];omega)
  | trace_state
theorem c711{xs:List qB}(hl:xs.length+qH qB.sz xs<=1048576):Pure Gm 711 [.lst 5 (xs.map qB.enc) false] (.bool (wb xs)):=by
 refine pI F711 (by simp[AV.trees,AV.tree,qa qB.isSh.tree]) rfl ?_;simp only[F711,qM,go_sem];have fin (h1:1<=xs.length) (h2:xs.length<=600):wb xs=j7 xs 0:=by
  unfold wb inI;rw[decide_eq_true (by omega),decide_eq_true (by omega)];rfl
 (first | apply qk | apply qI)<;>intro hc<;>simp only[hc,go_sem]
 ·(first | apply qk | apply qI)<;>intro hc<;>simp only[hc,go_sem]
  ·refine qO rfl ?_;simp only[AV.bool.injEq,wb,inI];simp at*;omega
  ·have h1:1<=xs.length:=by simp at*;omega
   have h2:xs.length<=600:=by simp at*;omega
   rw[fin h1 h2];refine Sem.loop (λi:Nat=>i<=xs.length/\j7 xs 0=j7 (xs.drop i) i) (λi=>(⟨[(13,.lst 5 (xs.map qB.enc) false),(14,iI (xs.length:Int)),(15,iI (i:Nat))],[],[]⟩:VSt)) (λi=>xs.length-i) 0 (by kernel_rfl) ⟨nZl _,by simp⟩ csA ?_;rintro i ⟨hi,hI⟩;simp only[go_sem];apply qI<;>intro hc<;>simp only[hc,go_sem]
   ·have hlt:i<xs.length:=by have:=odT hc;omega
    simp only[gMp,gEg hlt,oMs,go_sem];have hs:xs[i].Data.length+xs[i].Ports.length<=qH qB.sz xs:=zx (f:=qB.sz) (gMm hlt);refine lsA ?_;simp only[go_sem];refine qL (qhV (by omega) (by omega)) ?_;simp only[go_sem]
    (first | apply qk | apply qI)<;>intro hc<;>simp only[hc,go_sem]
    ·(first | apply qk | apply qI)<;>intro hc<;>simp only[hc,go_sem]
     ·refine qO rfl ?_;rw[hI,wu hlt];simp_all[j7]
     ·simp only[wuA (n:=i)];refine qb (i+1) ⟨by omega, ?_⟩ (by omega) csA;rw[hI,wu hlt];simp_all[j7]
    ·refine qO rfl ?_;rw[hI,wu hlt];simp_all[j7]
   ·obtain rfl:i=xs.length:=by have:=odF hc;omega
    refine qO rfl ?_;rw[hI];simp[j7]
 ·refine qO rfl ?_;simp only[AV.bool.injEq,wb,inI];simp at*;omega
theorem c555{n:qD}{a s:Nat}(ha:a<n.Agents.length)(hs:s<n.Agents[a].Ports.length):Pure Gm 555 [.ept n.enc 0,qE.enc ⟨(a:Int),(s:Int)⟩] (n.Agents[a].Ports[s].enc):=by
 refine pI WL (by simp[AV.trees,AV.tree,qD.tr,qE.tr]) (by exact qE.tr) ?_;simp only[WL,qM,go_sem];refine qZ rfl ?_;simp only[go_sem];simp only[gMp,gEg ha,oMs,go_sem];simp only[gEg hs,oMs,go_sem];refine lsA ?_;simp only[go_sem];refine qO qE.tr ?_;rfl
theorem qfC{xs:List qB}{p:qE}(h:JL xs p=true):∃a s:Nat,p=⟨a,s⟩/\∃ha:a<xs.length,s<xs[a].Ports.length:=by
 simp only[JL,bAt]at h;have e1:=zK.1 h.1;have e2:=zK.1 h.2;have ha:p.Agent.toNat<xs.length:=by omega
 simp only[QF,gEg ha]at e2;refine⟨p.Agent.toNat,p.Slot.toNat, ?_,ha,by omega⟩;rw[Int.toNat_of_nonneg e1.1,Int.toNat_of_nonneg e2.1]
theorem c714{xs:List qB}{p:qE}:Pure Gm 714 [.lst 5 (xs.map qB.enc) false,p.enc] (.bool (JL xs p)):=by
 refine pI F714 (by simp[AV.trees,AV.tree,qa qB.isSh.tree,qE.tr]) rfl ?_;simp only[F714,qM,go_sem];refine qZ rfl ?_;simp only[go_sem];have big (h0:0<=p.Agent) (h1:p.Agent<xs.length):JL xs p=(decide (0<=p.Slot)&&decide (p.Slot<(QF xs p.Agent:Int))):=by
  simp only[JL,inI];rw[Bool.eq_iff_iff];simp;omega
 (first | apply qk | apply qI)<;>intro hc<;>simp only[hc,go_sem]
 ·(first | apply qk | apply qI)<;>intro hc<;>simp only[hc,go_sem]
  ·(first | apply qk | apply qI)<;>intro hc<;>simp only[hc,go_sem]
   ·have h0:0<=p.Agent:=by simp at*;omega
    have h1:p.Agent<xs.length:=by simp at*;omega
    have hlt:p.Agent.toNat<xs.length:=by omega
    rw[Qn h0];simp only[gMp,gEg hlt,oMs,go_sem];refine qO rfl ?_;rw[big h0 h1];simp_all[QF]
   ·refine qO rfl ?_;rw[big (by simp at*;omega) (by simp at*;omega)];simp_all
    try (intro h;omega)
  ·refine qO rfl ?_;simp only[JL,inI,AV.bool.injEq];simp at*;omega
 ·refine qO rfl ?_;simp only[JL,inI,AV.bool.injEq];simp at*;omega
theorem c713{n:qD}{a s:Nat}(ha:a<n.Agents.length)(hs:s<n.Agents[a].Ports.length):Pure Gm 713 [qE.enc ⟨(a:Int),(s:Int)⟩,.ept n.enc 0] (.bool (!JO n.Agents ⟨(a:Int),(s:Int)⟩ n.Agents[a].Ports[s])):=by
 refine pI F713 (by simp[AV.trees,AV.tree,qD.tr,qE.tr]) rfl ?_;simp only[F713,qM,go_sem];refine qZ rfl ?_;simp only[go_sem];refine qL (c555 ha hs) ?_;simp only[go_sem];refine lsA ?_;simp only[go_sem];obtain⟨q,hq⟩:∃q,q=n.Agents[a].Ports[s]:=⟨_,rfl⟩;rw[<-hq]
 (first | apply qk | apply qI)<;>intro hc<;>simp only[hc,go_sem]
 ·refine qL c714 ?_;simp only[go_sem]
  (first | apply qk | apply qI)<;>intro hc<;>simp only[hc,go_sem]
  ·have hp:JL n.Agents q=true:=by simpa using hc
   obtain⟨a2,s2,rfl,ha2,hs2⟩:=qfC hp;refine qL (c555 ha2 hs2) ?_;simp only[go_sem];refine qO rfl ?_;simp_all[JO,ZS]
  ·refine qO rfl ?_;simp_all[JO]
 ·refine qO rfl ?_;simp_all[JO]
theorem qEK{α:Type}(f:α->Nat):∀(xs ys:List α),qH f (xs++ys)=qH f xs+qH f ys
 |[],ys=>by simp[qH]
 | x::xs,ys=>by simp only[lCa,qH,qEK f xs ys];omega
theorem qgQ{α:Type}(f:α->Nat)(xs:List α)(i:Nat):qH f (xs.take i)<=qH f xs:=by
 have:=qEK f (xs.take i) (xs.drop i);rw[List.take_append_drop]at this;omega
def wZ(i k:Nat):List qE:=(List.range k).map λs:Nat=>⟨(i:Int),(s:Int)⟩
theorem qpU(i k:Nat):wZ i (k+1)=wZ i k++[⟨(i:Int),(k:Int)⟩]:=by simp[wZ,List.range_succ]
def jn(xs:List qB):Nat->List qE
 | 0=>[]
 | i+1=>jn xs i++wZ i (QF xs (i:Int))
theorem qDQ(xs:List qB):∀i,i<=xs.length->(jn xs i).length<=qH qB.sz (xs.take i)
 | 0,_=>nZl _
 | i+1,h=>by
  have:=qDQ xs i (by omega);have hi:i<xs.length:=by omega
  have e:xs.take (i+1)=xs.take i++[xs[i]]:=by simp[List.take_append_getElem]
  have e2:qH qB.sz (xs.take i++[xs[i]])=qH qB.sz (xs.take i)+qB.sz xs[i]:=by
   rw[qEK];rfl
  have e3:xs[i].Ports.length<=qB.sz xs[i]:=by unfold qB.sz;omega
  rw[e,e2];simp[jn,wZ,QF,gEg hi];omega
theorem c554{n:qD}(hz:n.sz<=1048576):Pure Gm 554 [.ept n.enc 0] (.lst 2 ((jn n.Agents n.Agents.length).map qE.enc) false):=by
 refine pI F554 (by simp[AV.trees,AV.tree,qD.tr]) (by simp[AV.tree,qa qE.isSh.tree]) ?_;simp only[F554,qM,go_sem];unfold qD.sz at hz;refine Sem.loop (λi:Nat=>i<=n.Agents.length) (λi=>(⟨[(10,.lst 5 (n.Agents.map qB.enc) false),(11,iI (n.Agents.length:Int)),(12,iI (i:Nat)),(3,.slice 2 0 0 (jn n.Agents i).length false)],[],[.row 2 ((jn n.Agents i).map qE.enc) true]⟩:VSt)) (λi=>n.Agents.length-i) 0 (by kernel_rfl) (nZl _) (Can.renum [none] rfl ⟨.ph,trivial⟩ ⟨⟨_,rfl,.tree (by simp[AV.tree,qa qB.isSh.tree])⟩,⟨_,rfl,.tree rfl⟩,⟨_,rfl,.tree rfl⟩,⟨_,rfl,.ph rfl⟩,trivial⟩ trivial) ?_;rintro i hi;simp only[go_sem];apply qI<;>intro hc<;>simp only[hc,go_sem]
 ·have hlt:i<n.Agents.length:=by have:=odT hc;omega
  simp only[gMp,gEg hlt,oMs,go_sem];refine lsA ?_;simp only[go_sem];have e0:jn n.Agents i++wZ i 0=jn n.Agents i:=by simp[wZ]
  have hpl:n.Agents[i].Ports.length<=qH qB.sz n.Agents:=by
   have h1:qB.sz n.Agents[i]<=qH qB.sz n.Agents:=zx (f:=qB.sz) (gMm hlt);have h2:n.Agents[i].Ports.length<=qB.sz n.Agents[i]:=by unfold qB.sz;omega
   omega
  have htl:=qDQ n.Agents i (by omega);have htt:=qgQ qB.sz n.Agents i;refine Sem.loop (λk:Nat=>k<=n.Agents[i].Ports.length) (λk=>(⟨[(10,.lst 5 (n.Agents.map qB.enc) false),(11,iI (n.Agents.length:Int)),(12,iI (i:Nat)),(4,iI (i:Nat)),(19,iI (n.Agents[i].Ports.length:Int)),(20,iI (k:Nat)),(3,.slice 2 0 0 (jn n.Agents i++wZ i k).length false)],[],[.row 2 ((jn n.Agents i++wZ i k).map qE.enc) true]⟩:VSt)) (λk=>n.Agents[i].Ports.length-k) 0 (by kernel_rfl) (nZl _) (by simp only[e0];exact csA) ?_;rintro k hk;simp only[go_sem];apply qI<;>intro hc<;>simp only[hc,go_sem]
  ·have hkl:k<n.Agents[i].Ports.length:=by have:=odT hc;omega
   refine jO (el:=(jn n.Agents i++wZ i k).map qE.enc) rfl rfl (by simp) (by simp[wZ];omega) ?_;simp only[go_sem];simp only[wuA (n:=k)];refine qb (k+1) (by omega) (by omega) ?_;have e1:jn n.Agents i++wZ i (k+1)=(jn n.Agents i++wZ i k)++[⟨(i:Int),(k:Int)⟩]:=by rw[qpU,lAa]
   simp only[e1,lAp,lCo,lNi,nZa];refine Can.renum [some 2] rfl ⟨.row rfl ?_,trivial⟩ ⟨⟨_,rfl,.tree (by simp[AV.tree,qa qB.isSh.tree])⟩,⟨_,rfl,.tree rfl⟩,⟨_,rfl,.tree rfl⟩,⟨_,rfl,.tree rfl⟩,⟨_,rfl,.tree rfl⟩,⟨_,rfl,.tree rfl⟩,⟨_,rfl,.slice rfl⟩,trivial⟩ trivial;have t:=qa qE.isSh.tree ((jn n.Agents i++wZ i k)++[⟨(i:Int),(k:Int)⟩]);rw[lMa]at t;rw[show ((jn n.Agents i++wZ i k)++[(⟨(i:Int),(k:Int)⟩:qE)]).map qE.enc=(jn n.Agents i++wZ i k).map qE.enc++[(⟨(i:Int),(k:Int)⟩:qE)].map qE.enc from lMa];exact VR2s.trees t
  ·obtain rfl:k=n.Agents[i].Ports.length:=by have:=odF hc;omega
   simp only[wuA (n:=i)];refine qb (i+1) (by omega) (by omega) ?_;have e2:jn n.Agents (i+1)=jn n.Agents i++wZ i n.Agents[i].Ports.length:=by simp[jn,QF,gEg hlt]
   rw[e2];exact csA
 ·obtain rfl:i=n.Agents.length:=by have:=odF hc;omega
  refine Yg (Cv.row rfl (by simp) (qa qE.isSh.tree _) (by omega))
def z6(xs:List qB)(me:qE):qE:=(ZS xs me).getD ⟨0,0⟩
def Yp(xs:List qB)(me:qE):Bool:=JO xs me (z6 xs me)
theorem qmA{i k:Nat}{q:qE}:q∈wZ i k↔∃s:Nat,s<k/\q=⟨i,s⟩:=by
 simp only[wZ,List.mem_map,lMr];constructor
 ·rintro⟨s,h,rfl⟩;exact⟨s,h,rfl⟩
 ·rintro⟨s,h,rfl⟩;exact⟨s,h,rfl⟩
theorem Ui{xs:List qB}{q:qE}:∀{m:Nat},m<=xs.length->(q∈jn xs m↔∃(i:Nat)(hi:i<xs.length),i<m/\∃s:Nat,s<xs[i].Ports.length/\q=⟨i,s⟩)
 | 0,_=>by simp[jn]
 | m+1,hm=>by
  have hml:m<xs.length:=by omega
  simp only[jn,zw,Ui (xs:=xs) (q:=q) (m:=m) (by omega),qmA,QF,iTn,gEg hml];constructor
  ·rintro(⟨i,hi,h1,h2⟩ | h)
   ·exact⟨i,hi,by omega,h2⟩
   ·exact⟨m,hml,by omega,h⟩
  ·rintro⟨i,hi,h1,h2⟩;by_cases e:i=m
   ·subst e;exact .inr h2
   ·exact .inl ⟨i,hi,by omega,h2⟩
theorem qDP{xs:List qB}{a s:Nat}(ha:a<xs.length)(hs:s<xs[a].Ports.length):z6 xs ⟨a,s⟩=xs[a].Ports[s]:=by
 simp[z6,ZS,gEg ha,gEg hs]
theorem qEQ{xs:List qB}{i:Nat}:∀{qs:List qE}{j:Nat},(∀(m:Nat)(hm:m<qs.length),JO xs ⟨i,(j+m:Nat)⟩ qs[m]=true)->Jx xs i qs j=true
 |[],_,_=>rfl
 | q::qs,j,h=>by
  simp only[Jx,bAt];refine⟨h 0 (by simp),qEQ λm hm=>?_⟩;have:=h (m+1) (by simp;omega);rw[show j+(m+1)=j+1+m by omega]at this;simpa using this
theorem qDA{xs:List qB}:∀{l:List qB}{i:Nat},(∀(k:Nat)(hk:k<l.length),Jx xs (i+k) l[k].Ports 0=true)->QU xs l i=true
 |[],_,_=>rfl
 | x::l,i,h=>by
  simp only[QU,bAt];refine⟨h 0 (by simp),qDA λk hk=>?_⟩;have:=h (k+1) (by simp;omega);rw[show i+(k+1)=i+1+k by omega]at this;simpa using this
theorem qnP(xs:List qB):((jn xs xs.length).all (Yp xs))=QU xs xs 0:=by
 rw[Bool.eq_iff_iff,lAt];constructor
 ·intro h;refine qDA λk hk=>qEQ λm hm=>?_;have:=h ⟨k,m⟩ ((Ui (nLr _)).2 ⟨k,hk,hk,m,hm,rfl⟩);rw[Yp,qDP hk hm]at this;simpa using this
 ·intro h q hq;obtain⟨i,hi,_,s,hs,rfl⟩:=(Ui (nLr _)).1 hq;rw[Yp,qDP hi hs];have:=qEP (qC8 h i hi) s hs;simpa using this
theorem c319{n:qD}(hz:n.sz<=1048576):Pure Gm 319 [n.enc] (.bool (zB n)):=by
 refine Pure.intro [1] [] (gk _ F319) (by kernel_rfl) rfl (by simp[AV.trees,qD.tr]) rfl ?_;simp only[F319,qM,go_sem];have hz':=hz;unfold qD.sz at hz;have hl:(jn n.Agents n.Agents.length).length<=1048576:=by
  have h1:=qDQ n.Agents n.Agents.length (nLr _);have h2:=qgQ qB.sz n.Agents n.Agents.length;omega
 refine WX rfl ?_;simp only[go_sem,lNa,lSz];refine qL (c711 (by omega)) ?_;simp only[go_sem];apply qI<;>intro hc<;>simp only[hc,go_sem]
 ·refine qO rfl ?_;have:wb n.Agents=false:=by simpa using hc
  simp[zB,this]
 ·refine qL (c554 hz') ?_;simp only[go_sem];refine qL (c712 (f:=.fn 713 [.ept n.enc 0]) (λme=> !Yp n.Agents me) (by simp[AV.tree,AV.trees,qD.tr]) _ (λx hx=>?_) hl) ?_
  ·obtain⟨i,hi,_,s,hs,rfl⟩:=(Ui (nLr _)).1 hx;refine⟨713,_,rfl, ?_⟩;have c:=c713 hi hs;rw[Yp,qDP hi hs];exact c
  ·simp only[XG,go_sem];refine qO rfl ?_;have:wb n.Agents=true:=by simpa using hc
   rw[qnP];simp[zB,this]
theorem c860{n:qD}(hz:n.sz<=1048576):Pure Gm 860 [n.enc] (.bool (!zB n)):=by
 refine pI F860 (by simp[AV.trees,qD.tr]) rfl ?_;simp only[F860,qM,go_sem];refine qZ rfl ?_;simp only[go_sem];refine qL (c319 hz) ?_;simp only[go_sem];exact qO rfl rfl
theorem c505{xs:List qD}(hl:xs.length<=1048576)(hz:∀n∈xs,n.sz<=1048576):Pure Gm 505 [.lst 1 (xs.map qD.enc) false] (.bool (ju xs)):=by
 refine pI F505 (by simp[AV.trees,AV.tree,qa qD.isSh.tree]) rfl ?_;simp only[F505,qM,go_sem]
 (first | apply qk | apply qI)<;>intro hc<;>simp only[hc,go_sem]
 ·refine qL (c859 (f:=.fn 860 []) (λn=> !zB n) rfl xs (λx hx=>⟨860,[],rfl,c860 (hz x hx)⟩) hl) ?_;simp only[XG,go_sem];refine qO rfl ?_;simp only[ju,AV.bool.injEq];simp at*;omega
 ·refine qO rfl ?_;simp only[ju,AV.bool.injEq];simp at*;omega
abbrev Ags:=List qB
abbrev pt(a s:Nat):qE:=⟨(a:Int),(s:Int)⟩
theorem wO{a s b t:Nat}:pt a s=pt b t↔a=b/\s=t:=by simp only[pt,qE.mk.injEq];omega
def atP(N:Ags)(a s:Nat):Option qE:=(N[a]?).bind λx=>x.Ports[s]?
theorem Wq{N:Ags}{a s:Nat}{q:qE}(h:atP N a s=some q):z6 N (pt a s)=q:=by
 unfold z6 ZS atP at*;simp only[pt,iTn];cases hx:N[a]? with
 | none=>simp[hx]at h
 | some x=>simp only[hx,oBs]at h;simp[h]
theorem qfA{N:Ags}{a s:Nat}:ZS N (pt a s)=atP N a s:=by
 unfold ZS atP;simp only[pt,iTn];cases N[a]?<;>rfl
def w6(N:Ags)(p q:qE):Ags:=match N[p.Agent.toNat]? with
 | some x=>N.set p.Agent.toNat {x with Ports:=x.Ports.set p.Slot.toNat q}
 | none=>N
def ze(N:Ags)(p q:qE):Ags:=w6 (w6 N p q) q p
def zq(N:Ags)(old now:qE):Ags:=ze N now (z6 N old)
def jf(N:Ags)(x y:qE):Ags:=if z6 N x=y then N else ze N (z6 N x) (z6 N y)
def qS(k l v:Int)(d:List Int)(n:Nat):qB:=⟨k,l,v,d,List.replicate n ⟨0,0⟩⟩
def Has(N:Ags)(a s:Nat):Prop:=∃q,atP N a s=some q
theorem jd{N:Ags}{a s:Nat}{q:qE}:atP N a s=some q↔∃x,N[a]?=some x/\x.Ports[s]?=some q:=by
 unfold atP;simp[Option.bind_eq_some_iff]
theorem jX{N:Ags}{a s:Nat}:Has N a s↔∃x,N[a]?=some x/\s<x.Ports.length:=by
 unfold Has;constructor
 ·rintro⟨q,h⟩;obtain⟨x,hx,hq⟩:=jd.1 h;exact⟨x,hx,(gSi.1 hq).1⟩
 ·rintro⟨x,hx,hs⟩;exact⟨x.Ports[s],jd.2 ⟨x,hx,gEg hs⟩⟩
theorem W2{N:Ags}{a s:Nat}{q:qE}{x:qB}(hx:N[a]?=some x):w6 N (pt a s) q=N.set a {x with Ports:=x.Ports.set s q}:=by
 unfold w6;simp only[pt,iTn,hx]
theorem VF{N:Ags}{a s:Nat}{q:qE}(hx:N[a]?=none):w6 N (pt a s) q=N:=by
 unfold w6;simp only[pt,iTn,hx]
theorem W3{N:Ags}{p q:qE}:(w6 N p q).length=N.length:=by unfold w6;split<;>simp
theorem Xd{N:Ags}{p q:qE}:(ze N p q).length=N.length:=by simp[ze,W3]
theorem qmE{N:Ags}{p q:qE}:(zq N p q).length=N.length:=by simp[zq,Xd]
def jQ(x:qB):Int×Int×Int×List Int×Nat:=(x.Kind,x.Level,x.Value,x.Data,x.Ports.length)
def SameA(N M:Ags):Prop:=M.map jQ=N.map jQ
theorem SameA.refl(N:Ags):SameA N N:=rfl
theorem SameA.trans{A B C:Ags}(h:SameA A B)(k:SameA B C):SameA A C:=Eq.trans k h
theorem SameA.len{A B:Ags}(h:SameA A B):B.length=A.length:=by simpa using congrArg List.length h
theorem SameA.at{A B:Ags}(h:SameA A B){a:Nat}{x:qB}(hx:A[a]?=some x):∃y,B[a]?=some y/\jQ y=jQ x:=by
 have e:=congrArg (λl=>l[a]?) h;simp only[gMp,hx,oMs]at e;cases hy:B[a]? with
 | none=>simp[hy]at e
 | some y=>rw[hy]at e;exact⟨y,rfl,by simpa using e⟩
theorem SameA.back{A B:Ags}(h:SameA A B):SameA B A:=Eq.symm h
theorem SameA.app{A B C D:Ags}(h:SameA A B)(k:SameA C D):SameA (A++C) (B++D):=by
 unfold SameA at*;simp[h,k]
theorem X4(N:Ags)(p q:qE):SameA N (w6 N p q):=by
 unfold SameA w6;split
 ·rename_i x hx;apply List.ext_getElem?;intro i;simp only[gMp,gSt];split
  ·rename_i e;subst e;split
   ·simp[hx,jQ]
   ·rename_i hn;rw[gEn (by omega)]at hx;cases hx
  ·rfl
 ·rfl
theorem zo(N:Ags)(p q:qE):SameA N (ze N p q):=(X4 N p q).trans (X4 _ q p)
theorem JH(N:Ags)(p q:qE):SameA N (zq N p q):=zo _ _ _
theorem JD(N:Ags)(p q:qE):SameA N (jf N p q):=by unfold jf;split;exact rfl;exact zo _ _ _
theorem SameA.has{A B:Ags}(h:SameA A B){a s:Nat}:Has A a s↔Has B a s:=by
 have f:∀{A B:Ags},SameA A B->Has A a s->Has B a s:=by
  intro A B h hh;obtain⟨x,hx,hs⟩:=jX.1 hh;obtain⟨y,hy,e⟩:=h.at hx;have:y.Ports.length=x.Ports.length:=congrArg (λc=>c.2.2.2.2) e;exact jX.2 ⟨y,hy,by omega⟩
 exact⟨f h,f h.back⟩
theorem qbA{N:Ags}{a s b t:Nat}{q:qE}(hh:Has N a s):atP (w6 N (pt a s) q) b t=if b=a/\t=s then some q else atP N b t:=by
 obtain⟨x,hx,hs⟩:=jX.1 hh;rw[W2 hx];unfold atP;by_cases hb:b=a
 ·subst hb;have hl:=(gSi.1 hx).1;rw[gSs hl,hx];simp only[oBs,gSt,true_and];by_cases ht:t=s
  ·subst ht;simp[hs]
  ·rw[if_neg (λe=>ht e.symm),if_neg ht]
 ·rw[gSn (λe=>hb e.symm),if_neg (λe=>hb e.1)]
theorem wq{N:Ags}{a s c k b t:Nat}(h1:Has N a s)(h2:Has N c k):
  atP (ze N (pt a s) (pt c k)) b t=if b=c/\t=k then some (pt a s)else if b=a/\t=s then some (pt c k)else atP N b t:=by
 unfold ze;rw[qbA ((X4 _ _ _).has.1 h2),qbA h1]
def W(N:Ags)(X:Nat->Nat->Prop):Prop:=∀a s q,atP N a s=some q->¬X a s->∃b t,q=pt b t/\atP N b t=some (pt a s)/\¬X b t/\¬(b=a/\t=s)
theorem W.mono{N:Ags}{X Y:Nat->Nat->Prop}(h:W N X)(e:∀a s,Has N a s->(X a s↔Y a s)):W N Y:=by
 intro a s q hq hY;obtain⟨b,t,e1,e2,e3,e4⟩:=h a s q hq λhx=>hY ((e a s ⟨q,hq⟩).1 hx);exact⟨b,t,e1,e2,λhy=>e3 ((e b t ⟨_,e2⟩).2 hy),e4⟩
theorem W.link{N:Ags}{X:Nat->Nat->Prop}(h:W N X){a s c k:Nat}(h1:Has N a s)(h2:Has N c k)(x1:X a s)(x2:X c k)(hne:¬(a=c/\s=k)):
  W (ze N (pt a s) (pt c k)) λb t=>X b t/\¬(b=a/\t=s)/\¬(b=c/\t=k):=by
 intro b t q hq hX;rw[wq h1 h2]at hq;split at hq
 ·rename_i e;obtain⟨rfl,rfl⟩:=e;cases hq;refine⟨a,s,rfl, ?_,by simp,hne⟩;rw[wq h1 h2,if_neg hne,if_pos ⟨rfl,rfl⟩]
 ·rename_i e;split at hq
  ·rename_i e';obtain⟨rfl,rfl⟩:=e';cases hq;refine⟨c,k,rfl, ?_,by simp,λe=>hne ⟨e.1.symm,e.2.symm⟩⟩;rw[wq h1 h2,if_pos ⟨rfl,rfl⟩]
  ·rename_i e';obtain⟨b',t',e1,e2,e3,e4⟩:=h b t q hq λhx=>hX ⟨hx,e',e⟩;refine⟨b',t',e1, ?_,λhx=>e3 hx.1,e4⟩;rw[wq h1 h2,if_neg,if_neg,e2]
   ·rintro⟨rfl,rfl⟩;exact e3 x1
   ·rintro⟨rfl,rfl⟩;exact e3 x2
theorem W.live{N:Ags}{X:Nat->Nat->Prop}(h:W N X){a s:Nat}(h1:Has N a s)(x1:¬X a s):∃c k,z6 N (pt a s)=pt c k/\atP N a s=some (pt c k)/\Has N c k/\¬X c k/\atP N c k=some (pt a s)/\¬(c=a/\k=s):=by
 obtain⟨q,hq⟩:=h1;obtain⟨b,t,rfl,e2,e3,e4⟩:=h a s q hq x1;exact⟨b,t,Wq hq,hq,⟨_,e2⟩,e3,e2,e4⟩
theorem W.move{N:Ags}{X:Nat->Nat->Prop}(h:W N X){a s c k:Nat}(h1:Has N a s)(h2:Has N c k)(x1:¬X a s)(x2:X c k):
  W (zq N (pt a s) (pt c k)) λb t=>(X b t/\¬(b=c/\t=k))\/(b=a/\t=s):=by
 obtain⟨p,r,e,ea,hp,xp,ep,ne⟩:=h.live h1 x1;unfold zq;rw[e];have n1:¬(p=c/\r=k):=by rintro⟨rfl,rfl⟩;exact xp x2
 intro b t q hq hX;have hX1:¬(b=a/\t=s):=λe=>hX (.inr e);rw[wq h2 hp]at hq;split at hq
 ·rename_i e;obtain⟨rfl,rfl⟩:=e;cases hq;refine⟨c,k,rfl, ?_, ?_,λe=>n1 ⟨e.1.symm,e.2.symm⟩⟩
  ·rw[wq h2 hp,if_neg (λe=>n1 ⟨e.1.symm,e.2.symm⟩),if_pos ⟨rfl,rfl⟩]
  ·rintro(⟨_,q⟩ | ⟨rfl,rfl⟩)
   ·exact q ⟨rfl,rfl⟩
   ·exact x1 x2
 ·rename_i e1;split at hq
  ·rename_i e';obtain⟨rfl,rfl⟩:=e';cases hq;refine⟨p,r,rfl, ?_, ?_,n1⟩
   ·rw[wq h2 hp,if_pos ⟨rfl,rfl⟩]
   ·rintro(⟨q,_⟩ | q)
    ·exact xp q
    ·exact ne q
  ·rename_i e';obtain⟨b',t',e1',e2,e3,e4⟩:=h b t q hq λhx=>hX (.inl ⟨hx,e'⟩);subst e1';refine⟨b',t',rfl, ?_, ?_,e4⟩
   ·rw[wq h2 hp,if_neg,if_neg,e2]
    ·rintro⟨rfl,rfl⟩;exact e3 x2
    ·rintro⟨rfl,rfl⟩;rw[ep]at e2;exact hX1 (by have:=Option.some.inj e2;exact((wO.1 this).imp Eq.symm Eq.symm))
   ·rintro(⟨q,_⟩ | ⟨rfl,rfl⟩)
    ·exact e3 q
    ·rw[ea]at e2;have:=wO.1 (Option.some.inj e2);exact e1 ⟨this.1.symm,this.2.symm⟩
theorem W.drop2{N:Ags}{X:Nat->Nat->Prop}(h:W N X){a s c k:Nat}(h1:atP N a s=some (pt c k))(h2:atP N c k=some (pt a s)):W N λb t=>X b t\/(b=a/\t=s)\/(b=c/\t=k):=by
 intro b t q hq hX;obtain⟨b',t',e1,e2,e3,e4⟩:=h b t q hq λhx=>hX (.inl hx);refine⟨b',t',e1,e2, ?_,e4⟩;rintro(x | ⟨rfl,rfl⟩ | ⟨rfl,rfl⟩)
 ·exact e3 x
 ·rw[h1]at e2;have:=wO.1 (Option.some.inj e2);exact hX (.inr (.inr ⟨this.1.symm,this.2.symm⟩))
 ·rw[h2]at e2;have:=wO.1 (Option.some.inj e2);exact hX (.inr (.inl ⟨this.1.symm,this.2.symm⟩))
theorem W.join{N:Ags}{X:Nat->Nat->Prop}(h:W N X){a s c k:Nat}(h1:Has N a s)(h2:Has N c k)(x1:¬X a s)(x2:¬X c k)(hne:¬(a=c/\s=k)):
  W (jf N (pt a s) (pt c k)) λb t=>X b t\/(b=a/\t=s)\/(b=c/\t=k):=by
 obtain⟨p,r,e,ea,hp,xp,ep,ne⟩:=h.live h1 x1;obtain⟨p',r',e',ea',hp',xp',ep',ne'⟩:=h.live h2 x2;unfold jf;rw[e,e'];split
 ·rename_i q;obtain⟨rfl,rfl⟩:=wO.1 q;exact h.drop2 ea ep
 ·rename_i q;have q1:¬(p=c/\r=k):=λw=>q (wO.2 w);have d1:¬(p=p'/\r=r'):=by
   rintro⟨rfl,rfl⟩;rw[ep]at ep';exact hne (wO.1 (Option.some.inj ep'))
  have d2:¬(p'=a/\r'=s):=by
   rintro⟨rfl,rfl⟩;rw[ea]at ep';exact q1 (wO.1 (Option.some.inj ep'))
  have:=((h.drop2 ea ep).drop2 ea' ep').link hp hp' (.inl (.inr (.inr ⟨rfl,rfl⟩))) (.inr (.inr ⟨rfl,rfl⟩)) d1;refine this.mono λb t _=>?_;constructor
  ·rintro⟨((x | x | x) | x | x),y,z⟩
   ·exact .inl x
   ·exact .inr (.inl x)
   ·exact absurd x y
   ·exact .inr (.inr x)
   ·exact absurd x z
  ·rintro(x | ⟨rfl,rfl⟩ | ⟨rfl,rfl⟩)
   ·exact⟨.inl (.inl x),(by rintro⟨rfl,rfl⟩;exact xp x),(by rintro⟨rfl,rfl⟩;exact xp' x)⟩
   ·exact⟨.inl (.inr (.inl ⟨rfl,rfl⟩)),λe=>ne ⟨e.1.symm,e.2.symm⟩,λe=>d2 ⟨e.1.symm,e.2.symm⟩⟩
   ·exact⟨.inr (.inl ⟨rfl,rfl⟩),λe=>q1 ⟨e.1.symm,e.2.symm⟩,λe=>ne' ⟨e.1.symm,e.2.symm⟩⟩
theorem Q7{N M:Ags}{a s:Nat}(h:a<N.length):atP (N++M) a s=atP N a s:=by
 unfold atP;rw[gAl h]
theorem qa9{N M:Ags}{a s:Nat}:atP (N++M) (N.length+a) s=atP M a s:=by
 unfold atP;rw[gAr (by omega)];simp
theorem Jc{N:Ags}{a s:Nat}{q:qE}(h:atP N a s=some q):a<N.length:=by
 obtain⟨x,hx,_⟩:=jd.1 h;exact(gSi.1 hx).1
theorem Has.lt{N:Ags}{a s:Nat}(h:Has N a s):a<N.length:=by obtain⟨q,h⟩:=h;exact Jc h
theorem Has.app{N M:Ags}{a s:Nat}(h:Has N a s):Has (N++M) a s:=by
 have:=h.lt;obtain⟨q,h⟩:=h;exact⟨q,by rw[Q7 this];exact h⟩
theorem W.add{N:Ags}{X:Nat->Nat->Prop}(h:W N X)(x:qB):W (N++[x]) λb t=>(X b t/\b<N.length)\/b=N.length:=by
 intro a s q hq hX;have hl:=Jc hq;simp only[lAp,lCo,lNi]at hl;have ha:a<N.length:=by
  rcases Nat.lt_or_ge a N.length with q | q
  ·exact q
  ·exact absurd (.inr (by omega)) hX
 rw[Q7 ha]at hq;obtain⟨b,t,e1,e2,e3,e4⟩:=h a s q hq λhx=>hX (.inl ⟨hx,ha⟩);have hb:=Jc e2;refine⟨b,t,e1,by rw[Q7 hb];exact e2, ?_,e4⟩;rintro(⟨x,_⟩ | x)
 ·exact e3 x
 ·omega
theorem zd{N:Ags}{k l v:Int}{d:List Int}{n s:Nat}(h:s<n):Has (N++[qS k l v d n]) N.length s:=
 jX.2 ⟨qS k l v d n,by simp,by simpa[qS]using h⟩
theorem Vl{E:Ev}{d:Option Nat}{w:Nat}{z v:AV}{l:List qA}{ks:List Fr1}{s m:qv}{h:List qC}{e:Env}{Q:qi->VSt->Prop}(hl:v.cells.length=w)(hr:JA E d (.row w [v] true) (sQ w h.length 1) l ks ⟨s,m,h⟩ Q):Bsl E d w 1 (fil e w (List.replicate 1 z) 0 (some v) []) l ks ⟨s,m,h⟩ Q:=by
 rw[show fil e w (List.replicate 1 z) 0 (some v) []=some [v] by simp[fil,jA,hl,List.replicate],qBH];exact hr
theorem c402(xs:List Int)(hz:xs.length<=4194304):Pure Gm 402 [lQ xs] (lQ xs):=by
 refine pI YF (by simp[AV.trees,AV.tree,qa shI.tree]) (by simp[AV.tree,qa shI.tree]) ?_;simp only[YF,qM,go_sem];refine Vi Els.lst (by simp;omega) ?_;simp only[go_sem];refine Yg (Cv.row rfl ?_ (qa shI.tree _) (by omega));simp
end Go.Ab
