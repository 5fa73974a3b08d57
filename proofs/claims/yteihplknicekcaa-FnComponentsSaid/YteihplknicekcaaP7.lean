/- Texts Dbg0 .. Srt2: the abstract machine, its laws and contracts of functions: lemmas for the statement. No condition. -/
import Derived.Test.YteihplknicekcaaP5
set_option linter.unusedSimpArgs false
set_option linter.unusedVariables false
namespace Go.Ab
open Go
structure qE where
 Agent:Int
 Slot:Int
deriving DecidableEq
def qE.enc(x:qE):AV:=.agg [.int .i64 x.Agent,.int .i64 x.Slot]
theorem qE.isSh:Sh qE.enc 2 (some 2):=⟨fun x=>by simp[qE.enc,AV.tree,AV.trees],fun _=>rfl,fun _=>rfl,by decide,fun x=>by simp[qE.enc]⟩
section
variable {x:qE}
@[go_sem] theorem qE.tr:x.enc.tree=true:=qE.isSh.tree x
@[go_sem] theorem qE.ln:x.enc.cells.length=2:=nr rfl
@[go_sem] theorem qE.all:x.enc.part 0 (some 2)=some x.enc:=nr rfl
@[go_sem] theorem qE.cs:x.enc.cells=[.int .i64 x.Agent,.int .i64 x.Slot]:=nr rfl
@[go_sem] theorem qE.p0:x.enc.part 0 none=some (.int .i64 x.Agent):=nr rfl
@[go_sem] theorem qE.p1:x.enc.part 1 none=some (.int .i64 x.Slot):=nr rfl
@[go_sem] theorem qE.eqf{y:qE}:jU false [1,1] (some x.enc) (some y.enc)=some (.bool (decide (x=y))):=by
 obtain⟨a0,a1⟩:=x;obtain⟨b0,b1⟩:=y;simp only[jU,qE.enc,lMc,List.map_nil,dig,and_self,if_true,jX,wZ,qE.mk.injEq]
 repeat' (split<;>simp_all)
@[go_sem] theorem qE.eqt{y:qE}:jU true [1,1] (some x.enc) (some y.enc)=some (.bool (!decide (x=y))):=by
 have h:=qE.eqf (x:=x) (y:=y);unfold jU at h|-;split<;>simp_all
end
structure qC where
 Kind:Int
 Level:Int
 Value:Int
 Data:List Int
 Ports:List qE
def qC.enc(x:qC):AV:=.agg [.int .i64 x.Kind,.int .i64 x.Level,.int .i64 x.Value,.lst 1 (x.Data.map qG) false,.lst 2 (x.Ports.map qE.enc) false]
theorem qC.isSh:Sh qC.enc 5 (some 5):=⟨fun x=>by simp[qC.enc,AV.tree,AV.trees,qx qE.isSh.tree,qx shI.tree],fun _=>rfl,fun _=>rfl,by decide,fun x=>by simp[qC.enc]⟩
section
variable {x:qC}
@[go_sem] theorem qC.tr:x.enc.tree=true:=qC.isSh.tree x
@[go_sem] theorem qC.ln:x.enc.cells.length=5:=nr rfl
@[go_sem] theorem qC.all:x.enc.part 0 (some 5)=some x.enc:=nr rfl
@[go_sem] theorem qC.cs:x.enc.cells=[.int .i64 x.Kind,.int .i64 x.Level,.int .i64 x.Value,.lst 1 (x.Data.map qG) false,.lst 2 (x.Ports.map qE.enc) false]:=nr rfl
@[go_sem] theorem qC.p0:x.enc.part 0 none=some (.int .i64 x.Kind):=nr rfl
@[go_sem] theorem qC.p1:x.enc.part 1 none=some (.int .i64 x.Level):=nr rfl
@[go_sem] theorem qC.p2:x.enc.part 2 none=some (.int .i64 x.Value):=nr rfl
@[go_sem] theorem qC.p3:x.enc.part 3 none=some (.lst 1 (x.Data.map qG) false):=nr rfl
@[go_sem] theorem qC.p4:x.enc.part 4 none=some (.lst 2 (x.Ports.map qE.enc) false):=nr rfl
end
def qC.sz(x:qC):Nat:=x.Data.length+x.Ports.length
def qC.bd(x:qC):Prop:=x.Data.length<=140737488355328/\x.Ports.length<=140737488355328
structure qI where
 Agents:List qC
def qI.enc(x:qI):AV:=.agg [.lst 5 (x.Agents.map qC.enc) false]
theorem qI.isSh:Sh qI.enc 1 (some 1):=⟨fun x=>by simp[qI.enc,AV.tree,AV.trees,qx qC.isSh.tree],fun _=>rfl,fun _=>rfl,by decide,fun x=>by simp[qI.enc]⟩
section
variable {x:qI}
@[go_sem] theorem qI.tr:x.enc.tree=true:=qI.isSh.tree x
@[go_sem] theorem qI.ln:x.enc.cells.length=1:=nr rfl
@[go_sem] theorem qI.all:x.enc.part 0 (some 1)=some x.enc:=nr rfl
@[go_sem] theorem qI.cs:x.enc.cells=[.lst 5 (x.Agents.map qC.enc) false]:=nr rfl
@[go_sem] theorem qI.p0:x.enc.part 0 none=some (.lst 5 (x.Agents.map qC.enc) false):=nr rfl
@[go_sem] theorem qI.lst1{E:Ev}{t off:Nat}{cs:List AV}{l:List qB}{ks:List Fr1}{s m:qR}{h:List qA}{Q:qT->VSt->Prop}:Lst E t off 1 (some (.agg cs)) (some x.enc) l ks ⟨s,m,h⟩ Q=z7 E t (zP cs off (.lst 5 (x.Agents.map qC.enc) false)) l ks ⟨s,m,h⟩ Q:=jq rfl
end
def qI.sz(x:qI):Nat:=(x.Agents.length+zC qC.sz x.Agents)
def qI.bd(x:qI):Prop:=x.Agents.length<=140737488355328/\(∀y∈x.Agents,qC.bd y)
structure qf where
 Step:Int
 Def:Int
 Source:Int
deriving DecidableEq
def qf.enc(x:qf):AV:=.agg [.int .i64 x.Step,.int .i64 x.Def,.int .i64 x.Source]
theorem qf.isSh:Sh qf.enc 3 (some 3):=⟨fun x=>by simp[qf.enc,AV.tree,AV.trees],fun _=>rfl,fun _=>rfl,by decide,fun x=>by simp[qf.enc]⟩
section
variable {x:qf}
@[go_sem] theorem qf.tr:x.enc.tree=true:=qf.isSh.tree x
@[go_sem] theorem qf.ln:x.enc.cells.length=3:=nr rfl
@[go_sem] theorem qf.all:x.enc.part 0 (some 3)=some x.enc:=nr rfl
@[go_sem] theorem qf.cs:x.enc.cells=[.int .i64 x.Step,.int .i64 x.Def,.int .i64 x.Source]:=nr rfl
@[go_sem] theorem qf.p0:x.enc.part 0 none=some (.int .i64 x.Step):=nr rfl
@[go_sem] theorem qf.p1:x.enc.part 1 none=some (.int .i64 x.Def):=nr rfl
@[go_sem] theorem qf.p2:x.enc.part 2 none=some (.int .i64 x.Source):=nr rfl
@[go_sem] theorem qf.eqf{y:qf}:jU false [1,1,1] (some x.enc) (some y.enc)=some (.bool (decide (x=y))):=by
 obtain⟨a0,a1,a2⟩:=x;obtain⟨b0,b1,b2⟩:=y;simp only[jU,qf.enc,lMc,List.map_nil,dig,and_self,if_true,jX,wZ,qf.mk.injEq]
 repeat' (split<;>simp_all)
@[go_sem] theorem qf.eqt{y:qf}:jU true [1,1,1] (some x.enc) (some y.enc)=some (.bool (!decide (x=y))):=by
 have h:=qf.eqf (x:=x) (y:=y);unfold jU at h|-;split<;>simp_all
end
structure qn where
 Kind:Int
 Value:Int
deriving DecidableEq
def qn.enc(x:qn):AV:=.agg [.int .i64 x.Kind,.int .i64 x.Value]
theorem qn.isSh:Sh qn.enc 2 (some 2):=⟨fun x=>by simp[qn.enc,AV.tree,AV.trees],fun _=>rfl,fun _=>rfl,by decide,fun x=>by simp[qn.enc]⟩
section
variable {x:qn}
@[go_sem] theorem qn.tr:x.enc.tree=true:=qn.isSh.tree x
@[go_sem] theorem qn.ln:x.enc.cells.length=2:=nr rfl
@[go_sem] theorem qn.all:x.enc.part 0 (some 2)=some x.enc:=nr rfl
@[go_sem] theorem qn.cs:x.enc.cells=[.int .i64 x.Kind,.int .i64 x.Value]:=nr rfl
@[go_sem] theorem qn.p0:x.enc.part 0 none=some (.int .i64 x.Kind):=nr rfl
@[go_sem] theorem qn.p1:x.enc.part 1 none=some (.int .i64 x.Value):=nr rfl
@[go_sem] theorem qn.eqf{y:qn}:jU false [1,1] (some x.enc) (some y.enc)=some (.bool (decide (x=y))):=by
 obtain⟨a0,a1⟩:=x;obtain⟨b0,b1⟩:=y;simp only[jU,qn.enc,lMc,List.map_nil,dig,and_self,if_true,jX,wZ,qn.mk.injEq]
 repeat' (split<;>simp_all)
@[go_sem] theorem qn.eqt{y:qn}:jU true [1,1] (some x.enc) (some y.enc)=some (.bool (!decide (x=y))):=by
 have h:=qn.eqf (x:=x) (y:=y);unfold jU at h|-;split<;>simp_all
end
structure qu where
 At:Int
 Net:qI
 Origins:List qf
def qu.enc(x:qu):AV:=.agg [.int .i64 x.At,.lst 5 (x.Net.Agents.map qC.enc) false,.lst 3 (x.Origins.map qf.enc) false]
theorem qu.isSh:Sh qu.enc 3 (some 3):=⟨fun x=>by simp[qu.enc,AV.tree,AV.trees,qx qC.isSh.tree,qx qf.isSh.tree],fun _=>rfl,fun _=>rfl,by decide,fun x=>by simp[qu.enc]⟩
section
variable {x:qu}
@[go_sem] theorem qu.tr:x.enc.tree=true:=qu.isSh.tree x
@[go_sem] theorem qu.ln:x.enc.cells.length=3:=nr rfl
@[go_sem] theorem qu.all:x.enc.part 0 (some 3)=some x.enc:=nr rfl
@[go_sem] theorem qu.cs:x.enc.cells=[.int .i64 x.At,.lst 5 (x.Net.Agents.map qC.enc) false,.lst 3 (x.Origins.map qf.enc) false]:=nr rfl
@[go_sem] theorem qu.p0:x.enc.part 0 none=some (.int .i64 x.At):=nr rfl
@[go_sem] theorem qu.p1:x.enc.part 1 none=some (.lst 5 (x.Net.Agents.map qC.enc) false):=nr rfl
@[go_sem] theorem qu.p2:x.enc.part 2 none=some (.lst 3 (x.Origins.map qf.enc) false):=nr rfl
@[go_sem] theorem qu.q1_1:x.enc.part 1 (some 1)=some (qI.enc x.Net):=nr rfl
end
def qu.sz(x:qu):Nat:=qI.sz x.Net+x.Origins.length
def qu.bd(x:qu):Prop:=qI.bd x.Net/\x.Origins.length<=140737488355328
structure zA where
 Book:List qI
 Schedule:List Int
 Every:Int
 At:Int
 Net:qI
 Origins:List qf
 Breaks:List qn
 Points:List qu
def zA.enc(x:zA):AV:=.agg [.lst 1 (x.Book.map qI.enc) false,.lst 1 (x.Schedule.map qG) false,.int .i64 x.Every,.int .i64 x.At,.lst 5 (x.Net.Agents.map qC.enc) false,.lst 3 (x.Origins.map qf.enc) false,.lst 2 (x.Breaks.map qn.enc) false,.lst 3 (x.Points.map qu.enc) false]
theorem zA.isSh:Sh zA.enc 8 (some 8):=⟨fun x=>by simp[zA.enc,AV.tree,AV.trees,qx qC.isSh.tree,qx qn.isSh.tree,qx qu.isSh.tree,qx qI.isSh.tree,qx qf.isSh.tree,qx shI.tree],fun _=>rfl,fun _=>rfl,by decide,fun x=>by simp[zA.enc]⟩
section
variable {x:zA}
@[go_sem] theorem zA.tr:x.enc.tree=true:=zA.isSh.tree x
@[go_sem] theorem zA.ln:x.enc.cells.length=8:=nr rfl
@[go_sem] theorem zA.all:x.enc.part 0 (some 8)=some x.enc:=nr rfl
@[go_sem] theorem zA.cs:x.enc.cells=[.lst 1 (x.Book.map qI.enc) false,.lst 1 (x.Schedule.map qG) false,.int .i64 x.Every,.int .i64 x.At,.lst 5 (x.Net.Agents.map qC.enc) false,.lst 3 (x.Origins.map qf.enc) false,.lst 2 (x.Breaks.map qn.enc) false,.lst 3 (x.Points.map qu.enc) false]:=nr rfl
@[go_sem] theorem zA.p0:x.enc.part 0 none=some (.lst 1 (x.Book.map qI.enc) false):=nr rfl
@[go_sem] theorem zA.p1:x.enc.part 1 none=some (.lst 1 (x.Schedule.map qG) false):=nr rfl
@[go_sem] theorem zA.p2:x.enc.part 2 none=some (.int .i64 x.Every):=nr rfl
@[go_sem] theorem zA.p3:x.enc.part 3 none=some (.int .i64 x.At):=nr rfl
@[go_sem] theorem zA.p4:x.enc.part 4 none=some (.lst 5 (x.Net.Agents.map qC.enc) false):=nr rfl
@[go_sem] theorem zA.p5:x.enc.part 5 none=some (.lst 3 (x.Origins.map qf.enc) false):=nr rfl
@[go_sem] theorem zA.p6:x.enc.part 6 none=some (.lst 2 (x.Breaks.map qn.enc) false):=nr rfl
@[go_sem] theorem zA.p7:x.enc.part 7 none=some (.lst 3 (x.Points.map qu.enc) false):=nr rfl
@[go_sem] theorem zA.q4_1:x.enc.part 4 (some 1)=some (qI.enc x.Net):=nr rfl
end
def zA.sz(x:zA):Nat:=(x.Book.length+zC qI.sz x.Book)+x.Schedule.length+qI.sz x.Net+x.Origins.length+x.Breaks.length+(x.Points.length+zC qu.sz x.Points)
def zA.bd(x:zA):Prop:=x.Book.length<=140737488355328/\(∀y∈x.Book,qI.bd y)/\x.Schedule.length<=140737488355328/\qI.bd x.Net/\x.Origins.length<=140737488355328/\x.Breaks.length<=140737488355328/\x.Points.length<=140737488355328/\(∀y∈x.Points,qu.bd y)
set_option maxRecDepth 10000
def sr(l:List qB)(c:qD):qD:=.seq (.reg true l) c
@[go_sem] theorem qZ4{l:List qB}{c:qD}:sr l c=.seq (.reg true l) c:=nr rfl
def oL(i d t:Nat):qB:=.mk i (some d) none (.load none (.t t)) []
@[go_sem] theorem qX2{i d t:Nat}:oL i d t=.mk i (some d) none (.load none (.t t)) []:=nr rfl
def oC(i d:Nat)(n:Int):qB:=.mk i (some d) none (.mov (.c (.int .i64 n))) []
@[go_sem] theorem qXT{i d:Nat}{n:Int}:oC i d n=.mk i (some d) none (.mov (.c (.int .i64 n))) []:=nr rfl
def oQ(i d:Nat)(b:Bool):qB:=.mk i (some d) none (.mov (.c (.bool b))) []
@[go_sem] theorem qX8{i d:Nat}{b:Bool}:oQ i d b=.mk i (some d) none (.mov (.c (.bool b))) []:=nr rfl
def oE(i d:Nat)(op:BinOp)(a:Nat)(n:Int):qB:=.mk i (some d) none (.bin op (.t a) (.c (.int .i64 n))) []
@[go_sem] theorem qXW{i d:Nat}{op:BinOp}{a:Nat}{n:Int}:oE i d op a n=.mk i (some d) none (.bin op (.t a) (.c (.int .i64 n))) []:=nr rfl
def oB(i d:Nat)(op:BinOp)(a b:Nat):qB:=.mk i (some d) none (.bin op (.t a) (.t b)) []
@[go_sem] theorem qXS{i d:Nat}{op:BinOp}{a b:Nat}:oB i d op a b=.mk i (some d) none (.bin op (.t a) (.t b)) []:=nr rfl
def oA(i d w a b:Nat):qB:=.mk i (some d) none (.iaddr w (.t a) (.t b)) []
@[go_sem] theorem qXR{i d w a b:Nat}:oA i d w a b=.mk i (some d) none (.iaddr w (.t a) (.t b)) []:=nr rfl
def oX(i d t k:Nat):qB:=.mk i (some d) none (.lload t k none) []
@[go_sem] theorem qYE{i d t k:Nat}:oX i d t k=.mk i (some d) none (.lload t k none) []:=nr rfl
def oY(i d t k w:Nat):qB:=.mk i (some d) none (.lload t k (some w)) []
@[go_sem] theorem qYF{i d t k w:Nat}:oY i d t k w=.mk i (some d) none (.lload t k (some w)) []:=nr rfl
def oS(i t k w x:Nat):qB:=.mk i none none (.lstore t k w (.t x)) []
@[go_sem] theorem qX9{i t k w x:Nat}:oS i t k w x=.mk i none none (.lstore t k w (.t x)) []:=nr rfl
def oT(i w a b:Nat):qB:=.mk i none none (.store w (.t a) (.t b)) []
@[go_sem] theorem qYA{i w a b:Nat}:oT i w a b=.mk i none none (.store w (.t a) (.t b)) []:=nr rfl
def oF(i d k a:Nat):qB:=.mk i (some d) none (.faddr k (.t a)) []
@[go_sem] theorem qXX{i d k a:Nat}:oF i d k a=.mk i (some d) none (.faddr k (.t a)) []:=nr rfl
def oK(i d a:Nat):qB:=.mk i (some d) none (.nilchk (.t a)) []
@[go_sem] theorem qX1{i d a:Nat}:oK i d a=.mk i (some d) none (.nilchk (.t a)) []:=nr rfl
def oV(i d a k:Nat):qB:=.mk i (some d) none (.ext (.t a) k) []
@[go_sem] theorem qYC{i d a k:Nat}:oV i d a k=.mk i (some d) none (.ext (.t a) k) []:=nr rfl
def oU(i d a:Nat):qB:=.mk i (some d) none (.nop a) []
@[go_sem] theorem qYB{i d a:Nat}:oU i d a=.mk i (some d) none (.nop a) []:=nr rfl
def oJ(i d a:Nat):qB:=.mk i (some d) none (.not (.t a)) []
@[go_sem] theorem qX0{i d a:Nat}:oJ i d a=.mk i (some d) none (.not (.t a)) []:=nr rfl
def oW(i d a:Nat):qB:=.mk i (some d) none (.len (.t a)) []
@[go_sem] theorem qYD{i d a:Nat}:oW i d a=.mk i (some d) none (.len (.t a)) []:=nr rfl
def oH(i d k:Nat)(b:Bool)(a:Nat):qB:=.mk i (some d) (some (k,b)) (.mov (.t a)) []
@[go_sem] theorem qXZ{i d k:Nat}{b:Bool}{a:Nat}:oH i d k b a=.mk i (some d) (some (k,b)) (.mov (.t a)) []:=nr rfl
def oD1(i d g a:Nat):qB:=.mk i (some d) none (.call g [.t a]) []
@[go_sem] theorem qXU{i d g a:Nat}:oD1 i d g a=.mk i (some d) none (.call g [.t a]) []:=nr rfl
def oD2(i d g a b:Nat):qB:=.mk i (some d) none (.call g [.t a,.t b]) []
@[go_sem] theorem qXV{i d g a b:Nat}:oD2 i d g a b=.mk i (some d) none (.call g [.t a,.t b]) []:=nr rfl
def oPf(i d a b:Nat):qB:=.mk i (some d) none (.pick (.t a) (.t b) (.c (.bool false))) []
@[go_sem] theorem qX6{i d a b:Nat}:oPf i d a b=.mk i (some d) none (.pick (.t a) (.t b) (.c (.bool false))) []:=nr rfl
def oPt(i d a b:Nat):qB:=.mk i (some d) none (.pick (.t a) (.c (.bool true)) (.t b)) []
@[go_sem] theorem qX7{i d a b:Nat}:oPt i d a b=.mk i (some d) none (.pick (.t a) (.c (.bool true)) (.t b)) []:=nr rfl
def qDG:List qB:=[oM 0 7 0,oM 1 8 1,oB 2 9 .geq 7 8,oM 3 10 9,oH 4 11 10 true 0,oH 5 12 10 true 2,oG 6 13 10 true (.bin .leq (.t 11) (.t 12)),oPf 7 14 10 13,oM 8 6 14]
def X8:qK:=⟨3,15,[.t 6],sr [oQ 0 6 false] (sr qDG .ret)⟩
def qEC:List qB:=[oU 0 5 3,oX 1 6 3 0,oM 2 7 0,oW 3 8 7,oE 4 9 .sub 8 1,oP 5 10 (.call 340 [.t 6,.c (.int .i64 0),.t 9]),oM 6 11 10,oG 7 12 11 true (.nop 3),oG 8 13 11 true (.lload 3 1 none),oH 9 14 11 true 0,oG 10 15 11 true (.nop 3),oG 11 16 11 true (.lload 3 0 none),oG 12 17 11 true (.iaddr 5 (.t 14) (.t 16)),oG 13 18 11 true (.faddr 4 (.t 17)),oG 14 19 11 true (.load none (.t 18)),oG 15 20 11 true (.len (.t 19)),oG 16 21 11 true (.bin .sub (.t 20) (.c (.int .i64 1))),oG 17 22 11 true (.call 340 [.t 13,.c (.int .i64 0),.t 21]),oPf 18 23 11 22,oM 19 4 23]
def YC:qK:=⟨2,24,[.t 4],sr [oP 0 3 (.lbox 2 (.t 1)),oQ 1 4 false] (sr qEC .ret)⟩
def qAR:qD:=.seq (sr [oM 0 7 1,oP 1 8 (.call 340 [.t 7,.c (.int .i64 0),.c (.int .i64 3)])] (.cond (.t 8) (sr [oM 0 9 1,oP 1 10 (.bin .add (.c (.int .i64 1)) (.t 9)),oM 2 4 10] .ret) .skip)) (sr [oC 0 4 0] .ret)
def qAS:qD:=sr [oE 0 16 .eql 13 5,oM 1 14 16] (.cond (.t 14) .skip (sr [oE 0 17 .eql 13 6,oM 1 14 17] (.cond (.t 14) .skip (.reg true [oE 0 18 .eql 13 12,oM 1 14 18]))))
def qAT:qD:=sr [oE 0 20 .eql 13 8,oM 1 19 20] (.cond (.t 19) .skip (sr [oE 0 21 .eql 13 10,oM 1 19 21] (.cond (.t 19) .skip (.reg true [oE 0 22 .eql 13 11,oM 1 19 22]))))
def qAU:qD:=sr [oE 0 25 .eql 13 3,oM 1 23 25] (.cond (.t 23) .skip (sr [oE 0 26 .eql 13 4,oM 1 23 26] (.cond (.t 23) .skip (.reg true [oE 0 27 .eql 13 7,oM 1 23 27]))))
def qAV:qD:=.cond (.t 14) (sr [oC 0 4 1] .ret) (.seq qAT (.cond (.t 19) (sr [oC 0 4 2] .ret) (.seq (sr [oE 0 24 .eql 13 2,oM 1 23 24] (.cond (.t 23) .skip qAU)) (.cond (.t 23) (sr [oC 0 4 3] .ret) .skip))))
def qAW:qD:=.seq (sr [oM 0 11 1,oE 1 12 .neq 11 0] (.cond (.t 12) (sr [oC 0 4 0] .ret) .skip)) (.seq (sr [oM 0 13 0] (.blk 0 (.seq (sr [oE 0 15 .eql 13 1,oM 1 14 15] (.cond (.t 14) .skip qAS)) qAV))) (sr [oC 0 4 0] .ret))
def Xe:qK:=⟨2,28,[.t 4],sr [oC 0 4 0] (.seq (sr [oM 0 5 0,oE 1 6 .eql 5 9] (.cond (.t 6) qAR .skip)) qAW)⟩
def qA3:List qB:=[oM 0 3 0,oK 1 4 3,oF 2 5 0 4,oL 3 6 5,oE 4 7 .eql 6 9]
def qA4:List qB:=[oM 0 8 0,oK 1 9 8,oF 2 10 4 9,oL 3 11 10,oW 4 12 11,oE 5 13 .sub 12 1,oM 6 2 13]
def Xh:qK:=⟨1,14,[.t 2],sr [oC 0 2 0] (.seq (sr qA3 (.cond (.t 7) (sr qA4 .ret) .skip)) (sr [oC 0 2 0] .ret))⟩
def qAX:qD:=sr [oE 0 11 .eql 3 10,oM 1 4 11] (.cond (.t 4) .skip (sr [oE 0 12 .eql 3 11,oM 1 4 12] (.cond (.t 4) .skip (.reg true [oE 0 13 .eql 3 12,oM 1 4 13]))))
def qAY:qD:=sr [oE 0 8 .eql 3 7,oM 1 4 8] (.cond (.t 4) .skip (sr [oE 0 9 .eql 3 8,oM 1 4 9] (.cond (.t 4) .skip (sr [oE 0 10 .eql 3 9,oM 1 4 10] (.cond (.t 4) .skip qAX)))))
def qAZ:qD:=sr [oE 0 5 .eql 3 2,oM 1 4 5] (.cond (.t 4) .skip (sr [oE 0 6 .eql 3 3,oM 1 4 6] (.cond (.t 4) .skip (sr [oE 0 7 .eql 3 4,oM 1 4 7] (.cond (.t 4) .skip qAY)))))
def Xf:qK:=⟨1,14,[.t 2],sr [oQ 0 2 false] (.seq (sr [oM 0 3 0] (.blk 0 (.seq qAZ (.cond (.t 4) (sr [oQ 0 2 true] .ret) .skip)))) (sr [oQ 0 2 false] .ret))⟩
def Xu:qK:=⟨1,5,[.t 2],sr [oQ 0 2 false] (sr [oM 0 3 0,oP 1 4 (.call 340 [.t 3,.c (.int .i64 1),.c (.int .i64 12)]),oM 2 2 4] .ret)⟩
def qA5:List qB:=[oM 0 9 0,oD1 1 10 1489 9,oM 2 11 10,oH 3 12 11 true 1,oG 4 13 11 true (.bin .eql (.t 12) (.c (.int .i64 0))),oPf 5 14 11 13,oM 6 4 14]
def Xi:qK:=⟨2,15,[.t 4],sr [oQ 0 4 false] (.seq (sr [oM 0 5 0,oD1 1 6 1372 5] (.cond (.t 6) (sr [oM 0 7 1,oP 1 8 (.call 340 [.t 7,.c (.int .i64 0),.c (.int .i64 8)]),oM 2 4 8] .ret) .skip)) (sr qA5 .ret))⟩
def Xv:qK:=⟨1,5,[.t 2],sr [oQ 0 2 false] (sr [oM 0 3 0,oP 1 4 (.call 340 [.t 3,.c (.int .i64 0),.c (.int .i64 23)]),oM 2 2 4] .ret)⟩
def qBA:List qB:=[oM 0 4 0,oK 1 5 4,oF 2 6 0 5,oL 3 7 6]
def qBB:List qB:=[oM 0 10 0,oK 1 11 10,oF 2 12 3 11,oL 3 13 12,oW 4 14 13,oE 5 15 .eql 14 0,oM 6 16 15,oH 7 17 16 true 0,oG 8 18 16 true (.nilchk (.t 17)),oG 9 19 16 true (.faddr 2 (.t 18)),oG 10 20 16 true (.load none (.t 19)),oG 11 21 16 true (.call 340 [.t 20,.c (.int .i64 (-2147483648)),.c (.int .i64 2147483647)]),oPf 12 22 16 21,oM 13 2 22]
def qBD:List qB:=[oM 0 25 0,oK 1 26 25,oF 2 27 3 26,oL 3 28 27,oW 4 29 28,oE 5 30 .eql 29 0,oM 6 31 30,oH 7 32 31 true 0,oG 8 33 31 true (.nilchk (.t 32)),oG 9 34 31 true (.faddr 2 (.t 33)),oG 10 35 31 true (.load none (.t 34)),oG 11 36 31 true (.call 340 [.t 35,.c (.int .i64 1),.c (.int .i64 6)]),oPf 12 37 31 36,oM 13 2 37]
def qBE:List qB:=[oM 0 40 0,oK 1 41 40,oF 2 42 3 41,oL 3 43 42,oW 4 44 43,oE 5 45 .eql 44 1,oM 6 46 45,oH 7 47 46 true 0,oG 8 48 46 true (.nilchk (.t 47)),oG 9 49 46 true (.faddr 2 (.t 48)),oG 10 50 46 true (.load none (.t 49)),oG 11 51 46 true (.call 340 [.t 50,.c (.int .i64 1),.c (.int .i64 6)]),oPf 12 52 46 51,oM 13 53 52,oH 14 54 53 true 0,oG 15 55 53 true (.nilchk (.t 54)),oG 16 56 53 true (.faddr 3 (.t 55)),oG 17 57 53 true (.load none (.t 56)),oG 18 58 53 true (.iaddr 1 (.t 57) (.c (.int .i64 0))),oG 19 59 53 true (.load none (.t 58)),oG 20 60 53 true (.call 340 [.t 59,.c (.int .i64 (-2147483648)),.c (.int .i64 2147483647)]),oPf 21 61 53 60,oM 22 2 61]
def qBF:List qB:=[oM 0 64 0,oK 1 65 64,oF 2 66 3 65,oL 3 67 66,oW 4 68 67,oE 5 69 .eql 68 0,oM 6 70 69,oH 7 71 70 true 0,oG 8 72 70 true (.nilchk (.t 71)),oG 9 73 70 true (.faddr 2 (.t 72)),oG 10 74 70 true (.load none (.t 73)),oG 11 75 70 true (.call 340 [.t 74,.c (.int .i64 0),.c (.int .i64 3)]),oPf 12 76 70 75,oM 13 2 76]
def qBG:List qB:=[oM 0 79 0,oK 1 80 79,oF 2 81 3 80,oL 3 82 81,oW 4 83 82,oE 5 84 .eql 83 0,oM 6 85 84,oH 7 86 85 true 0,oG 8 87 85 true (.nilchk (.t 86)),oG 9 88 85 true (.faddr 2 (.t 87)),oG 10 89 85 true (.load none (.t 88)),oG 11 90 85 true (.call 1494 [.t 89]),oPf 12 91 85 90,oM 13 2 91]
def qBH:List qB:=[oM 0 95 0,oK 1 96 95,oF 2 97 2 96,oL 3 98 97,oE 4 99 .neq 98 0,oM 5 100 99,oH 6 101 100 false 0,oG 7 102 100 false (.nilchk (.t 101)),oG 8 103 100 false (.faddr 0 (.t 102)),oG 9 104 100 false (.load none (.t 103)),oG 10 105 100 false (.bin .eql (.t 104) (.c (.int .i64 11))),oH 11 106 100 false 105,oH 12 107 106 true 0,oG 13 108 106 true (.nilchk (.t 107)),oG 14 109 106 true (.faddr 3 (.t 108)),oG 15 110 106 true (.load none (.t 109)),oG 16 111 106 true (.len (.t 110)),oG 17 112 106 true (.bin .neq (.t 111) (.c (.int .i64 2))),oG 18 113 100 false (.pick (.t 106) (.t 112) (.c (.bool false))),oPt 19 114 100 113,oM 20 115 114,oH 21 116 115 false 0,oG 22 117 115 false (.nilchk (.t 116)),oG 23 118 115 false (.faddr 0 (.t 117)),oG 24 119 115 false (.load none (.t 118)),oG 25 120 115 false (.bin .eql (.t 119) (.c (.int .i64 10))),oH 26 121 115 false 120,oH 27 122 121 true 0,oG 28 123 121 true (.nilchk (.t 122)),oG 29 124 121 true (.faddr 3 (.t 123)),oG 30 125 121 true (.load none (.t 124)),oG 31 126 121 true (.len (.t 125)),oG 32 127 121 true (.call 340 [.t 126,.c (.int .i64 1),.c (.int .i64 4)]),oG 33 128 121 true (.not (.t 127)),oG 34 129 115 false (.pick (.t 121) (.t 128) (.c (.bool false))),oPt 35 130 115 129]
def qBI:List qB:=[oM 0 131 3,oM 1 132 0,oK 2 133 132,oF 3 134 3 133,oL 4 135 134,oW 5 136 135,oB 6 137 .lss 131 136]
def qBJ:List qB:=[oM 0 140 0,oK 1 141 140,oF 2 142 3 141,oL 3 143 142,oM 4 144 3,oA 5 145 1 143 144,oL 6 146 145,oD1 7 147 1494 146,oJ 8 148 147]
def qA9:qD:=.loop (.seq (sr qBI (.cond (.t 137) .skip (.exit 1))) (.seq (.blk 2 (sr qBJ (.cond (.t 148) (sr [oQ 0 2 false] .ret) .skip))) (.reg true [oM 0 138 3,oE 1 139 .add 138 1,oM 2 3 139])))
def qA6:qD:=.seq (sr [oE 0 93 .eql 7 10,oM 1 92 93] (.cond (.t 92) .skip (.reg true [oE 0 94 .eql 7 11,oM 1 92 94]))) (.cond (.t 92) (.seq (sr qBH (.cond (.t 130) (sr [oQ 0 2 false] .ret) .skip)) (.seq (sr [oC 0 3 0] (.blk 1 qA9)) (sr [oQ 0 2 true] .ret))) .skip)
def qA7:qD:=.cond (.t 38) (sr qBE .ret) (sr [oE 0 63 .eql 7 9,oM 1 62 63] (.cond (.t 62) (sr qBF .ret) (sr [oE 0 78 .eql 7 12,oM 1 77 78] (.cond (.t 77) (sr qBG .ret) qA6))))
def qA8:qD:=sr [oE 0 9 .eql 7 6,oM 1 8 9] (.cond (.t 8) (sr qBB .ret) (sr [oE 0 24 .eql 7 7,oM 1 23 24] (.cond (.t 23) (sr qBD .ret) (sr [oE 0 39 .eql 7 8,oM 1 38 39] qA7))))
def qBC:List qB:=[oM 0 149 0,oK 1 150 149,oF 2 151 2 150,oL 3 152 151,oE 4 153 .eql 152 0,oM 5 154 153,oH 6 155 154 true 0,oG 7 156 154 true (.nilchk (.t 155)),oG 8 157 154 true (.faddr 3 (.t 156)),oG 9 158 154 true (.load none (.t 157)),oG 10 159 154 true (.len (.t 158)),oG 11 160 154 true (.bin .eql (.t 159) (.c (.int .i64 0))),oPf 12 161 154 160,oM 13 2 161]
def Xj:qK:=⟨1,162,[.t 2],sr [oQ 0 2 false] (.seq (sr qBA (.blk 0 qA8)) (sr qBC .ret))⟩
def KM:List qB:=[oM 0 4 0,oK 1 5 4,oF 2 6 0 5,oL 3 7 6,oM 4 8 0,⟨5,some 9,none,.call 1384 [.t 8],[⟨3,some 7,none,.load none (.t 6),[]⟩]⟩,oD2 6 10 1371 7 9,oM 7 3 10]
def KN:List qB:=[oM 0 11 3,oE 1 12 .gtr 11 0,oM 2 13 12,oH 3 14 13 true 0,oG 4 15 13 true (.nilchk (.t 14)),oG 5 16 13 true (.faddr 4 (.t 15)),oG 6 17 13 true (.load none (.t 16)),oG 7 18 13 true (.len (.t 17)),oH 8 19 13 true 3,oG 9 20 13 true (.bin .eql (.t 18) (.t 19)),oPf 10 21 13 20,oM 11 22 21,oH 12 23 22 true 0,oG 13 24 22 true (.nilchk (.t 23)),oG 14 25 22 true (.faddr 0 (.t 24)),oG 15 26 22 true (.load none (.t 25)),oH 16 27 22 true 0,oG 17 28 22 true (.nilchk (.t 27)),oG 18 29 22 true (.faddr 1 (.t 28)),oG 19 30 22 true (.load none (.t 29)),oG 20 31 22 true (.call 1385 [.t 26,.t 30]),oPf 21 32 22 31,oM 22 33 32,oH 23 34 33 true 0,oG 24 35 33 true (.call 1386 [.t 34]),oPf 25 36 33 35,oM 26 2 36]
def XR:qK:=⟨1,37,[.t 2],sr [oQ 0 2 false] (sr KM (sr KN .ret))⟩
def qGA:List qB:=[oM 0 4 0,oW 1 5 4,oP 2 6 (.call 340 [.t 5,.c (.int .i64 1),.c (.int .i64 600)]),oJ 3 7 6]
def qGB:List qB:=[oM 0 8 3,oM 1 9 0,oW 2 10 9,oB 3 11 .lss 8 10]
def qGC:List qB:=[oM 0 14 0,oM 1 15 3,oA 2 16 5 14 15,oD1 3 17 1096 16,oJ 4 18 17,oM 5 19 18,oH 6 20 19 false 0,oH 7 21 19 false 3,oG 8 22 19 false (.iaddr 5 (.t 20) (.t 21)),oG 9 23 19 false (.faddr 0 (.t 22)),oG 10 24 19 false (.load none (.t 23)),oG 11 25 19 false (.bin .eql (.t 24) (.c (.int .i64 1))),oH 12 26 19 false 3,oG 13 27 19 false (.bin .eql (.t 26) (.c (.int .i64 0))),oG 14 28 19 false (.beq true (.t 25) (.t 27)),oPt 15 29 19 28]
def qF9:qD:=.loop (.seq (sr qGB (.cond (.t 11) .skip (.exit 0))) (.seq (.blk 1 (sr qGC (.cond (.t 29) (sr [oQ 0 2 false] .ret) .skip))) (.reg true [oM 0 12 3,oE 1 13 .add 12 1,oM 2 3 13])))
def YL:qK:=⟨1,30,[.t 2],sr [oQ 0 2 false] (.seq (sr qGA (.cond (.t 7) (sr [oQ 0 2 false] .ret) .skip)) (.seq (sr [oC 0 3 0] (.blk 0 qF9)) (sr [oQ 0 2 true] .ret)))⟩
def qCL:List qB:=[oM 0 8 0,oK 1 9 8,oF 2 10 0 9,oL 3 11 10,oD1 4 12 710 11,oJ 5 13 12]
def qCM:List qB:=[oM 0 14 3,oM 1 15 0,oK 2 16 15,oF 3 17 0 16,oL 4 18 17,oW 5 19 18,oB 6 20 .lss 14 19]
def qCN:List qB:=[oM 0 23 0,oK 1 24 23,oF 2 25 0 24,oL 3 26 25,oM 4 27 3,oA 5 28 5 26 27,oM 6 4 28]
def qCO:List qB:=[oM 0 29 5,oM 1 30 4,oK 2 31 30,oF 3 32 4 31,oL 4 33 32,oW 5 34 33,oB 6 35 .lss 29 34]
def qCP:List qB:=[oM 0 38 3,oM 1 39 5,oP 2 40 (.build (.agg [.int .i64 0,.int .i64 0]) [(0,1,.t 38),(1,1,.t 39)]),oP 3 6 (.lalloc (.agg [.int .i64 0,.int .i64 0])),oS 4 6 0 2 40]
def qCQ:List qB:=[oM 0 41 4,oK 1 42 41,oF 2 43 4 42,oL 3 44 43,oM 4 45 5,oA 5 46 2 44 45,oP 6 47 (.load (some 2) (.t 46)),oP 7 7 (.lalloc (.agg [.int .i64 0,.int .i64 0])),oS 8 7 0 2 47]
def qCR:List qB:=[oY 0 48 7 0 2,oY 1 49 6 0 2,oP 2 50 (.seq false [1,1] (.t 48) (.t 49)),oM 3 51 50,oH 4 52 51 false 0,oG 5 53 51 false (.nilchk (.t 52)),oG 6 54 51 false (.faddr 0 (.t 53)),oG 7 55 51 false (.load none (.t 54)),oG 8 56 51 false (.lload 7 0 (some 2)),oG 9 57 51 false (.call 488 [.t 55,.t 56]),oG 10 58 51 false (.not (.t 57)),oPt 11 59 51 58,oM 12 60 59,oH 13 61 60 false 0,oG 14 62 60 false (.nilchk (.t 61)),oG 15 63 60 false (.faddr 0 (.t 62)),oG 16 64 60 false (.load none (.t 63)),oG 17 65 60 false (.nop 7),oG 18 66 60 false (.lload 7 0 none),oG 19 67 60 false (.iaddr 5 (.t 64) (.t 66)),oG 20 68 60 false (.faddr 4 (.t 67)),oG 21 69 60 false (.load none (.t 68)),oG 22 70 60 false (.nop 7),oG 23 71 60 false (.lload 7 1 none),oG 24 72 60 false (.iaddr 2 (.t 69) (.t 71)),oG 25 73 60 false (.load (some 2) (.t 72)),oG 26 74 60 false (.lload 6 0 (some 2)),oG 27 75 60 false (.seq true [1,1] (.t 73) (.t 74)),oPt 28 76 60 75]
def qCI:qD:=.seq (.blk 3 (sr qCP (sr qCQ (sr qCR (.cond (.t 76) (sr [oQ 0 2 false] .ret) .skip))))) (.reg true [oM 0 36 5,oE 1 37 .add 36 1,oM 2 5 37])
def qCJ:qD:=.seq (.blk 1 (sr qCN (sr [oC 0 5 0] (.blk 2 (.loop (.seq (sr qCO (.cond (.t 35) .skip (.exit 2))) qCI)))))) (.reg true [oM 0 21 3,oE 1 22 .add 21 1,oM 2 3 22])
def qCK:qD:=.seq (sr qCL (.cond (.t 13) (sr [oQ 0 2 false] .ret) .skip)) (.seq (sr [oC 0 3 0] (.blk 0 (.loop (.seq (sr qCM (.cond (.t 20) .skip (.exit 0))) qCJ)))) (sr [oQ 0 2 true] .ret))
def X1:qK:=⟨1,77,[.t 2],sr [oQ 0 2 false] qCK⟩
def F774:qK:=ZE 1 none
def F397:qK:=Z2 774
def qEI:List qB:=[oM 0 7 0,oK 1 8 7,oF 2 9 0 8,oL 3 10 9,oW 4 11 10,oC 5 12 0]
def qEJ:List qB:=[oM 0 14 12,oA 1 15 5 10 12,oP 2 16 (.load (some 5) (.t 15)),oP 3 5 (.lalloc (.agg [.int .i64 0,.int .i64 0,.int .i64 0,.nils,.nils])),oM 4 4 14,oS 5 5 0 5 16]
def qEK:List qB:=[oU 0 17 5,oX 1 18 5 4,oW 2 19 18,oC 3 20 0]
def qEL:List qB:=[oM 0 23 3,oM 1 24 4,oM 2 25 6,oP 3 26 (.build (.agg [.int .i64 0,.int .i64 0]) [(0,1,.t 24),(1,1,.t 25)]),oP 4 27 (.bslice 2 (.agg [.int .i64 0,.int .i64 0]) 1 [(0,.t 26)]),oP 5 28 (.app 2 (.t 23) (.t 27)),oM 6 3 28]
def qEG:qD:=sr [oB 0 21 .lss 20 19] (.seq (.cond (.t 21) .skip (.exit 2)) (.seq (.blk 3 (sr [oM 0 22 20,oM 1 6 22] (.reg true qEL))) (.reg true [oE 0 29 .add 20 1,oM 1 20 29])))
def qEH:qD:=sr [oB 0 13 .lss 12 11] (.seq (.cond (.t 13) .skip (.exit 0)) (.seq (.blk 1 (sr qEJ (sr qEK (.blk 2 (.loop qEG))))) (.reg true [oE 0 30 .add 12 1,oM 1 12 30])))
def YF:qK:=⟨1,32,[.t 2],sr [oP 0 2 (.mov (.c (.nils)))] (sr [oP 0 3 (.mov (.c (.nils)))] (.seq (sr qEI (.blk 0 (.loop qEH))) (sr [oM 0 31 3,oM 1 2 31] .ret)))⟩
def qGO:List qB:=[oM 0 3 0,oE 1 4 .geq 3 0,oM 2 5 4,oH 3 6 5 true 0,oG 4 7 5 true (.bin .lss (.t 6) (.c (.int .i64 24))),oPf 5 8 5 7,oM 6 2 8]
def YT:qK:=⟨1,9,[.t 2],sr [oQ 0 2 false] (sr qGO .ret)⟩
def UP:List qB:=[oM 0 3 0,oE 1 4 .geq 3 1,oM 2 5 4,oH 3 6 5 true 0,oG 4 7 5 true (.bin .leq (.t 6) (.c (.int .i64 6))),oPf 5 8 5 7,oM 6 2 8]
def XE:qK:=⟨1,9,[.t 2],sr [oQ 0 2 false] (sr UP .ret)⟩
def UQ:List qB:=[oM 0 3 0,oP 1 4 (.bin .geq (.t 3) (.c (.int .i64 (-2147483648)))),oM 2 5 4,oH 3 6 5 true 0,oG 4 7 5 true (.bin .leq (.t 6) (.c (.int .i64 2147483647))),oPf 5 8 5 7,oM 6 2 8]
def XF:qK:=⟨1,9,[.t 2],sr [oQ 0 2 false] (sr UQ .ret)⟩
def qB5:List qB:=[oM 0 3 0,oE 1 4 .geq 3 1,oM 2 5 4,oH 3 6 5 true 0,oG 4 7 5 true (.bin .leq (.t 6) (.c (.int .i64 12))),oPf 5 8 5 7,oM 6 2 8]
def Xt:qK:=⟨1,9,[.t 2],sr [oQ 0 2 false] (sr qB5 .ret)⟩
def qBL:List qB:=[oM 0 6 0,oE 1 7 .eql 6 9,oM 2 8 7,oH 3 9 8 true 1,oG 4 10 8 true (.bin .geq (.t 9) (.c (.int .i64 0))),oPf 5 11 8 10,oM 6 12 11,oH 7 13 12 true 1,oG 8 14 12 true (.bin .leq (.t 13) (.c (.int .i64 3))),oPf 9 15 12 14,oM 10 5 15]
def qBM:List qB:=[oM 0 19 0,oD1 1 20 1487 19,oJ 2 21 20,oM 3 22 21,oH 4 23 22 false 0,oG 5 24 22 false (.bin .eql (.t 23) (.c (.int .i64 9))),oPt 6 25 22 24,oM 7 26 25,oH 8 27 26 false 1,oG 9 28 26 false (.bin .neq (.t 27) (.c (.int .i64 0))),oPt 10 29 26 28,oM 11 18 29]
def qBN:List qB:=[oP 0 30 (.build (.agg [.int .i64 0,.int .i64 0,.int .i64 0,.int .i64 0,.int .i64 0,.int .i64 0,.int .i64 0,.int .i64 0,.int .i64 0,.int .i64 0,.int .i64 0,.int .i64 0,.int .i64 0]) [(1,1,.c (.int .i64 1)),(2,1,.c (.int .i64 3)),(3,1,.c (.int .i64 3)),(4,1,.c (.int .i64 3)),(5,1,.c (.int .i64 1)),(6,1,.c (.int .i64 1)),(7,1,.c (.int .i64 3)),(8,1,.c (.int .i64 2)),(10,1,.c (.int .i64 2)),(11,1,.c (.int .i64 2)),(12,1,.c (.int .i64 1))]),oM 1 31 0,oP 2 32 (.aidx 13 1 none (.t 30) (.t 31)),oM 3 4 32]
def qBK:qD:=.seq (.blk 0 (sr qBL (.cond (.t 5) (sr [oM 0 16 1,oE 1 17 .add 16 1,oM 2 4 17] .ret) (sr qBM (.cond (.t 18) (sr [oC 0 4 0] .ret) .skip))))) (sr qBN .ret)
def Xk:qK:=⟨2,33,[.t 4],sr [oC 0 4 0] qBK⟩
def qBO:qD:=.seq (sr [oM 0 5 0,oE 1 6 .eql 5 9] (.cond (.t 6) (sr [oM 0 7 1,oE 1 8 .sub 7 1,oM 2 4 8] .ret) .skip)) (sr [oC 0 4 0] .ret)
def Xl:qK:=⟨2,9,[.t 4],sr [oC 0 4 0] qBO⟩
def qA2:List qB:=[oM 0 3 0,oD1 1 4 1487 3,oM 2 5 4,oH 3 6 5 true 0,oG 4 7 5 true (.bin .neq (.t 6) (.c (.int .i64 1))),oPf 5 8 5 7,oM 6 9 8,oH 7 10 9 true 0,oG 8 11 9 true (.bin .neq (.t 10) (.c (.int .i64 5))),oPf 9 12 9 11,oM 10 13 12,oH 11 14 13 true 0,oG 12 15 13 true (.bin .neq (.t 14) (.c (.int .i64 6))),oPf 13 16 13 15,oM 14 2 16]
def Xg:qK:=⟨1,17,[.t 2],sr [oQ 0 2 false] (sr qA2 .ret)⟩
def qB6:List qB:=[oM 0 3 0,oE 1 4 .geq 3 0,oM 2 5 4,oH 3 6 5 true 0,oG 4 7 5 true (.bin .leq (.t 6) (.c (.int .i64 8))),oPf 5 8 5 7,oM 6 2 8]
def Xw:qK:=⟨1,9,[.t 2],sr [oQ 0 2 false] (sr qB6 .ret)⟩
def qBP:List qB:=[oM 0 5 0,oD1 1 6 1487 5,oM 2 7 6,oH 3 8 7 true 1,oG 4 9 7 true (.bin .eql (.t 8) (.c (.int .i64 0))),oH 5 10 7 true 9,oH 6 11 10 false 0,oG 7 12 10 false (.call 1375 [.t 11]),oH 8 13 10 false 12,oH 9 14 13 true 1,oG 10 15 13 true (.call 1495 [.t 14]),oG 11 16 10 false (.pick (.t 13) (.t 15) (.c (.bool false))),oG 12 17 7 true (.pick (.t 10) (.c (.bool true)) (.t 16)),oPf 13 18 7 17,oM 14 4 18]
def Xm:qK:=⟨2,19,[.t 4],sr [oQ 0 4 false] (sr qBP .ret)⟩
def qBQ:List qB:=[oM 0 3 0,oD1 1 4 796 3,oJ 2 5 4,oM 3 2 5]
def Xn:qK:=⟨1,6,[.t 2],sr [oQ 0 2 false] (sr qBQ .ret)⟩
def KR:List qB:=[oU 0 6 1,oX 1 7 1 4,oW 2 8 7,oE 3 9 .eql 8 0,oM 4 10 9,oG 5 11 10 false (.nop 1),oG 6 12 10 false (.lload 1 0 none),oG 7 13 10 false (.nop 1),oG 8 14 10 false (.lload 1 0 none),oG 9 15 10 false (.nop 1),oG 10 16 10 false (.lload 1 4 none),oG 11 17 10 false (.len (.t 16)),oG 14 20 10 false (.nop 1),oG 15 21 10 false (.lload 1 4 none),oG 16 22 10 false (.len (.t 21)),oG 12 18 10 false (.call 1388 [.t 14,.t 17]),oG 13 19 10 false (.call 1387 [.t 12,.t 18]),oG 17 23 10 false (.bin .neq (.t 19) (.t 22)),oPt 18 24 10 23,oM 19 25 24,oG 20 26 25 false (.nop 1),oG 21 27 25 false (.lload 1 0 none),oG 22 28 25 false (.nop 1),oG 23 29 25 false (.lload 1 1 none),oG 24 30 25 false (.call 1389 [.t 27,.t 29]),oG 25 31 25 false (.not (.t 30)),oPt 26 32 25 31]
def KT:List qB:=[oU 0 33 1,oX 1 34 1 2,oE 2 35 .eql 34 0,oU 3 36 1,oX 4 37 1 3,oW 5 38 37,oE 6 39 .eql 38 0,oM 7 3 35,oM 8 4 39]
def KV:List qB:=[oU 0 40 1,oX 1 41 1 3,oP 2 42 (.call 397 [.t 41,.f 1390]),oJ 3 43 42,oM 4 5 43]
def KW:List qB:=[oU 0 48 1,oX 1 49 1 2,oD1 2 50 1051 49,oM 3 3 50]
def KX:List qB:=[oU 0 53 1,oX 1 54 1 2,oD1 2 55 1050 54,oM 3 3 55]
def KY:List qB:=[oU 0 58 1,oX 1 59 1 2,oD1 2 60 1050 59,oM 3 61 60,oG 4 62 61 true (.nop 1),oG 5 63 61 true (.lload 1 3 none),oG 6 64 61 true (.len (.t 63)),oG 7 65 61 true (.bin .eql (.t 64) (.c (.int .i64 1))),oPf 8 66 61 65,oM 9 67 66,oG 10 68 67 true (.nop 1),oG 11 69 67 true (.lload 1 3 none),oG 12 70 67 true (.iaddr 1 (.t 69) (.c (.int .i64 0))),oG 13 71 67 true (.load none (.t 70)),oG 14 72 67 true (.call 1051 [.t 71]),oPf 15 73 67 72,oM 16 2 73]
def KZ:List qB:=[oU 0 76 1,oX 1 77 1 2,oE 2 78 .geq 77 0,oM 3 79 78,oG 4 80 79 true (.nop 1),oG 5 81 79 true (.lload 1 2 none),oG 6 82 79 true (.bin .lss (.t 81) (.c (.int .i64 4))),oPf 7 83 79 82,oM 8 3 83]
def Ka:List qB:=[oU 0 86 1,oX 1 87 1 3,oW 2 88 87,oE 3 89 .geq 88 1,oM 4 90 89,oG 5 91 90 true (.nop 1),oG 6 92 90 true (.lload 1 3 none),oG 7 93 90 true (.len (.t 92)),oG 8 94 90 true (.bin .leq (.t 93) (.c (.int .i64 4))),oPf 9 95 90 94,oM 10 96 95,oH 11 97 96 true 5,oPf 12 98 96 97,oM 13 4 98]
def Kb:List qB:=[oU 0 101 1,oX 1 102 1 3,oW 2 103 102,oE 3 104 .eql 103 2,oM 4 105 104,oH 5 106 105 true 5,oPf 6 107 105 106,oM 7 4 107]
def Kc:List qB:=[oU 0 110 1,oX 1 111 1 2,oD1 2 112 796 111,oM 3 3 112]
def KO:qD:=.cond (.t 84) (.reg true Ka) (sr [oE 0 100 .eql 45 11,oM 1 99 100] (.cond (.t 99) (.reg true Kb) (sr [oE 0 109 .eql 45 12,oM 1 108 109] (.cond (.t 108) (.reg true Kc) .skip))))
def KP:qD:=sr [oE 0 57 .eql 45 8,oM 1 56 57] (.cond (.t 56) (sr KY .ret) (sr [oE 0 75 .eql 45 9,oM 1 74 75] (.cond (.t 74) (.reg true KZ) (sr [oE 0 85 .eql 45 10,oM 1 84 85] KO))))
def KQ:qD:=sr [oU 0 44 1,oX 1 45 1 0] (.blk 0 (sr [oE 0 47 .eql 45 6,oM 1 46 47] (.cond (.t 46) (.reg true KW) (sr [oE 0 52 .eql 45 7,oM 1 51 52] (.cond (.t 51) (.reg true KX) KP)))))
def KU:List qB:=[oM 0 113 3,oM 1 114 113,oH 2 115 114 true 4,oPf 3 116 114 115,oM 4 2 116]
def XS:qK:=⟨1,117,[.t 2],sr [oP 0 1 (.lbox 5 (.t 0)),oQ 1 2 false] (.seq (sr KR (.cond (.t 32) (sr [oQ 0 2 false] .ret) .skip)) (sr KT (sr KV (.seq KQ (sr KU .ret)))))⟩
def qGF:List qB:=[oM 0 5 0,oW 1 6 5,oE 2 7 .lss 6 1,oM 3 8 7,oH 4 9 8 false 0,oG 5 10 8 false (.len (.t 9)),oG 6 11 8 false (.bin .gtr (.t 10) (.c (.int .i64 600))),oPt 7 12 8 11]
def qGG:List qB:=[oM 0 17 15,oA 1 18 5 13 15,oP 2 19 (.load (some 5) (.t 18)),oP 3 4 (.lalloc (.agg [.int .i64 0,.int .i64 0,.int .i64 0,.nils,.nils])),oM 4 3 17,oS 5 4 0 5 19]
def qGH:List qB:=[oY 0 20 4 0 5,oD1 1 21 1097 20,oJ 2 22 21,oM 3 23 22,oG 4 24 23 false (.nop 4),oG 5 25 23 false (.lload 4 0 none),oG 6 26 23 false (.bin .eql (.t 25) (.c (.int .i64 1))),oH 7 27 23 false 3,oG 8 28 23 false (.bin .eql (.t 27) (.c (.int .i64 0))),oG 9 29 23 false (.beq true (.t 26) (.t 28)),oPt 10 30 23 29]
def qGD:qD:=sr [oB 0 16 .lss 15 14] (.seq (.cond (.t 16) .skip (.exit 0)) (.seq (.blk 1 (sr qGG (sr qGH (.cond (.t 30) (sr [oQ 0 2 false] .ret) .skip)))) (.reg true [oE 0 31 .add 15 1,oM 1 15 31])))
def qGE:qD:=.seq (sr qGF (.cond (.t 12) (sr [oQ 0 2 false] .ret) .skip)) (.seq (sr [oM 0 13 0,oW 1 14 13,oC 2 15 0] (.blk 0 (.loop qGD))) (sr [oQ 0 2 true] .ret))
def YM:qK:=⟨1,32,[.t 2],sr [oQ 0 2 false] qGE⟩
def Kd:qK:=ZE 2 (some 2)
def F712:qK:=Z2 1098
def qEM:List qB:=[oM 0 5 0,oK 1 6 5,oF 2 7 0 6,oL 3 8 7,oU 4 9 3,oX 5 10 3 0,oA 6 11 5 8 10,oF 7 12 4 11,oL 8 13 12,oU 9 14 3,oX 10 15 3 1,oA 11 16 2 13 15,oP 12 17 (.load (some 2) (.t 16)),oS 13 4 0 2 17]
def YG:qK:=⟨2,18,[.l 4 (some 2)],sr [oP 0 3 (.lbox 2 (.t 1)),oP 1 4 (.lalloc (.agg [.int .i64 0,.int .i64 0]))] (sr qEM .ret)⟩
def qGK:List qB:=[oU 0 5 3,oX 1 6 3 0,oE 2 7 .geq 6 0,oM 3 8 7,oG 4 9 8 true (.nop 3),oG 5 10 8 true (.lload 3 0 none),oH 6 11 8 true 0,oG 7 12 8 true (.len (.t 11)),oG 8 13 8 true (.bin .lss (.t 10) (.t 12)),oPf 9 14 8 13,oM 10 15 14,oG 11 16 15 true (.nop 3),oG 12 17 15 true (.lload 3 1 none),oG 13 18 15 true (.bin .geq (.t 17) (.c (.int .i64 0))),oPf 14 19 15 18,oM 15 20 19,oG 16 21 20 true (.nop 3),oG 17 22 20 true (.lload 3 1 none),oH 18 23 20 true 0,oG 19 24 20 true (.nop 3),oG 20 25 20 true (.lload 3 0 none),oG 21 26 20 true (.iaddr 5 (.t 23) (.t 25)),oG 22 27 20 true (.faddr 4 (.t 26)),oG 23 28 20 true (.load none (.t 27)),oG 24 29 20 true (.len (.t 28)),oG 25 30 20 true (.bin .lss (.t 22) (.t 29)),oPf 26 31 20 30,oM 27 4 31]
def YO:qK:=⟨2,32,[.t 4],sr [oP 0 3 (.lbox 2 (.t 1)),oQ 1 4 false] (sr qGK .ret)⟩
def qGI:List qB:=[oY 0 5 2 0 2,oD2 1 6 555 1 5,oP 2 4 (.lalloc (.agg [.int .i64 0,.int .i64 0])),oS 3 4 0 2 6]
def qGJ:List qB:=[oY 0 7 4 0 2,oY 1 8 2 0 2,oP 2 9 (.seq false [1,1] (.t 7) (.t 8)),oM 3 10 9,oG 4 11 10 false (.faddr 0 (.t 1)),oG 5 12 10 false (.load none (.t 11)),oG 6 13 10 false (.lload 4 0 (some 2)),oG 7 14 10 false (.call 714 [.t 12,.t 13]),oG 8 15 10 false (.not (.t 14)),oPt 9 16 10 15,oM 10 17 16,oG 11 18 17 false (.lload 4 0 (some 2)),oG 13 20 17 false (.lload 2 0 (some 2)),oG 12 19 17 false (.call 555 [.t 1,.t 18]),oG 14 21 17 false (.seq true [1,1] (.t 19) (.t 20)),oPt 15 22 17 21,oM 16 3 22]
def YN:qK:=⟨2,23,[.t 3],sr [oP 0 2 (.lbox 2 (.t 0)),oQ 1 3 false] (sr qGI (sr qGJ .ret))⟩
def qCS:List qB:=[oF 0 3 0 1,oL 1 4 3,oD1 2 5 711 4,oJ 3 6 5]
def qCT:List qB:=[oD1 0 7 554 1,oP 1 8 (.mkfn 713 [.t 1]),oD2 2 9 712 7 8,oJ 3 10 9,oM 4 2 10]
def X2:qK:=⟨1,11,[.t 2],sr [oP 0 1 (.hbox 1 (.t 0)),oQ 1 2 false] (.seq (sr qCS (.cond (.t 6) (sr [oQ 0 2 false] .ret) .skip)) (sr qCT .ret))⟩
def qD9:List qB:=[oP 0 5 (.mov (.c (.lst 1 [] true))),oM 1 6 0,oP 2 7 (.app 1 (.t 5) (.t 6)),oM 3 2 7]
def F401:qK:=⟨1,8,[.t 2],sr [oP 0 2 (.mov (.c (.nils)))] (.seq (sr [oM 0 3 0,oP 1 4 (.isnil 1 false (.t 3))] (.cond (.t 4) (sr [oP 0 2 (.mov (.c (.nils)))] .ret) .skip)) (sr qD9 .ret))⟩
def qA1:List qB:=[oP 0 5 (.mov (.c (.lst 2 [] true))),oM 1 6 0,oP 2 7 (.app 2 (.t 5) (.t 6)),oM 3 2 7]
def qA0:qK:=⟨1,8,[.t 2],sr [oP 0 2 (.mov (.c (.nils)))] (.seq (sr [oM 0 3 0,oP 1 4 (.isnil 1 false (.t 3))] (.cond (.t 4) (sr [oP 0 2 (.mov (.c (.nils)))] .ret) .skip)) (sr qA1 .ret))⟩
def U0:List qB:=[oU 0 3 1,oX 1 4 1 3,oU 3 6 1,oX 4 7 1 4,oD1 2 5 401 4,oU 6 9 1,oD1 5 8 1373 7,oS 7 1 3 1 5,oU 8 10 1,oS 9 1 4 1 8]
def XM:qK:=⟨1,12,[.l 2 (some 5)],sr [oP 0 1 (.lbox 5 (.t 0)),oP 1 2 (.lalloc (.agg [.int .i64 0,.int .i64 0,.int .i64 0,.nils,.nils]))] (sr U0 (sr [oY 0 11 1 0 5,oS 1 2 0 5 11] .ret))⟩
def qED:List qB:=[oM 0 5 0,oK 1 6 5,oF 2 7 0 6,oL 3 8 7,oU 4 9 3,oX 5 10 3 0,oA 6 11 5 8 10,oF 7 12 4 11,oL 8 13 12,oU 9 14 3,oX 10 15 3 1,oA 11 16 2 13 15,oP 12 17 (.load (some 2) (.t 16)),oS 13 4 0 2 17]
def YD:qK:=⟨2,18,[.l 4 (some 2)],sr [oP 0 3 (.lbox 2 (.t 1)),oP 1 4 (.lalloc (.agg [.int .i64 0,.int .i64 0]))] (sr qED .ret)⟩
def qEE:List qB:=[oM 0 6 0,oK 1 7 6,oF 2 8 0 7,oL 3 9 8,oU 4 10 4,oX 5 11 4 0,oA 6 12 5 9 11,oF 7 13 4 12,oL 8 14 13,oU 9 15 4,oX 10 16 4 1,oY 11 17 5 0 2,oA 12 18 2 14 16,oT 13 2 18 17]
def qEF:List qB:=[oM 0 19 0,oK 1 20 19,oF 2 21 0 20,oL 3 22 21,oU 4 23 5,oX 5 24 5 0,oA 6 25 5 22 24,oF 7 26 4 25,oL 8 27 26,oU 9 28 5,oX 10 29 5 1,oY 11 30 4 0 2,oA 12 31 2 27 29,oT 13 2 31 30]
def YE:qK:=⟨3,32,[],sr [oP 0 4 (.lbox 2 (.t 1)),oP 1 5 (.lbox 2 (.t 2))] (sr qEE (.reg true qEF))⟩
def qFI:List qB:=[oM 0 18 16,oA 1 19 1 14 16,oL 2 20 19,oM 3 6 18,oM 4 7 20]
def qFJ:List qB:=[oM 0 21 5,oM 1 22 7,oM 2 23 6,oN 3 (.mupd (.t 21) (.t 22) (.t 23))]
def qFE:qD:=.loop (sr [oB 0 17 .lss 16 15] (.seq (.cond (.t 17) .skip (.exit 0)) (.seq (.blk 1 (sr qFI (.reg true qFJ))) (.reg true [oE 0 24 .add 16 1,oM 1 16 24]))))
def qFK:List qB:=[oM 0 31 0,oK 1 32 31,oF 2 33 0 32,oL 3 34 33,oM 4 35 10,oA 5 36 5 34 35,oP 6 37 (.load (some 5) (.t 36)),oD1 7 38 1085 37,oP 8 11 (.lalloc (.agg [.int .i64 0,.int .i64 0,.int .i64 0,.nils,.nils])),oS 9 11 0 5 38]
def qFL:List qB:=[oU 0 39 11,oX 1 40 11 4,oW 2 41 40,oC 3 42 0]
def qFM:List qB:=[oU 0 45 11,oX 1 46 11 4,oM 2 47 12,oM 3 48 5,oU 4 49 11,oX 5 50 11 4,oM 6 51 12,oA 7 52 2 50 51,oF 8 53 0 52,oL 9 54 53,oP 10 55 (.look (.int .i64 0) (.t 48) (.t 54) false),oA 11 56 2 46 47,oF 12 57 0 56,oT 13 1 57 55]
def qFF:qD:=sr [oB 0 43 .lss 42 41] (.seq (.cond (.t 43) .skip (.exit 4)) (.seq (.blk 5 (sr [oM 0 44 42,oM 1 12 44] (.reg true qFM))) (.reg true [oE 0 58 .add 42 1,oM 1 42 58])))
def qFN:List qB:=[oU 0 59 8,oX 1 60 8 0,oY 2 61 11 0 5,oP 3 62 (.bslice 5 (.agg [.int .i64 0,.int .i64 0,.int .i64 0,.nils,.nils]) 1 [(0,.t 61)]),oP 4 63 (.app 5 (.t 60) (.t 62)),oU 5 64 8,oS 6 8 0 1 63]
def qFG:qD:=sr [oA 0 29 1 25 27,oL 1 30 29,oM 2 10 30] (sr qFK (.seq (sr qFL (.blk 4 (.loop qFF))) (.reg true qFN)))
def qFH:qD:=sr [oM 0 25 1,oW 1 26 25,oC 2 27 0] (.blk 2 (.loop (sr [oB 0 28 .lss 27 26] (.seq (.cond (.t 28) .skip (.exit 2)) (.seq (.blk 3 qFG) (.reg true [oE 0 65 .add 27 1,oM 1 27 65]))))))
def qFD:qD:=.seq (sr [oM 0 14 1,oW 1 15 14,oC 2 16 0] (.blk 0 qFE)) (sr [oP 0 8 (.lalloc (.agg [.nils]))] (.seq qFH (sr [oY 0 66 8 0 1,oS 1 4 0 1 66] .ret)))
def YJ:qK:=⟨2,67,[.l 4 (some 1)],sr [oP 0 4 (.lalloc (.agg [.nils]))] (sr [oP 0 13 (.mkmap),oM 1 5 13] qFD)⟩
def qGP:qD:=.seq (sr [oM 0 5 0,oM 1 6 1,oB 2 7 .lss 5 6] (.cond (.t 7) (sr [oM 0 8 0,oM 1 4 8] .ret) .skip)) (sr [oM 0 9 1,oM 1 4 9] .ret)
def YU:qK:=⟨2,10,[.t 4],sr [oC 0 4 0] qGP⟩
def qEN:List qB:=[oM 0 5 0,oW 1 6 5,oE 2 7 .gtr 6 3000,oM 3 8 7,oH 4 9 8 false 1,oG 5 10 8 false (.len (.t 9)),oG 6 11 8 false (.bin .gtr (.t 10) (.c (.int .i64 3000))),oPt 7 12 8 11,oM 8 4 12]
def F60:qK:=⟨2,13,[.t 4],sr [oQ 0 4 false] (sr qEN .ret)⟩
def qCB:List qB:=[oM 0 3 0,oP 1 4 (.build (.agg [.nils,.int .i64 0,.int .u64 0]) [(0,1,.t 3)]),oP 2 5 (.hbox 3 (.t 4)),oM 3 2 5]
def Xy:qK:=⟨1,6,[.t 2],sr [oP 0 2 (.mov (.c (.nilp)))] (sr qCB .ret)⟩
def qGM:List qB:=[oM 0 4 0,oK 1 5 4,oF 2 6 1 5,oL 3 7 6,oM 4 8 0,oK 5 9 8,oF 6 10 0 9,oL 7 11 10,oW 8 12 11,oB 9 13 .lss 7 12]
def qGN:List qB:=[oM 0 14 0,oK 1 15 14,oF 2 16 0 15,oL 3 17 16,oM 4 18 0,oK 5 19 18,oF 6 20 1 19,oL 7 21 20,oA 8 22 1 17 21,oL 9 23 22,oP 10 24 (.conv .i64 (.t 23)),oM 11 3 24]
def Qv:List qB:=[oM 0 25 0,oK 1 26 25,oF 2 27 1 26,oL 3 28 27,oE 4 29 .add 28 1,oK 5 30 25,oF 6 31 1 30,oT 7 1 31 29]
@[go_sem] theorem qL6:OE Qv.eq_1:=OEM Qv.eq_1
def YQ:List qB:=[oM 0 32 0,oM 1 33 0,oK 2 34 33,oF 3 35 2 34,oL 4 36 35,oP 5 37 (.bin .mul (.t 36) (.c (.int .u64 6364136223846793005))),oM 6 38 3,oP 7 39 (.conv .u64 (.t 38)),oB 8 40 .add 37 39,oP 9 41 (.bin .add (.t 40) (.c (.int .u64 1442695040888963407))),oK 10 42 32,oF 11 43 2 42,oT 12 1 43 41]
def YR:List qB:=[oM 0 44 0,oK 1 45 44,oF 2 46 1 45,oL 3 47 46,oM 4 48 0,oK 5 49 48,oF 6 50 0 49,oL 7 51 50,oW 8 52 51,oB 9 53 .leq 47 52]
def YS:List qB:=[oM 0 55 0,oK 1 56 55,oF 2 57 2 56,oL 3 58 57,oP 4 59 (.shft .shr (.t 58) (.c (.int .u64 40))),oP 5 60 (.bin .and (.t 59) (.c (.int .u64 255))),oP 6 61 (.conv .i64 (.t 60)),oM 7 2 61]
def qGL:qD:=.seq (sr qGM (.cond (.t 13) (.reg true qGN) .skip)) (sr Qv (sr YQ (.seq (sr YR (.cond (.t 53) (sr [oM 0 54 3,oM 1 2 54] .ret) .skip)) (sr YS .ret))))
def YP:qK:=⟨1,62,[.t 2],sr [oC 0 2 0] (sr [oC 0 3 0] qGL)⟩
def qDI:List qB:=[oM 0 12 5,oE 1 13 .mul 12 256,oM 2 14 0,oD1 3 15 773 14,oB 4 16 .add 13 15,oM 5 5 16]
def qDJ:List qB:=[oM 0 17 5,oM 1 18 1,oB 2 19 .rem 17 18,oM 3 4 19]
def qDH:qD:=sr [oM 0 8 0,oD1 1 9 773 8,oM 2 5 9] (.seq (sr [oM 0 10 1,oE 1 11 .gtr 10 200] (.cond (.t 11) (.reg true qDI) .skip)) (sr qDJ .ret))
def X9:qK:=⟨2,20,[.t 4],sr [oC 0 4 0] (.seq (sr [oM 0 6 1,oE 1 7 .leq 6 1] (.cond (.t 7) (sr [oC 0 4 0] .ret) .skip)) qDH)⟩
def qEA:List qB:=[oM 0 5 0,oM 1 6 1,oD2 2 7 396 5 6,oE 3 8 .eql 7 0,oM 4 4 8]
def YA:qK:=⟨2,9,[.t 4],sr [oQ 0 4 false] (sr qEA .ret)⟩
def qEB:List qB:=[oM 0 5 1,oM 1 6 0,oM 2 7 1,oW 3 8 7,oD2 4 9 396 6 8,oA 5 10 1 5 9,oL 6 11 10,oM 7 4 11]
def YB:qK:=⟨2,12,[.t 4],sr [oC 0 4 0] (sr qEB .ret)⟩
def Un:List qB:=[oM 0 11 1,oP 1 12 (.build (.agg [.int .i64 0,.int .i64 0,.int .i64 0,.nils,.nils]) [(0,1,.t 11)]),oP 2 7 (.lalloc (.agg [.int .i64 0,.int .i64 0,.int .i64 0,.nils,.nils])),oS 3 7 0 5 12]
def Uo:List qB:=[oM 0 22 0,oP 1 23 (.call 396 [.t 22,.c (.int .i64 5)]),oE 2 24 .sub 23 1,oU 3 25 7,oS 4 7 2 1 24]
def Us:List qB:=[oM 0 28 0,oP 1 29 (.bslice 1 (.int .i64 0) 4 [(0,.c (.int .i64 (-2147483648))),(1,.c (.int .i64 2147483647)),(2,.c (.int .i64 (-7))),(3,.c (.int .i64 1000))]),oD2 2 30 451 28 29,oU 3 31 7,oS 4 7 2 1 30]
def Ut:List qB:=[oM 0 34 0,oP 1 35 (.call 396 [.t 34,.c (.int .i64 6)]),oP 2 36 (.bin .add (.c (.int .i64 1)) (.t 35)),oU 3 37 7,oS 4 7 2 1 36]
def Uu:List qB:=[oM 0 40 0,oP 1 41 (.call 396 [.t 40,.c (.int .i64 6)]),oP 2 42 (.bin .add (.c (.int .i64 1)) (.t 41)),oU 3 43 7,oS 4 7 2 1 42]
def Uv:List qB:=[oU 0 44 7,oX 1 45 7 3,oM 2 46 0,oP 3 47 (.call 396 [.t 46,.c (.int .i64 9)]),oE 4 48 .sub 47 4,oP 5 49 (.bslice 1 (.int .i64 0) 1 [(0,.t 48)]),oP 6 50 (.app 1 (.t 45) (.t 49)),oU 7 51 7,oS 8 7 3 1 50]
def Uw:List qB:=[oM 0 54 0,oP 1 55 (.call 396 [.t 54,.c (.int .i64 3)]),oU 2 56 7,oS 3 7 2 1 55]
def Ux:List qB:=[oM 0 57 0,oP 1 58 (.call 396 [.t 57,.c (.int .i64 4)]),oP 2 59 (.bin .add (.c (.int .i64 1)) (.t 58)),oM 3 8 59]
def Uy:List qB:=[oM 0 62 0,oP 1 63 (.call 396 [.t 62,.c (.int .i64 4)]),oU 2 64 7,oS 3 7 2 1 63]
def Uz:List qB:=[oU 0 67 7,oX 1 68 7 3,oM 2 69 0,oM 6 73 0,oP 3 70 (.call 396 [.t 69,.c (.int .i64 4)]),oP 4 71 (.bslice 1 (.int .i64 0) 1 [(0,.t 70)]),oP 5 72 (.app 1 (.t 68) (.t 71)),oP 7 74 (.call 396 [.t 73,.c (.int .i64 4)]),oP 8 75 (.bslice 1 (.int .i64 0) 1 [(0,.t 74)]),oP 9 76 (.app 1 (.t 72) (.t 75)),oU 10 77 7,oS 11 7 3 1 76]
def Up:List qB:=[oM 0 80 0,oP 1 81 (.call 396 [.t 80,.c (.int .i64 4)]),oP 2 82 (.bin .add (.c (.int .i64 1)) (.t 81)),oM 3 9 82]
def Uq:List qB:=[oU 0 87 7,oX 1 88 7 3,oM 2 89 0,oP 3 90 (.call 396 [.t 89,.c (.int .i64 4)]),oP 4 91 (.bslice 1 (.int .i64 0) 1 [(0,.t 90)]),oP 5 92 (.app 1 (.t 88) (.t 91)),oU 6 93 7,oS 7 7 3 1 92]
def Uj:qD:=.loop (.seq (sr [oM 0 83 9,oE 1 84 .gtr 83 0] (.cond (.t 84) .skip (.exit 1))) (.seq (.blk 2 (.reg true Uq)) (.reg true [oM 0 85 9,oE 1 86 .sub 85 1,oM 2 9 86])))
def Uk:qD:=.cond (.t 60) (.reg true Uy) (sr [oE 0 66 .eql 19 11,oM 1 65 66] (.cond (.t 65) (.reg true Uz) (sr [oE 0 79 .eql 19 10,oM 1 78 79] (.cond (.t 78) (sr Up (.blk 1 Uj)) .skip))))
def Ul:qD:=.cond (.t 38) (sr Uu (.reg true Uv)) (sr [oE 0 53 .eql 19 9,oM 1 52 53] (.cond (.t 52) (sr Uw (.reg true Ux)) (sr [oE 0 61 .eql 19 12,oM 1 60 61] Uk)))
def Um:qD:=.cond (.t 20) (sr Uo (sr [oM 0 26 0,oP 1 27 (.call 440 [.t 26,.c (.int .i64 6)])] (.cond (.t 27) (.reg true Us) .skip))) (sr [oE 0 33 .eql 19 7,oM 1 32 33] (.cond (.t 32) (.reg true Ut) (sr [oE 0 39 .eql 19 8,oM 1 38 39] Ul)))
def Ur:List qB:=[oU 0 99 7,oX 1 100 7 4,oP 2 101 (.build (.agg [.int .i64 0,.int .i64 0]) []),oP 3 102 (.bslice 2 (.agg [.int .i64 0,.int .i64 0]) 1 [(0,.t 101)]),oP 4 103 (.app 2 (.t 100) (.t 102)),oU 5 104 7,oS 6 7 4 1 103]
def Zf:qD:=.loop (.seq (sr [oM 0 95 10,oE 1 96 .gtr 95 0] (.cond (.t 96) .skip (.exit 3))) (.seq (.blk 4 (.reg true Ur)) (.reg true [oM 0 97 10,oE 1 98 .sub 97 1,oM 2 10 98])))
def Qp:qD:=.seq (sr [oM 0 19 1] (.blk 0 (sr [oE 0 21 .eql 19 6,oM 1 20 21] Um))) (.seq (sr [oM 0 94 8,oM 1 10 94] (.blk 3 Zf)) (sr [oY 0 105 7 0 5,oS 1 6 0 5 105] .ret))
@[go_sem] theorem qLY:CE Qp.eq_1:=CEM Qp.eq_1
def XL:qD:=sr [oM 0 13 1,oP 1 14 (.call 1371 [.t 13,.c (.int .i64 0)]),oM 2 8 14] (.seq (sr [oM 0 15 1,oD1 1 16 1372 15] (.cond (.t 16) (.reg true [oM 0 17 2,oU 1 18 7,oS 2 7 1 1 17]) .skip)) Qp)
@[go_sem] theorem qLZ:CE XL.eq_1:=CEM XL.eq_1
def XK:qK:=⟨3,106,[.l 6 (some 5)],sr [oP 0 6 (.lalloc (.agg [.int .i64 0,.int .i64 0,.int .i64 0,.nils,.nils]))] (sr Un XL)⟩
def qF7:List qB:=[oM 0 9 1,oM 1 10 1,oK 2 11 10,oF 3 12 0 11,oL 4 13 12,oM 5 14 0,oM 6 15 2,oM 7 16 3,⟨8,some 17,none,.call 1084 [.t 14,.t 15,.t 16],[⟨4,some 13,none,.load none (.t 12),[]⟩]⟩,oP 9 18 (.bslice 5 (.agg [.int .i64 0,.int .i64 0,.int .i64 0,.nils,.nils]) 1 [(0,.t 17)]),oP 10 19 (.app 5 (.t 13) (.t 18)),oK 11 20 9,oF 12 21 0 20,oT 13 1 21 19]
def qF8:List qB:=[oM 0 22 1,oK 1 23 22,oF 2 24 0 23,oL 3 25 24,oW 4 26 25,oE 5 27 .sub 26 1,oM 6 8 27]
def Qu:qK:=⟨4,28,[.t 8],sr [oC 0 8 0] (sr qF7 (sr qF8 .ret))⟩
def U5:List qB:=[oM 0 14 0,oM 1 15 1,oM 2 16 4,oP 3 17 (.call 709 [.t 14,.t 15,.c (.int .i64 2),.t 16]),oM 4 5 17]
def U6:List qB:=[oM 0 18 0,oM 1 19 1,oM 2 20 4,oP 3 21 (.call 709 [.t 18,.t 19,.c (.int .i64 3),.t 20]),oM 4 6 21]
def KD:List qB:=[oM 0 24 0,oM 1 25 1,oM 2 26 4,oP 3 27 (.call 709 [.t 24,.t 25,.c (.int .i64 4),.t 26]),oM 4 5 27]
def KE:List qB:=[oM 0 28 0,oM 1 29 1,oM 2 30 4,oM 3 31 0,oP 4 32 (.call 396 [.t 31,.c (.int .i64 2)]),oM 5 33 0,oP 6 34 (.call 396 [.t 33,.c (.int .i64 2)]),oB 7 35 .mul 32 34,oB 8 36 .add 30 35,oP 9 37 (.call 709 [.t 28,.t 29,.c (.int .i64 4),.t 36]),oM 10 6 37]
def Qr:List qB:=[oM 0 41 0,oP 1 42 (.bslice 1 (.int .i64 0) 10 [(0,.c (.int .i64 2)),(1,.c (.int .i64 3)),(2,.c (.int .i64 4)),(3,.c (.int .i64 7)),(4,.c (.int .i64 8)),(5,.c (.int .i64 9)),(6,.c (.int .i64 10)),(7,.c (.int .i64 11)),(8,.c (.int .i64 6)),(9,.c (.int .i64 12))]),oD2 2 43 451 41 42,oM 3 7 43]
@[go_sem] theorem qL1:OE Qr.eq_1:=OEM Qr.eq_1
def XO:List qB:=[oM 0 44 0,oM 1 45 1,oM 2 46 7,oM 3 47 4,oE 4 48 .add 47 1,oP 5 49 (.call 709 [.t 44,.t 45,.t 46,.t 48]),oM 6 5 49]
def XP:List qB:=[oM 0 50 0,oM 1 51 1,oM 2 52 4,oP 3 53 (.call 709 [.t 50,.t 51,.c (.int .i64 4),.t 52]),oM 4 6 53]
def KF:List qB:=[oM 0 56 0,oM 1 57 1,oP 2 58 (.call 709 [.t 56,.t 57,.c (.int .i64 5),.c (.int .i64 0)]),oM 3 5 58]
def KH:List qB:=[oM 0 59 0,oM 1 60 1,oM 2 61 0,oP 3 62 (.call 396 [.t 61,.c (.int .i64 11)]),oP 4 63 (.bin .add (.c (.int .i64 2)) (.t 62)),oM 5 64 4,oP 6 65 (.call 709 [.t 59,.t 60,.t 63,.t 64]),oM 7 6 65]
def KI:List qB:=[oM 0 68 0,oM 1 69 1,oM 2 70 0,oP 3 71 (.bslice 1 (.int .i64 0) 3 [(0,.c (.int .i64 7)),(1,.c (.int .i64 8)),(2,.c (.int .i64 11))]),oD2 4 72 451 70 71,oM 5 73 4,oP 6 74 (.call 709 [.t 68,.t 69,.t 72,.t 73]),oM 7 5 74]
def U7:List qB:=[oM 0 75 0,oM 1 76 1,oP 2 77 (.call 709 [.t 75,.t 76,.c (.int .i64 6),.c (.int .i64 0)]),oM 3 6 77]
def U8:List qB:=[oM 0 80 0,oM 1 81 1,oM 2 82 4,oP 3 83 (.call 709 [.t 80,.t 81,.c (.int .i64 10),.t 82]),oM 4 5 83]
def U9:List qB:=[oM 0 84 0,oM 1 85 1,oM 2 86 4,oP 3 87 (.call 709 [.t 84,.t 85,.c (.int .i64 9),.t 86]),oM 4 6 87]
def KB:List qB:=[oM 0 90 0,oM 1 91 1,oP 2 92 (.call 709 [.t 90,.t 91,.c (.int .i64 12),.c (.int .i64 0)]),oM 3 5 92]
def KC:List qB:=[oM 0 93 0,oM 1 94 1,oM 2 95 0,oP 3 96 (.bslice 1 (.int .i64 0) 5 [(0,.c (.int .i64 3)),(1,.c (.int .i64 7)),(2,.c (.int .i64 8)),(3,.c (.int .i64 10)),(4,.c (.int .i64 11))]),oD2 4 97 451 95 96,oM 5 98 4,oP 6 99 (.call 709 [.t 93,.t 94,.t 97,.t 98]),oM 7 6 99]
def U1:qD:=sr [oE 0 79 .eql 11 6,oM 1 78 79] (.cond (.t 78) (sr U8 (.reg true U9)) (sr [oE 0 89 .eql 11 7,oM 1 88 89] (.cond (.t 88) (sr KB (.reg true KC)) .skip)))
def U2:qD:=sr [oE 0 55 .eql 11 4,oM 1 54 55] (.cond (.t 54) (sr KF (.reg true KH)) (sr [oE 0 67 .eql 11 5,oM 1 66 67] (.cond (.t 66) (sr KI (.reg true U7)) U1)))
def U3:qD:=.seq (sr [oE 0 39 .eql 11 2,oM 1 38 39] (.cond (.t 38) .skip (.reg true [oE 0 40 .eql 11 3,oM 1 38 40]))) (.cond (.t 38) (sr Qr (sr XO (.reg true XP))) U2)
def U4:qD:=sr [oE 0 13 .eql 11 0,oM 1 12 13] (.cond (.t 12) (sr U5 (.reg true U6)) (sr [oE 0 23 .eql 11 1,oM 1 22 23] (.cond (.t 22) (sr KD (.reg true KE)) U3)))
def Qq:List qB:=[oM 0 100 1,oM 1 101 5,oP 2 102 (.build (.agg [.int .i64 0,.int .i64 0]) [(0,1,.t 101)]),oM 3 103 6,oP 4 104 (.build (.agg [.int .i64 0,.int .i64 0]) [(0,1,.t 103)]),oP 5 105 (.call 491 [.t 100,.t 102,.t 104])]
@[go_sem] theorem qL0:OE Qq.eq_1:=OEM Qq.eq_1
def XN:qK:=⟨2,106,[],sr [oM 0 8 0,oP 1 9 (.call 396 [.t 8,.c (.int .i64 3)]),oM 2 4 9] (sr [oC 0 5 0] (sr [oC 0 6 0] (.seq (sr [oM 0 10 0,oP 1 11 (.call 396 [.t 10,.c (.int .i64 8)])] (.blk 0 U4)) (.reg true Qq))))⟩
def KJ:List qB:=[oM 0 6 0,oY 1 7 3 0 2,oD2 2 8 490 6 7,oP 3 5 (.lalloc (.agg [.int .i64 0,.int .i64 0])),oS 4 5 0 2 8]
def KL:List qB:=[oU 0 9 5,oX 1 10 5 0,oE 2 11 .gtr 10 0,oM 3 12 11,oH 4 13 12 true 0,oG 5 14 12 true (.lload 5 0 (some 2)),oG 7 16 12 true (.lload 3 0 (some 2)),oG 6 15 12 true (.call 490 [.t 13,.t 14]),oG 8 17 12 true (.seq false [1,1] (.t 15) (.t 16)),oPf 9 18 12 17,oM 10 4 18]
def XQ:qK:=⟨2,19,[.t 4],sr [oP 0 3 (.lbox 2 (.t 1)),oQ 1 4 false] (sr KJ (sr KL .ret))⟩
def qFO:qD:=.seq (sr [oM 0 28 10,oE 1 29 .gtr 28 0] (.cond (.t 29) .skip (.exit 0))) (.seq (.blk 1 (.reg true [oM 0 32 0,oD2 1 33 1094 32 9])) (.reg true [oM 0 30 10,oE 1 31 .sub 30 1,oM 2 10 31]))
def qFS:List qB:=[oF 0 34 0 9,oL 1 35 34,oW 2 36 35,oM 3 11 36]
def qF0:List qB:=[oM 0 42 0,oM 1 43 0,oP 2 44 (.call 396 [.t 43,.c (.int .i64 11)]),oP 3 45 (.bin .add (.c (.int .i64 2)) (.t 44)),oM 4 46 0,oP 5 47 (.call 396 [.t 46,.c (.int .i64 3)]),oP 6 48 (.call 709 [.t 42,.t 9,.t 45,.t 47])]
def qFQ:qD:=.loop (.seq (sr [oM 0 38 12,oE 1 39 .gtr 38 0] (.cond (.t 39) .skip (.exit 2))) (.seq (.blk 3 (.reg true qF0)) (.reg true [oM 0 40 12,oE 1 41 .sub 40 1,oM 2 12 41])))
def qF3:List qB:=[oF 0 50 0 9,oL 1 51 50,oW 2 52 51,oM 3 53 0,⟨4,some 54,none,.call 396 [.t 53,.c (.int .i64 4)],[⟨1,some 51,none,.load none (.t 50),[]⟩]⟩,oP 5 55 (.bin .sub (.c (.int .i64 596)) (.t 54)),oB 6 56 .lss 52 55]
def qF4:List qB:=[oM 0 61 13,oP 1 62 (.build (.agg [.int .i64 0,.int .i64 0]) [(0,1,.t 61)]),oM 2 63 14,oP 3 64 (.build (.agg [.int .i64 0,.int .i64 0]) [(0,1,.t 63)]),oP 4 65 (.call 491 [.t 9,.t 62,.t 64])]
def qFR:qD:=sr [oM 0 57 0,oP 1 58 (.call 709 [.t 57,.t 9,.c (.int .i64 6),.c (.int .i64 0)]),oM 2 13 58] (sr [oM 0 59 0,oP 1 60 (.call 709 [.t 59,.t 9,.c (.int .i64 5),.c (.int .i64 0)]),oM 2 14 60] (.reg true qF4))
def J4:List qB:=[oM 0 67 16,oF 1 68 0 9,oL 2 69 68,oW 3 70 69,oB 4 71 .lss 67 70]
def qF5:List qB:=[oM 0 74 17,oF 1 75 0 9,oL 2 76 75,oM 3 77 16,oA 4 78 5 76 77,oF 5 79 4 78,oL 6 80 79,oW 7 81 80,oB 8 82 .lss 74 81]
def qF6:List qB:=[oM 0 85 16,oM 1 86 17,oP 2 87 (.build (.agg [.int .i64 0,.int .i64 0]) [(0,1,.t 85),(1,1,.t 86)]),oP 3 18 (.lalloc (.agg [.int .i64 0,.int .i64 0])),oS 4 18 0 2 87]
def qFT:List qB:=[oM 0 88 17,oE 1 89 .eql 88 0,oM 2 90 89,oH 3 91 90 true 16,oG 4 92 90 true (.bin .gtr (.t 91) (.c (.int .i64 0))),oPf 5 93 90 92,oM 6 94 93,oH 7 95 94 true 16,oH 8 96 94 true 11,oG 9 97 94 true (.bin .lss (.t 95) (.t 96)),oH 10 98 94 true 97,oG 11 99 98 false (.lload 18 0 (some 2)),oG 12 100 98 false (.call 1095 [.t 9,.t 99]),oG 13 101 94 true (.pick (.t 98) (.c (.bool true)) (.t 100)),oPf 14 102 94 101,oM 15 19 102]
def Zg:List qB:=[oM 0 105 15,oY 1 106 18 0 2,oP 2 107 (.bslice 2 (.agg [.int .i64 0,.int .i64 0]) 1 [(0,.t 106)]),oP 3 108 (.app 2 (.t 105) (.t 107)),oM 4 15 108]
def qFP:qD:=.seq (.blk 9 (sr qF6 (sr qFT (sr [oM 0 103 19,oJ 1 104 103] (.cond (.t 104) (.reg true Zg) .skip))))) (.reg true [oM 0 83 17,oE 1 84 .add 83 1,oM 2 17 84])
def J2:qD:=.seq (.blk 7 (sr [oC 0 17 0] (.blk 8 (.loop (.seq (sr qF5 (.cond (.t 82) .skip (.exit 8))) qFP))))) (.reg true [oM 0 72 16,oE 1 73 .add 72 1,oM 2 16 73])
def qFU:List qB:=[oM 0 109 15,oW 1 110 109,oE 2 111 .rem 110 2,oE 3 112 .eql 111 1]
def qFV:List qB:=[oM 0 115 15,oM 1 116 20,oP 2 117 (.build (.agg [.int .i64 0,.int .i64 0]) [(0,1,.t 116)]),oP 3 118 (.bslice 2 (.agg [.int .i64 0,.int .i64 0]) 1 [(0,.t 117)]),oP 4 119 (.app 2 (.t 115) (.t 118)),oM 5 15 119]
def qFW:List qB:=[oM 0 123 15,oW 1 124 123,oE 2 125 .sub 124 1,oM 3 21 125]
def qFX:List qB:=[oM 0 126 15,oM 1 127 21,oA 2 128 2 126 127,oP 3 129 (.load (some 2) (.t 128)),oP 4 22 (.lalloc (.agg [.int .i64 0,.int .i64 0])),oS 5 22 0 2 129]
def qFY:List qB:=[oM 0 130 15,oM 1 131 21,oP 2 132 (.slc 2 (.t 130) none (some (.t 131)) none),oM 3 15 132]
def qFZ:List qB:=[oM 0 133 21,oE 1 134 .sub 133 1,oM 2 135 0,oM 3 136 21,oP 4 137 (.call 978 [.t 136,.c (.int .i64 12)]),oD2 5 138 396 135 137,oB 6 139 .sub 134 138,oM 7 23 139]
def qF1:List qB:=[oY 0 140 22 0 2,oM 1 141 15,oM 2 142 23,oA 3 143 2 141 142,oP 4 144 (.load (some 2) (.t 143)),oP 5 145 (.call 491 [.t 9,.t 140,.t 144])]
def qF2:List qB:=[oP 0 146 (.mov (.c (.lst 2 [] true))),oM 1 147 15,oM 2 148 23,oP 3 149 (.slc 2 (.t 147) none (some (.t 148)) none),oM 5 151 15,oM 6 152 23,oE 7 153 .add 152 1,oP 8 154 (.slc 2 (.t 151) (some (.t 153)) none none),oP 4 150 (.app 2 (.t 146) (.t 149)),oP 9 155 (.app 2 (.t 150) (.t 154)),oM 10 15 155]
def Qs:qD:=.seq (sr [oM 0 120 15,oW 1 121 120,oE 2 122 .gtr 121 0] (.cond (.t 122) .skip (.exit 10))) (.blk 11 (sr qFW (sr qFX (sr qFY (sr qFZ (sr qF1 (.reg true qF2)))))))
def wO:qD:=.seq (sr qFU (.cond (.t 112) (sr [oM 0 113 0,oP 1 114 (.call 709 [.t 113,.t 9,.c (.int .i64 5),.c (.int .i64 0)]),oM 2 20 114] (.reg true qFV)) .skip)) (.seq (.blk 10 (.loop Qs)) (sr [oP 0 156 (.load (some 1) (.t 9)),oS 1 8 0 1 156] .ret))
@[go_sem] theorem qL3:CE wO.eq_1:=CEM wO.eq_1
def J3:qD:=.seq (sr [oM 0 49 3] (.cond (.t 49) (.blk 4 (.loop (.seq (sr qF3 (.cond (.t 56) .skip (.exit 4))) (.blk 5 qFR)))) .skip)) (sr [oP 0 66 (.mov (.c (.lst 2 [] true))),oM 1 15 66] (.seq (sr [oC 0 16 0] (.blk 6 (.loop (.seq (sr J4 (.cond (.t 71) .skip (.exit 6))) J2)))) wO))
@[go_sem] theorem qL4:CE J3.eq_1:=CEM J3.eq_1
def Qt:qD:=.seq (sr [oM 0 27 1,oM 1 10 27] (.blk 0 (.loop qFO))) (sr qFS (.seq (sr [oM 0 37 2,oM 1 12 37] (.blk 2 qFQ)) J3))
@[go_sem] theorem qL5:CE Qt.eq_1:=CEM Qt.eq_1
def YK:qK:=⟨4,157,[.l 8 (some 1)],sr [oP 0 8 (.lalloc (.agg [.nils]))] (sr [oP 0 24 (.build (.agg [.nils]) []),oP 1 9 (.halloc 1 (.agg [.nils])),oT 2 1 9 24] (sr [oM 0 25 0,oP 1 26 (.call 709 [.t 25,.t 9,.c (.int .i64 1),.c (.int .i64 0)])] Qt))⟩
def Ui:List qB:=[oM 0 6 0,oM 1 7 3,oM 2 8 0,oP 3 9 (.call 396 [.t 8,.c (.int .i64 6)]),oM 4 10 0,oP 5 11 (.call 440 [.t 10,.c (.int .i64 120)]),oP 6 12 (.call 708 [.t 6,.t 7,.t 9,.t 11]),oS 7 2 0 1 12]
def XJ:qK:=⟨1,13,[.l 2 (some 1)],sr [oP 0 2 (.lalloc (.agg [.nils]))] (sr [oM 0 4 0,oP 1 5 (.call 396 [.t 4,.c (.int .i64 6)]),oM 2 3 5] (sr Ui .ret))⟩
def qE5:List qB:=[oM 0 5 0,oD1 1 6 1083 5,oP 2 3 (.lalloc (.agg [.nils])),oS 3 3 0 1 6]
def qE6:List qB:=[oU 0 11 3,oX 1 12 3 0,oM 2 13 0,oU 3 14 3,oX 4 15 3 0,oW 5 16 15,oD2 6 17 396 13 16,oA 7 18 5 12 17,oM 8 4 18]
def qE7:List qB:=[oM 0 23 4,oM 1 24 0,oP 2 25 (.bslice 1 (.int .i64 0) 5 [(0,.c (.int .i64 0)),(1,.c (.int .i64 1)),(2,.c (.int .i64 3)),(3,.c (.int .i64 13)),(4,.c (.int .i64 (-9223372036854775808)))]),oD2 3 26 451 24 25,oK 4 27 23,oF 5 28 0 27,oT 6 1 28 26]
def qE8:List qB:=[oM 0 31 4,oM 1 32 0,oP 2 33 (.bslice 1 (.int .i64 0) 4 [(0,.c (.int .i64 (-1))),(1,.c (.int .i64 1)),(2,.c (.int .i64 8)),(3,.c (.int .i64 9))]),oD2 3 34 451 32 33,oK 4 35 31,oF 5 36 1 35,oT 6 1 36 34]
def qE9:List qB:=[oM 0 39 4,oM 1 40 0,oP 2 41 (.bslice 1 (.int .i64 0) 4 [(0,.c (.int .i64 (-1))),(1,.c (.int .i64 1)),(2,.c (.int .i64 24)),(3,.c (.int .i64 2147483648))]),oD2 3 42 451 40 41,oK 4 43 39,oF 5 44 2 43,oT 6 1 44 42]
def qFA:List qB:=[oM 0 47 4,oM 1 48 4,oK 2 49 48,oF 3 50 3 49,oL 4 51 50,oM 5 52 0,oP 6 53 (.bslice 1 (.int .i64 0) 3 [(0,.c (.int .i64 (-1))),(1,.c (.int .i64 0)),(2,.c (.int .i64 24))]),⟨7,some 54,none,.call 451 [.t 52,.t 53],[⟨4,some 51,none,.load none (.t 50),[]⟩]⟩,oP 8 55 (.bslice 1 (.int .i64 0) 1 [(0,.t 54)]),oP 9 56 (.app 1 (.t 51) (.t 55)),oK 10 57 47,oF 11 58 3 57,oT 12 1 58 56]
def qFB:List qB:=[oM 0 61 4,oK 1 62 61,oF 2 63 4 62,oL 3 64 63,oM 4 65 0,oM 7 68 0,⟨5,some 66,none,.call 396 [.t 65,.c (.int .i64 9)],[⟨3,some 64,none,.load none (.t 63),[]⟩]⟩,oE 6 67 .sub 66 1,⟨8,some 69,none,.call 396 [.t 68,.c (.int .i64 5)],[⟨3,some 64,none,.load none (.t 63),[]⟩]⟩,oE 9 70 .sub 69 1,oP 10 71 (.build (.agg [.int .i64 0,.int .i64 0]) [(0,1,.t 67),(1,1,.t 70)]),oP 11 72 (.iaddr 2 (.t 64) (.c (.int .i64 0))),oT 12 2 72 71]
def qFC:List qB:=[oU 0 75 3,oX 1 76 3 0,oM 2 77 0,oP 3 78 (.call 1084 [.t 77,.c (.int .i64 5),.c (.int .i64 0)]),oP 4 79 (.bslice 5 (.agg [.int .i64 0,.int .i64 0,.int .i64 0,.nils,.nils]) 1 [(0,.t 78)]),oP 5 80 (.app 5 (.t 76) (.t 79)),oU 6 81 3,oS 7 3 0 1 80]
def qE3:qD:=.cond (.t 45) (.reg true qFA) (sr [oE 0 60 .eql 20 4,oM 1 59 60] (.cond (.t 59) (.reg true qFB) (sr [oE 0 74 .eql 20 5,oM 1 73 74] (.cond (.t 73) (.reg true qFC) .skip))))
def qE4:qD:=sr [oE 0 30 .eql 20 1,oM 1 29 30] (.cond (.t 29) (.reg true qE8) (sr [oE 0 38 .eql 20 2,oM 1 37 38] (.cond (.t 37) (.reg true qE9) (sr [oE 0 46 .eql 20 3,oM 1 45 46] qE3))))
def qE1:qD:=.seq (sr [oM 0 19 0,oP 1 20 (.call 396 [.t 19,.c (.int .i64 6)])] (.blk 0 (sr [oE 0 22 .eql 20 0,oM 1 21 22] (.cond (.t 21) (.reg true qE7) qE4)))) (sr [oY 0 82 3 0 1,oS 1 2 0 1 82] .ret)
def qE2:qD:=sr qE5 (.seq (sr [oM 0 7 0,oP 1 8 (.call 440 [.t 7,.c (.int .i64 14)]),oJ 2 9 8] (.cond (.t 9) (sr [oY 0 10 3 0 1,oS 1 2 0 1 10] .ret) .skip)) (sr qE6 qE1))
def YI:qK:=⟨1,83,[.l 2 (some 1)],sr [oP 0 2 (.lalloc (.agg [.nils]))] qE2⟩
def qCF:List qB:=[oM 0 14 0,oM 1 15 3,oM 2 16 0,oP 3 17 (.call 396 [.t 16,.c (.int .i64 6)]),oP 4 18 (.call 708 [.t 14,.t 15,.t 17,.c (.bool false)]),oP 5 4 (.halloc 1 (.agg [.nils])),oT 6 1 4 18]
def qCG:List qB:=[oM 0 27 0,oM 1 28 0,oP 2 29 (.bslice 1 (.int .i64 0) 2 [(0,.c (.int .i64 5)),(1,.c (.int .i64 6))]),oD2 3 30 451 28 29,oP 4 31 (.call 709 [.t 27,.t 4,.t 30,.c (.int .i64 0)]),oM 5 7 31]
def qCH:List qB:=[oM 0 32 6,oP 1 33 (.build (.agg [.int .i64 0,.int .i64 0]) [(0,1,.t 32)]),oM 2 34 7,oP 3 35 (.build (.agg [.int .i64 0,.int .i64 0]) [(0,1,.t 34)]),oP 4 36 (.call 491 [.t 4,.t 33,.t 35])]
def qCC:qD:=.seq (.blk 1 (sr [oM 0 25 0,oP 1 26 (.call 709 [.t 25,.t 4,.c (.int .i64 6),.c (.int .i64 0)]),oM 2 6 26] (sr qCG (.reg true qCH)))) (.reg true [oM 0 23 5,oE 1 24 .sub 23 1,oM 2 5 24])
def qCD:qD:=sr [oM 0 19 0,oP 1 20 (.call 396 [.t 19,.c (.int .i64 4)]),oM 2 5 20] (.blk 0 (.loop (.seq (sr [oM 0 21 5,oE 1 22 .gtr 21 0] (.cond (.t 22) .skip (.exit 0))) qCC)))
def qCE:qD:=.seq (sr [oM 0 8 0,oP 1 9 (.call 440 [.t 8,.c (.int .i64 14)])] (.cond (.t 9) (sr [oM 0 10 0,oD1 1 11 699 10,oS 2 2 0 1 11] .ret) .skip)) (sr [oM 0 12 0,oP 1 13 (.call 396 [.t 12,.c (.int .i64 5)]),oM 2 3 13] (sr qCF (.seq qCD (sr [oP 0 37 (.load (some 1) (.t 4)),oS 1 2 0 1 37] .ret))))
def Xz:qK:=⟨1,38,[.l 2 (some 1)],sr [oP 0 2 (.lalloc (.agg [.nils]))] qCE⟩
def qEP:List qB:=[oM 0 7 3,oD1 1 8 317 7,oP 2 4 (.halloc 1 (.agg [.nils])),oT 3 1 4 8]
def qEQ:List qB:=[oP 0 11 (.build (.agg [.int .i64 0,.int .i64 0]) [(0,1,.c (.int .i64 1))]),oP 1 12 (.bslice 2 (.agg [.int .i64 0,.int .i64 0]) 1 [(0,.t 11)]),oP 2 13 (.build (.agg [.int .i64 0,.int .i64 0,.int .i64 0,.nils,.nils]) [(0,1,.c (.int .i64 1)),(4,1,.t 12)]),oP 3 14 (.build (.agg [.int .i64 0,.int .i64 0]) []),oP 4 15 (.bslice 2 (.agg [.int .i64 0,.int .i64 0]) 1 [(0,.t 14)]),oP 5 16 (.build (.agg [.int .i64 0,.int .i64 0,.int .i64 0,.nils,.nils]) [(0,1,.c (.int .i64 6)),(2,1,.c (.int .i64 1)),(4,1,.t 15)]),oP 6 17 (.bslice 5 (.agg [.int .i64 0,.int .i64 0,.int .i64 0,.nils,.nils]) 2 [(0,.t 13),(1,.t 16)]),oP 7 18 (.build (.agg [.nils]) [(0,1,.t 17)]),oS 8 2 0 1 18]
def qEO:qD:=sr [oM 0 5 0,oD1 1 6 316 5,oM 2 3 6] (sr qEP (.seq (sr [oD1 0 9 318 4] (.cond (.t 9) (sr [oP 0 10 (.load (some 1) (.t 4)),oS 1 2 0 1 10] .ret) .skip)) (sr qEQ .ret)))
def F61:qK:=⟨1,19,[.l 2 (some 1)],sr [oP 0 2 (.lalloc (.agg [.nils]))] qEO⟩
def qC9:List qB:=[oP 0 12 (.mkmap),oM 1 13 1,oN 2 (.mupd (.t 12) (.t 13) (.c (.bool true))),oM 3 14 12,oM 4 6 14]
def qDA:List qB:=[oM 0 15 7,oM 1 16 5,oW 2 17 16,oB 3 18 .lss 15 17]
def qDB:List qB:=[oM 0 21 0,oK 1 22 21,oF 2 23 0 22,oL 3 24 23,oM 4 25 5,oM 5 26 7,oA 6 27 1 25 26,oL 7 28 27,oA 8 29 5 24 28,oF 9 30 4 29,oL 10 31 30,oW 11 32 31,oC 12 33 0]
def qDC:List qB:=[oA 0 35 2 31 33,oP 1 36 (.load (some 2) (.t 35)),oP 2 9 (.lalloc (.agg [.int .i64 0,.int .i64 0])),oS 3 9 0 2 36]
def qDD:List qB:=[oM 0 37 6,oU 1 38 9,oX 2 39 9 0,oP 3 40 (.look (.bool false) (.t 37) (.t 39) false),oJ 4 41 40]
def qDE:List qB:=[oM 0 42 6,oU 1 43 9,oX 2 44 9 0,oN 3 (.mupd (.t 42) (.t 44) (.c (.bool true)))]
def qDF:List qB:=[oM 0 45 5,oU 1 46 9,oX 2 47 9 0,oP 3 48 (.bslice 1 (.int .i64 0) 1 [(0,.t 47)]),oP 4 49 (.app 1 (.t 45) (.t 48)),oM 5 5 49]
def qC6:qD:=sr [oB 0 34 .lss 33 32] (.seq (.cond (.t 34) .skip (.exit 2)) (.seq (.blk 3 (sr qDC (sr qDD (.cond (.t 41) (sr qDE (.reg true qDF)) .skip)))) (.reg true [oE 0 50 .add 33 1,oM 1 33 50])))
def qC7:qD:=.loop (.seq (sr qDA (.cond (.t 18) .skip (.exit 0))) (.seq (.blk 1 (sr qDB (.blk 2 (.loop qC6)))) (.reg true [oM 0 19 7,oE 1 20 .add 19 1,oM 2 7 20])))
def qC8:qD:=sr [oM 0 10 1,oP 1 11 (.bslice 1 (.int .i64 0) 1 [(0,.t 10)]),oM 2 5 11] (sr qC9 (.seq (sr [oC 0 7 0] (.blk 0 qC7)) (sr [oM 0 51 5,oM 1 4 51] .ret)))
def X6:qK:=⟨2,52,[.t 4],sr [oP 0 4 (.mov (.c (.nils)))] qC8⟩
def Ke:List qB:=[oM 0 3 0,oM 1 4 0,oB 2 5 .neq 3 4,oM 3 2 5]
def XT:qK:=⟨1,6,[.t 2],sr [oQ 0 2 false] (sr Ke .ret)⟩
def kU:List qB:=[oM 0 5 0,oD1 1 6 1167 5,oM 2 7 6,oH 3 8 7 true 1,oG 4 9 7 true (.call 1167 [.t 8]),oG 5 10 7 true (.not (.t 9)),oPf 6 11 7 10,oM 7 12 11,oH 8 13 12 false 0,oH 9 14 12 false 1,oG 10 15 12 false (.bin .lss (.t 13) (.t 14)),oPt 11 16 12 15,oM 12 4 16]
def Xa:qK:=⟨2,17,[.t 4],sr [oQ 0 4 false] (sr kU .ret)⟩
def Kh:List qB:=[oM 0 16 7,oM 1 17 1,oB 2 18 .gtr 16 17,oM 3 19 18,oH 4 20 19 true 0,oH 5 21 19 true 7,oG 6 22 19 true (.iaddr 1 (.t 20) (.t 21)),oG 7 23 19 true (.load none (.t 22)),oH 8 24 19 true 0,oH 9 25 19 true 7,oG 10 26 19 true (.bin .sub (.t 25) (.c (.int .i64 1))),oG 11 27 19 true (.iaddr 1 (.t 24) (.t 26)),oG 12 28 19 true (.load none (.t 27)),oG 13 29 19 true (.call 1345 [.t 23,.t 28]),oPf 14 30 19 29]
def Ki:List qB:=[oM 0 33 0,oM 1 34 7,oM 2 35 0,oM 3 36 7,oE 4 37 .sub 36 1,oM 5 38 0,oM 6 39 7,oE 7 40 .sub 39 1,oA 8 41 1 38 40,oL 9 42 41,oM 10 43 0,oM 11 44 7,oA 12 45 1 43 44,oL 13 46 45,oA 14 47 1 33 34,oT 15 1 47 42,oA 16 48 1 35 37,oT 17 1 48 46]
def Kf:qD:=sr [oM 0 15 6,oM 1 7 15] (.blk 2 (.loop (.seq (sr Kh (.cond (.t 30) .skip (.exit 2))) (.seq (.blk 3 (.reg true Ki)) (.reg true [oM 0 31 7,oE 1 32 .sub 31 1,oM 2 7 32])))))
def Kg:qD:=.loop (.seq (sr [oM 0 10 6,oM 1 11 2,oB 2 12 .lss 10 11] (.cond (.t 12) .skip (.exit 0))) (.seq (.blk 1 Kf) (.reg true [oM 0 13 6,oE 1 14 .add 13 1,oM 2 6 14])))
def XU:qK:=⟨3,49,[],sr [oM 0 8 1,oE 1 9 .add 8 1,oM 2 6 9] (.blk 0 Kg)⟩
def qBS:List qB:=[oM 0 11 8,oP 1 12 (.bin .mul (.c (.int .i64 2)) (.t 11)),oE 2 13 .add 12 1,oM 3 9 13]
def qBT:List qB:=[oM 0 17 9,oE 1 18 .add 17 1,oM 2 19 2,oB 3 20 .lss 18 19,oM 4 21 20,oH 5 22 21 true 0,oH 6 23 21 true 3,oH 7 24 21 true 9,oG 8 25 21 true (.bin .add (.t 23) (.t 24)),oG 9 26 21 true (.iaddr 1 (.t 22) (.t 25)),oG 10 27 21 true (.load none (.t 26)),oH 11 28 21 true 0,oH 12 29 21 true 3,oH 13 30 21 true 9,oG 14 31 21 true (.bin .add (.t 29) (.t 30)),oG 15 32 21 true (.bin .add (.t 31) (.c (.int .i64 1))),oG 16 33 21 true (.iaddr 1 (.t 28) (.t 32)),oG 17 34 21 true (.load none (.t 33)),oG 18 35 21 true (.call 1345 [.t 27,.t 34]),oPf 19 36 21 35]
def qBU:List qB:=[oM 0 39 0,oM 1 40 3,oM 2 41 8,oB 3 42 .add 40 41,oA 4 43 1 39 42,oL 5 44 43,oM 6 45 0,oM 7 46 3,oM 8 47 9,oB 9 48 .add 46 47,oA 10 49 1 45 48,oL 11 50 49,oD2 12 51 1345 44 50,oJ 13 52 51]
def qBV:List qB:=[oM 0 53 0,oM 1 54 3,oM 2 55 8,oB 3 56 .add 54 55,oM 4 57 0,oM 5 58 3,oM 6 59 9,oB 7 60 .add 58 59,oM 8 61 0,oM 9 62 3,oM 10 63 9,oB 11 64 .add 62 63,oA 12 65 1 61 64,oL 13 66 65,oM 14 67 0,oM 15 68 3,oM 16 69 8,oB 17 70 .add 68 69,oA 18 71 1 67 70,oL 19 72 71,oA 20 73 1 53 56,oT 21 1 73 66,oA 22 74 1 57 60,oT 23 1 74 72]
def qBR:qD:=.seq (sr qBT (.cond (.t 36) (.reg true [oM 0 37 9,oE 1 38 .add 37 1,oM 2 9 38]) .skip)) (.seq (sr qBU (.cond (.t 52) .ret .skip)) (sr qBV (.reg true [oM 0 75 9,oM 1 8 75])))
def Xo:qK:=⟨4,76,[],sr [oM 0 10 1,oM 1 8 10] (.blk 0 (.loop (.blk 1 (sr qBS (.seq (sr [oM 0 14 9,oM 1 15 2,oB 2 16 .geq 14 15] (.cond (.t 16) (.exit 0) .skip)) qBR)))))⟩
def Km:List qB:=[oM 0 12 2,oM 1 13 1,oB 2 14 .sub 12 13,oM 3 8 14]
def Kn:List qB:=[oM 0 15 8,oE 1 16 .sub 15 1,oE 2 17 .quo 16 2,oM 3 9 17]
def Ko:List qB:=[oM 0 22 0,oM 1 23 9,oM 2 24 8,oM 3 25 6,oP 4 26 (.call 1476 [.t 22,.t 23,.t 24,.t 25])]
def Kj:qD:=.loop (.seq (sr [oM 0 18 9,oE 1 19 .geq 18 0] (.cond (.t 19) .skip (.exit 0))) (.seq (.blk 1 (.reg true Ko)) (.reg true [oM 0 20 9,oE 1 21 .sub 20 1,oM 2 9 21])))
def Kp:List qB:=[oM 0 33 0,oM 1 34 6,oM 2 35 0,oM 3 36 6,oM 4 37 10,oB 5 38 .add 36 37,oM 6 39 0,oM 7 40 6,oM 8 41 10,oB 9 42 .add 40 41,oA 10 43 1 39 42,oL 11 44 43,oM 12 45 0,oM 13 46 6,oA 14 47 1 45 46,oL 15 48 47,oA 16 49 1 33 34,oT 17 1 49 44,oA 18 50 1 35 38,oT 19 1 50 48]
def Kq:List qB:=[oM 0 51 0,oM 1 52 7,oM 2 53 10,oM 3 54 6,oP 4 55 (.call 1476 [.t 51,.t 52,.t 53,.t 54])]
def Kk:qD:=.seq (sr [oM 0 29 10,oE 1 30 .geq 29 0] (.cond (.t 30) .skip (.exit 2))) (.seq (.blk 3 (sr Kp (.reg true Kq))) (.reg true [oM 0 31 10,oE 1 32 .sub 31 1,oM 2 10 32]))
def Kl:qD:=sr [oC 0 7 0] (sr Km (.seq (sr Kn (.blk 0 Kj)) (sr [oM 0 27 8,oE 1 28 .sub 27 1,oM 2 10 28] (.blk 2 (.loop Kk)))))
def XV:qK:=⟨3,56,[],sr [oM 0 11 1,oM 1 6 11] Kl⟩
def qAK:qD:=sr [oM 0 3 0,oP 1 4 (.bin .geq (.t 3) (.c (.int .u32 65536)))] (.cond (.t 4) (sr [oM 0 5 0,oP 1 6 (.shft .shr (.t 5) (.c (.int .u64 16))),oM 2 0 6] (.reg true [oC 0 2 16])) .skip)
def qAL:qD:=sr [oM 0 7 0,oP 1 8 (.bin .geq (.t 7) (.c (.int .u32 256)))] (.cond (.t 8) (sr [oM 0 9 0,oP 1 10 (.shft .shr (.t 9) (.c (.int .u64 8))),oM 2 0 10] (.reg true [oM 0 11 2,oE 1 12 .add 11 8,oM 2 2 12])) .skip)
def qAM:List qB:=[oM 0 13 2,oM 1 14 0,oP 2 15 (.conv .u8 (.t 14)),oP 3 16 (.sidx (.c (.str [0,1,2,2,3,3,3,3,4,4,4,4,4,4,4,4,5,5,5,5,5,5,5,5,5,5,5,5,5,5,5,5,6,6,6,6,6,6,6,6,6,6,6,6,6,6,6,6,6,6,6,6,6,6,6,6,6,6,6,6,6,6,6,6,7,7,7,7,7,7,7,7,7,7,7,7,7,7,7,7,7,7,7,7,7,7,7,7,7,7,7,7,7,7,7,7,7,7,7,7,7,7,7,7,7,7,7,7,7,7,7,7,7,7,7,7,7,7,7,7,7,7,7,7,7,7,7,7,8,8,8,8,8,8,8,8,8,8,8,8,8,8,8,8,8,8,8,8,8,8,8,8,8,8,8,8,8,8,8,8,8,8,8,8,8,8,8,8,8,8,8,8,8,8,8,8,8,8,8,8,8,8,8,8,8,8,8,8,8,8,8,8,8,8,8,8,8,8,8,8,8,8,8,8,8,8,8,8,8,8,8,8,8,8,8,8,8,8,8,8,8,8,8,8,8,8,8,8,8,8,8,8,8,8,8,8,8,8,8,8,8,8,8,8,8,8,8,8,8,8,8,8,8,8,8,8])) (.t 15)),oP 4 17 (.conv .i64 (.t 16)),oB 5 18 .add 13 17,oM 6 2 18]
def qL2:qK:=⟨1,19,[.t 2],sr [oC 0 2 0] (.seq qAK (.seq qAL (sr qAM .ret)))⟩
def qAN:qD:=sr [oM 0 3 0,oP 1 4 (.bin .geq (.t 3) (.c (.int .u64 4294967296)))] (.cond (.t 4) (sr [oM 0 5 0,oP 1 6 (.shft .shr (.t 5) (.c (.int .u64 32))),oM 2 0 6] (.reg true [oC 0 2 32])) .skip)
def qAO:qD:=sr [oM 0 7 0,oP 1 8 (.bin .geq (.t 7) (.c (.int .u64 65536)))] (.cond (.t 8) (sr [oM 0 9 0,oP 1 10 (.shft .shr (.t 9) (.c (.int .u64 16))),oM 2 0 10] (.reg true [oM 0 11 2,oE 1 12 .add 11 16,oM 2 2 12])) .skip)
def qAP:qD:=sr [oM 0 13 0,oP 1 14 (.bin .geq (.t 13) (.c (.int .u64 256)))] (.cond (.t 14) (sr [oM 0 15 0,oP 1 16 (.shft .shr (.t 15) (.c (.int .u64 8))),oM 2 0 16] (.reg true [oM 0 17 2,oE 1 18 .add 17 8,oM 2 2 18])) .skip)
def qAQ:List qB:=[oM 0 19 2,oM 1 20 0,oP 2 21 (.conv .u8 (.t 20)),oP 3 22 (.sidx (.c (.str [0,1,2,2,3,3,3,3,4,4,4,4,4,4,4,4,5,5,5,5,5,5,5,5,5,5,5,5,5,5,5,5,6,6,6,6,6,6,6,6,6,6,6,6,6,6,6,6,6,6,6,6,6,6,6,6,6,6,6,6,6,6,6,6,7,7,7,7,7,7,7,7,7,7,7,7,7,7,7,7,7,7,7,7,7,7,7,7,7,7,7,7,7,7,7,7,7,7,7,7,7,7,7,7,7,7,7,7,7,7,7,7,7,7,7,7,7,7,7,7,7,7,7,7,7,7,7,7,8,8,8,8,8,8,8,8,8,8,8,8,8,8,8,8,8,8,8,8,8,8,8,8,8,8,8,8,8,8,8,8,8,8,8,8,8,8,8,8,8,8,8,8,8,8,8,8,8,8,8,8,8,8,8,8,8,8,8,8,8,8,8,8,8,8,8,8,8,8,8,8,8,8,8,8,8,8,8,8,8,8,8,8,8,8,8,8,8,8,8,8,8,8,8,8,8,8,8,8,8,8,8,8,8,8,8,8,8,8,8,8,8,8,8,8,8,8,8,8,8,8,8,8,8,8,8,8])) (.t 21)),oP 4 23 (.conv .i64 (.t 22)),oB 5 24 .add 19 23,oM 6 2 24]
def Xd:qK:=⟨1,25,[.t 2],sr [oC 0 2 0] (.seq qAN (.seq qAO (.seq qAP (sr qAQ .ret))))⟩
def Uh:List qB:=[oM 0 3 0,oP 1 4 (.conv .u32 (.t 3)),oD1 2 5 1348 4,oM 3 2 5]
def XI:qK:=⟨1,8,[.t 2],sr [oC 0 2 0] (.seq (.cond (.c (.bool false)) (sr Uh .ret) .skip) (sr [oM 0 6 0,oD1 1 7 1349 6,oM 2 2 7] .ret))⟩
def qBW:List qB:=[oM 0 3 0,oP 1 4 (.conv .u64 (.t 3)),oD1 2 5 1054 4,oP 3 6 (.shft .shl (.c (.int .u64 1)) (.t 5)),oM 4 2 6]
def Xp:qK:=⟨1,7,[.t 2],sr [oP 0 2 (.mov (.c (.int .u64 0)))] (sr qBW .ret)⟩
def qBX:List qB:=[oM 0 3 0,oK 1 4 3,oL 2 5 4,oM 3 6 0,oK 4 7 6,oL 5 8 7,oP 6 9 (.shft .shl (.t 8) (.c (.int .u64 13))),oB 7 10 .xor 5 9,oK 8 11 3,oT 9 1 11 10]
def qBY:List qB:=[oM 0 12 0,oK 1 13 12,oL 2 14 13,oM 3 15 0,oK 4 16 15,oL 5 17 16,oP 6 18 (.shft .shr (.t 17) (.c (.int .u64 7))),oB 7 19 .xor 14 18,oK 8 20 12,oT 9 1 20 19]
def qBZ:List qB:=[oM 0 21 0,oK 1 22 21,oL 2 23 22,oM 3 24 0,oK 4 25 24,oL 5 26 25,oP 6 27 (.shft .shl (.t 26) (.c (.int .u64 17))),oB 7 28 .xor 23 27,oK 8 29 21,oT 9 1 29 28]
def qB0:List qB:=[oM 0 30 0,oK 1 31 30,oL 2 32 31,oM 3 2 32]
def Xq:qK:=⟨1,33,[.t 2],sr [oP 0 2 (.mov (.c (.int .u64 0)))] (sr qBX (sr qBY (sr qBZ (sr qB0 .ret))))⟩
def Kt:List qB:=[oM 0 11 2,oM 1 12 1,oB 2 13 .sub 11 12,oM 3 6 13]
def Ku:List qB:=[oM 0 16 6,oP 1 17 (.conv .u64 (.t 16)),oP 2 7 (.halloc 1 (.int .u64 0)),oT 3 1 7 17]
def Kv:List qB:=[oM 0 20 1,oM 1 21 6,oE 2 22 .quo 21 4,oE 3 23 .mul 22 2,oB 4 24 .add 20 23,oE 5 25 .sub 24 1,oM 6 9 25]
def Kw:List qB:=[oM 0 26 9,oM 1 27 1,oM 2 28 6,oE 3 29 .quo 28 4,oE 4 30 .mul 29 2,oB 5 31 .add 27 30,oE 6 32 .add 31 1,oB 7 33 .leq 26 32]
def Kx:List qB:=[oD1 0 36 1478 7,oM 1 37 8,oP 2 38 (.bin .sub (.t 37) (.c (.int .u64 1))),oB 3 39 .and 36 38,oP 4 40 (.conv .i64 (.t 39)),oM 5 10 40]
def Ky:List qB:=[oM 0 44 10,oM 1 45 6,oB 2 46 .sub 44 45,oM 3 10 46]
def Kz:List qB:=[oM 0 47 0,oM 1 48 9,oM 2 49 0,oM 3 50 1,oM 4 51 10,oB 5 52 .add 50 51,oM 6 53 0,oM 7 54 1,oM 8 55 10,oB 9 56 .add 54 55,oA 10 57 1 53 56,oL 11 58 57,oM 12 59 0,oM 13 60 9,oA 14 61 1 59 60,oL 15 62 61,oA 16 63 1 47 48,oT 17 1 63 58,oA 18 64 1 49 52,oT 19 1 64 62]
def Kr:qD:=.seq (.blk 1 (sr Kx (.seq (sr [oM 0 41 10,oM 1 42 6,oB 2 43 .geq 41 42] (.cond (.t 43) (.reg true Ky) .skip)) (.reg true Kz)))) (.reg true [oM 0 34 9,oE 1 35 .add 34 1,oM 2 9 35])
def Ks:qD:=sr Ku (sr [oM 0 18 6,oD1 1 19 1477 18,oM 2 8 19] (sr Kv (.blk 0 (.loop (.seq (sr Kw (.cond (.t 33) .skip (.exit 0))) Kr)))))
def XW:qK:=⟨3,65,[],sr Kt (sr [oM 0 14 6,oE 1 15 .geq 14 8] (.cond (.t 15) Ks .skip))⟩
def qB7:List qB:=[oM 0 10 0,oM 1 11 2,oA 2 12 1 10 11,oL 3 13 12,oM 4 14 0,oM 5 15 1,oA 6 16 1 14 15,oL 7 17 16,oD2 8 18 1345 13 17]
def qB8:List qB:=[oM 0 19 3,oK 1 20 19,oL 2 21 20,oE 3 22 .add 21 1,oK 4 23 19,oT 5 1 23 22]
def qB9:List qB:=[oM 0 24 2,oM 1 25 1,oM 2 8 24,oM 3 9 25]
def qCA:List qB:=[oM 0 26 1,oM 1 27 2,oM 2 8 26,oM 3 9 27]
def Xx:qK:=⟨4,28,[.t 8,.t 9],sr [oC 0 8 0,oC 1 9 0] (.seq (sr qB7 (.cond (.t 18) (sr qB8 (sr qB9 .ret)) .skip)) (sr qCA .ret))⟩
def qB2:List qB:=[oM 0 12 0,oM 1 13 1,oM 2 14 2,oM 3 15 4,oP 4 16 (.call 1529 [.t 12,.t 13,.t 14,.t 15]),oM 5 11 16,oV 6 17 11 0,oV 7 18 11 1,oM 8 1 17,oM 9 2 18]
def qB3:List qB:=[oM 0 20 0,oM 1 21 2,oM 2 22 3,oM 3 23 4,oP 4 24 (.call 1529 [.t 20,.t 21,.t 22,.t 23]),oM 5 19 24,oV 6 25 19 0,oV 7 26 19 1,oM 8 2 25,oM 9 3 26]
def qB4:List qB:=[oM 0 28 0,oM 1 29 1,oM 2 30 2,oM 3 31 4,oP 4 32 (.call 1529 [.t 28,.t 29,.t 30,.t 31]),oM 5 27 32,oV 6 33 27 0,oV 7 34 27 1,oM 8 1 33,oM 9 2 34]
def Xs:qK:=⟨5,36,[.t 10],sr [oC 0 10 0] (sr qB2 (sr qB3 (sr qB4 (sr [oM 0 35 2,oM 1 10 35] .ret))))⟩
def qB1:List qB:=[oM 0 7 0,oM 1 8 1,oE 2 9 .sub 8 1,oM 3 10 1,oM 4 11 1,oE 5 12 .add 11 1,oM 6 13 2,oP 7 14 (.call 1480 [.t 7,.t 9,.t 10,.t 12,.t 13]),oM 8 6 14]
def Xr:qK:=⟨3,15,[.t 6],sr [oC 0 6 0] (sr qB1 .ret)⟩
def K3:List qB:=[oM 0 13 2,oM 1 14 1,oB 2 15 .sub 13 14,oM 3 8 15]
def K4:List qB:=[oM 0 16 1,oM 1 17 8,oE 2 18 .quo 17 4,oE 3 19 .mul 18 1,oB 4 20 .add 16 19,oM 5 10 20]
def K5:List qB:=[oM 0 21 1,oM 1 22 8,oE 2 23 .quo 22 4,oE 3 24 .mul 23 2,oB 4 25 .add 21 24,oM 5 11 25]
def K6:List qB:=[oM 0 26 1,oM 1 27 8,oE 2 28 .quo 27 4,oE 3 29 .mul 28 3,oB 4 30 .add 26 29,oM 5 12 30]
def K7:List qB:=[oM 0 35 0,oM 1 36 10,oP 2 37 (.call 1479 [.t 35,.t 36,.t 9]),oM 3 10 37]
def K8:List qB:=[oM 0 38 0,oM 1 39 11,oP 2 40 (.call 1479 [.t 38,.t 39,.t 9]),oM 3 11 40]
def K9:List qB:=[oM 0 41 0,oM 1 42 12,oP 2 43 (.call 1479 [.t 41,.t 42,.t 9]),oM 3 12 43]
def kA:List qB:=[oM 0 44 0,oM 1 45 10,oM 2 46 11,oM 3 47 12,oP 4 48 (.call 1480 [.t 44,.t 45,.t 46,.t 47,.t 9]),oM 5 11 48]
def K1:qD:=sr [oM 0 31 8,oE 1 32 .geq 31 8] (.cond (.t 32) (.seq (sr [oM 0 33 8,oE 1 34 .geq 33 50] (.cond (.t 34) (sr K7 (sr K8 (.reg true K9))) .skip)) (.reg true kA)) .skip)
def K2:qD:=sr [oE 0 55 .eql 49 12,oM 1 54 55] (.cond (.t 54) (sr [oM 0 56 11,oM 1 6 56,oC 2 7 2] .ret) (sr [oM 0 50 11,oM 1 6 50,oC 2 7 0] .ret))
def K0:qD:=sr [oL 0 49 9] (.blk 0 (sr [oE 0 52 .eql 49 0,oM 1 51 52] (.cond (.t 51) (sr [oM 0 53 11,oM 1 6 53,oC 2 7 1] .ret) K2)))
def XX:qK:=⟨3,57,[.t 6,.t 7],sr [oC 0 6 0,oC 1 7 0] (sr K3 (sr [oP 0 9 (.halloc 1 (.int .i64 0))] (sr K4 (sr K5 (sr K6 (.seq K1 K0))))))⟩
def kD:List qB:=[oM 0 14 0,oM 1 15 6,oM 2 16 0,oM 3 17 7,oM 4 18 0,oM 5 19 7,oA 6 20 1 18 19,oL 7 21 20,oM 8 22 0,oM 9 23 6,oA 10 24 1 22 23,oL 11 25 24,oA 12 26 1 14 15,oT 13 1 26 21,oA 14 27 1 16 17,oT 15 1 27 25]
def kB:qD:=sr kD (sr [oM 0 28 6,oE 1 29 .add 28 1,oM 2 6 29] (.reg true [oM 0 30 7,oE 1 31 .sub 30 1,oM 2 7 31]))
def kC:qD:=sr [oM 0 9 2,oE 1 10 .sub 9 1,oM 2 7 10] (.blk 0 (.loop (.seq (sr [oM 0 11 6,oM 1 12 7,oB 2 13 .lss 11 12] (.cond (.t 13) .skip (.exit 0))) (.blk 1 kB))))
def XY:qK:=⟨3,32,[],sr [oM 0 8 1,oM 1 6 8] kC⟩
def kL:List qB:=[oM 0 17 7,oM 1 18 2,oB 2 19 .lss 17 18,oM 3 20 19,oH 4 21 20 true 0,oH 5 22 20 true 7,oG 6 23 20 true (.iaddr 1 (.t 21) (.t 22)),oG 7 24 20 true (.load none (.t 23)),oH 8 25 20 true 0,oH 9 26 20 true 7,oG 10 27 20 true (.bin .sub (.t 26) (.c (.int .i64 1))),oG 11 28 20 true (.iaddr 1 (.t 25) (.t 27)),oG 12 29 20 true (.load none (.t 28)),oG 13 30 20 true (.call 1345 [.t 24,.t 29]),oG 14 31 20 true (.not (.t 30)),oPf 15 32 20 31]
def kM:List qB:=[oM 0 38 2,oM 1 39 1,oB 2 40 .sub 38 39,oE 3 41 .lss 40 50]
def kN:List qB:=[oM 0 42 0,oM 1 43 7,oM 2 44 0,oM 3 45 7,oE 4 46 .sub 45 1,oM 5 47 0,oM 6 48 7,oE 7 49 .sub 48 1,oA 8 50 1 47 49,oL 9 51 50,oM 10 52 0,oM 11 53 7,oA 12 54 1 52 53,oL 13 55 54,oA 14 56 1 42 43,oT 15 1 56 51,oA 16 57 1 44 46,oT 17 1 57 55]
def kO:List qB:=[oM 0 58 7,oM 1 59 1,oB 2 60 .sub 58 59,oE 3 61 .geq 60 2]
def kP:List qB:=[oM 0 68 0,oM 1 69 9,oA 2 70 1 68 69,oL 3 71 70,oM 4 72 0,oM 5 73 9,oE 6 74 .sub 73 1,oA 7 75 1 72 74,oL 8 76 75,oD2 9 77 1345 71 76,oJ 10 78 77]
def kQ:List qB:=[oM 0 79 0,oM 1 80 9,oM 2 81 0,oM 3 82 9,oE 4 83 .sub 82 1,oM 5 84 0,oM 6 85 9,oE 7 86 .sub 85 1,oA 8 87 1 84 86,oL 9 88 87,oM 10 89 0,oM 11 90 9,oA 12 91 1 89 90,oL 13 92 91,oA 14 93 1 79 80,oT 15 1 93 88,oA 16 94 1 81 83,oT 17 1 94 92]
def kK:qD:=.seq (sr [oM 0 64 9,oE 1 65 .geq 64 1] (.cond (.t 65) .skip (.exit 4))) (.seq (.blk 5 (.seq (sr kP (.cond (.t 78) (.exit 4) .skip)) (.reg true kQ))) (.reg true [oM 0 66 9,oE 1 67 .sub 66 1,oM 2 9 67]))
def kR:List qB:=[oM 0 95 2,oM 1 96 7,oB 2 97 .sub 95 96,oE 3 98 .geq 97 2]
def kS:List qB:=[oM 0 106 0,oM 1 107 10,oA 2 108 1 106 107,oL 3 109 108,oM 4 110 0,oM 5 111 10,oE 6 112 .sub 111 1,oA 7 113 1 110 112,oL 8 114 113,oD2 9 115 1345 109 114,oJ 10 116 115]
def kT:List qB:=[oM 0 117 0,oM 1 118 10,oM 2 119 0,oM 3 120 10,oE 4 121 .sub 120 1,oM 5 122 0,oM 6 123 10,oE 7 124 .sub 123 1,oA 8 125 1 122 124,oL 9 126 125,oM 10 127 0,oM 11 128 10,oA 12 129 1 127 128,oL 13 130 129,oA 14 131 1 117 118,oT 15 1 131 126,oA 16 132 1 119 121,oT 17 1 132 130]
def kE:qD:=.seq (sr [oM 0 101 10,oM 1 102 2,oB 2 103 .lss 101 102] (.cond (.t 103) .skip (.exit 6))) (.seq (.blk 7 (.seq (sr kS (.cond (.t 116) (.exit 6) .skip)) (.reg true kT))) (.reg true [oM 0 104 10,oE 1 105 .add 104 1,oM 2 10 105]))
def kF:qD:=.seq (sr kO (.cond (.t 61) (sr [oM 0 62 7,oE 1 63 .sub 62 1,oM 2 9 63] (.blk 4 (.loop kK))) .skip)) (sr kR (.cond (.t 98) (sr [oM 0 99 7,oE 1 100 .add 99 1,oM 2 10 100] (.blk 6 (.loop kE))) .skip))
def kG:qD:=.seq (sr [oM 0 35 7,oM 1 36 2,oB 2 37 .eql 35 36] (.cond (.t 37) (sr [oQ 0 6 true] .ret) .skip)) (.seq (sr kM (.cond (.t 41) (sr [oQ 0 6 false] .ret) .skip)) (sr kN kF))
def kH:qD:=.seq (.blk 1 (.seq (.blk 2 (.loop (.seq (sr kL (.cond (.t 32) .skip (.exit 2))) (.blk 3 (.reg true [oM 0 33 7,oE 1 34 .add 33 1,oM 2 7 34]))))) kG)) (.reg true [oM 0 15 8,oE 1 16 .add 15 1,oM 2 8 16])
def kJ:qD:=.seq (sr [oC 0 8 0] (.blk 0 (.loop (.seq (sr [oM 0 13 8,oE 1 14 .lss 13 5] (.cond (.t 14) .skip (.exit 0))) kH)))) (sr [oQ 0 6 false] .ret)
def XZ:qK:=⟨3,133,[.t 6],sr [oQ 0 6 false] (sr [oM 0 11 1,oE 1 12 .add 11 1,oM 2 7 12] kJ)⟩
def kY:List qB:=[oM 0 11 0,oM 1 12 1,oM 2 13 0,oM 3 14 3,oM 4 15 0,oM 5 16 3,oA 6 17 1 15 16,oL 7 18 17,oM 8 19 0,oM 9 20 1,oA 10 21 1 19 20,oL 11 22 21,oA 12 23 1 11 12,oT 13 1 23 18,oA 14 24 1 13 14,oT 15 1 24 22]
def kZ:List qB:=[oM 0 25 1,oE 1 26 .add 25 1,oM 2 27 2,oE 3 28 .sub 27 1,oM 4 9 26,oM 5 10 28]
def ke:List qB:=[oM 0 29 9,oM 1 30 10,oB 2 31 .leq 29 30,oM 3 32 31,oH 4 33 32 true 0,oH 5 34 32 true 1,oG 6 35 32 true (.iaddr 1 (.t 33) (.t 34)),oG 7 36 32 true (.load none (.t 35)),oH 8 37 32 true 0,oH 9 38 32 true 9,oG 10 39 32 true (.iaddr 1 (.t 37) (.t 38)),oG 11 40 32 true (.load none (.t 39)),oG 12 41 32 true (.call 1345 [.t 36,.t 40]),oG 13 42 32 true (.not (.t 41)),oPf 14 43 32 42]
def ki:List qB:=[oM 0 46 9,oM 1 47 10,oB 2 48 .leq 46 47,oM 3 49 48,oH 4 50 49 true 0,oH 5 51 49 true 1,oG 6 52 49 true (.iaddr 1 (.t 50) (.t 51)),oG 7 53 49 true (.load none (.t 52)),oH 8 54 49 true 0,oH 9 55 49 true 10,oG 10 56 49 true (.iaddr 1 (.t 54) (.t 55)),oG 11 57 49 true (.load none (.t 56)),oG 12 58 49 true (.call 1345 [.t 53,.t 57]),oPf 13 59 49 58]
def kj:List qB:=[oM 0 65 0,oM 1 66 9,oM 2 67 0,oM 3 68 10,oM 4 69 0,oM 5 70 10,oA 6 71 1 69 70,oL 7 72 71,oM 8 73 0,oM 9 74 9,oA 10 75 1 73 74,oL 11 76 75,oA 12 77 1 65 66,oT 13 1 77 72,oA 14 78 1 67 68,oT 15 1 78 76]
def kV:qD:=sr kj (sr [oM 0 79 9,oE 1 80 .add 79 1,oM 2 9 80] (.reg true [oM 0 81 10,oE 1 82 .sub 81 1,oM 2 10 82]))
def kW:qD:=.seq (.blk 4 (.loop (.seq (sr ki (.cond (.t 59) .skip (.exit 4))) (.blk 5 (.reg true [oM 0 60 10,oE 1 61 .sub 60 1,oM 2 10 61]))))) (.seq (sr [oM 0 62 9,oM 1 63 10,oB 2 64 .gtr 62 63] (.cond (.t 64) (.exit 0) .skip)) kV)
def kX:qD:=.loop (.blk 1 (.seq (.blk 2 (.loop (.seq (sr ke (.cond (.t 43) .skip (.exit 2))) (.blk 3 (.reg true [oM 0 44 9,oE 1 45 .add 44 1,oM 2 9 45]))))) kW))
def Xb:qK:=⟨4,84,[.t 8],sr [oC 0 8 0] (sr kY (sr kZ (.seq (.blk 0 kX) (sr [oM 0 83 9,oM 1 8 83] .ret))))⟩
def qAA:List qB:=[oM 0 12 0,oM 1 13 1,oM 2 14 0,oM 3 15 3,oM 4 16 0,oM 5 17 3,oA 6 18 1 16 17,oL 7 19 18,oM 8 20 0,oM 9 21 1,oA 10 22 1 20 21,oL 11 23 22,oA 12 24 1 12 13,oT 13 1 24 19,oA 14 25 1 14 15,oT 15 1 25 23]
def qAB:List qB:=[oM 0 26 1,oE 1 27 .add 26 1,oM 2 28 2,oE 3 29 .sub 28 1,oM 4 10 27,oM 5 11 29]
def qAD:List qB:=[oM 0 30 10,oM 1 31 11,oB 2 32 .leq 30 31,oM 3 33 32,oH 4 34 33 true 0,oH 5 35 33 true 10,oG 6 36 33 true (.iaddr 1 (.t 34) (.t 35)),oG 7 37 33 true (.load none (.t 36)),oH 8 38 33 true 0,oH 9 39 33 true 1,oG 10 40 33 true (.iaddr 1 (.t 38) (.t 39)),oG 11 41 33 true (.load none (.t 40)),oG 12 42 33 true (.call 1345 [.t 37,.t 41]),oPf 13 43 33 42]
def qAE:List qB:=[oM 0 46 10,oM 1 47 11,oB 2 48 .leq 46 47,oM 3 49 48,oH 4 50 49 true 0,oH 5 51 49 true 11,oG 6 52 49 true (.iaddr 1 (.t 50) (.t 51)),oG 7 53 49 true (.load none (.t 52)),oH 8 54 49 true 0,oH 9 55 49 true 1,oG 10 56 49 true (.iaddr 1 (.t 54) (.t 55)),oG 11 57 49 true (.load none (.t 56)),oG 12 58 49 true (.call 1345 [.t 53,.t 57]),oG 13 59 49 true (.not (.t 58)),oPf 14 60 49 59]
def qAF:List qB:=[oM 0 66 0,oM 1 67 11,oM 2 68 0,oM 3 69 1,oM 4 70 0,oM 5 71 1,oA 6 72 1 70 71,oL 7 73 72,oM 8 74 0,oM 9 75 11,oA 10 76 1 74 75,oL 11 77 76,oA 12 78 1 66 67,oT 13 1 78 73,oA 14 79 1 68 69,oT 15 1 79 77]
def k9:qD:=sr [oM 0 63 10,oM 1 64 11,oB 2 65 .gtr 63 64] (.cond (.t 65) (sr qAF (sr [oM 0 80 11,oM 1 8 80,oQ 2 9 true] .ret)) .skip)
def qAG:List qB:=[oM 0 81 0,oM 1 82 10,oM 2 83 0,oM 3 84 11,oM 4 85 0,oM 5 86 11,oA 6 87 1 85 86,oL 7 88 87,oM 8 89 0,oM 9 90 10,oA 10 91 1 89 90,oL 11 92 91,oA 12 93 1 81 82,oT 13 1 93 88,oA 14 94 1 83 84,oT 15 1 94 92]
def qAH:List qB:=[oM 0 99 10,oM 1 100 11,oB 2 101 .leq 99 100,oM 3 102 101,oH 4 103 102 true 0,oH 5 104 102 true 10,oG 6 105 102 true (.iaddr 1 (.t 103) (.t 104)),oG 7 106 102 true (.load none (.t 105)),oH 8 107 102 true 0,oH 9 108 102 true 1,oG 10 109 102 true (.iaddr 1 (.t 107) (.t 108)),oG 11 110 102 true (.load none (.t 109)),oG 12 111 102 true (.call 1345 [.t 106,.t 110]),oPf 13 112 102 111]
def qAI:List qB:=[oM 0 115 10,oM 1 116 11,oB 2 117 .leq 115 116,oM 3 118 117,oH 4 119 118 true 0,oH 5 120 118 true 11,oG 6 121 118 true (.iaddr 1 (.t 119) (.t 120)),oG 7 122 118 true (.load none (.t 121)),oH 8 123 118 true 0,oH 9 124 118 true 1,oG 10 125 118 true (.iaddr 1 (.t 123) (.t 124)),oG 11 126 118 true (.load none (.t 125)),oG 12 127 118 true (.call 1345 [.t 122,.t 126]),oG 13 128 118 true (.not (.t 127)),oPf 14 129 118 128]
def qAJ:List qB:=[oM 0 135 0,oM 1 136 10,oM 2 137 0,oM 3 138 11,oM 4 139 0,oM 5 140 11,oA 6 141 1 139 140,oL 7 142 141,oM 8 143 0,oM 9 144 10,oA 10 145 1 143 144,oL 11 146 145,oA 12 147 1 135 136,oT 13 1 147 142,oA 14 148 1 137 138,oT 15 1 148 146]
def kn:qD:=sr qAJ (sr [oM 0 149 10,oE 1 150 .add 149 1,oM 2 10 150] (.reg true [oM 0 151 11,oE 1 152 .sub 151 1,oM 2 11 152]))
def kp:qD:=.seq (.blk 8 (.loop (.seq (sr qAI (.cond (.t 129) .skip (.exit 8))) (.blk 9 (.reg true [oM 0 130 11,oE 1 131 .sub 130 1,oM 2 11 131]))))) (.seq (sr [oM 0 132 10,oM 1 133 11,oB 2 134 .gtr 132 133] (.cond (.t 134) (.exit 4) .skip)) kn)
def kq:qD:=.loop (.blk 5 (.seq (.blk 6 (.loop (.seq (sr qAH (.cond (.t 112) .skip (.exit 6))) (.blk 7 (.reg true [oM 0 113 10,oE 1 114 .add 113 1,oM 2 10 114]))))) kp))
def qAC:List qB:=[oM 0 153 0,oM 1 154 11,oM 2 155 0,oM 3 156 1,oM 4 157 0,oM 5 158 1,oA 6 159 1 157 158,oL 7 160 159,oM 8 161 0,oM 9 162 11,oA 10 163 1 161 162,oL 11 164 163,oA 12 165 1 153 154,oT 13 1 165 160,oA 14 166 1 155 156,oT 15 1 166 164]
def ku:qD:=sr [oM 0 97 11,oE 1 98 .sub 97 1,oM 2 11 98] (.seq (.blk 4 kq) (sr qAC (sr [oM 0 167 11,oM 1 8 167,oQ 2 9 false] .ret)))
def kw:qD:=.seq (.blk 2 (.loop (.seq (sr qAE (.cond (.t 60) .skip (.exit 2))) (.blk 3 (.reg true [oM 0 61 11,oE 1 62 .sub 61 1,oM 2 11 62]))))) (.seq k9 (sr qAG (sr [oM 0 95 10,oE 1 96 .add 95 1,oM 2 10 96] ku)))
def kx:qD:=sr qAA (sr qAB (.seq (.blk 0 (.loop (.seq (sr qAD (.cond (.t 43) .skip (.exit 0))) (.blk 1 (.reg true [oM 0 44 10,oE 1 45 .add 44 1,oM 2 10 45]))))) kw))
def Xc:qK:=⟨4,168,[.t 8,.t 9],sr [oC 0 8 0,oQ 1 9 false] kx⟩
def UU:List qB:=[oM 0 19 2,oM 1 20 1,oB 2 21 .sub 19 20,oM 3 10 21]
def UV:List qB:=[oM 0 24 0,oM 1 25 1,oM 2 26 2,oP 3 27 (.call 1339 [.t 24,.t 25,.t 26])]
def Uc:List qB:=[oM 0 30 0,oM 1 31 1,oM 2 32 2,oP 3 33 (.call 1340 [.t 30,.t 31,.t 32])]
def Ud:List qB:=[oM 0 36 0,oM 1 37 1,oM 2 38 2,oP 3 39 (.call 1341 [.t 36,.t 37,.t 38])]
def Qn:List qB:=[oM 0 43 0,oM 1 44 1,oM 2 45 2,oP 3 46 (.call 1342 [.t 43,.t 44,.t 45]),oM 4 42 46,oV 5 47 42 0,oV 6 48 42 1,oM 7 11 47,oM 8 12 48]
@[go_sem] theorem qLW:OE Qn.eq_1:=OEM Qn.eq_1
def Ue:List qB:=[oM 0 51 0,oM 1 52 1,oM 2 53 2,oP 3 54 (.call 1343 [.t 51,.t 52,.t 53])]
def Uf:List qB:=[oM 0 55 2,oE 1 56 .sub 55 1,oM 2 57 11,oM 3 58 1,oB 4 59 .sub 57 58,oB 5 60 .sub 56 59,oM 6 11 60]
def Qo:List qB:=[oM 0 61 8,oM 1 62 61,oH 2 63 62 true 9,oPf 3 64 62 63,oM 4 65 64,oH 5 66 65 true 12,oG 6 67 65 true (.bin .eql (.t 66) (.c (.int .i64 1))),oPf 7 68 65 67]
@[go_sem] theorem qLX:OE Qo.eq_1:=OEM Qo.eq_1
def XH:List qB:=[oM 0 69 0,oM 1 70 1,oM 2 71 2,oP 3 72 (.call 1344 [.t 69,.t 70,.t 71])]
def Ug:List qB:=[oM 0 73 1,oE 1 74 .gtr 73 0,oM 2 75 74,oH 3 76 75 true 0,oH 4 77 75 true 1,oG 5 78 75 true (.bin .sub (.t 77) (.c (.int .i64 1))),oG 6 79 75 true (.iaddr 1 (.t 76) (.t 78)),oG 7 80 75 true (.load none (.t 79)),oH 8 81 75 true 0,oH 9 82 75 true 11,oG 10 83 75 true (.iaddr 1 (.t 81) (.t 82)),oG 11 84 75 true (.load none (.t 83)),oG 12 85 75 true (.call 1345 [.t 80,.t 84]),oG 13 86 75 true (.not (.t 85)),oPf 14 87 75 86]
def UW:List qB:=[oM 0 88 0,oM 1 89 1,oM 2 90 2,oM 3 91 11,oP 4 92 (.call 1346 [.t 88,.t 89,.t 90,.t 91]),oM 5 13 92]
def Qm:List qB:=[oM 0 95 0,oM 1 96 1,oM 2 97 2,oM 3 98 11,oP 4 99 (.call 1347 [.t 95,.t 96,.t 97,.t 98]),oM 5 94 99,oV 6 100 94 0,oV 7 101 94 1,oM 8 14 100,oM 9 15 101]
@[go_sem] theorem qLV:OE Qm.eq_1:=OEM Qm.eq_1
def UX:List qB:=[oM 0 103 14,oM 1 104 1,oB 2 105 .sub 103 104,oM 3 106 2,oM 4 107 14,oB 5 108 .sub 106 107,oM 6 16 105,oM 7 17 108]
def UY:List qB:=[oM 0 114 16,oM 1 115 18,oB 2 116 .geq 114 115,oM 3 8 116]
def UZ:List qB:=[oM 0 117 0,oM 1 118 1,oM 2 119 14,oM 3 120 3,oP 4 121 (.call 1053 [.t 117,.t 118,.t 119,.t 120])]
def Ua:List qB:=[oM 0 124 17,oM 1 125 18,oB 2 126 .geq 124 125,oM 3 8 126]
def Ub:List qB:=[oM 0 127 0,oM 1 128 14,oE 2 129 .add 128 1,oM 3 130 2,oM 4 131 3,oP 5 132 (.call 1053 [.t 127,.t 129,.t 130,.t 131])]
def UR:qD:=.cond (.t 113) (sr UY (sr UZ (.reg true [oM 0 122 14,oE 1 123 .add 122 1,oM 2 1 123]))) (sr Ua (sr Ub (.reg true [oM 0 133 14,oM 1 2 133])))
def Ql:qD:=sr UX (sr [oM 0 109 10,oE 1 110 .quo 109 8,oM 2 18 110] (sr [oM 0 111 16,oM 1 112 17,oB 2 113 .lss 111 112] UR))
def J1:qD:=.seq (sr Ug (.cond (.t 87) (sr UW (sr [oM 0 93 13,oM 1 1 93] (.exit 1))) .skip)) (sr Qm (sr [oM 0 102 15,oM 1 9 102] Ql))
@[go_sem] theorem qLT:CE J1.eq_1:=CEM J1.eq_1
def JT:qD:=.seq (sr [oM 0 49 12,oE 1 50 .eql 49 2] (.cond (.t 50) (sr Ue (sr Uf (.reg true [oC 0 12 1]))) .skip)) (.seq (sr Qo (.cond (.t 68) (sr XH (.cond (.t 72) .ret .skip)) .skip)) J1)
@[go_sem] theorem qLU:CE JT.eq_1:=CEM JT.eq_1
def US:qD:=.seq (sr [oM 0 34 8,oJ 1 35 34] (.cond (.t 35) (sr Ud (.reg true [oM 0 40 3,oE 1 41 .sub 40 1,oM 2 3 41])) .skip)) (sr Qn JT)
def UT:qD:=sr UU (.seq (sr [oM 0 22 10,oE 1 23 .leq 22 12] (.cond (.t 23) (sr UV .ret) .skip)) (.seq (sr [oM 0 28 3,oE 1 29 .eql 28 0] (.cond (.t 29) (sr Uc .ret) .skip)) US))
def XG:qK:=⟨4,134,[],sr [oQ 0 8 true] (sr [oQ 0 9 true] (.blk 0 (.loop (.blk 1 UT))))⟩
def qEY:List qB:=[oM 0 5 0,oM 1 6 2,oM 2 7 2,oP 3 8 (.conv .u64 (.t 7)),oD1 4 9 1054 8,oP 5 10 (.call 1053 [.t 5,.c (.int .i64 0),.t 6,.t 9])]
def YH:qK:=⟨1,11,[],sr [oM 0 3 0,oW 1 4 3,oM 2 2 4] (.reg true qEY)⟩
def qCY:List qB:=[oM 0 9 0,oK 1 10 9,oF 2 11 0 10,oL 3 12 11,oW 4 13 12,oP 5 14 (.mksl 1 (.bool false) (.t 13) (.t 13)),oM 6 4 14]
def qCZ:List qB:=[oM 0 15 0,oK 1 16 15,oF 2 17 0 16,oL 3 18 17,oW 4 19 18,oC 5 20 0]
def qC0:List qB:=[oM 0 23 4,oM 1 24 5,oA 2 25 1 23 24,oL 3 26 25]
def qC1:List qB:=[oM 0 27 0,oM 1 28 5,oD2 2 29 323 27 28,oM 3 6 29]
def qC2:List qB:=[oM 0 36 4,oM 1 37 8,oA 2 38 1 36 37,oN 3 (.store 1 (.t 38) (.c (.bool true)))]
def qCU:qD:=sr [oB 0 33 .lss 32 31] (.seq (.cond (.t 33) .skip (.exit 2)) (.seq (.blk 3 (sr [oA 0 34 1 30 32,oL 1 35 34,oM 2 8 35] (.reg true qC2))) (.reg true [oE 0 39 .add 32 1,oM 1 32 39])))
def qC3:List qB:=[oM 0 42 3,oM 1 43 6,oP 2 44 (.bslice 1 (.nils) 1 [(0,.t 43)]),oP 3 45 (.app 1 (.t 42) (.t 44)),oM 4 3 45]
def qCV:qD:=.seq (sr [oM 0 30 6,oW 1 31 30,oC 2 32 0] (.blk 2 (.loop qCU))) (sr [oM 0 40 6,oD1 1 41 678 40] (.reg true qC3))
def qCW:qD:=sr [oB 0 21 .lss 20 19] (.seq (.cond (.t 21) .skip (.exit 0)) (.seq (.blk 1 (sr [oM 0 22 20,oM 1 5 22] (.seq (sr qC0 (.cond (.t 26) (.exit 1) .skip)) (sr qC1 qCV)))) (.reg true [oE 0 46 .add 20 1,oM 1 20 46])))
def qCX:qD:=sr [oP 0 3 (.mov (.c (.nils)))] (sr qCY (.seq (sr qCZ (.blk 0 (.loop qCW))) (sr [oM 0 47 3,oM 1 2 47] .ret)))
def X3:qK:=⟨1,48,[.t 2],sr [oP 0 2 (.mov (.c (.nils)))] qCX⟩
def qER:qD:=.seq (sr [oP 0 4 (.load (some 1) (.t 1)),oD1 1 5 319 4,oJ 2 6 5] (.cond (.t 6) (sr [oP 0 2 (.mov (.c (.nils))),oC 1 3 1] .ret) .skip)) (sr [oD1 0 7 320 1,oM 1 2 7,oC 2 3 0] .ret)
def F62:qK:=⟨1,8,[.t 2,.t 3],sr [oP 0 1 (.hbox 1 (.t 0)),oP 1 2 (.mov (.c (.nils))),oC 2 3 0] qER⟩
def qC4:qD:=sr [oM 0 4 0,oP 1 5 (.call 323 [.t 4,.c (.int .i64 0)]),oM 2 3 5] (sr [oM 0 6 3,oD1 1 7 678 6] (sr [oM 0 8 3,oM 1 2 8] .ret))
def X4:qK:=⟨1,9,[.t 2],sr [oP 0 2 (.mov (.c (.nils)))] qC4⟩
def qES:qD:=.seq (sr [oP 0 4 (.load (some 1) (.t 1)),oD1 1 5 319 4,oJ 2 6 5] (.cond (.t 6) (sr [oP 0 2 (.mov (.c (.nils))),oC 1 3 1] .ret) .skip)) (sr [oD1 0 7 321 1,oM 1 2 7,oC 2 3 0] .ret)
def F63:qK:=⟨1,8,[.t 2,.t 3],sr [oP 0 1 (.hbox 1 (.t 0)),oP 1 2 (.mov (.c (.nils))),oC 2 3 0] qES⟩
def F64:qK:=Yz
def qC5:List qB:=[oM 0 5 1,oE 1 6 .geq 5 0,oM 2 7 6,oH 3 8 7 true 1,oH 4 9 7 true 0,oG 5 10 7 true (.nilchk (.t 9)),oG 6 11 7 true (.faddr 0 (.t 10)),oG 7 12 7 true (.load none (.t 11)),oG 8 13 7 true (.len (.t 12)),oG 9 14 7 true (.bin .lss (.t 8) (.t 13)),oPf 10 15 7 14,oM 11 4 15]
def X5:qK:=⟨2,16,[.t 4],sr [oQ 0 4 false] (sr qC5 .ret)⟩
def qEU:List qB:=[oM 0 12 1,oD2 1 13 323 2 12,oM 2 4 13,oC 3 5 0]
def qET:qD:=.seq (sr [oP 0 6 (.load (some 1) (.t 2)),oD1 1 7 319 6,oJ 2 8 7] (.cond (.t 8) (sr [oP 0 4 (.mov (.c (.nils))),oC 1 5 1] .ret) .skip)) (.seq (sr [oM 0 9 1,oD2 1 10 322 2 9,oJ 2 11 10] (.cond (.t 11) (sr [oP 0 4 (.mov (.c (.nils))),oC 1 5 2] .ret) .skip)) (sr qEU .ret))
def F65:qK:=⟨2,14,[.t 4,.t 5],sr [oP 0 2 (.hbox 1 (.t 0)),oP 1 4 (.mov (.c (.nils))),oC 2 5 0] qET⟩
def qEW:List qB:=[oM 0 6 5,oM 1 7 0,oW 2 8 7,oB 3 9 .lss 6 8]
def qEX:List qB:=[oM 0 12 0,oM 1 13 5,oA 2 14 1 12 13,oL 3 15 14,oM 4 16 1,oB 5 17 .eql 15 16]
def qEV:qD:=.loop (.seq (sr qEW (.cond (.t 9) .skip (.exit 0))) (.seq (.blk 1 (sr qEX (.cond (.t 17) (sr [oQ 0 4 true] .ret) .skip))) (.reg true [oM 0 10 5,oE 1 11 .add 10 1,oM 2 5 11])))
def F66:qK:=⟨2,18,[.t 4],sr [oQ 0 4 false] (.seq (sr [oC 0 5 0] (.blk 0 qEV)) (sr [oQ 0 4 false] .ret))⟩
def X7:qK:=⟨1,5,[.l 2 (some 1)],sr [oP 0 1 (.hbox 1 (.t 0)),oP 1 2 (.lalloc (.agg [.nils]))] (sr [oD1 0 3 321 1,oD2 1 4 702 1 3,oS 2 2 0 1 4] .ret)⟩
def qE0:List qB:=[oY 0 8 1 0 1,oD1 1 9 324 8,oS 2 2 0 1 9,oC 3 3 0]
def qEZ:qD:=.seq (sr [oY 0 4 1 0 1,oD1 1 5 319 4,oJ 2 6 5] (.cond (.t 6) (sr [oP 0 7 (.build (.agg [.nils]) []),oS 1 2 0 1 7,oC 2 3 1] .ret) .skip)) (sr qE0 .ret)
def F67:qK:=⟨1,10,[.l 2 (some 1),.t 3],sr [oP 0 1 (.lbox 1 (.t 0)),oP 1 2 (.lalloc (.agg [.nils])),oC 2 3 0] qEZ⟩
def F68:qK:=⟨1,4,[.t 2],sr [oP 0 1 (.hbox 1 (.t 0)),oQ 1 2 false] (sr [oD1 0 3 318 1,oM 1 2 3] .ret)⟩
def qDR:List qB:=[oM 0 20 0,oD1 1 21 61 20,oP 2 3 (.lalloc (.agg [.nils])),oS 3 3 0 1 21]
def qDS:List qB:=[oY 0 23 3 0 1,oD1 1 24 62 23,oM 2 22 24,oV 3 25 22 0,oV 4 26 22 1,oM 5 4 25,oM 6 5 26]
def qDZ:List qB:=[oY 0 28 3 0 1,oD1 1 29 63 28,oM 2 27 29,oV 3 30 27 0,oV 4 31 27 1,oM 5 6 30,oM 6 7 31]
def qD2:List qB:=[oM 0 32 5,oE 1 33 .neq 32 0,oM 2 34 33,oH 3 35 34 false 7,oG 4 36 34 false (.bin .neq (.t 35) (.c (.int .i64 0))),oPt 5 37 34 36,oM 6 38 37,oH 7 39 38 false 4,oG 8 40 38 false (.len (.t 39)),oG 9 41 38 false (.bin .eql (.t 40) (.c (.int .i64 0))),oPt 10 42 38 41,oM 11 43 42,oH 12 44 43 false 4,oG 13 45 43 false (.iaddr 1 (.t 44) (.c (.int .i64 0))),oG 14 46 43 false (.load none (.t 45)),oH 15 47 43 false 6,oG 16 48 43 false (.call 64 [.t 46,.t 47]),oG 17 49 43 false (.not (.t 48)),oPt 18 50 43 49]
def qD3:List qB:=[oU 0 51 3,oX 1 52 3 0,oW 2 53 52,oP 3 54 (.mksl 1 (.int .i64 0) (.t 53) (.t 53)),oM 4 8 54]
def qD4:List qB:=[oM 0 55 10,oM 1 56 4,oW 2 57 56,oB 3 58 .lss 55 57]
def qD5:List qB:=[oY 0 62 3 0 1,oM 1 63 4,oM 2 64 10,oA 3 65 1 63 64,oL 4 66 65,oM 5 67 4,oM 6 68 10,oA 7 69 1 67 68,oL 8 70 69,oW 9 71 70,oE 10 72 .sub 71 1,oA 11 73 1 66 72,oL 12 74 73,oD2 13 75 65 62 74,oM 14 61 75,oV 15 76 61 0,oV 16 77 61 1,oM 17 11 76,oM 18 12 77]
def qD6:List qB:=[oM 0 78 12,oE 1 79 .neq 78 0,oM 2 80 79,oH 3 81 80 false 11,oG 4 82 80 false (.len (.t 81)),oH 5 83 80 false 4,oH 6 84 80 false 10,oG 7 85 80 false (.iaddr 1 (.t 83) (.t 84)),oG 8 86 80 false (.load none (.t 85)),oG 9 87 80 false (.len (.t 86)),oG 10 88 80 false (.bin .neq (.t 82) (.t 87)),oPt 11 89 80 88,oM 12 90 89,oH 13 91 90 false 10,oG 14 92 90 false (.bin .gtr (.t 91) (.c (.int .i64 0))),oH 15 93 90 false 92,oH 16 94 93 true 4,oH 17 95 93 true 10,oG 18 96 93 true (.bin .sub (.t 95) (.c (.int .i64 1))),oG 19 97 93 true (.iaddr 1 (.t 94) (.t 96)),oG 20 98 93 true (.load none (.t 97)),oG 21 99 93 true (.iaddr 1 (.t 98) (.c (.int .i64 0))),oG 22 100 93 true (.load none (.t 99)),oH 23 101 93 true 4,oH 24 102 93 true 10,oG 25 103 93 true (.iaddr 1 (.t 101) (.t 102)),oG 26 104 93 true (.load none (.t 103)),oG 27 105 93 true (.iaddr 1 (.t 104) (.c (.int .i64 0))),oG 28 106 93 true (.load none (.t 105)),oG 29 107 93 true (.bin .geq (.t 100) (.t 106)),oG 30 108 90 false (.pick (.t 93) (.t 107) (.c (.bool false))),oPt 31 109 90 108]
def qD7:List qB:=[oM 0 110 13,oM 1 111 4,oM 2 112 10,oA 3 113 1 111 112,oL 4 114 113,oW 5 115 114,oB 6 116 .lss 110 115]
def qD8:List qB:=[oM 0 119 13,oE 1 120 .gtr 119 0,oM 2 121 120,oH 3 122 121 true 4,oH 4 123 121 true 10,oG 5 124 121 true (.iaddr 1 (.t 122) (.t 123)),oG 6 125 121 true (.load none (.t 124)),oH 7 126 121 true 13,oG 8 127 121 true (.bin .sub (.t 126) (.c (.int .i64 1))),oG 9 128 121 true (.iaddr 1 (.t 125) (.t 127)),oG 10 129 121 true (.load none (.t 128)),oH 11 130 121 true 4,oH 12 131 121 true 10,oG 13 132 121 true (.iaddr 1 (.t 130) (.t 131)),oG 14 133 121 true (.load none (.t 132)),oH 15 134 121 true 13,oG 16 135 121 true (.iaddr 1 (.t 133) (.t 134)),oG 17 136 121 true (.load none (.t 135)),oG 18 137 121 true (.bin .geq (.t 129) (.t 136)),oPf 19 138 121 137,oM 20 139 138,oH 21 140 139 false 11,oH 22 141 139 false 4,oH 23 142 139 false 10,oG 24 143 139 false (.iaddr 1 (.t 141) (.t 142)),oG 25 144 139 false (.load none (.t 143)),oH 26 145 139 false 13,oG 27 146 139 false (.iaddr 1 (.t 144) (.t 145)),oG 28 147 139 false (.load none (.t 146)),oG 29 148 139 false (.call 66 [.t 140,.t 147]),oG 30 149 139 false (.not (.t 148)),oPt 31 150 139 149]
def qDT:List qB:=[oM 0 151 8,oM 1 152 4,oM 2 153 10,oA 3 154 1 152 153,oL 4 155 154,oM 5 156 13,oA 6 157 1 155 156,oL 7 158 157,oM 8 159 10,oE 9 160 .add 159 1,oA 10 161 1 151 158,oT 11 1 161 160]
def qDK:qD:=.seq (sr qD7 (.cond (.t 116) .skip (.exit 2))) (.seq (.blk 3 (.seq (sr qD8 (.cond (.t 150) (sr [oQ 0 2 false] .ret) .skip)) (.reg true qDT))) (.reg true [oM 0 117 13,oE 1 118 .add 117 1,oM 2 13 118]))
def qDU:List qB:=[oM 0 162 9,oM 1 163 4,oM 2 164 10,oA 3 165 1 163 164,oL 4 166 165,oW 5 167 166,oB 6 168 .add 162 167,oM 7 9 168]
def qDL:qD:=sr qD5 (.seq (sr qD6 (.cond (.t 109) (sr [oQ 0 2 false] .ret) .skip)) (.seq (sr [oC 0 13 0] (.blk 2 (.loop qDK))) (.reg true qDU)))
def qDM:qD:=sr [oC 0 10 0] (.blk 0 (.loop (.seq (sr qD4 (.cond (.t 58) .skip (.exit 0))) (.seq (.blk 1 qDL) (.reg true [oM 0 59 10,oE 1 60 .add 59 1,oM 2 10 60])))))
def qDV:List qB:=[oM 0 169 9,oU 1 170 3,oX 2 171 3 0,oW 3 172 171,oB 4 173 .neq 169 172]
def qDW:List qB:=[oM 0 174 14,oU 1 175 3,oX 2 176 3 0,oW 3 177 176,oB 4 178 .lss 174 177]
def qDX:List qB:=[oM 0 181 15,oU 1 182 3,oX 2 183 3 0,oM 3 184 14,oA 4 185 5 183 184,oF 5 186 4 185,oL 6 187 186,oW 7 188 187,oB 8 189 .lss 181 188]
def qDY:List qB:=[oM 0 192 8,oM 1 193 14,oA 2 194 1 192 193,oL 3 195 194,oE 4 196 .eql 195 0,oM 5 197 196,oH 6 198 197 false 8,oG 7 199 197 false (.nop 3),oG 8 200 197 false (.lload 3 0 none),oH 9 201 197 false 14,oG 10 202 197 false (.iaddr 5 (.t 200) (.t 201)),oG 11 203 197 false (.faddr 4 (.t 202)),oG 12 204 197 false (.load none (.t 203)),oH 13 205 197 false 15,oG 14 206 197 false (.iaddr 2 (.t 204) (.t 205)),oG 15 207 197 false (.faddr 0 (.t 206)),oG 16 208 197 false (.load none (.t 207)),oG 17 209 197 false (.iaddr 1 (.t 198) (.t 208)),oG 18 210 197 false (.load none (.t 209)),oH 19 211 197 false 8,oH 20 212 197 false 14,oG 21 213 197 false (.iaddr 1 (.t 211) (.t 212)),oG 22 214 197 false (.load none (.t 213)),oG 23 215 197 false (.bin .neq (.t 210) (.t 214)),oPt 24 216 197 215]
def qDN:qD:=.loop (.seq (sr qDX (.cond (.t 189) .skip (.exit 6))) (.seq (.blk 7 (sr qDY (.cond (.t 216) (sr [oQ 0 2 false] .ret) .skip))) (.reg true [oM 0 190 15,oE 1 191 .add 190 1,oM 2 15 191])))
def qDO:qD:=.loop (.seq (sr qDW (.cond (.t 178) .skip (.exit 4))) (.seq (.blk 5 (sr [oC 0 15 0] (.blk 6 qDN))) (.reg true [oM 0 179 14,oE 1 180 .add 179 1,oM 2 14 180])))
def qD0:List qB:=[oY 0 218 3 0 1,oD1 1 219 67 218,oM 2 217 219,oV 3 220 217 0,oV 4 221 217 1,oP 5 16 (.lalloc (.agg [.nils])),oS 6 16 0 1 220,oM 7 17 221]
def qD1:List qB:=[oM 0 222 17,oE 1 223 .eql 222 0,oM 2 224 223,oG 3 225 224 true (.nop 16),oG 4 226 224 true (.lload 16 0 none),oG 5 227 224 true (.len (.t 226)),oH 6 228 224 true 6,oG 7 229 224 true (.len (.t 228)),oG 8 230 224 true (.bin .eql (.t 227) (.t 229)),oPf 9 231 224 230,oM 10 232 231,oG 11 233 232 true (.lload 16 0 (some 1)),oG 12 234 232 true (.call 68 [.t 233]),oPf 13 235 232 234,oM 14 236 235,oG 15 237 236 true (.nop 16),oG 16 238 236 true (.lload 16 0 none),oG 17 239 236 true (.len (.t 238)),oG 18 240 236 true (.nop 3),oG 19 241 236 true (.lload 3 0 none),oG 20 242 236 true (.len (.t 241)),oG 21 243 236 true (.bin .eql (.t 239) (.t 242)),oH 22 244 236 true 4,oG 23 245 236 true (.len (.t 244)),oG 24 246 236 true (.bin .eql (.t 245) (.c (.int .i64 1))),oG 25 247 236 true (.beq false (.t 243) (.t 246)),oPf 26 248 236 247,oM 27 2 248]
def qDP:qD:=sr [oC 0 9 0] (.seq qDM (.seq (sr qDV (.cond (.t 173) (sr [oQ 0 2 false] .ret) .skip)) (.seq (sr [oC 0 14 0] (.blk 4 qDO)) (sr qD0 (sr qD1 .ret)))))
def qDQ:qD:=.seq (sr [oM 0 18 0,oP 1 19 (.call 60 [.t 18,.c (.nils)])] (.cond (.t 19) (sr [oQ 0 2 true] .ret) .skip)) (sr qDR (sr qDS (sr qDZ (.seq (sr qD2 (.cond (.t 50) (sr [oQ 0 2 false] .ret) .skip)) (sr qD3 qDP)))))
def F3:qK:=⟨1,249,[.t 2],sr [oQ 0 2 false] qDQ⟩
@[go_sem] theorem rR0:OE qDG.eq_1/\OE qEC.eq_1/\CE qAR.eq_1/\CE qAS.eq_1/\CE qAT.eq_1/\CE qAU.eq_1/\CE qAV.eq_1/\CE qAW.eq_1/\OE qA3.eq_1/\OE qA4.eq_1/\CE qAX.eq_1/\CE qAY.eq_1/\CE qAZ.eq_1/\OE qA5.eq_1/\OE qBA.eq_1/\OE qBB.eq_1/\OE qBD.eq_1/\OE qBE.eq_1/\OE qBF.eq_1/\OE qBG.eq_1/\OE qBH.eq_1/\OE qBI.eq_1/\OE qBJ.eq_1/\CE qA9.eq_1/\CE qA6.eq_1/\CE qA7.eq_1/\CE qA8.eq_1/\OE qBC.eq_1/\OE KM.eq_1/\OE KN.eq_1/\OE qGA.eq_1/\OE qGB.eq_1/\OE qGC.eq_1/\CE qF9.eq_1/\OE qCL.eq_1/\OE qCM.eq_1/\OE qCN.eq_1/\OE qCO.eq_1/\OE qCP.eq_1/\OE qCQ.eq_1/\OE qCR.eq_1/\CE qCI.eq_1/\CE qCJ.eq_1/\CE qCK.eq_1/\OE qEI.eq_1/\OE qEJ.eq_1/\OE qEK.eq_1/\OE qEL.eq_1/\CE qEG.eq_1/\CE qEH.eq_1/\OE qGO.eq_1/\OE UP.eq_1/\OE UQ.eq_1/\OE qB5.eq_1/\OE qBL.eq_1/\OE qBM.eq_1/\OE qBN.eq_1/\CE qBK.eq_1/\CE qBO.eq_1/\OE qA2.eq_1:=by and_intros<;>first|exact OEM _|exact CEM _
@[go_sem] theorem rR1:OE qB6.eq_1/\OE qBP.eq_1/\OE qBQ.eq_1/\OE KR.eq_1/\OE KT.eq_1/\OE KV.eq_1/\OE KW.eq_1/\OE KX.eq_1/\OE KY.eq_1/\OE KZ.eq_1/\OE Ka.eq_1/\OE Kb.eq_1/\OE Kc.eq_1/\CE KO.eq_1/\CE KP.eq_1/\CE KQ.eq_1/\OE KU.eq_1/\OE qGF.eq_1/\OE qGG.eq_1/\OE qGH.eq_1/\CE qGD.eq_1/\CE qGE.eq_1/\OE qEM.eq_1/\OE qGK.eq_1/\OE qGI.eq_1/\OE qGJ.eq_1/\OE qCS.eq_1/\OE qCT.eq_1/\OE qD9.eq_1/\OE qA1.eq_1/\OE U0.eq_1/\OE qED.eq_1/\OE qEE.eq_1/\OE qEF.eq_1/\OE qFI.eq_1/\OE qFJ.eq_1/\CE qFE.eq_1/\OE qFK.eq_1/\OE qFL.eq_1/\OE qFM.eq_1/\CE qFF.eq_1/\OE qFN.eq_1/\CE qFG.eq_1/\CE qFH.eq_1/\CE qFD.eq_1/\CE qGP.eq_1/\OE qEN.eq_1/\OE qCB.eq_1/\OE qGM.eq_1/\OE qGN.eq_1/\OE YQ.eq_1/\OE YR.eq_1/\OE YS.eq_1/\CE qGL.eq_1/\OE qDI.eq_1/\OE qDJ.eq_1/\CE qDH.eq_1/\OE qEA.eq_1/\OE qEB.eq_1/\OE Un.eq_1:=by and_intros<;>first|exact OEM _|exact CEM _
@[go_sem] theorem rR2:OE Uo.eq_1/\OE Us.eq_1/\OE Ut.eq_1/\OE Uu.eq_1/\OE Uv.eq_1/\OE Uw.eq_1/\OE Ux.eq_1/\OE Uy.eq_1/\OE Uz.eq_1/\OE Up.eq_1/\OE Uq.eq_1/\CE Uj.eq_1/\CE Uk.eq_1/\CE Ul.eq_1/\CE Um.eq_1/\OE Ur.eq_1/\CE Zf.eq_1/\OE qF7.eq_1/\OE qF8.eq_1/\OE U5.eq_1/\OE U6.eq_1/\OE KD.eq_1/\OE KE.eq_1/\OE XO.eq_1/\OE XP.eq_1/\OE KF.eq_1/\OE KH.eq_1/\OE KI.eq_1/\OE U7.eq_1/\OE U8.eq_1/\OE U9.eq_1/\OE KB.eq_1/\OE KC.eq_1/\CE U1.eq_1/\CE U2.eq_1/\CE U3.eq_1/\CE U4.eq_1/\OE KJ.eq_1/\OE KL.eq_1/\CE qFO.eq_1/\OE qFS.eq_1/\OE qF0.eq_1/\CE qFQ.eq_1/\OE qF3.eq_1/\OE qF4.eq_1/\CE qFR.eq_1/\OE J4.eq_1/\OE qF5.eq_1/\OE qF6.eq_1/\OE qFT.eq_1/\OE Zg.eq_1/\CE qFP.eq_1/\CE J2.eq_1/\OE qFU.eq_1/\OE qFV.eq_1/\OE qFW.eq_1/\OE qFX.eq_1/\OE qFY.eq_1/\OE qFZ.eq_1/\OE qF1.eq_1:=by and_intros<;>first|exact OEM _|exact CEM _
@[go_sem] theorem rR3:OE qF2.eq_1/\CE Qs.eq_1/\OE Ui.eq_1/\OE qE5.eq_1/\OE qE6.eq_1/\OE qE7.eq_1/\OE qE8.eq_1/\OE qE9.eq_1/\OE qFA.eq_1/\OE qFB.eq_1/\OE qFC.eq_1/\CE qE3.eq_1/\CE qE4.eq_1/\CE qE1.eq_1/\CE qE2.eq_1/\OE qCF.eq_1/\OE qCG.eq_1/\OE qCH.eq_1/\CE qCC.eq_1/\CE qCD.eq_1/\CE qCE.eq_1/\OE qEP.eq_1/\OE qEQ.eq_1/\CE qEO.eq_1/\OE qC9.eq_1/\OE qDA.eq_1/\OE qDB.eq_1/\OE qDC.eq_1/\OE qDD.eq_1/\OE qDE.eq_1/\OE qDF.eq_1/\CE qC6.eq_1/\CE qC7.eq_1/\CE qC8.eq_1/\OE Ke.eq_1/\OE kU.eq_1/\OE Kh.eq_1/\OE Ki.eq_1/\CE Kf.eq_1/\CE Kg.eq_1/\OE qBS.eq_1/\OE qBT.eq_1/\OE qBU.eq_1/\OE qBV.eq_1/\CE qBR.eq_1/\OE Km.eq_1/\OE Kn.eq_1/\OE Ko.eq_1/\CE Kj.eq_1/\OE Kp.eq_1/\OE Kq.eq_1/\CE Kk.eq_1/\CE Kl.eq_1/\CE qAK.eq_1/\CE qAL.eq_1/\OE qAM.eq_1/\CE qAN.eq_1/\CE qAO.eq_1/\CE qAP.eq_1/\OE qAQ.eq_1:=by and_intros<;>first|exact OEM _|exact CEM _
@[go_sem] theorem rR4:OE Uh.eq_1/\OE qBW.eq_1/\OE qBX.eq_1/\OE qBY.eq_1/\OE qBZ.eq_1/\OE qB0.eq_1/\OE Kt.eq_1/\OE Ku.eq_1/\OE Kv.eq_1/\OE Kw.eq_1/\OE Kx.eq_1/\OE Ky.eq_1/\OE Kz.eq_1/\CE Kr.eq_1/\CE Ks.eq_1/\OE qB7.eq_1/\OE qB8.eq_1/\OE qB9.eq_1/\OE qCA.eq_1/\OE qB2.eq_1/\OE qB3.eq_1/\OE qB4.eq_1/\OE qB1.eq_1/\OE K3.eq_1/\OE K4.eq_1/\OE K5.eq_1/\OE K6.eq_1/\OE K7.eq_1/\OE K8.eq_1/\OE K9.eq_1/\OE kA.eq_1/\CE K1.eq_1/\CE K2.eq_1/\CE K0.eq_1/\OE kD.eq_1/\CE kB.eq_1/\CE kC.eq_1/\OE kL.eq_1/\OE kM.eq_1/\OE kN.eq_1/\OE kO.eq_1/\OE kP.eq_1/\OE kQ.eq_1/\CE kK.eq_1/\OE kR.eq_1/\OE kS.eq_1/\OE kT.eq_1/\CE kE.eq_1/\CE kF.eq_1/\CE kG.eq_1/\CE kH.eq_1/\CE kJ.eq_1/\OE kY.eq_1/\OE kZ.eq_1/\OE ke.eq_1/\OE ki.eq_1/\OE kj.eq_1/\CE kV.eq_1/\CE kW.eq_1/\CE kX.eq_1:=by and_intros<;>first|exact OEM _|exact CEM _
@[go_sem] theorem rR5:OE qAA.eq_1/\OE qAB.eq_1/\OE qAD.eq_1/\OE qAE.eq_1/\OE qAF.eq_1/\CE k9.eq_1/\OE qAG.eq_1/\OE qAH.eq_1/\OE qAI.eq_1/\OE qAJ.eq_1/\CE kn.eq_1/\CE kp.eq_1/\CE kq.eq_1/\OE qAC.eq_1/\CE ku.eq_1/\CE kw.eq_1/\CE kx.eq_1/\OE UU.eq_1/\OE UV.eq_1/\OE Uc.eq_1/\OE Ud.eq_1/\OE Ue.eq_1/\OE Uf.eq_1/\OE XH.eq_1/\OE Ug.eq_1/\OE UW.eq_1/\OE UX.eq_1/\OE UY.eq_1/\OE UZ.eq_1/\OE Ua.eq_1/\OE Ub.eq_1/\CE UR.eq_1/\CE Ql.eq_1/\CE US.eq_1/\CE UT.eq_1/\OE qEY.eq_1/\OE qCY.eq_1/\OE qCZ.eq_1/\OE qC0.eq_1/\OE qC1.eq_1/\OE qC2.eq_1/\CE qCU.eq_1/\OE qC3.eq_1/\CE qCV.eq_1/\CE qCW.eq_1/\CE qCX.eq_1/\CE qER.eq_1/\CE qC4.eq_1/\CE qES.eq_1/\OE qC5.eq_1/\OE qEU.eq_1/\CE qET.eq_1/\OE qEW.eq_1/\OE qEX.eq_1/\CE qEV.eq_1/\OE qE0.eq_1/\CE qEZ.eq_1/\OE qDR.eq_1/\OE qDS.eq_1/\OE qDZ.eq_1:=by and_intros<;>first|exact OEM _|exact CEM _
@[go_sem] theorem rR6:OE qD2.eq_1/\OE qD3.eq_1/\OE qD4.eq_1/\OE qD5.eq_1/\OE qD6.eq_1/\OE qD7.eq_1/\OE qD8.eq_1/\OE qDT.eq_1/\CE qDK.eq_1/\OE qDU.eq_1/\CE qDL.eq_1/\CE qDM.eq_1/\OE qDV.eq_1/\OE qDW.eq_1/\OE qDX.eq_1/\OE qDY.eq_1/\CE qDN.eq_1/\CE qDO.eq_1/\OE qD0.eq_1/\OE qD1.eq_1/\CE qDP.eq_1/\CE qDQ.eq_1:=by and_intros<;>first|exact OEM _|exact CEM _
def UC:List (Nat×qK):=[(340,X8),(488,YC),(1371,Xe),(1384,Xh),(1372,Xf),(1489,Xu),(1385,Xi),(1494,Xv),(1386,Xj),(1096,XR),(710,YL),(318,X1),(774,F774),(397,F397),(554,YF),(796,YT),(1050,XE),(1051,XF),(1487,Xt),(1387,Xk),(1388,Xl),(1375,Xg),(1495,Xw),(1389,Xm),(1390,Xn),(1097,XS),(711,YM),(1098,Kd),(712,F712),(555,YG),(714,YO),(713,YN),(319,X2),(401,F401),(1373,qA0),(1085,XM),(490,YD),(491,YE),(702,YJ),(978,YU),(60,F60),(316,Xy),(773,YP),(396,X9),(440,YA),(451,YB),(1084,XK),(709,Qu),(1094,XN),(1095,XQ),(708,YK),(1083,XJ),(699,YI),(317,Xz),(61,F61),(323,X6),(1167,XT),(1345,Xa),(1339,XU),(1476,Xo),(1340,XV),(1348,qL2),(1349,Xd),(1054,XI),(1477,Xp),(1478,Xq),(1341,XW),(1529,Xx),(1480,Xs),(1479,Xr),(1342,XX),(1343,XY),(1344,XZ),(1346,Xb),(1347,Xc),(1053,XG),(678,YH),(320,X3),(62,F62),(321,X4),(63,F63),(64,F64),(322,X5),(65,F65),(66,F66),(324,X7),(67,F67),(68,F68),(3,F3)]
def Gm(g:Nat):Option AFn:=JH g UC
theorem qIZ:Gm 3=some (.fn F3):=by kernel_rfl
theorem gk(g:Nat)(F:qK)(h:Gm g=some (.fn F):=by kernel_rfl):Gm g=some (.fn F):=h
theorem pI{Γ:Nat->Option AFn}{g:Nat}(F:qK){as:List AV}{v:AV}(ht:AV.trees as=true)(hv:v.tree=true)(hR:R ⟨Γ,0,[],[]⟩ [.code F.body] ⟨qQ 0 as,[],[]⟩ (QE F.res v))(hg:Γ g=some (.fn F):=by kernel_rfl)(hok:F.body.ok=true:=by kernel_rfl)(hn:as.length=F.np:=by rfl):Pure Γ g as v:=Pure.intro [] [] hg hok hn ht hv hR
theorem fI{Γ:Nat->Option AFn}{g:Nat}(F:qK){as:List AV}{t:AV}(ht:AV.trees as=true)(hp:t.pl=true)(hR:R ⟨Γ,0,[],[]⟩ [.code F.body] ⟨qQ 0 as,[],[]⟩ (QD F.res t))(hg:Γ g=some (.fn F):=by kernel_rfl)(hok:F.body.ok=true:=by kernel_rfl)(hn:as.length=F.np:=by rfl):Fresh Γ g as t:=Fresh.intro [] [] hg hok hn ht hp hR
theorem sI{Γ:Nat->Option AFn}{g:Nat}{vs:List AV}{h:List qA}(F:qK){K:AV->List qA->Prop}(hR:R ⟨Γ,h.length,[],[]⟩ [.code F.body] ⟨qQ 0 vs,[],h⟩ (ze F.res K))(hg:Γ g=some (.fn F):=by kernel_rfl)(hok:F.body.ok=true:=by kernel_rfl)(hn:vs.length=F.np:=by rfl):SCall Γ g vs h K:=SCall.run [] [] hg hok hn hR
def inI(n lo hi:Int):Bool:=decide (lo<=n)&&decide (n<=hi)
def jf(k f:Int):Int:=
 if k=9 then(if inI f 0 3 then f+1 else 0)else if f≠0 then 0 else
 if k=1\/k=5\/k=6\/k=12 then 1 else if k=8\/k=10\/k=11 then 2 else if k=2\/k=3\/k=4\/k=7 then 3 else 0
def JY(k:Int):Bool:=decide (k=2) || decide (k=3) || decide (k=4) || decide (k=7) || decide (k=8) || decide (k=9) || decide (k=10) || decide (k=11) || decide (k=12)
def JF(k:Int):Bool:=inI k 1 12
def wv(k l:Int):Bool:=if JY k then inI l 0 8 else JF k&&decide (l=0)
def jw(n:Int):Bool:=inI n 0 23
def fieldsOf(x:qC):Int:=if x.Kind=9 then(x.Ports.length:Int)-1 else 0
def jv(x:qC):Bool:=
 if x.Kind=6 then decide ((x.Data.length:Int)=0)&&inI x.Value (-2147483648) 2147483647
 else if x.Kind=7 then decide ((x.Data.length:Int)=0)&&inI x.Value 1 6
 else if x.Kind=8 then decide ((x.Data.length:Int)=1)&&inI x.Value 1 6&&x.Data.all fun d=>inI d (-2147483648) 2147483647
 else if x.Kind=9 then decide ((x.Data.length:Int)=0)&&inI x.Value 0 3
 else if x.Kind=12 then decide ((x.Data.length:Int)=0)&&jw x.Value
 else if x.Kind=10 then decide (x.Value=0)&&inI x.Data.length 1 4&&x.Data.all jw
 else if x.Kind=11 then decide (x.Value=0)&&decide ((x.Data.length:Int)=2)&&x.Data.all jw
 else decide (x.Value=0)&&decide ((x.Data.length:Int)=0)
def zW(x:qC):Bool:=decide (0<jf x.Kind (fieldsOf x))&&decide ((x.Ports.length:Int)=jf x.Kind (fieldsOf x))&&wv x.Kind x.Level&&jv x
def zd:List qC->Nat->Bool
 |[],_=>true
 | x::xs,i=>zW x&&(decide (x.Kind=1)==decide (i=0))&&zd xs (i+1)
def jD(xs:List qC):Bool:=inI xs.length 1 600&&zd xs 0
def jz(xs:List qC)(a:Int):Nat:=match xs[a.toNat]? with
 | some x=>x.Ports.length
 | none=>0
def jH(xs:List qC)(p:qE):Bool:=inI p.Agent 0 ((xs.length:Int)-1)&&inI p.Slot 0 ((jz xs p.Agent:Int)-1)
theorem j9{α:Type}{xs:List α}{i:Nat}(h:i<xs.length):xs.drop i=xs[i]::xs.drop (i+1):=by simp
theorem JB{n lo hi:Int}:Pure Gm 340 [.int .i64 n,.int .i64 lo,.int .i64 hi] (.bool (inI n lo hi)):=by
 refine pI X8 (by simp[AV.trees,AV.tree,go_sem]) rfl ?_;simp only[X8,qQ,go_sem]
 repeat' (first | (refine zE rfl ?_;simp only[go_sem]) | (first | (apply qe<;>intro hc<;>simp only[hc,go_sem]) | (apply qF<;>intro hc<;>simp only[hc,go_sem])) | refine qV rfl ?_)
 all_goals (simp_all[inI]<;>omega)
theorem qHH{k:Int}:Pure Gm 1372 [.int .i64 k] (.bool (JY k)):=by
 refine pI Xf (by simp[AV.trees,AV.tree,go_sem]) rfl ?_;simp only[Xf,qQ,go_sem]
 repeat' (first | (refine zE rfl ?_;simp only[go_sem]) | (first | (apply qe<;>intro hc<;>simp only[hc,go_sem]) | (apply qF<;>intro hc<;>simp only[hc,go_sem])) | refine qV rfl ?_)
 all_goals (simp_all[JY])
theorem qM1{k:Int}:Pure Gm 1489 [.int .i64 k] (.bool (JF k)):=by
 refine pI Xu (by simp[AV.trees,AV.tree,go_sem]) rfl ?_;simp only[Xu,qQ,go_sem]
 repeat' (first | (refine zE rfl ?_;simp only[go_sem]) | (first | (apply qe<;>intro hc<;>simp only[hc,go_sem]) | (apply qF<;>intro hc<;>simp only[hc,go_sem])) | (refine qS (JB) ?_;simp only[go_sem]) | refine qV rfl ?_)
 all_goals (simp_all[JF])
theorem qMT{k l:Int}:Pure Gm 1385 [.int .i64 k,.int .i64 l] (.bool (wv k l)):=by
 refine pI Xi (by simp[AV.trees,AV.tree,go_sem]) rfl ?_;simp only[Xi,qQ,go_sem]
 repeat' (first | (refine zE rfl ?_;simp only[go_sem]) | (first | (apply qe<;>intro hc<;>simp only[hc,go_sem]) | (apply qF<;>intro hc<;>simp only[hc,go_sem])) | (refine qS (JB) ?_;simp only[go_sem]) | (refine qS (qHH) ?_;simp only[go_sem]) | (refine qS (qM1) ?_;simp only[go_sem]) | refine qV rfl ?_)
 all_goals (simp_all[wv])
theorem qHI{k:Int}:Pure Gm 1494 [.int .i64 k] (.bool (jw k)):=by
 refine pI Xv (by simp[AV.trees,AV.tree,go_sem]) rfl ?_;simp only[Xv,qQ,go_sem]
 repeat' (first | (refine zE rfl ?_;simp only[go_sem]) | (first | (apply qe<;>intro hc<;>simp only[hc,go_sem]) | (apply qF<;>intro hc<;>simp only[hc,go_sem])) | (refine qS (JB) ?_;simp only[go_sem]) | refine qV rfl ?_)
 all_goals (simp_all[jw])
theorem qHG{k f:Int}:Pure Gm 1371 [.int .i64 k,.int .i64 f] (.int .i64 (jf k f)):=by
 refine pI Xe (by simp[AV.trees,AV.tree,go_sem]) rfl ?_;simp only[Xe,qQ,go_sem]
 repeat' (first | (refine zE rfl ?_;simp only[go_sem]) | (first | (apply qe<;>intro hc<;>simp only[hc,go_sem]) | (apply qF<;>intro hc<;>simp only[hc,go_sem])) | (refine qS (JB) ?_;simp only[go_sem]) | refine qV rfl ?_)
 all_goals ((try rw[zD (by simp_all[inI];omega) (by simp_all[inI];omega)]);simp_all[jf]<;>omega)
theorem qMS{x:qC}(hx:x.Ports.length<=140737488355328):Pure Gm 1384 [.ept x.enc 0] (.int .i64 (fieldsOf x)):=by
 refine pI Xh (by simp[AV.trees,AV.tree,go_sem]) rfl ?_;simp only[Xh,qQ,go_sem]
 repeat' (first | (refine zE rfl ?_;simp only[go_sem]) | (first | (apply qe<;>intro hc<;>simp only[hc,go_sem]) | (apply qF<;>intro hc<;>simp only[hc,go_sem])) | refine qV rfl ?_)
 all_goals ((try rw[zD (by omega) (by omega)]);simp_all[fieldsOf]<;>omega)
theorem qMU{x:qC}(hx:x.Data.length<=1048576):Pure Gm 1386 [.ept x.enc 0] (.bool (jv x)):=by
 refine pI Xj (by simp[AV.trees,AV.tree,go_sem]) rfl ?_;simp only[Xj,qQ,go_sem];have one:(x.Data.length:Int)=1->∃d,x.Data=[d]:=fun h=>List.length_eq_one_iff.1 (by omega);have z0:(x.Data.length:Int)=1->(x.Data.map qG)[0]?=some (.int .i64 (x.Data.headD 0)):=fun h=>by
  obtain⟨d,hd⟩:=one h;rw[hd];rfl
 have z1:(x.Data.length:Int)=1->(x.Data.all fun d=>inI d (-2147483648) 2147483647)=inI (x.Data.headD 0) (-2147483648) 2147483647:=fun h=>by
  obtain⟨d,hd⟩:=one h;rw[hd];simp
 repeat' (first
  | (first | (apply qe<;>intro hc<;>simp only[hc,go_sem]) | (apply qF<;>intro hc<;>simp only[hc,go_sem]))
  | (refine qS (JB) ?_;simp only[go_sem])
  | (refine qS (qHI) ?_;simp only[go_sem])
  | refine qV rfl ?_
  | (rw[z0 (odT (by assumption))];simp only[oMs];simp only[go_sem])
  | (refine Sem.loop (fun i:Nat=>i<=x.Data.length/\jv x=(x.Data.drop i).all jw) (fun i=>(⟨[(0,.ept x.enc 0),(3,.int .i64 (i:Nat))],[],[]⟩:VSt)) (fun i=>x.Data.length-i) 0 (by kernel_rfl) ⟨nZl _, ?_⟩ (Can.sub (by simp[go_sem]) (by simp[go_sem])) ?_))
 all_goals try (simp_all[jv];done)
 all_goals
  clear z0 z1 one;rintro i ⟨hi,hI⟩;simp only[go_sem];apply qF<;>intro hc<;>simp only[hc,go_sem]
  ·have hlt:i<x.Data.length:=by have:=odT hc;omega
   simp only[gMp,gEg hlt,oMs,go_sem];simp only[qG];simp only[go_sem];refine qS qHI ?_;simp only[go_sem];apply qF<;>intro hc<;>simp only[hc,go_sem]
   ·refine qV rfl ?_;have hd:jw x.Data[i]=false:=by simpa using hc
    rw[hI,j9 hlt,lAc,hd,Bool.false_and]
   ·simp only[zJ (show i<4611686018427387904 by omega)];refine ql (i+1) ⟨by omega, ?_⟩ (by omega) (Can.sub (by simp[go_sem]) (by simp[go_sem]));have hd:jw x.Data[i]=true:=by simpa using hc
    rw[hI,j9 hlt,lAc,hd,Bool.true_and]
  ·have hge:i=x.Data.length:=by have:=odF hc;omega
   subst hge;refine qV rfl ?_;rw[hI];simp
theorem qMN{x:qC}(hz:x.sz<=1048576):Pure Gm 1096 [.ept x.enc 0] (.bool (zW x)):=by
 refine pI XR (by simp[AV.trees,AV.tree,go_sem]) rfl ?_;simp only[XR,qQ,go_sem]
 repeat' (first | (refine zE rfl ?_;simp only[go_sem]) | (first | (apply qe<;>intro hc<;>simp only[hc,go_sem]) | (apply qF<;>intro hc<;>simp only[hc,go_sem])) | (refine qS (qMS (by unfold qC.sz at hz;omega)) ?_;simp only[go_sem]) | (refine qS (qHG) ?_;simp only[go_sem]) | (refine qS (qMT) ?_;simp only[go_sem]) | (refine qS (qMU (by unfold qC.sz at hz;omega)) ?_;simp only[go_sem]) | refine qV rfl ?_)
 all_goals (simp_all[zW]<;>omega)
theorem c710{xs:List qC}(hl:xs.length+zC qC.sz xs<=1048576):Pure Gm 710 [.lst 5 (xs.map qC.enc) false] (.bool (jD xs)):=by
 refine pI YL (by simp[AV.trees,AV.tree,qx qC.isSh.tree]) rfl ?_;simp only[YL,qQ,go_sem];refine qS JB ?_;simp only[go_sem];apply qF<;>intro hc<;>simp only[hc,go_sem]
 ·refine qV rfl ?_;simp_all[jD]
 refine Sem.loop (fun i:Nat=>i<=xs.length/\jD xs=zd (xs.drop i) i) (fun i=>(⟨[(0,.lst 5 (xs.map qC.enc) false),(3,.int .i64 (i:Nat))],[],[]⟩:VSt)) (fun i=>xs.length-i) 0 (by kernel_rfl) ⟨nZl _,by simp_all[jD]⟩ (Can.sub (by simp[go_sem]) (by simp[go_sem])) ?_;rintro i ⟨hi,hI⟩;simp only[go_sem];apply qF<;>intro hc<;>simp only[hc,go_sem]
 ·have hlt:i<xs.length:=by have:=odT hc;omega
  simp only[gMp,gEg hlt,oMs,go_sem];have hs:=QL (f:=qC.sz) (gMm hlt);refine qS (qMN (by omega)) ?_;simp only[go_sem];apply qe<;>intro hc<;>simp only[hc,go_sem]
  ·simp only[gMp,gEg hlt,oMs,go_sem];apply qF<;>intro hc<;>simp only[hc,go_sem]
   ·refine qV rfl ?_;rw[hI,j9 hlt];simp_all[zd]
   ·simp only[zJ (show i<4611686018427387904 by omega)];refine ql (i+1) ⟨by omega, ?_⟩ (by omega) (Can.sub (by simp[go_sem]) (by simp[go_sem]));rw[hI,j9 hlt];simp_all[zd]
  ·refine qV rfl ?_;rw[hI,j9 hlt];simp_all[zd]
 ·obtain rfl:i=xs.length:=by have:=odF hc;omega
  refine qV rfl ?_;rw[hI];simp[zd]
theorem wu{n lo hi:Int}:inI n lo hi=true↔lo<=n/\n<=hi:=by simp[inI]
def wz(xs:List qC)(q:qE):Option qE:=match xs[q.Agent.toNat]? with
 | some y=>y.Ports[q.Slot.toNat]?
 | none=>none
def jK(xs:List qC)(me q:qE):Bool:= !(decide (q=me))&&jH xs q&&decide (wz xs q=some me)
def js(xs:List qC)(i:Nat):List qE->Nat->Bool
 |[],_=>true
 | q::qs,k=>jK xs ⟨i,k⟩ q&&js xs i qs (k+1)
def wL(xs:List qC):List qC->Nat->Bool
 |[],_=>true
 | x::r,i=>js xs i x.Ports 0&&wL xs r (i+1)
def qo(n:qI):Bool:=jD n.Agents&&wL n.Agents n.Agents 0
theorem c488{xs:List qC}{p:qE}(hl:xs.length+zC qC.sz xs<=1048576):Pure Gm 488 [.lst 5 (xs.map qC.enc) false,p.enc] (.bool (jH xs p)):=by
 refine pI YC (by simp[AV.trees,AV.tree,qx qC.isSh.tree,qE.tr]) rfl ?_;simp only[YC,qQ,go_sem];refine zE rfl ?_;simp only[go_sem];rw[zD (by omega) (by omega)];refine qS JB ?_;simp only[go_sem];apply qe<;>intro hc<;>simp only[hc,go_sem]
 ·have h:=wu.1 hc;have hlt:p.Agent.toNat<xs.length:=by omega
  rw[WK h.1];simp only[gMp,gEg hlt,oMs,go_sem];have hs:xs[p.Agent.toNat].Data.length+xs[p.Agent.toNat].Ports.length<=zC qC.sz xs:=QL (f:=qC.sz) (gMm hlt);rw[zD (by omega) (by omega)];refine qS JB ?_;simp only[go_sem];refine qV rfl ?_;simp[jH,hc,jz,gEg hlt]
 ·refine qV rfl ?_;simp_all[jH]
theorem c318{n:qI}(hz:n.sz<=1048576):Pure Gm 318 [.ept n.enc 0] (.bool (qo n)):=by
 refine pI X1 (by simp[AV.trees,AV.tree,go_sem]) rfl ?_;simp only[X1,qQ,go_sem];have hz':n.Agents.length+zC qC.sz n.Agents<=1048576:=hz;refine qS (c710 hz') ?_;simp only[go_sem];apply qF<;>intro hc<;>simp only[hc,go_sem]
 ·refine qV rfl ?_;simp_all[qo]
 refine Sem.loop (fun i:Nat=>i<=n.Agents.length/\qo n=wL n.Agents (n.Agents.drop i) i) (fun i=>(⟨[(0,.ept n.enc 0),(3,.int .i64 (i:Nat))],[],[]⟩:VSt)) (fun i=>n.Agents.length-i) 0 (by kernel_rfl) ⟨nZl _,by simp_all[qo]⟩ (Can.sub (by simp[go_sem]) (by simp[go_sem])) ?_;rintro i ⟨hi,hI⟩;simp only[go_sem];apply qF<;>intro hc<;>simp only[hc,go_sem]
 ·have hlt:i<n.Agents.length:=by have:=odT hc;omega
  simp only[gMp,gEg hlt,oMs,go_sem];have hs:n.Agents[i].Data.length+n.Agents[i].Ports.length<=zC qC.sz n.Agents:=QL (f:=qC.sz) (gMm hlt);refine Sem.loop (fun k:Nat=>k<=n.Agents[i].Ports.length/\qo n=(js n.Agents i (n.Agents[i].Ports.drop k) k&&wL n.Agents (n.Agents.drop (i+1)) (i+1))) (fun k=>(⟨[(0,.ept n.enc 0),(3,.int .i64 (i:Nat)),(4,.ept n.Agents[i].enc 0),(5,.int .i64 (k:Nat))],[],[]⟩:VSt)) (fun k=>n.Agents[i].Ports.length-k) 0 (by kernel_rfl) ⟨nZl _,by rw[hI,j9 hlt];rfl⟩ (Can.sub (by simp[go_sem]) (by simp[go_sem])) ?_;rintro k ⟨hk,hK⟩;simp only[go_sem];apply qF<;>intro hc<;>simp only[hc,go_sem]
  ·have hkl:k<n.Agents[i].Ports.length:=by have:=odT hc;omega
   rw[show AV.agg [AV.int IntKind.i64 (i:Nat),AV.int IntKind.i64 (k:Nat)]=qE.enc ⟨i,k⟩from rfl];refine jR rfl rfl ⟨_,rfl⟩ (by decide) ?_;simp only[gMp,gEg hkl,oMs,go_sem];refine jR rfl rfl ⟨_,rfl⟩ (by decide) ?_;simp only[go_sem];have stop:jK n.Agents ⟨i,k⟩ n.Agents[i].Ports[k]=false->qo n=false:=fun h=>by rw[hK,j9 hkl];simp[js,h]
   have go:jK n.Agents ⟨i,k⟩ n.Agents[i].Ports[k]=true->qo n=(js n.Agents i (n.Agents[i].Ports.drop (k+1)) (k+1)&&wL n.Agents (n.Agents.drop (i+1)) (i+1)):=fun h=>by rw[hK,j9 hkl];simp[js,h]
   apply qe<;>intro hc<;>simp only[hc,go_sem]
   ·have hne:¬n.Agents[i].Ports[k]=⟨i,k⟩:=odF hc;refine qS (c488 hz') ?_;simp only[go_sem];apply qe<;>intro hc<;>simp only[hc,go_sem]
    ·have hp:jH n.Agents n.Agents[i].Ports[k]=true:=by simpa using hc
     have hp2:=hp;simp only[jH,bAt,wu]at hp2;have hlt2:n.Agents[i].Ports[k].Agent.toNat<n.Agents.length:=by omega
     have hpl:jz n.Agents n.Agents[i].Ports[k].Agent=n.Agents[n.Agents[i].Ports[k].Agent.toNat].Ports.length:=by simp[jz,gEg hlt2]
     rw[hpl]at hp2;have hlt3:n.Agents[i].Ports[k].Slot.toNat<n.Agents[n.Agents[i].Ports[k].Agent.toNat].Ports.length:=by omega
     have hpe:wz n.Agents n.Agents[i].Ports[k]=some n.Agents[n.Agents[i].Ports[k].Agent.toNat].Ports[n.Agents[i].Ports[k].Slot.toNat]:=by simp[wz,gEg hlt2,gEg hlt3]
     rw[WK (by omega)];simp only[gMp,gEg hlt2,oMs,go_sem];rw[WK (by omega)];simp only[gMp,gEg hlt3,oMs,go_sem];apply qF<;>intro hc<;>simp only[hc,go_sem]
     ·refine qV rfl ?_;rw[stop (by simp[jK,hpe];intro _ _;simpa using hc)]
     ·simp only[zJ (show k<4611686018427387904 by omega)];refine ql (k+1) ⟨by omega, ?_⟩ (by omega) (Can.sub (by simp[go_sem]) (by simp[go_sem]));exact go (by simp[jK,hpe,hp,hne];simpa using hc)
    ·refine qV rfl ?_;have hp:jH n.Agents n.Agents[i].Ports[k]=false:=by simpa using hc
     rw[stop (by simp[jK,hp])]
   ·refine qV rfl ?_;have he:n.Agents[i].Ports[k]=⟨i,k⟩:=odT hc;rw[stop (by simp[jK,he])]
  ·obtain rfl:k=n.Agents[i].Ports.length:=by have:=odF hc;omega
   simp only[zJ (show i<4611686018427387904 by omega)];refine ql (i+1) ⟨by omega, ?_⟩ (by omega) (Can.sub (by simp[go_sem]) (by simp[go_sem]));rw[hK];simp[js]
 ·obtain rfl:i=n.Agents.length:=by have:=odF hc;omega
  refine qV rfl ?_;rw[hI];simp[wL]
def qQH(ka la kb lb:Int):Bool:=wv ka la&&wv kb lb&& !decide (ka=1)&& !decide (kb=1)
def dupl(l k m:Int):Bool:=inI l 0 8&&wv k m&&(decide (k=6) || decide (k=12) || JY k&&decide (l<m))
def qO2(k:Int):Bool:=decide (k=3) || decide (k=7) || decide (k=8) || decide (k=10) || decide (k=11)
def Wv(ka la kb lb:Int):Int:=
 if ka=5 then 4 else if ka=4 then(if kb=4/\la=lb then 2 else if dupl la kb lb then 3 else 0)
 else if ka=2 then(if kb=3/\la=lb then 1 else 0)
 else if ka=6 then(if kb=7\/kb=8 then 5 else if kb=11 then 6 else 0)
 else if ka=9 then(if kb=10 then 6 else 0)
 else if ka=12 then(if qO2 kb then 7 else 0)else 0
def qM9(ka la kb lb:Int):Int:=if qQH ka la kb lb then(if Wv ka la kb lb≠0 then Wv ka la kb lb else if Wv kb lb ka la≠0 then Wv kb lb ka la else 8)else 0
def qTB(x y:qC):Int:=
 if x.Kind=9/\y.Kind=10/\(y.Data.length:Int)<=x.Value then 8 else if x.Kind=10/\y.Kind=9/\(x.Data.length:Int)<=y.Value then 8
 else qM9 x.Kind x.Level y.Kind y.Level
def fil(e:Env)(w:Nat)(el:List AV)(i:Nat)(v:Option AV)(r:List (Nat×Ao)):Option (List AV):=match v with
 | some v=>if v.cells.length=w/\i<el.length then zR e w (el.set i v) r else none
 | none=>none
section
variable {e:Env} {w i:Nat} {el:List AV} {v:AV} {x:Ao} {r:List (Nat×Ao)}
@[go_sem] theorem qT0:zR e w el []=some el:=nr (by unfold zR;rfl)
@[go_sem] theorem qTZ:zR e w el ((i,x)::r)=fil e w el i (ev e x) r:=nr (by unfold zR;rfl)
@[go_sem] theorem qT1{el0:AV}(h:v.cells.length=w):fil e w [el0] 0 (some v) r=zR e w [v] r:=by
 show (if v.cells.length=w/\0<1 then _ else _)=_;rw[if_pos ⟨h,by omega⟩];rfl
@[go_sem] theorem rep0{v:AV}:List.replicate 0 v=[]:=nr rfl
@[go_sem] theorem rep1{v:AV}:List.replicate 1 v=[v]:=nr rfl
end
structure z3 where
 A:Int
 B:Int
deriving DecidableEq
def z3.enc(x:z3):AV:=.agg [.int .i64 x.A,.int .i64 x.B]
theorem z3.isSh:Sh z3.enc 2 (some 2):=⟨fun x=>by simp[z3.enc,AV.tree,AV.trees],fun _=>rfl,fun _=>rfl,by decide,fun x=>by simp[z3.enc]⟩
section
variable {x:z3}
@[go_sem] theorem z3.tr:x.enc.tree=true:=z3.isSh.tree x
@[go_sem] theorem z3.ln:x.enc.cells.length=2:=nr rfl
@[go_sem] theorem z3.all:x.enc.part 0 (some 2)=some x.enc:=nr rfl
@[go_sem] theorem z3.cs:x.enc.cells=[.int .i64 x.A,.int .i64 x.B]:=nr rfl
@[go_sem] theorem z3.p0:x.enc.part 0 none=some (.int .i64 x.A):=nr rfl
@[go_sem] theorem z3.p1:x.enc.part 1 none=some (.int .i64 x.B):=nr rfl
@[go_sem] theorem z3.eqf{y:z3}:jU false [1,1] (some x.enc) (some y.enc)=some (.bool (decide (x=y))):=by
 obtain⟨a0,a1⟩:=x;obtain⟨b0,b1⟩:=y;simp only[jU,z3.enc,lMc,List.map_nil,dig,and_self,if_true,jX,wZ,z3.mk.injEq]
 repeat' (split<;>simp_all)
end
theorem UF{xs:List qC}{i:Nat}:∀{qs:List qE}{j:Nat},js xs i qs j=true->∀(m:Nat)(hm:m<qs.length),jK xs ⟨i,(j+m:Nat)⟩ qs[m]=true
 |[],_,_,m,hm=>by simp at hm
 | q::qs,j,h,m,hm=>by
  simp only[js,bAt]at h;cases m with
  | zero=>exact h.1
  | succ m=>
   have:=UF h.2 m (by simpa using hm);rw[show j+(m+1)=j+1+m by omega];simpa using this
theorem VU{xs:List qC}:∀{l:List qC}{i:Nat},wL xs l i=true->∀(k:Nat)(hk:k<l.length),js xs (i+k) l[k].Ports 0=true
 |[],_,_,k,hk=>by simp at hk
 | x::l,i,h,k,hk=>by
  simp only[wL,bAt]at h;cases k with
  | zero=>exact h.1
  | succ k=>
   have:=VU h.2 k (by simpa using hk);rw[show i+(k+1)=i+1+k by omega];simpa using this
theorem Ya:∀{l:List qC}{i:Nat},zd l i=true->∀x∈l,zW x=true
 |[],_,_,x,hx=>by cases hx
 | y::l,i,h,x,hx=>by
  simp only[zd,bAt]at h;rcases List.mem_cons.1 hx with rfl | hx
  ·exact h.1.1
  ·exact Ya h.2 x hx
def fzp(n id:Nat)(o:Option qA)(st:VSt):VSt:=match o with
 | some (.row w [v] true)=>if w=0 then st else{s:=(n,.ept v 0)::st.s,l:=st.l,h:=st.h.set id .dead}
 | _=>st
def fzo(n:Nat)(v:Option AV)(st:VSt):VSt:=match v with
 | none=>st
 | some (.ept _ _)=>st
 | some (.lst _ _ _)=>st
 | some (.int _ _)=>st
 | some (.bool _)=>st
 | some .nils=>st
 | some (.agg _)=>st
 | some (.ptr id 0 0)=>fzp n id st.h[id]? st
 | _=>wt n st
section
variable {n id:Nat} {s m:qR} {h:List qA} {v x:AV} {st:VSt}
@[go_sem] theorem qUI:wt n ⟨s,m,h⟩=fzo n (get s n) ⟨s,m,h⟩:=by
 unfold fzo;split<;>rename_i e<;>try (simp only[wt,e];done)
 ·simp only[wt,e,fzp];split<;>rename_i e2<;>simp only[e2]
  ·split<;>split<;>first | rfl | omega
@[go_sem] theorem qUR:get [] n=none:=nr rfl
@[go_sem] theorem qUN:fzo n none st=st:=nr rfl
@[go_sem] theorem qUJ{j:Nat}:fzo n (some (.ept v j)) st=st:=nr rfl
@[go_sem] theorem qUL{w:Nat}{xs:List AV}{c:Bool}:fzo n (some (.lst w xs c)) st=st:=nr rfl
@[go_sem] theorem qUM:fzo n (some .nils) st=st:=nr rfl
@[go_sem] theorem qUK{k:IntKind}{i:Int}:fzo n (some (.int k i)) st=st:=nr rfl
@[go_sem] theorem qUO:fzo n (some (.ptr id 0 0)) ⟨s,m,h⟩=fzp n id h[id]? ⟨s,m,h⟩:=nr rfl
@[go_sem] theorem qUP{w:Nat}:fzp n id (some (.row w [v] true)) ⟨s,m,h⟩=if w=0 then⟨s,m,h⟩else⟨(n,.ept v 0)::s,m,h.set id .dead⟩:=nr rfl
end
theorem c397{f:AV}(p:Int->Bool)(hft:f.tree=true)(xs:List Int)(hf:∀x∈xs,Zl Gm f [qG x] (.bool (p x)))(hl:xs.length<=1048576):Pure Gm 397 [.lst 1 (xs.map qG) false,f] (.bool (xs.any p)):=
 qH6 shI (gc:=774) (gk _ F397) (gk _ F774) f p hft xs hf hl
theorem c712{f:AV}(p:qE->Bool)(hft:f.tree=true)(xs:List qE)(hf:∀x∈xs,Zl Gm f [x.enc] (.bool (p x)))(hl:xs.length<=1048576):Pure Gm 712 [.lst 2 (xs.map qE.enc) false,f] (.bool (xs.any p)):=
 qH6 qE.isSh (gc:=1098) (gk _ F712) (gk _ Kd) f p hft xs hf hl
theorem qGY{α:Type}(p:α->Bool)(xs:List α):(!xs.any fun x=> !p x)=xs.all p:=by
 induction xs with
 | nil=>rfl
 | cons x xs ih=>simp only[List.any_cons,lAc,Bool.not_or,Bool.not_not,ih]
theorem Yl{k:Int}:Pure Gm 1487 [.int .i64 k] (.bool (JF k)):=by
 refine pI Xt (by simp[AV.trees,AV.tree,go_sem]) rfl ?_;simp only[Xt,qQ,go_sem]
 repeat' (first | (refine zE rfl ?_;simp only[go_sem]) | (first | (apply qe<;>intro hc<;>simp only[hc,go_sem]) | (apply qF<;>intro hc<;>simp only[hc,go_sem])) | refine qV rfl ?_)
 all_goals ((simp only[JF,inI,AV.bool.injEq];rw[Bool.eq_iff_iff];simp at*;try omega))
theorem qMR{k:Int}:Pure Gm 1375 [.int .i64 k] (.bool (JY k)):=by
 refine pI Xg (by simp[AV.trees,AV.tree,go_sem]) rfl ?_;simp only[Xg,qQ,go_sem]
 repeat' (first | (refine zE rfl ?_;simp only[go_sem]) | (first | (apply qe<;>intro hc<;>simp only[hc,go_sem]) | (apply qF<;>intro hc<;>simp only[hc,go_sem])) | (refine qS (Yl) ?_;simp only[go_sem]) | refine qV rfl ?_)
 all_goals ((simp only[JY,JF,inI,AV.bool.injEq]at*;rw[Bool.eq_iff_iff];simp at*;try omega))
theorem qM2{l:Int}:Pure Gm 1495 [.int .i64 l] (.bool (inI l 0 8)):=by
 refine pI Xw (by simp[AV.trees,AV.tree,go_sem]) rfl ?_;simp only[Xw,qQ,go_sem]
 repeat' (first | (refine zE rfl ?_;simp only[go_sem]) | (first | (apply qe<;>intro hc<;>simp only[hc,go_sem]) | (apply qF<;>intro hc<;>simp only[hc,go_sem])) | refine qV rfl ?_)
 all_goals ((simp only[inI,AV.bool.injEq];rw[Bool.eq_iff_iff];simp at*;try omega))
theorem qMY{k l:Int}:Pure Gm 1389 [.int .i64 k,.int .i64 l] (.bool (wv k l)):=by
 refine pI Xm (by simp[AV.trees,AV.tree,go_sem]) rfl ?_;simp only[Xm,qQ,go_sem]
 repeat' (first | (refine zE rfl ?_;simp only[go_sem]) | (first | (apply qe<;>intro hc<;>simp only[hc,go_sem]) | (apply qF<;>intro hc<;>simp only[hc,go_sem])) | (refine qS (Yl) ?_;simp only[go_sem]) | (refine qS (qMR) ?_;simp only[go_sem]) | (refine qS (qM2) ?_;simp only[go_sem]) | refine qV rfl ?_)
 all_goals ((unfold wv;split<;>(simp only[JY,JF,inI,AV.bool.injEq]at* <;>(rw[Bool.eq_iff_iff];simp at* <;>try omega))))
theorem c796{n:Int}:Pure Gm 796 [.int .i64 n] (.bool (jw n)):=by
 refine pI YT (by simp[AV.trees,AV.tree,go_sem]) rfl ?_;simp only[YT,qQ,go_sem]
 repeat' (first | (refine zE rfl ?_;simp only[go_sem]) | (first | (apply qe<;>intro hc<;>simp only[hc,go_sem]) | (apply qF<;>intro hc<;>simp only[hc,go_sem])) | refine qV rfl ?_)
 all_goals (simp_all[jw,inI]<;>omega)
theorem qMM{n:Int}:Pure Gm 1050 [.int .i64 n] (.bool (inI n 1 6)):=by
 refine pI XE (by simp[AV.trees,AV.tree,go_sem]) rfl ?_;simp only[XE,qQ,go_sem]
 repeat' (first | (refine zE rfl ?_;simp only[go_sem]) | (first | (apply qe<;>intro hc<;>simp only[hc,go_sem]) | (apply qF<;>intro hc<;>simp only[hc,go_sem])) | refine qV rfl ?_)
 all_goals ((simp only[inI,AV.bool.injEq];rw[Bool.eq_iff_iff];simp at*;try omega))
theorem qHE{n:Int}:Pure Gm 1051 [.int .i64 n] (.bool (inI n (-2147483648) 2147483647)):=by
 refine pI XF (by simp[AV.trees,AV.tree,go_sem]) rfl ?_;simp only[XF,qQ,go_sem]
 repeat' (first | (refine zE rfl ?_;simp only[go_sem]) | (first | (apply qe<;>intro hc<;>simp only[hc,go_sem]) | (apply qF<;>intro hc<;>simp only[hc,go_sem])) | refine qV rfl ?_)
 all_goals ((simp only[inI,AV.bool.injEq];rw[Bool.eq_iff_iff];simp at*;try omega))
theorem qMZ{n:Int}:Pure Gm 1390 [.int .i64 n] (.bool (!jw n)):=by
 refine pI Xn (by simp[AV.trees,AV.tree,go_sem]) rfl ?_;simp only[Xn,qQ,go_sem]
 repeat' (first | (refine zE rfl ?_;simp only[go_sem]) | (first | (apply qe<;>intro hc<;>simp only[hc,go_sem]) | (apply qF<;>intro hc<;>simp only[hc,go_sem])) | (refine qS (c796) ?_;simp only[go_sem]) | refine qV rfl ?_)
 all_goals (simp_all)
theorem Vp{E:Ev}{o:Option AV}{v:AV}{k:Nat}{l:List qB}{ks:List Fr1}{s m:qR}{h:List qA}{Q:qT->VSt->Prop}(ho:o=some v)(hr:R E (.ops l::ks) ⟨(k,v)::s,m,h⟩ Q):Put E o (some k) l ks ⟨s,m,h⟩ Q:=by
 subst ho;rw[qKH];exact hr
theorem qMW{k:Int}{n:Nat}(hn:n<=1048576):Pure Gm 1388 [.int .i64 k,.int .i64 (n:Int)] (.int .i64 (if k=9 then(n:Int)-1 else 0)):=by
 refine pI Xl (by simp[AV.trees,AV.tree,go_sem]) rfl ?_;simp only[Xl,qQ,go_sem];apply qF<;>intro hc<;>simp only[hc,go_sem]
 ·rw[zD (by omega) (by omega)];refine qV rfl ?_;simp_all
 ·refine qV rfl ?_;simp_all
theorem qMV{k f:Int}:Pure Gm 1387 [.int .i64 k,.int .i64 f] (.int .i64 (jf k f)):=by
 refine pI Xk (by simp[AV.trees,AV.tree,go_sem]) rfl ?_;simp only[Xk,qQ,go_sem]
 repeat' (first
  | (first | (refine qe ?_ ?_<;>intro hc<;>simp only[hc,go_sem]) | (refine qF ?_ ?_<;>intro hc<;>simp only[hc,go_sem]))
  | (refine qS Yl ?_;simp only[go_sem])
  | refine qV rfl ?_)
 all_goals simp only[Bool.not_eq_false',bNt,Bool.not_true,Bool.not_false,dTe,decide_eq_false_iff_not,JF,inI,bAt,Bool.and_eq_false_iff]at*
 case refine_2.refine_1.refine_1.refine_2=>
  subst hc;have:k=1\/k=2\/k=3\/k=4\/k=5\/k=6\/k=7\/k=8\/k=10\/k=11\/k=12:=by omega
  rcases this with rfl | rfl | rfl | rfl | rfl | rfl | rfl | rfl | rfl | rfl | rfl
  all_goals
   first | refine Vp (v:=.int .i64 1) rfl ?_ | refine Vp (v:=.int .i64 2) rfl ?_ | refine Vp (v:=.int .i64 3) rfl ?_
   simp only[go_sem];refine qV rfl rfl
 all_goals try rw[zD (by omega) (by omega)]
 all_goals (simp only[jf,inI,AV.int.injEq,true_and,bAt,dTe];repeat' split)
 all_goals try omega
set_option maxHeartbeats 2000000
theorem qMX{x:qC}(hn:x.Ports.length<=1048576):Pure Gm 1388 [.int .i64 x.Kind,.int .i64 (x.Ports.length:Int)] (.int .i64 (fieldsOf x)):=qMW hn
theorem Zn{x:qC}(h1:¬(x.Ports.length:Int)=0)(h2:jf x.Kind (fieldsOf x)=x.Ports.length)(h3:wv x.Kind x.Level=true):zW x=jv x:=by
 have h:(0:Int)<x.Ports.length:=by omega
 unfold zW;rw[h2,h3];simp only[decide_eq_true h,decide_true,Bool.true_and]
theorem qMO{x:qC}(hd:x.Data.length<=1048576)(hn:x.Ports.length<=1048576):Pure Gm 1097 [x.enc] (.bool (zW x)):=by
 refine pI XS (by simp[AV.trees,go_sem]) rfl ?_;simp only[XS,qQ,go_sem]
 repeat' (first
  | (refine zE rfl ?_;simp only[go_sem])
  | (first | (refine qe ?_ ?_<;>intro hc<;>simp only[hc,go_sem]) | (refine qF ?_ ?_<;>intro hc<;>simp only[hc,go_sem]))
  | (refine qS (qMX hn) ?_;simp only[go_sem])
  | (refine qS qMV ?_;simp only[go_sem])
  | (refine qS qMY ?_;simp only[go_sem])
  | (refine qS (c397 (f:=.fn 1390 []) (fun n=> !jw n) rfl x.Data (fun _ _=>⟨1390,[],rfl,qMZ⟩) hd) ?_;simp only[qGY,go_sem])
  | (refine qS qMM ?_;simp only[go_sem])
  | (refine qS qHE ?_;simp only[go_sem])
  | (refine qS c796 ?_;simp only[go_sem])
  | refine qV rfl ?_)
 case refine_1.refine_1.refine_2.refine_2.refine_2.refine_1.refine_1.refine_1=>
  obtain⟨d,hd1⟩:∃d,x.Data=[d]:=List.length_eq_one_iff.1 (by have:=odT hc;omega);simp only[hd1,lMc,List.map_nil,qG,go_sem];simp only[oMs,go_sem];refine qS qHE ?_;simp only[go_sem];refine qV rfl ?_;simp only[Bool.not_eq_false',dTe,decide_eq_false_iff_not]at*;rw[Zn (by assumption) (by assumption) (by assumption)];simp[jv, *]
 all_goals simp only[Bool.not_true,Bool.not_false,bNt,Bool.not_eq_false',dTe,decide_eq_false_iff_not]at*
 all_goals first
  | (rw[Zn (by assumption) (by assumption) (by assumption)];simp only[AV.bool.injEq];rw[Bool.eq_iff_iff];simp[jv, *];done)
  | (rw[Zn (by assumption) (by assumption) (by assumption)];simp only[AV.bool.injEq];rw[Bool.eq_iff_iff];simp[jv,inI, *];omega)
  | (rw[Zn (by assumption) (by assumption) (by assumption)];simp only[AV.bool.injEq];rw[Bool.eq_iff_iff];simp[jv,inI, *];done)
  | (simp[zW, *];done)
  | (simp[zW, *];omega)
  | trace_state
theorem c711{xs:List qC}(hl:xs.length+zC qC.sz xs<=1048576):Pure Gm 711 [.lst 5 (xs.map qC.enc) false] (.bool (jD xs)):=by
 refine pI YM (by simp[AV.trees,AV.tree,qx qC.isSh.tree]) rfl ?_;simp only[YM,qQ,go_sem];have fin (h1:1<=xs.length) (h2:xs.length<=600):jD xs=zd xs 0:=by
  unfold jD inI;rw[decide_eq_true (by omega),decide_eq_true (by omega)];rfl
 first | (apply qe<;>intro hc<;>simp only[hc,go_sem]) | (apply qF<;>intro hc<;>simp only[hc,go_sem])
 ·first | (apply qe<;>intro hc<;>simp only[hc,go_sem]) | (apply qF<;>intro hc<;>simp only[hc,go_sem])
  ·refine qV rfl ?_;simp only[AV.bool.injEq,jD,inI];simp at*;omega
  ·have h1:1<=xs.length:=by simp at*;omega
   have h2:xs.length<=600:=by simp at*;omega
   rw[fin h1 h2];refine Sem.loop (fun i:Nat=>i<=xs.length/\zd xs 0=zd (xs.drop i) i) (fun i=>(⟨[(13,.lst 5 (xs.map qC.enc) false),(14,.int .i64 (xs.length:Int)),(15,.int .i64 (i:Nat))],[],[]⟩:VSt)) (fun i=>xs.length-i) 0 (by kernel_rfl) ⟨nZl _,by simp⟩ (Can.sub (by simp[go_sem]) (by simp[go_sem])) ?_;rintro i ⟨hi,hI⟩;simp only[go_sem];apply qF<;>intro hc<;>simp only[hc,go_sem]
   ·have hlt:i<xs.length:=by have:=odT hc;omega
    simp only[gMp,gEg hlt,oMs,go_sem];have hs:xs[i].Data.length+xs[i].Ports.length<=zC qC.sz xs:=QL (f:=qC.sz) (gMm hlt);refine jR (k:=5) (by rfl) (by rfl) (by exact⟨_,rfl⟩) (by decide) ?_;simp only[go_sem];refine qS (qMO (by omega) (by omega)) ?_;simp only[go_sem]
    first | (apply qe<;>intro hc<;>simp only[hc,go_sem]) | (apply qF<;>intro hc<;>simp only[hc,go_sem])
    ·first | (apply qe<;>intro hc<;>simp only[hc,go_sem]) | (apply qF<;>intro hc<;>simp only[hc,go_sem])
     ·refine qV rfl ?_;rw[hI,j9 hlt];simp_all[zd]
     ·simp only[zJ (show i<4611686018427387904 by omega)];refine ql (i+1) ⟨by omega, ?_⟩ (by omega) (Can.sub (by simp[go_sem]) (by simp[go_sem]));rw[hI,j9 hlt];simp_all[zd]
    ·refine qV rfl ?_;rw[hI,j9 hlt];simp_all[zd]
   ·obtain rfl:i=xs.length:=by have:=odF hc;omega
    refine qV rfl ?_;rw[hI];simp[zd]
 ·refine qV rfl ?_;simp only[AV.bool.injEq,jD,inI];simp at*;omega
theorem c555{n:qI}{a s:Nat}(ha:a<n.Agents.length)(hs:s<n.Agents[a].Ports.length):Pure Gm 555 [.ept n.enc 0,qE.enc ⟨(a:Int),(s:Int)⟩] (n.Agents[a].Ports[s].enc):=by
 refine pI YG (by simp[AV.trees,AV.tree,qI.tr,qE.tr]) (by exact qE.tr) ?_;simp only[YG,qQ,go_sem];refine zE rfl ?_;simp only[go_sem];simp only[gMp,gEg ha,oMs,go_sem];simp only[gEg hs,oMs,go_sem];refine jR (k:=2) (by rfl) (by rfl) (by exact⟨_,rfl⟩) (by decide) ?_;simp only[go_sem];refine qV qE.tr ?_;rfl
theorem qJ9{xs:List qC}{p:qE}(h:jH xs p=true):∃a s:Nat,p=⟨a,s⟩/\∃ha:a<xs.length,s<xs[a].Ports.length:=by
 simp only[jH,bAt]at h;have e1:=wu.1 h.1;have e2:=wu.1 h.2;have ha:p.Agent.toNat<xs.length:=by omega
 simp only[jz,gEg ha]at e2;refine⟨p.Agent.toNat,p.Slot.toNat, ?_,ha,by omega⟩;rw[Int.toNat_of_nonneg e1.1,Int.toNat_of_nonneg e2.1]
theorem c714{xs:List qC}{p:qE}:Pure Gm 714 [.lst 5 (xs.map qC.enc) false,p.enc] (.bool (jH xs p)):=by
 refine pI YO (by simp[AV.trees,AV.tree,qx qC.isSh.tree,qE.tr]) rfl ?_;simp only[YO,qQ,go_sem];refine zE rfl ?_;simp only[go_sem];have big (h0:0<=p.Agent) (h1:p.Agent<xs.length):jH xs p=(decide (0<=p.Slot)&&decide (p.Slot<(jz xs p.Agent:Int))):=by
  simp only[jH,inI];rw[Bool.eq_iff_iff];simp;omega
 first | (apply qe<;>intro hc<;>simp only[hc,go_sem]) | (apply qF<;>intro hc<;>simp only[hc,go_sem])
 ·first | (apply qe<;>intro hc<;>simp only[hc,go_sem]) | (apply qF<;>intro hc<;>simp only[hc,go_sem])
  ·first | (apply qe<;>intro hc<;>simp only[hc,go_sem]) | (apply qF<;>intro hc<;>simp only[hc,go_sem])
   ·have h0:0<=p.Agent:=by simp at*;omega
    have h1:p.Agent<xs.length:=by simp at*;omega
    have hlt:p.Agent.toNat<xs.length:=by omega
    rw[WK h0];simp only[gMp,gEg hlt,oMs,go_sem];refine qV rfl ?_;rw[big h0 h1];simp_all[jz]
   ·refine qV rfl ?_;rw[big (by simp at*;omega) (by simp at*;omega)];simp_all
    try (intro h;omega)
  ·refine qV rfl ?_;simp only[jH,inI,AV.bool.injEq];simp at*;omega
 ·refine qV rfl ?_;simp only[jH,inI,AV.bool.injEq];simp at*;omega
theorem c713{n:qI}{a s:Nat}(ha:a<n.Agents.length)(hs:s<n.Agents[a].Ports.length):Pure Gm 713 [qE.enc ⟨(a:Int),(s:Int)⟩,.ept n.enc 0] (.bool (!jK n.Agents ⟨(a:Int),(s:Int)⟩ n.Agents[a].Ports[s])):=by
 refine pI YN (by simp[AV.trees,AV.tree,qI.tr,qE.tr]) rfl ?_;simp only[YN,qQ,go_sem];refine zE rfl ?_;simp only[go_sem];refine qS (c555 ha hs) ?_;simp only[go_sem];refine jR (k:=2) (by rfl) (by rfl) (by exact⟨_,rfl⟩) (by decide) ?_;simp only[go_sem];obtain⟨q,hq⟩:∃q,q=n.Agents[a].Ports[s]:=⟨_,rfl⟩;rw[<-hq]
 first | (apply qe<;>intro hc<;>simp only[hc,go_sem]) | (apply qF<;>intro hc<;>simp only[hc,go_sem])
 ·refine qS c714 ?_;simp only[go_sem]
  first | (apply qe<;>intro hc<;>simp only[hc,go_sem]) | (apply qF<;>intro hc<;>simp only[hc,go_sem])
  ·have hp:jH n.Agents q=true:=by simpa using hc
   obtain⟨a2,s2,rfl,ha2,hs2⟩:=qJ9 hp;refine qS (c555 ha2 hs2) ?_;simp only[go_sem];refine qV rfl ?_;simp_all[jK,wz]
  ·refine qV rfl ?_;simp_all[jK]
 ·refine qV rfl ?_;simp_all[jK]
theorem UA{α:Type}(f:α->Nat):∀(xs ys:List α),zC f (xs++ys)=zC f xs+zC f ys
 |[],ys=>by simp[zC]
 | x::xs,ys=>by simp only[lCa,zC,UA f xs ys];omega
theorem qLD{α:Type}(f:α->Nat)(xs:List α)(i:Nat):zC f (xs.take i)<=zC f xs:=by
 have:=UA f (xs.take i) (xs.drop i);rw[List.take_append_drop]at this;omega
def zy(i k:Nat):List qE:=(List.range k).map fun s:Nat=>⟨(i:Int),(s:Int)⟩
theorem qSA(i k:Nat):zy i (k+1)=zy i k++[⟨(i:Int),(k:Int)⟩]:=by simp[zy,List.range_succ]
def zV(xs:List qC):Nat->List qE
 | 0=>[]
 | i+1=>zV xs i++zy i (jz xs (i:Int))
theorem Vm(xs:List qC):∀i,i<=xs.length->(zV xs i).length<=zC qC.sz (xs.take i)
 | 0,_=>nZl _
 | i+1,h=>by
  have:=Vm xs i (by omega);have hi:i<xs.length:=by omega
  have e:xs.take (i+1)=xs.take i++[xs[i]]:=by simp[List.take_append_getElem]
  have e2:zC qC.sz (xs.take i++[xs[i]])=zC qC.sz (xs.take i)+qC.sz xs[i]:=by
   rw[UA];rfl
  have e3:xs[i].Ports.length<=qC.sz xs[i]:=by unfold qC.sz;omega
  rw[e,e2];simp[zV,zy,jz,gEg hi];omega
theorem c554{n:qI}(hz:n.sz<=1048576):Pure Gm 554 [.ept n.enc 0] (.lst 2 ((zV n.Agents n.Agents.length).map qE.enc) false):=by
 refine pI YF (by simp[AV.trees,AV.tree,qI.tr]) (by simp[AV.tree,qx qE.isSh.tree]) ?_;simp only[YF,qQ,go_sem];unfold qI.sz at hz;refine Sem.loop (fun i:Nat=>i<=n.Agents.length) (fun i=>(⟨[(10,.lst 5 (n.Agents.map qC.enc) false),(11,.int .i64 (n.Agents.length:Int)),(12,.int .i64 (i:Nat)),(3,.slice 2 0 0 (zV n.Agents i).length false)],[],[.row 2 ((zV n.Agents i).map qE.enc) true]⟩:VSt)) (fun i=>n.Agents.length-i) 0 (by kernel_rfl) (nZl _) (Can.renum [none] rfl ⟨.ph,trivial⟩ ⟨⟨_,rfl,.tree (by simp[AV.tree,qx qC.isSh.tree])⟩,⟨_,rfl,.tree rfl⟩,⟨_,rfl,.tree rfl⟩,⟨_,rfl,.ph rfl⟩,trivial⟩ trivial) ?_;rintro i hi;simp only[go_sem];apply qF<;>intro hc<;>simp only[hc,go_sem]
 ·have hlt:i<n.Agents.length:=by have:=odT hc;omega
  simp only[gMp,gEg hlt,oMs,go_sem];refine jR (k:=5) (by rfl) (by rfl) (by exact⟨_,rfl⟩) (by decide) ?_;simp only[go_sem];have e0:zV n.Agents i++zy i 0=zV n.Agents i:=by simp[zy]
  have hpl:n.Agents[i].Ports.length<=zC qC.sz n.Agents:=by
   have h1:qC.sz n.Agents[i]<=zC qC.sz n.Agents:=QL (f:=qC.sz) (gMm hlt);have h2:n.Agents[i].Ports.length<=qC.sz n.Agents[i]:=by unfold qC.sz;omega
   omega
  have htl:=Vm n.Agents i (by omega);have htt:=qLD qC.sz n.Agents i;refine Sem.loop (fun k:Nat=>k<=n.Agents[i].Ports.length) (fun k=>(⟨[(10,.lst 5 (n.Agents.map qC.enc) false),(11,.int .i64 (n.Agents.length:Int)),(12,.int .i64 (i:Nat)),(4,.int .i64 (i:Nat)),(19,.int .i64 (n.Agents[i].Ports.length:Int)),(20,.int .i64 (k:Nat)),(3,.slice 2 0 0 (zV n.Agents i++zy i k).length false)],[],[.row 2 ((zV n.Agents i++zy i k).map qE.enc) true]⟩:VSt)) (fun k=>n.Agents[i].Ports.length-k) 0 (by kernel_rfl) (nZl _) (by simp only[e0];exact Can.sub (by simp[go_sem]) (by simp[go_sem])) ?_;rintro k hk;simp only[go_sem];apply qF<;>intro hc<;>simp only[hc,go_sem]
  ·have hkl:k<n.Agents[i].Ports.length:=by have:=odT hc;omega
   refine jt (el:=(zV n.Agents i++zy i k).map qE.enc) rfl rfl (by simp) (by simp[zy];omega) ?_;simp only[go_sem];simp only[zJ (show k<4611686018427387904 by omega)];refine ql (k+1) (by omega) (by omega) ?_;have e1:zV n.Agents i++zy i (k+1)=(zV n.Agents i++zy i k)++[⟨(i:Int),(k:Int)⟩]:=by rw[qSA,lAa]
   simp only[e1,lAp,lCo,lNi,nZa];refine Can.renum [some 2] rfl ⟨.row rfl ?_,trivial⟩ ⟨⟨_,rfl,.tree (by simp[AV.tree,qx qC.isSh.tree])⟩,⟨_,rfl,.tree rfl⟩,⟨_,rfl,.tree rfl⟩,⟨_,rfl,.tree rfl⟩,⟨_,rfl,.tree rfl⟩,⟨_,rfl,.tree rfl⟩,⟨_,rfl,.slice rfl⟩,trivial⟩ trivial;have t:=qx qE.isSh.tree ((zV n.Agents i++zy i k)++[⟨(i:Int),(k:Int)⟩]);rw[lMa]at t;rw[show ((zV n.Agents i++zy i k)++[(⟨(i:Int),(k:Int)⟩:qE)]).map qE.enc=(zV n.Agents i++zy i k).map qE.enc++[(⟨(i:Int),(k:Int)⟩:qE)].map qE.enc from lMa];exact VR2s.trees t
  ·obtain rfl:k=n.Agents[i].Ports.length:=by have:=odF hc;omega
   simp only[zJ (show i<4611686018427387904 by omega)];refine ql (i+1) (by omega) (by omega) ?_;have e2:zV n.Agents (i+1)=zV n.Agents i++zy i n.Agents[i].Ports.length:=by simp[zV,jz,gEg hlt]
   rw[e2];exact Can.sub (by simp[go_sem]) (by simp[go_sem])
 ·obtain rfl:i=n.Agents.length:=by have:=odF hc;omega
  refine Y1 (Cv.row rfl (by simp) (qx qE.isSh.tree _) (by omega))
def jc(xs:List qC)(me:qE):qE:=(wz xs me).getD ⟨0,0⟩
def ZM(xs:List qC)(me:qE):Bool:=jK xs me (jc xs me)
theorem qPN{i k:Nat}{q:qE}:q∈zy i k↔∃s:Nat,s<k/\q=⟨i,s⟩:=by
 simp only[zy,List.mem_map,lMr];constructor
 ·rintro⟨s,h,rfl⟩;exact⟨s,h,rfl⟩
 ·rintro⟨s,h,rfl⟩;exact⟨s,h,rfl⟩
theorem Wb{xs:List qC}{q:qE}:∀{m:Nat},m<=xs.length->(q∈zV xs m↔∃(i:Nat)(hi:i<xs.length),i<m/\∃s:Nat,s<xs[i].Ports.length/\q=⟨i,s⟩)
 | 0,_=>by simp[zV]
 | m+1,hm=>by
  have hml:m<xs.length:=by omega
  simp only[zV,zM,Wb (xs:=xs) (q:=q) (m:=m) (by omega),qPN,jz,iTn,gEg hml];constructor
  ·rintro(⟨i,hi,h1,h2⟩ | h)
   ·exact⟨i,hi,by omega,h2⟩
   ·exact⟨m,hml,by omega,h⟩
  ·rintro⟨i,hi,h1,h2⟩;by_cases e:i=m
   ·subst e;exact .inr h2
   ·exact .inl ⟨i,hi,by omega,h2⟩
theorem Vk{xs:List qC}{a s:Nat}(ha:a<xs.length)(hs:s<xs[a].Ports.length):jc xs ⟨a,s⟩=xs[a].Ports[s]:=by
 simp[jc,wz,gEg ha,gEg hs]
theorem UG{xs:List qC}{i:Nat}:∀{qs:List qE}{j:Nat},(∀(m:Nat)(hm:m<qs.length),jK xs ⟨i,(j+m:Nat)⟩ qs[m]=true)->js xs i qs j=true
 |[],_,_=>rfl
 | q::qs,j,h=>by
  simp only[js,bAt];refine⟨h 0 (by simp),UG fun m hm=> ?_⟩;have:=h (m+1) (by simp;omega);rw[show j+(m+1)=j+1+m by omega]at this;simpa using this
theorem VV{xs:List qC}:∀{l:List qC}{i:Nat},(∀(k:Nat)(hk:k<l.length),js xs (i+k) l[k].Ports 0=true)->wL xs l i=true
 |[],_,_=>rfl
 | x::l,i,h=>by
  simp only[wL,bAt];refine⟨h 0 (by simp),VV fun k hk=> ?_⟩;have:=h (k+1) (by simp;omega);rw[show i+(k+1)=i+1+k by omega]at this;simpa using this
theorem qQN(xs:List qC):((zV xs xs.length).all (ZM xs))=wL xs xs 0:=by
 rw[Bool.eq_iff_iff,lAt];constructor
 ·intro h;refine VV fun k hk=>UG fun m hm=> ?_;have:=h ⟨k,m⟩ ((Wb (nLr _)).2 ⟨k,hk,hk,m,hm,rfl⟩);rw[ZM,Vk hk hm]at this;simpa using this
 ·intro h q hq;obtain⟨i,hi,_,s,hs,rfl⟩:=(Wb (nLr _)).1 hq;rw[ZM,Vk hi hs];have:=UF (VU h i hi) s hs;simpa using this
theorem Zt{n:qI}(hz:n.sz<=1048576):Pure Gm 319 [n.enc] (.bool (qo n)):=by
 refine Pure.intro [1] [] (gk _ X2) (by kernel_rfl) rfl (by simp[AV.trees,qI.tr]) rfl ?_;simp only[X2,qQ,go_sem];have hz':=hz;unfold qI.sz at hz;have hl:(zV n.Agents n.Agents.length).length<=1048576:=by
  have h1:=Vm n.Agents n.Agents.length (nLr _);have h2:=qLD qC.sz n.Agents n.Agents.length;omega
 refine JZ rfl ?_;simp only[go_sem,lNa,lSz];refine qS (c711 (by omega)) ?_;simp only[go_sem];apply qF<;>intro hc<;>simp only[hc,go_sem]
 ·refine qV rfl ?_;have:jD n.Agents=false:=by simpa using hc
  simp[qo,this]
 ·refine qS (c554 hz') ?_;simp only[go_sem];refine qS (c712 (f:=.fn 713 [.ept n.enc 0]) (fun me=> !ZM n.Agents me) (by simp[AV.tree,AV.trees,qI.tr]) _ (fun x hx=> ?_) hl) ?_
  ·obtain⟨i,hi,_,s,hs,rfl⟩:=(Wb (nLr _)).1 hx;refine⟨713,_,rfl, ?_⟩;have c:=c713 hi hs;rw[ZM,Vk hi hs];exact c
  ·simp only[qGY,go_sem];refine qV rfl ?_;have:jD n.Agents=true:=by simpa using hc
   rw[qQN];simp[qo,this]
abbrev Ags:=List qC
abbrev pt(a s:Nat):qE:=⟨(a:Int),(s:Int)⟩
theorem wW{a s b t:Nat}:pt a s=pt b t↔a=b/\s=t:=by simp only[pt,qE.mk.injEq];omega
def atP(N:Ags)(a s:Nat):Option qE:=(N[a]?).bind fun x=>x.Ports[s]?
theorem Vl{N:Ags}{a s:Nat}{q:qE}(h:atP N a s=some q):jc N (pt a s)=q:=by
 unfold jc wz atP at*;simp only[pt,iTn];cases hx:N[a]? with
 | none=>simp[hx]at h
 | some x=>simp only[hx,oBs]at h;simp[h]
theorem qJ7{N:Ags}{a s:Nat}:wz N (pt a s)=atP N a s:=by
 unfold wz atP;simp only[pt,iTn];cases N[a]?<;>rfl
def wM(N:Ags)(p q:qE):Ags:=match N[p.Agent.toNat]? with
 | some x=>N.set p.Agent.toNat {x with Ports:=x.Ports.set p.Slot.toNat q}
 | none=>N
def wG(N:Ags)(p q:qE):Ags:=wM (wM N p q) q p
def qJQ(N:Ags)(old now:qE):Ags:=wG N now (jc N old)
def qI8(N:Ags)(x y:qE):Ags:=if jc N x=y then N else wG N (jc N x) (jc N y)
def Has(N:Ags)(a s:Nat):Prop:=∃q,atP N a s=some q
theorem z8{N:Ags}{a s:Nat}{q:qE}:atP N a s=some q↔∃x,N[a]?=some x/\x.Ports[s]?=some q:=by
 unfold atP;simp[Option.bind_eq_some_iff]
theorem wD{N:Ags}{a s:Nat}:Has N a s↔∃x,N[a]?=some x/\s<x.Ports.length:=by
 unfold Has;constructor
 ·rintro⟨q,h⟩;obtain⟨x,hx,hq⟩:=z8.1 h;exact⟨x,hx,(gSi.1 hq).1⟩
 ·rintro⟨x,hx,hs⟩;exact⟨x.Ports[s],z8.2 ⟨x,hx,gEg hs⟩⟩
theorem Jr{N:Ags}{a s:Nat}{q:qE}{x:qC}(hx:N[a]?=some x):wM N (pt a s) q=N.set a {x with Ports:=x.Ports.set s q}:=by
 unfold wM;simp only[pt,iTn,hx]
theorem V5{N:Ags}{p q:qE}:(wM N p q).length=N.length:=by unfold wM;split<;>simp
theorem qPE{N:Ags}{p q:qE}:(wG N p q).length=N.length:=by simp[wG,V5]
def jA(x:qC):Int×Int×Int×List Int×Nat:=(x.Kind,x.Level,x.Value,x.Data,x.Ports.length)
def SameA(N M:Ags):Prop:=M.map jA=N.map jA
theorem SameA.refl(N:Ags):SameA N N:=rfl
theorem SameA.trans{A B C:Ags}(h:SameA A B)(k:SameA B C):SameA A C:=Eq.trans k h
theorem SameA.len{A B:Ags}(h:SameA A B):B.length=A.length:=by simpa using congrArg List.length h
theorem SameA.at{A B:Ags}(h:SameA A B){a:Nat}{x:qC}(hx:A[a]?=some x):∃y,B[a]?=some y/\jA y=jA x:=by
 have e:=congrArg (fun l=>l[a]?) h;simp only[gMp,hx,oMs]at e;cases hy:B[a]? with
 | none=>simp[hy]at e
 | some y=>rw[hy]at e;exact⟨y,rfl,by simpa using e⟩
theorem SameA.back{A B:Ags}(h:SameA A B):SameA B A:=Eq.symm h
theorem SameA.app{A B C D:Ags}(h:SameA A B)(k:SameA C D):SameA (A++C) (B++D):=by
 unfold SameA at*;simp[h,k]
theorem ZY(N:Ags)(p q:qE):SameA N (wM N p q):=by
 unfold SameA wM;split
 ·rename_i x hx;apply List.ext_getElem?;intro i;simp only[gMp,gSt];split
  ·rename_i e;subst e;split
   ·simp[hx,jA]
   ·rename_i hn;rw[gEn (by omega)]at hx;cases hx
  ·rfl
 ·rfl
theorem VJ(N:Ags)(p q:qE):SameA N (wG N p q):=(ZY N p q).trans (ZY _ q p)
theorem SameA.has{A B:Ags}(h:SameA A B){a s:Nat}:Has A a s↔Has B a s:=by
 have f:∀{A B:Ags},SameA A B->Has A a s->Has B a s:=by
  intro A B h hh;obtain⟨x,hx,hs⟩:=wD.1 hh;obtain⟨y,hy,e⟩:=h.at hx;have:y.Ports.length=x.Ports.length:=congrArg (fun c=>c.2.2.2.2) e;exact wD.2 ⟨y,hy,by omega⟩
 exact⟨f h,f h.back⟩
theorem qG2{N:Ags}{a s b t:Nat}{q:qE}(hh:Has N a s):atP (wM N (pt a s) q) b t=if b=a/\t=s then some q else atP N b t:=by
 obtain⟨x,hx,hs⟩:=wD.1 hh;rw[Jr hx];unfold atP;by_cases hb:b=a
 ·subst hb;have hl:=(gSi.1 hx).1;rw[gSs hl,hx];simp only[oBs,gSt,true_and];by_cases ht:t=s
  ·subst ht;simp[hs]
  ·rw[if_neg (fun e=>ht e.symm),if_neg ht]
 ·rw[gSn (fun e=>hb e.symm),if_neg (fun e=>hb e.1)]
theorem wk{N:Ags}{a s c k b t:Nat}(h1:Has N a s)(h2:Has N c k):
  atP (wG N (pt a s) (pt c k)) b t=if b=c/\t=k then some (pt a s)else if b=a/\t=s then some (pt c k)else atP N b t:=by
 unfold wG;rw[qG2 ((ZY _ _ _).has.1 h2),qG2 h1]
def W(N:Ags)(X:Nat->Nat->Prop):Prop:=∀a s q,atP N a s=some q->¬X a s->∃b t,q=pt b t/\atP N b t=some (pt a s)/\¬X b t/\¬(b=a/\t=s)
theorem W.mono{N:Ags}{X Y:Nat->Nat->Prop}(h:W N X)(e:∀a s,Has N a s->(X a s↔Y a s)):W N Y:=by
 intro a s q hq hY;obtain⟨b,t,e1,e2,e3,e4⟩:=h a s q hq fun hx=>hY ((e a s ⟨q,hq⟩).1 hx);exact⟨b,t,e1,e2,fun hy=>e3 ((e b t ⟨_,e2⟩).2 hy),e4⟩
theorem W.link{N:Ags}{X:Nat->Nat->Prop}(h:W N X){a s c k:Nat}(h1:Has N a s)(h2:Has N c k)(x1:X a s)(x2:X c k)(hne:¬(a=c/\s=k)):
  W (wG N (pt a s) (pt c k)) fun b t=>X b t/\¬(b=a/\t=s)/\¬(b=c/\t=k):=by
 intro b t q hq hX;rw[wk h1 h2]at hq;split at hq
 ·rename_i e;obtain⟨rfl,rfl⟩:=e;cases hq;refine⟨a,s,rfl, ?_,by simp,hne⟩;rw[wk h1 h2,if_neg hne,if_pos ⟨rfl,rfl⟩]
 ·rename_i e;split at hq
  ·rename_i e';obtain⟨rfl,rfl⟩:=e';cases hq;refine⟨c,k,rfl, ?_,by simp,fun e=>hne ⟨e.1.symm,e.2.symm⟩⟩;rw[wk h1 h2,if_pos ⟨rfl,rfl⟩]
  ·rename_i e';obtain⟨b',t',e1,e2,e3,e4⟩:=h b t q hq fun hx=>hX ⟨hx,e',e⟩;refine⟨b',t',e1, ?_,fun hx=>e3 hx.1,e4⟩;rw[wk h1 h2,if_neg,if_neg,e2]
   ·rintro⟨rfl,rfl⟩;exact e3 x1
   ·rintro⟨rfl,rfl⟩;exact e3 x2
theorem W.live{N:Ags}{X:Nat->Nat->Prop}(h:W N X){a s:Nat}(h1:Has N a s)(x1:¬X a s):∃c k,jc N (pt a s)=pt c k/\atP N a s=some (pt c k)/\Has N c k/\¬X c k/\atP N c k=some (pt a s)/\¬(c=a/\k=s):=by
 obtain⟨q,hq⟩:=h1;obtain⟨b,t,rfl,e2,e3,e4⟩:=h a s q hq x1;exact⟨b,t,Vl hq,hq,⟨_,e2⟩,e3,e2,e4⟩
theorem W.move{N:Ags}{X:Nat->Nat->Prop}(h:W N X){a s c k:Nat}(h1:Has N a s)(h2:Has N c k)(x1:¬X a s)(x2:X c k):
  W (qJQ N (pt a s) (pt c k)) fun b t=>(X b t/\¬(b=c/\t=k))\/(b=a/\t=s):=by
 obtain⟨p,r,e,ea,hp,xp,ep,ne⟩:=h.live h1 x1;unfold qJQ;rw[e];have n1:¬(p=c/\r=k):=by rintro⟨rfl,rfl⟩;exact xp x2
 intro b t q hq hX;have hX1:¬(b=a/\t=s):=fun e=>hX (.inr e);rw[wk h2 hp]at hq;split at hq
 ·rename_i e;obtain⟨rfl,rfl⟩:=e;cases hq;refine⟨c,k,rfl, ?_, ?_,fun e=>n1 ⟨e.1.symm,e.2.symm⟩⟩
  ·rw[wk h2 hp,if_neg (fun e=>n1 ⟨e.1.symm,e.2.symm⟩),if_pos ⟨rfl,rfl⟩]
  ·rintro(⟨_,q⟩ | ⟨rfl,rfl⟩)
   ·exact q ⟨rfl,rfl⟩
   ·exact x1 x2
 ·rename_i e1;split at hq
  ·rename_i e';obtain⟨rfl,rfl⟩:=e';cases hq;refine⟨p,r,rfl, ?_, ?_,n1⟩
   ·rw[wk h2 hp,if_pos ⟨rfl,rfl⟩]
   ·rintro(⟨q,_⟩ | q)
    ·exact xp q
    ·exact ne q
  ·rename_i e';obtain⟨b',t',e1',e2,e3,e4⟩:=h b t q hq fun hx=>hX (.inl ⟨hx,e'⟩);subst e1';refine⟨b',t',rfl, ?_, ?_,e4⟩
   ·rw[wk h2 hp,if_neg,if_neg,e2]
    ·rintro⟨rfl,rfl⟩;exact e3 x2
    ·rintro⟨rfl,rfl⟩;rw[ep]at e2;exact hX1 (by have:=Option.some.inj e2;exact((wW.1 this).imp Eq.symm Eq.symm))
   ·rintro(⟨q,_⟩ | ⟨rfl,rfl⟩)
    ·exact e3 q
    ·rw[ea]at e2;have:=wW.1 (Option.some.inj e2);exact e1 ⟨this.1.symm,this.2.symm⟩
theorem W.drop2{N:Ags}{X:Nat->Nat->Prop}(h:W N X){a s c k:Nat}(h1:atP N a s=some (pt c k))(h2:atP N c k=some (pt a s)):W N fun b t=>X b t\/(b=a/\t=s)\/(b=c/\t=k):=by
 intro b t q hq hX;obtain⟨b',t',e1,e2,e3,e4⟩:=h b t q hq fun hx=>hX (.inl hx);refine⟨b',t',e1,e2, ?_,e4⟩;rintro(x | ⟨rfl,rfl⟩ | ⟨rfl,rfl⟩)
 ·exact e3 x
 ·rw[h1]at e2;have:=wW.1 (Option.some.inj e2);exact hX (.inr (.inr ⟨this.1.symm,this.2.symm⟩))
 ·rw[h2]at e2;have:=wW.1 (Option.some.inj e2);exact hX (.inr (.inl ⟨this.1.symm,this.2.symm⟩))
theorem W.join{N:Ags}{X:Nat->Nat->Prop}(h:W N X){a s c k:Nat}(h1:Has N a s)(h2:Has N c k)(x1:¬X a s)(x2:¬X c k)(hne:¬(a=c/\s=k)):
  W (qI8 N (pt a s) (pt c k)) fun b t=>X b t\/(b=a/\t=s)\/(b=c/\t=k):=by
 obtain⟨p,r,e,ea,hp,xp,ep,ne⟩:=h.live h1 x1;obtain⟨p',r',e',ea',hp',xp',ep',ne'⟩:=h.live h2 x2;unfold qI8;rw[e,e'];split
 ·rename_i q;obtain⟨rfl,rfl⟩:=wW.1 q;exact h.drop2 ea ep
 ·rename_i q;have q1:¬(p=c/\r=k):=fun w=>q (wW.2 w);have d1:¬(p=p'/\r=r'):=by
   rintro⟨rfl,rfl⟩;rw[ep]at ep';exact hne (wW.1 (Option.some.inj ep'))
  have d2:¬(p'=a/\r'=s):=by
   rintro⟨rfl,rfl⟩;rw[ea]at ep';exact q1 (wW.1 (Option.some.inj ep'))
  have:=((h.drop2 ea ep).drop2 ea' ep').link hp hp' (.inl (.inr (.inr ⟨rfl,rfl⟩))) (.inr (.inr ⟨rfl,rfl⟩)) d1;refine this.mono fun b t _=> ?_;constructor
  ·rintro⟨((x | x | x) | x | x),y,z⟩
   ·exact .inl x
   ·exact .inr (.inl x)
   ·exact absurd x y
   ·exact .inr (.inr x)
   ·exact absurd x z
  ·rintro(x | ⟨rfl,rfl⟩ | ⟨rfl,rfl⟩)
   ·exact⟨.inl (.inl x),(by rintro⟨rfl,rfl⟩;exact xp x),(by rintro⟨rfl,rfl⟩;exact xp' x)⟩
   ·exact⟨.inl (.inr (.inl ⟨rfl,rfl⟩)),fun e=>ne ⟨e.1.symm,e.2.symm⟩,fun e=>d2 ⟨e.1.symm,e.2.symm⟩⟩
   ·exact⟨.inr (.inl ⟨rfl,rfl⟩),fun e=>q1 ⟨e.1.symm,e.2.symm⟩,fun e=>ne' ⟨e.1.symm,e.2.symm⟩⟩
theorem Zq{N M:Ags}{a s:Nat}(h:a<N.length):atP (N++M) a s=atP N a s:=by
 unfold atP;rw[gAl h]
theorem Q2{N:Ags}{a s:Nat}{q:qE}(h:atP N a s=some q):a<N.length:=by
 obtain⟨x,hx,_⟩:=z8.1 h;exact(gSi.1 hx).1
theorem Has.lt{N:Ags}{a s:Nat}(h:Has N a s):a<N.length:=by obtain⟨q,h⟩:=h;exact Q2 h
theorem Has.app{N M:Ags}{a s:Nat}(h:Has N a s):Has (N++M) a s:=by
 have:=h.lt;obtain⟨q,h⟩:=h;exact⟨q,by rw[Zq this];exact h⟩
theorem W.add{N:Ags}{X:Nat->Nat->Prop}(h:W N X)(x:qC):W (N++[x]) fun b t=>(X b t/\b<N.length)\/b=N.length:=by
 intro a s q hq hX;have hl:=Q2 hq;simp only[lAp,lCo,lNi]at hl;have ha:a<N.length:=by
  rcases Nat.lt_or_ge a N.length with q | q
  ·exact q
  ·exact absurd (.inr (by omega)) hX
 rw[Zq ha]at hq;obtain⟨b,t,e1,e2,e3,e4⟩:=h a s q hq fun hx=>hX (.inl ⟨hx,ha⟩);have hb:=Q2 e2;refine⟨b,t,e1,by rw[Zq hb];exact e2, ?_,e4⟩;rintro(⟨x,_⟩ | x)
 ·exact e3 x
 ·omega
theorem qE.plx(x:qE):x.enc.pl=true:=by simp[qE.enc,AV.pl,AV.pls]
theorem qE.layE(x:qE)(n:Nat):lay x.enc n=(.agg [.int .i64 x.Agent,.int .i64 x.Slot],[]):=by
 simp[qE.enc,lay,qN]
theorem qC.plx(x:qC):x.enc.pl=true:=by simp[qC.enc,AV.pl,AV.pls,je (enc:=qG) (fun _=>rfl),je qE.plx]
theorem qC.layE(x:qC)(n:Nat):lay x.enc n=(.agg [.int .i64 x.Kind,.int .i64 x.Level,.int .i64 x.Value,.slice 1 (n) 0 x.Data.length false,.slice 2 (n+AV.rows (.lst 1 (x.Data.map qG) false)) 0 x.Ports.length false],(lay (.lst 1 (x.Data.map qG) false) (n)).2++((lay (.lst 2 (x.Ports.map qE.enc) false) (n+AV.rows (.lst 1 (x.Data.map qG) false))).2++[])):=by
 simp[qC.enc,lay,qN,jE,AV.rows,Nat.add_comm,Nat.add_left_comm]
theorem qI.plx(x:qI):x.enc.pl=true:=by simp[qI.enc,AV.pl,AV.pls,je qC.plx]
theorem qI.layE(x:qI)(n:Nat):lay x.enc n=(.agg [.slice 5 (n) 0 x.Agents.length false],(lay (.lst 5 (x.Agents.map qC.enc) false) (n)).2++[]):=by
 simp[qI.enc,lay,qN]
theorem qf.plx(x:qf):x.enc.pl=true:=by simp[qf.enc,AV.pl,AV.pls]
theorem qf.layE(x:qf)(n:Nat):lay x.enc n=(.agg [.int .i64 x.Step,.int .i64 x.Def,.int .i64 x.Source],[]):=by
 simp[qf.enc,lay,qN]
theorem qn.plx(x:qn):x.enc.pl=true:=by simp[qn.enc,AV.pl,AV.pls]
theorem qn.layE(x:qn)(n:Nat):lay x.enc n=(.agg [.int .i64 x.Kind,.int .i64 x.Value],[]):=by
 simp[qn.enc,lay,qN]
theorem qu.plx(x:qu):x.enc.pl=true:=by simp[qu.enc,AV.pl,AV.pls,je qC.plx,je qf.plx]
theorem qu.layE(x:qu)(n:Nat):lay x.enc n=(.agg [.int .i64 x.At,.slice 5 (n) 0 x.Net.Agents.length false,.slice 3 (n+AV.rows (.lst 5 (x.Net.Agents.map qC.enc) false)) 0 x.Origins.length false],(lay (.lst 5 (x.Net.Agents.map qC.enc) false) (n)).2++((lay (.lst 3 (x.Origins.map qf.enc) false) (n+AV.rows (.lst 5 (x.Net.Agents.map qC.enc) false))).2++[])):=by
 simp[qu.enc,lay,qN,jE,AV.rows,Nat.add_comm,Nat.add_left_comm]
theorem zA.plx(x:zA):x.enc.pl=true:=by simp[zA.enc,AV.pl,AV.pls,je (enc:=qG) (fun _=>rfl),je qC.plx,je qn.plx,je qu.plx,je qI.plx,je qf.plx]
theorem zA.layE(x:zA)(n:Nat):lay x.enc n=(.agg [.slice 1 (n) 0 x.Book.length false,.slice 1 (n+AV.rows (.lst 1 (x.Book.map qI.enc) false)) 0 x.Schedule.length false,.int .i64 x.Every,.int .i64 x.At,.slice 5 (n+AV.rows (.lst 1 (x.Book.map qI.enc) false)+AV.rows (.lst 1 (x.Schedule.map qG) false)) 0 x.Net.Agents.length false,.slice 3 (n+AV.rows (.lst 1 (x.Book.map qI.enc) false)+AV.rows (.lst 1 (x.Schedule.map qG) false)+AV.rows (.lst 5 (x.Net.Agents.map qC.enc) false)) 0 x.Origins.length false,.slice 2 (n+AV.rows (.lst 1 (x.Book.map qI.enc) false)+AV.rows (.lst 1 (x.Schedule.map qG) false)+AV.rows (.lst 5 (x.Net.Agents.map qC.enc) false)+AV.rows (.lst 3 (x.Origins.map qf.enc) false)) 0 x.Breaks.length false,.slice 3 (n+AV.rows (.lst 1 (x.Book.map qI.enc) false)+AV.rows (.lst 1 (x.Schedule.map qG) false)+AV.rows (.lst 5 (x.Net.Agents.map qC.enc) false)+AV.rows (.lst 3 (x.Origins.map qf.enc) false)+AV.rows (.lst 2 (x.Breaks.map qn.enc) false)) 0 x.Points.length false],(lay (.lst 1 (x.Book.map qI.enc) false) (n)).2++((lay (.lst 1 (x.Schedule.map qG) false) (n+AV.rows (.lst 1 (x.Book.map qI.enc) false))).2++((lay (.lst 5 (x.Net.Agents.map qC.enc) false) (n+AV.rows (.lst 1 (x.Book.map qI.enc) false)+AV.rows (.lst 1 (x.Schedule.map qG) false))).2++((lay (.lst 3 (x.Origins.map qf.enc) false) (n+AV.rows (.lst 1 (x.Book.map qI.enc) false)+AV.rows (.lst 1 (x.Schedule.map qG) false)+AV.rows (.lst 5 (x.Net.Agents.map qC.enc) false))).2++((lay (.lst 2 (x.Breaks.map qn.enc) false) (n+AV.rows (.lst 1 (x.Book.map qI.enc) false)+AV.rows (.lst 1 (x.Schedule.map qG) false)+AV.rows (.lst 5 (x.Net.Agents.map qC.enc) false)+AV.rows (.lst 3 (x.Origins.map qf.enc) false))).2++((lay (.lst 3 (x.Points.map qu.enc) false) (n+AV.rows (.lst 1 (x.Book.map qI.enc) false)+AV.rows (.lst 1 (x.Schedule.map qG) false)+AV.rows (.lst 5 (x.Net.Agents.map qC.enc) false)+AV.rows (.lst 3 (x.Origins.map qf.enc) false)+AV.rows (.lst 2 (x.Breaks.map qn.enc) false))).2++[])))))):=by
 simp[zA.enc,lay,qN,jE,AV.rows,Nat.add_assoc,Nat.add_comm,Nat.add_left_comm]
theorem flat{α:Type}{enc:α->AV}(h:∀x n,lay (enc x) n=(enc x,[])):∀(xs:List α)(n:Nat),qN (xs.map enc) n=(xs.map enc,[])
 |[],_=>rfl
 | x::xs,n=>by simp only[lMc,qN,h,lNi,nAz,flat h xs,lNa]
theorem qE.flat(xs:List qE)(n:Nat):qN (xs.map qE.enc) n=(xs.map qE.enc,[]):=Go.Ab.flat (fun x n=>qE.layE x n) xs n
theorem qf.flat(xs:List qf)(n:Nat):qN (xs.map qf.enc) n=(xs.map qf.enc,[]):=Go.Ab.flat (fun x n=>qf.layE x n) xs n
theorem qn.flat(xs:List qn)(n:Nat):qN (xs.map qn.enc) n=(xs.map qn.enc,[]):=Go.Ab.flat (fun x n=>qn.layE x n) xs n
theorem n401(xs:List Int)(hz:xs.length<=4194304):Fresh Gm 401 [.lst 1 (xs.map qG) false] (.lst 1 (xs.map qG) false):=
 qHP (w:=1) (gk _ F401) (lI xs) (je (fun _=>rfl) xs) (qx shI.tree xs) (by simpa using hz)
theorem qPT(xs:List qE)(hz:xs.length<=4194304):Fresh Gm 1373 [.lst 2 (xs.map qE.enc) false] (.lst 2 (xs.map qE.enc) false):=
 qHP (w:=2) (gk _ qA0) (qE.flat xs) (je qE.plx xs) (qx qE.isSh.tree xs) (by simpa using hz)
theorem qPS(x:qC)(hz:x.sz<=1048576):Fresh Gm 1085 [x.enc] x.enc:=by
 unfold qC.sz at hz;refine fI XM (by simp[AV.trees,go_sem]) (qC.plx x) ?_;simp only[XM,qQ,go_sem];refine zE rfl ?_;simp only[qC.enc];simp only[go_sem];refine Yn (n401 x.Data (by omega)) ?_;simp only[go_sem,qJC];refine Yn (qPT x.Ports (by omega)) ?_;simp only[go_sem,qJC];refine jR rfl rfl ⟨_,rfl⟩ (by decide) ?_;simp only[go_sem];exact qIR (pre:=[]) (post:=[]) (t:=x.enc) (qC.plx x) (by simp[zN,qC.layE,qr]) (by simp[qC.layE,qr])
theorem qJ{α:Type}{xs:List α}{i:Nat}{x:α}(h:xs[i]?=some x):i<xs.length:=(gSi.1 h).1
def pv(x:qC)(p:Nat):AV:=if x.Ports.length=0 then .lst 2 [] false else .slice 2 p 0 x.Ports.length false
theorem qQR{x:qC}{p:Nat}(h:0<x.Ports.length):pv x p=.slice 2 p 0 x.Ports.length false:=if_neg (by omega)
def encR(x:qC)(p:Nat):AV:=.agg [.int .i64 x.Kind,.int .i64 x.Level,.int .i64 x.Value,.lst 1 (x.Data.map qG) false,pv x p]
section
variable {x:qC} {p:Nat}
@[go_sem] theorem encR.ln:(encR x p).cells.length=5:=nr rfl
@[go_sem] theorem encR.all:(encR x p).part 0 (some 5)=some (encR x p):=nr rfl
@[go_sem] theorem encR.cs:(encR x p).cells=[.int .i64 x.Kind,.int .i64 x.Level,.int .i64 x.Value,.lst 1 (x.Data.map qG) false,pv x p]:=nr rfl
@[go_sem] theorem encR.p0:(encR x p).part 0 none=some (.int .i64 x.Kind):=nr rfl
@[go_sem] theorem encR.p1:(encR x p).part 1 none=some (.int .i64 x.Level):=nr rfl
@[go_sem] theorem encR.p2:(encR x p).part 2 none=some (.int .i64 x.Value):=nr rfl
@[go_sem] theorem encR.p3:(encR x p).part 3 none=some (.lst 1 (x.Data.map qG) false):=nr rfl
@[go_sem] theorem encR.p4:(encR x p).part 4 none=some (pv x p):=nr rfl
theorem encR.isAgg:∃cs,encR x p=.agg cs:=⟨_,rfl⟩
end
def jx:Ags->List Nat->List AV
 | x::N,p::ps=>encR x p::jx N ps
 | _,_=>[]
theorem qIG:∀{N:Ags}{ps:List Nat}{k:Nat}{x:qC}{p:Nat},N[k]?=some x->ps[k]?=some p->(jx N ps)[k]?=some (encR x p)
 | x::N,p::ps,0,_,_,h1,h2=>by cases h1;cases h2;rfl
 | x::N,p::ps,k+1,_,_,h1,h2=>qIG (N:=N) (ps:=ps) (k:=k) h1 h2
 |[],_,_,_,_,h1,_=>by simp at h1
 | _::_,[],_,_,_,_,h2=>by simp at h2
theorem qIF:∀{N M:Ags}{ps qs:List Nat},ps.length=N.length->jx (N++M) (ps++qs)=jx N ps++jx M qs
 | x::N,M,p::ps,qs,h=>by simp[jx,qIF (N:=N) (ps:=ps) (by simpa using h)]
 |[],_,[],_,_=>rfl
 |[],_,_::_,_,h=>by simp at h
 | _::_,_,[],_,h=>by simp at h
theorem qN9{x y:qC}{p:Nat}(h:jA y=jA x):encR y p=encR x p:=by
 simp only[jA,Prod.mk.injEq]at h;obtain⟨h1,h2,h3,h4,h5⟩:=h;unfold encR pv;rw[h1,h2,h3,h4,h5]
theorem qIH:∀{N M:Ags}{ps:List Nat},SameA N M->jx M ps=jx N ps
 |[],[],_,_=>rfl
 |[],_::_,_,h=>by simp[SameA]at h
 | _::_,[],_,h=>by simp[SameA]at h
 | x::N,y::M,[],h=>rfl
 | x::N,y::M,p::ps,h=>by
  unfold SameA at h;simp only[lMc,List.cons.injEq]at h;simp only[jx,qN9 h.1,qIH (N:=N) (M:=M) (ps:=ps) h.2]
structure NA(w:Nat)(post:List AV)(base:Nat->Prop)(nid aid:Nat)(ps:List Nat)(h:List qA)(N:Ags):Prop where
 o:h[nid]?=some (.row w [.agg (.slice 5 aid 0 N.length false::post)] true)
 a:h[aid]?=some (.row 5 (jx N ps) true)
 l:ps.length=N.length
 p:∀(k:Nat)(x:qC)(q:Nat),N[k]?=some x->ps[k]?=some q->0<x.Ports.length->h[q]?=some (.row 2 (x.Ports.map qE.enc) true)
 nd:ps.Nodup
 n1:nid≠aid
 n2:nid∉ps
 n3:aid∉ps
 b1:¬base nid
 b2:¬base aid
 b3:∀q∈ps,¬base q
 b4:∀q∈ps,∃el,h[q]?=some (.row 2 el true)
 bl:∀j,base j->j<h.length
def NE(w:Nat)(post:List AV)(base:Nat->Prop)(nid:Nat)(h:List qA)(N:Ags):Prop:=∃aid ps,NA w post base nid aid ps h N
abbrev Lo(n:Nat):Nat->Prop:=fun j=>j<n
structure qv(base:Nat->Prop)(h h':List qA):Prop where
 l:h.length<=h'.length
 k:∀j,base j->h'[j]?=h[j]?
theorem qv.refl{b:Nat->Prop}{h:List qA}:qv b h h:=⟨nLr _,fun _ _=>rfl⟩
theorem qv.trans{b:Nat->Prop}{h h1 h2:List qA}(x:qv b h h1)(y:qv b h1 h2):qv b h h2:=⟨nLt x.l y.l,fun j hj=>(y.k j hj).trans (x.k j hj)⟩
theorem nbe{P:Nat->Prop}{i j:Nat}(h:¬P i)(hj:P j):i≠j:=fun e=>h (by rw[e];exact hj)
theorem qv.app{b:Nat->Prop}{h ex:List qA}(hb:∀j,b j->j<h.length):qv b h (h++ex):=⟨by simp,fun j hj=>gAl (hb j hj)⟩
theorem qv.set{b:Nat->Prop}{i:Nat}{h:List qA}{o:qA}(hb:¬b i):qv b h (h.set i o):=⟨by simp,fun j hj=>gSn fun e=>hb (by rw[e];exact hj)⟩
section
variable {w:Nat} {post:List AV} {base:Nat->Prop} {nid aid:Nat} {ps:List Nat} {h h':List qA} {N:Ags}
theorem NA.lt(hN:NA w post base nid aid ps h N):nid<h.length:=qJ hN.o
theorem NA.lta(hN:NA w post base nid aid ps h N):aid<h.length:=qJ hN.a
theorem NA.ltp(hN:NA w post base nid aid ps h N){q:Nat}(hq:q∈ps):q<h.length:=by obtain⟨el,e⟩:=hN.b4 q hq;exact qJ e
theorem NE.bl(hN:NE w post base nid h N):∀j,base j->j<h.length:=by obtain⟨_,_,hN⟩:=hN;exact hN.bl
theorem NA.at(hN:NA w post base nid aid ps h N){k:Nat}{x:qC}(hx:N[k]?=some x)(h0:0<x.Ports.length):∃q,ps[k]?=some q/\(jx N ps)[k]?=some (encR x q)/\h[q]?=some (.row 2 (x.Ports.map qE.enc) true)/\pv x q=.slice 2 q 0 x.Ports.length false:=by
 have hk:=qJ hx;rw[<-hN.l]at hk;exact⟨ps[k],gEg hk,qIG hx (gEg hk),hN.p k x _ hx (gEg hk) h0,qQR h0⟩
theorem NA.heap(hN:NA w post base nid aid ps h N)(e1:h'[nid]?=h[nid]?)(e2:h'[aid]?=h[aid]?)(e3:∀q∈ps,h'[q]?=h[q]?)(hl:h.length<=h'.length:=by first | omega | (simp;done) | (simp;omega)):NA w post base nid aid ps h' N:=
 {hN with o:=e1.trans hN.o,a:=e2.trans hN.a,p:=fun k x q hx hq h0=>(e3 q (lMo hq)).trans (hN.p k x q hx hq h0),b4:=fun q hq=>by obtain⟨el,e⟩:=hN.b4 q hq;exact⟨el,(e3 q hq).trans e⟩,bl:=fun j hj=>Nat.lt_of_lt_of_le (hN.bl j hj) hl}
theorem NA.app(hN:NA w post base nid aid ps h N)(ex:List qA):NA w post base nid aid ps (h++ex) N:=
 hN.heap (gAl hN.lt) (gAl hN.lta) fun q hq=>gAl (hN.ltp hq)
theorem NE.app(hN:NE w post base nid h N)(ex:List qA):NE w post base nid (h++ex) N:=by
 obtain⟨aid,ps,hN⟩:=hN;exact⟨aid,ps,hN.app ex⟩
theorem NE.keep(hN:NE w post base nid h N)(hk:qv (Lo h.length) h h'):NE w post base nid h' N:=by
 obtain⟨aid,ps,hN⟩:=hN;exact⟨aid,ps,hN.heap (hk.k _ hN.lt) (hk.k _ hN.lta) (fun q hq=>hk.k _ (hN.ltp hq)) hk.l⟩
theorem qv.up{b c:Nat->Prop}{h h':List qA}(hb:∀j,b j->c j)(hk:qv c h h'):qv b h h':=⟨hk.l,fun j hj=>hk.k j (hb j hj)⟩
theorem NA.write(hN:NA w post base nid aid ps h N){a s q0:Nat}{x:qC}{r:qE}(hx:N[a]?=some x)(hq:ps[a]?=some q0):
  NA w post base nid aid ps (h.set q0 (.row 2 ((x.Ports.set s r).map qE.enc) true)) (wM N (pt a s) r):=by
 have hm:=lMo hq;have h0:=hN.ltp hm;have e1:nid≠q0:=fun e=>hN.n2 (e▸hm);have e2:aid≠q0:=fun e=>hN.n3 (e▸hm);refine⟨?_, ?_,by rw[V5];exact hN.l,fun k y q hy hq' h00=> ?_,hN.nd,hN.n1,hN.n2,hN.n3,hN.b1,hN.b2,hN.b3,fun q hq'=>by
  by_cases e:q=q0
  ·subst e;exact⟨_,gSs h0⟩
  ·rw[gSn (Ne.symm e)];exact hN.b4 q hq',fun j hj=>by rw[lLs];exact hN.bl j hj⟩
 ·rw[gSn (Ne.symm e1),V5];exact hN.o
 ·rw[gSn (Ne.symm e2),qIH (ZY N (pt a s) r)];exact hN.a
 ·rw[Jr hx]at hy;by_cases hk:k=a
  ·subst hk;rw[hq]at hq';cases hq';rw[gSs (qJ hx)]at hy;cases hy;rw[gSs h0]
  ·rw[gSn (fun e=>hk e.symm)]at hy;have:q0≠q:=by
    intro e;subst e;have k1:=qJ hq;have k2:=qJ hq';have f1:=(gSi.1 hq).2;have f2:=(gSi.1 hq').2;exact hk (((List.getElem_inj hN.nd).1 (f1.trans f2.symm)).symm)
   rw[gSn this];exact hN.p k y q hy hq' h00
theorem NA.push(hN:NA w post base nid aid ps h N){x:qC}{q:Nat}(hq:h[q]?=some (.row 2 (x.Ports.map qE.enc) true))(b:¬base q)(q1:q≠nid)(q2:q≠aid)(q3:q∉ps){h2:List qA}
  (e1:h2[nid]?=some (.row w [.agg (.slice 5 h.length 0 (N.length+1) false::post)] true)) (e2:h2[h.length]?=some (.row 5 (jx N ps++[encR x q]) true)) (e3:∀j,j<h.length->j≠nid->j≠aid->h2[j]?=h[j]?):
  NA w post base nid h.length (ps++[q]) h2 (N++[x]):=by
 have k0:=hN.lt;have k1:=hN.lta;have k2:=qJ hq;refine⟨by simpa using e1,by rw[qIF hN.l];exact e2,by simp[hN.l],fun k y r hy hr h00=> ?_, ?_,by omega, ?_, ?_,hN.b1,fun q=>Nat.lt_irrefl _ (hN.bl _ q), ?_, ?_,fun j hj=>Nat.lt_trans (hN.bl j hj) (qJ e2)⟩
 ·rcases Nat.lt_or_ge k N.length with hk | hk
  ·rw[gAl hk]at hy;rw[gAl (by rw[hN.l];exact hk)]at hr;have hm:=lMo hr;rw[e3 r (hN.ltp hm) (fun e=>hN.n2 (e▸hm)) (fun e=>hN.n3 (e▸hm))];exact hN.p k y r hy hr h00
  ·rw[gAr hk]at hy;rw[gAr (by rw[hN.l];exact hk),hN.l]at hr;have:k-N.length=0:=by have:=qJ hy;simp at this;omega
   rw[this]at hy hr;cases hy;cases hr;rw[e3 q k2 q1 q2];exact hq
 ·rw[List.nodup_append];exact⟨hN.nd,by simp,fun a ha b hb=>by simp at hb;subst hb;intro e;exact q3 (e▸ha)⟩
 ·simp only[zM,List.mem_singleton,not_or];exact⟨hN.n2,Ne.symm q1⟩
 ·simp only[zM,List.mem_singleton,not_or];exact⟨fun e=>by have:=hN.ltp e;omega,by omega⟩
 ·intro r hr;rcases zM.1 hr with hr | hr
  ·exact hN.b3 r hr
  ·simp at hr;subst hr;exact b
 ·have k3:=qJ e2;intro r hr;rcases zM.1 hr with hr | hr
  ·obtain⟨el,e⟩:=hN.b4 r hr;have hl:=qJ e;exact⟨el,by rw[e3 r hl (fun e=>hN.n2 (e▸hr)) (fun e=>hN.n3 (e▸hr))];exact e⟩
  ·simp at hr;subst hr;exact⟨_,by rw[e3 _ k2 q1 q2];exact hq⟩
end
section
variable {w:Nat} {post:List AV} {base:Nat->Prop} {nid:Nat} {h:List qA} {N:Ags} {K:AV->List qA->Prop} {a s c k:Nat}
theorem qOX{len id a:Nat}(h:a<len):idx 2 (some (.slice 2 id 0 len false)) (some (.int .i64 (a:Int)))=some (.ptr id a 0):=by rw[qOY h,nZa]
theorem Vn{x:qC}{s:Nat}(h:s<x.Ports.length):(x.Ports.map qE.enc)[s]?=some (x.Ports[s].enc):=by rw[gMp,gEg h];rfl
theorem qKE{p q:qE}:p.enc.put 0 q.enc=some q.enc:=by cases p;cases q;rfl
theorem qK1{x:qC}{s:Nat}{q:qE}:(x.Ports.map qE.enc).set s q.enc=(x.Ports.set s q).map qE.enc:=by rw[List.map_set]
end
theorem qP9{b:Nat->Prop}{pid w:Nat}{h g:List qA}{el:List AV}{x:AV}{tmp:qA}(hk:qv b h g)(hh:∀j,b j->j<h.length)(hb:¬b pid)(h1:g[pid]?=some (.row w el true)):
  qv b h (((g++[tmp]).set pid .dead)++[.row w (el++[x]) true])/\(((g++[tmp]).set pid .dead)++[.row w (el++[x]) true])[g.length+1]?=some (.row w (el++[x]) true):=by
 have hl:=hk.l;refine⟨⟨by simp;omega,fun j hj=> ?_⟩, ?_⟩
 ·have:=hh j hj;rw[gAl (by simp;omega),gSn (nbe hb hj),gAl (by omega)];exact hk.k j hj
 ·rw[gAr (by simp)];simp
theorem wV{pid w:Nat}{g:List qA}{el:List AV}{tmp:qA}(h1:g[pid]?=some (.row w el true)):(g++[tmp])[pid]?=some (.row w el true)/\(g++[tmp])[g.length]?=some tmp:=by
 exact⟨by rw[gAl (qJ h1)];exact h1,by simp⟩
theorem put0{a b c d:Nat}{e:Bool}{v:AV}{post:List AV}:(AV.agg (v::post)).put 0 (.slice a b c d e)=some (.agg (.slice a b c d e::post)):=by simp[AV.put,AV.cells]
abbrev zp:qE:=⟨0,0⟩
theorem qQ4{i:Nat}:List.replicate i zp.enc++[zp.enc]=List.replicate (i+1) zp.enc:=by rw[List.replicate_succ']
section
variable {w:Nat} {post:List AV} {base:Nat->Prop} {nid:Nat} {h:List qA} {N:Ags} {K:AV->List qA->Prop} {a s c k:Nat}
end
structure NT(w:Nat)(post:List AV)(base:Nat->Prop)(nid aid:Nat)(h:List qA)(N:Ags):Prop where
 o:h[nid]?=some (.row w [.agg (.slice 5 aid 0 N.length false::post)] true)
 a:h[aid]?=some (.row 5 (N.map qC.enc) true)
 n1:nid≠aid
 b1:¬base nid
 b2:¬base aid
section
variable {w:Nat} {post:List AV} {base:Nat->Prop} {nid aid:Nat} {ps:List Nat} {h:List qA} {N:Ags} {K:AV->List qA->Prop} {a s c k:Nat}
abbrev VB:qC:=⟨0,0,0,[],[]⟩
end
section
variable {N:Ags} {a b c d:Nat} {x y:qC} {lab lev:Int} {X:Nat->Nat->Prop}
theorem Has.same{A B:Ags}(hs:SameA A B)(h:Has A a c):Has B a c:=hs.has.1 h
end
section
variable {N:Ags} {a b c d f s n:Nat} {x y:qC} {lab lev:Int} {X:Nat->Nat->Prop}
theorem W.peer(h:W N X)(h1:Has N a s)(x1:¬X a s):∃b t,jc N (pt a s)=pt b t/\Has N b t:=by
 obtain⟨c,k,e,_,h2,_⟩:=h.live h1 x1;exact⟨c,k,e,h2⟩
structure Pr(N:Ags)(a b:Nat)(x y:qC)(X:Nat->Nat->Prop):Prop where
 w:W N X
 x:N[a]?=some x
 y:N[b]?=some y
 ne:a≠b
 l:∀p q,X p q->(p=a\/p=b)->q=0
theorem Pr.la(h:Pr N a b x y X):a<N.length:=(gSi.1 h.x).1
theorem Pr.lb(h:Pr N a b x y X):b<N.length:=(gSi.1 h.y).1
theorem Pr.nb(h:Pr N a b x y X){q:Nat}(hq:0<q):¬X b q:=fun e=>by have:=h.l b q e (.inr rfl);omega
theorem Has.in(h:Has N a s)(hx:N[a]?=some x):s<x.Ports.length:=by
 obtain⟨z,hz,hs⟩:=wD.1 h;rw[hx]at hz;cases hz;exact hs
def Dead(R:Nat->Bool)(a b:Nat)(p q:Nat):Prop:=R p=true\/p=a\/p=b
structure Act(R:Nat->Bool)(N:Ags)(a b:Nat)(x y:qC):Prop where
 w:W N fun u _=>R u=true
 x:N[a]?=some x
 y:N[b]?=some y
 ne:a≠b
 pa:atP N a 0=some (pt b 0)
 pb:atP N b 0=some (pt a 0)
 ra:R a=false
 rb:R b=false
 rl:∀u,R u=true->u<N.length
variable {R:Nat->Bool}
theorem Act.nr(h:Act R N a b x y){u:Nat}(e:R u=true):u<N.length/\u≠a/\u≠b:=
 ⟨h.rl u e,fun q=>(by subst q;rw[h.ra]at e;cases e),fun q=>(by subst q;rw[h.rb]at e;cases e)⟩
def X0(R:Nat->Bool)(a b:Nat)(p q:Nat):Prop:=R p=true\/((p=a\/p=b)/\q=0)
theorem Act.pr(h:Act R N a b x y):Pr N a b x y (X0 R a b):=
 ⟨(h.w.drop2 h.pa h.pb).mono fun p q _=>(by unfold X0;constructor;(rintro(q | q | q);exact .inl q;exact .inr ⟨.inl q.1,q.2⟩;exact .inr ⟨.inr q.1,q.2⟩);(rintro(q | ⟨q | q,r⟩);exact .inl q;exact .inr (.inl ⟨q,r⟩);exact .inr (.inr ⟨q,r⟩))),h.x,h.y,h.ne,fun p q e hp=>e.elim (fun e=>by have:=h.nr e;omega) (·.2)⟩
theorem Act.pe(h:Act R N a b x y):Pr N a b x y fun u _=>R u=true:=⟨h.w,h.x,h.y,h.ne,fun p q e hp=>by have:=h.nr e;omega⟩
theorem qH5{A B:Ags}(h:SameA A B){z:qC}(hz:A[a]?=some z)(hb:Has B a s):s<z.Ports.length:=(h.has.2 hb).in hz
end
section
variable {N:Ags} {a b c d f s n:Nat} {x y:qC} {lab lev v:Int} {X:Nat->Nat->Prop} {R:Nat->Bool}
theorem W.dead(h:W N X){x y:qC}{M:Ags}(hs:SameA M N)(hx:M[a]?=some x)(hy:M[b]?=some y)
  (e:∀u v,u<N.length->(u=a->v<x.Ports.length)->(u=b->v<y.Ports.length)->(X u v↔R u=true\/u=a\/u=b)):W N (Dead R a b):=
 h.mono fun u v hb=>e u v hb.lt (fun q=>by subst q;exact qH5 hs hx hb) (fun q=>by subst q;exact qH5 hs hy hb)
end
theorem qGU:∀{l:List qC}{i:Nat},zd l i=true->∀(k:Nat)(hk:k<l.length),(l[k].Kind=1↔i+k=0)
 |[],_,_,k,hk=>by simp at hk
 | y::l,i,h,k,hk=>by
  simp only[zd,bAt]at h;cases k with
  | zero=>have:=h.1.2;simp at this|-;simp[this]
  | succ k=>
   have:=qGU h.2 k (by simpa using hk);simp only[List.getElem_cons_succ,this];omega
theorem VT{n:qI}(h:qo n=true):zd n.Agents 0=true:=by
 simp only[qo,jD,bAt]at h;exact h.1.2
theorem qPU{n:qI}(h:qo n=true)(k:Nat)(hk:k<n.Agents.length):(n.Agents[k].Kind=1↔k=0):=by
 have:=qGU (VT h) k hk;rw[this];omega
theorem We{n:qI}(h:qo n=true):0<n.Agents.length:=by
 simp only[qo,jD,bAt]at h;have:=wu.1 h.1.1;omega
theorem Jh{n:qI}(h:qo n=true):W n.Agents fun _ _=>False:=by
 intro a s q hq _;obtain⟨x,hx,hs⟩:=z8.1 hq;have hl:=(gSi.1 hx).1;have hl2:=(gSi.1 hs).1;have e1:n.Agents[a]=x:=(gSi.1 hx).2;have e2:x.Ports[s]=q:=(gSi.1 hs).2;unfold qo at h;simp only[bAt]at h;have h1:=VU h.2 a hl;rw[e1]at h1;have h2:=UF h1 s hl2;rw[e2]at h2;simp only[nZa]at h2;unfold jK at h2;simp only[bAt,bNt,decide_eq_false_iff_not,dTe]at h2;obtain⟨⟨h3,h4⟩,h5⟩:=h2;obtain⟨b,t,rfl,hb,ht⟩:=qJ9 h4;exact⟨b,t,rfl,by rw[<-qJ7];exact h5,fun q=>q,fun e=>h3 (by rw[e.1,e.2])⟩
theorem qGV:∀{l:Ags}{i:Nat},(∀x∈l,zW x=true)->(∀(k:Nat)(hk:k<l.length),l[k].Kind=1↔i+k=0)->zd l i=true
 |[],_,_,_=>rfl
 | x::xs,i,h1,h2=>by
  have:=qGV (l:=xs) (i:=i+1) (fun y hy=>h1 y (by simp[hy])) (fun k hk=>by have:=h2 (k+1) (by simp;omega);simp only[List.getElem_cons_succ]at this;rw[this];omega);have h0:=h2 0 (by simp);simp only[List.getElem_cons_zero,nAz]at h0;simp[zd,this,h1 x (by simp),h0]
theorem qP4{n:qI}(h1:∀x∈n.Agents,zW x=true)(h2:∀(k:Nat)(hk:k<n.Agents.length),n.Agents[k].Kind=1↔k=0)(h3:1<=n.Agents.length)(h4:n.Agents.length<=600)(hw:W n.Agents fun _ _=>False):qo n=true:=by
 unfold qo jD;rw[qGV h1 (fun k hk=>by rw[h2 k hk];omega)];simp only[Bool.and_true,bAt];refine⟨by rw[wu];omega,VV fun k hk=>UG fun m hm=> ?_⟩;have hx:n.Agents[k]?=some n.Agents[k]:=gEg hk;obtain⟨b,t,e,h5,_,h6⟩:=hw k m _ (z8.2 ⟨_,hx,gEg hm⟩) id;rw[e];simp only[nZa];unfold jK;simp only[bAt,bNt,decide_eq_false_iff_not,dTe];refine⟨⟨fun e=>h6 (wW.1 e), ?_⟩,by rw[qJ7];exact h5⟩;obtain⟨y,hy,hs⟩:=wD.1 ⟨_,h5⟩;have hb:=(gSi.1 hy).1;unfold jH jz;simp only[pt,iTn,hy,bAt,wu];omega
theorem Wm{n:qI}(h:qo n=true){k:Nat}{x:qC}(hx:n.Agents[k]?=some x):zW x=true:=Ya (VT h) x (lMo hx)
theorem qMD{x y:qC}(h:jA y=jA x):zW y=zW x:=by
 simp only[jA,Prod.mk.injEq]at h;obtain⟨h1,h2,h3,h4,h5⟩:=h;unfold zW fieldsOf jv;rw[h1,h2,h3,h4,h5]
def qZ(R:Nat->Bool)(n:Nat):List Nat:=(List.range n).filter fun k=> !R k
def zQ(R:Nat->Bool)(n:Nat):Nat:=(qZ R n).length
def jI(R:Nat->Bool)(x:qC):qC:={x with Ports:=x.Ports.map fun p=>⟨(zQ R p.Agent.toNat:Nat),p.Slot⟩}
def zg(N:Ags)(R:Nat->Bool):Ags:=(qZ R N.length).map fun k=>jI R (N.getD k VB)
theorem qJ3{R:Nat->Bool}{n:Nat}:qZ R (n+1)=qZ R n++if R n then []else [n]:=by
 unfold qZ;rw[List.range_succ,List.filter_append];cases h:R n<;>simp[h]
theorem Yt{R:Nat->Bool}{n:Nat}:zQ R (n+1)=zQ R n+if R n then 0 else 1:=by
 unfold zQ;rw[qJ3,lAp];split<;>rfl
theorem J9{R:Nat->Bool}{n:Nat}:zQ R n<=n:=by
 unfold zQ qZ;exact nLt (List.length_filter_le _ _) (by simp)
theorem Vf{R:Nat->Bool}{n k:Nat}:k∈qZ R n↔k<n/\R k=false:=by simp[qZ]
theorem qH0{R:Nat->Bool}{n m:Nat}(h:n<=m):zQ R n<=zQ R m:=by
 induction m with
 | zero=>
  obtain rfl:n=0:=by omega
  exact nLr _
 | succ m ih=>
  rcases Nat.lt_or_ge n (m+1)with q | q
  ·rw[Yt];have:=ih (by omega);omega
  ·obtain rfl:n=m+1:=by omega
   exact nLr _
theorem ZR{R:Nat->Bool}{k:Nat}(hk:R k=false):∀{n:Nat},k<n->(qZ R n)[zQ R k]?=some k
 | 0,h=>by omega
 | n+1,h=>by
  rw[qJ3];by_cases e:k=n
  ·subst e;rw[hk];unfold zQ;simp
  ·have:=ZR hk (n:=n) (by omega);rw[gAl (gSi.1 this).1];exact this
theorem Ve{R:Nat->Bool}{n m k:Nat}(h:(qZ R n)[m]?=some k):k<n/\R k=false/\zQ R k=m:=by
 have hm:=Vf.1 (lMo h);have h2:=ZR hm.2 hm.1;have nd:(qZ R n).Nodup:=List.Pairwise.filter _ List.nodup_range;refine⟨hm.1,hm.2, ?_⟩;obtain⟨q1,q2⟩:=gSi.1 h;obtain⟨q3,q4⟩:=gSi.1 h2;exact(List.getElem_inj nd).1 (q4.trans q2.symm)
theorem ZS{N:Ags}{R:Nat->Bool}:(zg N R).length=zQ R N.length:=by simp[zg,zQ]
theorem Vj{N:Ags}{R:Nat->Bool}{m:Nat}{y:qC}(h:(zg N R)[m]?=some y):∃k x,N[k]?=some x/\R k=false/\zQ R k=m/\y=jI R x:=by
 unfold zg at h;rw[gMp]at h;obtain⟨k,hk,e⟩:=oMi.1 h;obtain⟨h1,h2,h3⟩:=Ve hk;exact⟨k,N[k],gEg h1,h2,h3,by rw[<-e,lGd,gEg h1];rfl⟩
theorem qQD{N:Ags}{R:Nat->Bool}{k:Nat}{x:qC}(hx:N[k]?=some x)(hk:R k=false):(zg N R)[zQ R k]?=some (jI R x):=by
 unfold zg;rw[gMp,ZR hk (gSi.1 hx).1,oMs,lGd,hx];rfl
theorem qQC{N:Ags}{R:Nat->Bool}(h:W N fun u _=>R u=true):W (zg N R) fun _ _=>False:=by
 intro m s q hq _;obtain⟨y,hy,hs⟩:=z8.1 hq;obtain⟨k,x,hx,hk,rfl,rfl⟩:=Vj hy;simp only[jI,gMp,oMi]at hs;obtain⟨q0,hq0,rfl⟩:=hs;obtain⟨b,t,rfl,e2,e3,e4⟩:=h k s q0 (z8.2 ⟨x,hx,hq0⟩) (by simp[hk]);obtain⟨z,hz,hz2⟩:=z8.1 e2;have hb:R b=false:=by simpa using e3
 refine⟨zQ R b,t,by simp[pt],z8.2 ⟨_,qQD hz hb, ?_⟩,id, ?_⟩
 ·simp only[jI,gMp,hz2,oMs];simp[pt]
 ·rintro⟨q1,rfl⟩;have f1:=ZR hb (n:=max b k+1) (by omega);have f2:=ZR hk (n:=max b k+1) (by omega);rw[q1,f2]at f1;exact e4 ⟨(Option.some.inj f1).symm,rfl⟩
theorem qQ3{R:Nat->Bool}{x:qC}:jA (jI R x)=jA x:=by simp[jA,jI]
theorem qQE{N:Ags}{R:Nat->Bool}(hw:W N fun u _=>R u=true)(h1:∀(k:Nat)(x:qC),N[k]?=some x->R k=false->zW x=true/\(x.Kind=1↔k=0))(h0:R 0=false)(hl:0<N.length)(h4:zQ R N.length<=600):qo ⟨zg N R⟩=true:=by
 refine qP4 (fun y hy=> ?_) (fun m hm=> ?_) ?_ (by simpa[ZS]using h4) (qQC hw)
 ·obtain⟨m,hm,e⟩:=List.getElem_of_mem hy;obtain⟨k,x,hx,hk,_,rfl⟩:=Vj (gSi.2 ⟨hm,e⟩);rw[qMD qQ3];exact(h1 k x hx hk).1
 ·obtain⟨k,x,hx,hk,e,e2⟩:=Vj (gEg hm);have:(zg N R)[m].Kind=x.Kind:=by rw[e2];rfl
  simp only at this|-;rw[this,(h1 k x hx hk).2,<-e];constructor
  ·rintro rfl;rfl
  ·intro q;rcases Nat.eq_zero_or_pos k with w | w
   ·exact w
   ·have:=qH0 (R:=R) (n:=1) (m:=k) (by omega);rw[show zQ R 1=1 by rw[Yt,h0];rfl]at this;omega
 ·simp only[ZS];have:=qH0 (R:=R) (n:=1) (m:=N.length) (by omega);rw[show zQ R 1=1 by rw[Yt,h0];rfl]at this;exact this
def gI(ys:List Int)(e:Int):Int:=ys.getD e.toNat 0
def swI(ys:List Int)(i j:Int):List Int:=(ys.set i.toNat (gI ys j)).set j.toNat (gI ys i)
theorem UB{ys:List Int}{i j:Int}:(swI ys i j).length=ys.length:=by simp[swI]
theorem qSK{ys:List Int}{i j:Int}(hi:0<=i)(hi2:i<ys.length)(hj:0<=j)(hj2:j<ys.length):(swI ys i j).Perm ys:=by
 have h1:i.toNat<ys.length:=by omega
 have h2:j.toNat<ys.length:=by omega
 have:=List.set_set_perm h1 h2;unfold swI gI;rwa[lGd,lGd,gEg h1,gEg h2]
theorem qIY{ys:List Int}{i k v:Int}(hi:0<=i)(hi2:i<ys.length)(hk:0<=k):gI (ys.set i.toNat v) k=if k=i then v else gI ys k:=by
 unfold gI;rw[lGd,lGd];split
 ·rename_i e;subst e;rw[gSs (by omega)];rfl
 ·rw[gSn (by omega)]
theorem zZ{ys:List Int}{i j k:Int}(hi:0<=i)(hi2:i<ys.length)(hj:0<=j)(hj2:j<ys.length)(hk:0<=k):gI (swI ys i j) k=if k=j then gI ys i else if k=i then gI ys j else gI ys k:=by
 unfold swI;rw[qIY hj (by rw[lLs];exact hj2) hk,qIY hi hi2 hk]
inductive RP(a b:Int):List Int->List Int->Prop
 | refl (xs:List Int):RP a b xs xs
 | sw {ys xs:List Int} {i j:Int}:RP a b ys xs->a<=i->i<b->a<=j->j<b->RP a b (swI ys i j) xs
section
variable {a b a' b':Int} {xs ys zs:List Int}
theorem RP.len(h:RP a b ys xs):ys.length=xs.length:=by
 induction h with
 | refl=>rfl
 | sw _ _ _ _ _ ih=>rw[UB,ih]
theorem RP.perm(h:RP a b ys xs)(h0:0<=a)(hb:b<=xs.length):ys.Perm xs:=by
 induction h with
 | refl=>exact .refl _
 | sw h i1 i2 j1 j2 ih=>have:=h.len;exact(qSK (by omega) (by omega) (by omega) (by omega)).trans (ih hb)
theorem RP.trans(h:RP a b zs ys)(h':RP a b ys xs):RP a b zs xs:=by
 induction h with
 | refl=>exact h'
 | sw h i1 i2 j1 j2 ih=>exact(ih h').sw i1 i2 j1 j2
theorem RP.mono(h:RP a b ys xs)(ha:a'<=a)(hb:b<=b'):RP a' b' ys xs:=by
 induction h with
 | refl=>exact .refl _
 | sw h i1 i2 j1 j2 ih=>exact ih.sw (by omega) (by omega) (by omega) (by omega)
theorem RP.out(h:RP a b ys xs)(h0:0<=a)(hb:b<=xs.length){k:Int}(hk:0<=k)(ho:k<a\/b<=k):gI ys k=gI xs k:=by
 induction h with
 | refl=>rfl
 | sw h i1 i2 j1 j2 ih=>
  have:=h.len;rw[zZ (by omega) (by omega) (by omega) (by omega) hk,if_neg (by omega),if_neg (by omega)];exact ih hb
theorem RP.all(h:RP a b ys xs)(h0:0<=a)(hb:b<=xs.length){P:Int->Prop}(hp:∀k,a<=k->k<b->P (gI xs k)):∀k,a<=k->k<b->P (gI ys k):=by
 induction h with
 | refl=>exact hp
 | sw h i1 i2 j1 j2 ih=>
  intro k k1 k2;have:=h.len;have ih:=ih hb hp;rw[zZ (by omega) (by omega) (by omega) (by omega) (by omega)];split
  ·exact ih _ i1 i2
  ·split
   ·exact ih _ j1 j2
   ·exact ih _ k1 k2
def SO(a b:Int)(ys:List Int):Prop:=∀p q,a<=p->p<q->q<b->gI ys p<=gI ys q
def IS(a i j:Int)(ys:List Int):Prop:=∀p q,a<=p->p<q->q<=i->q≠j->gI ys p<=gI ys q
theorem SO.is{i:Int}(h:SO a i ys):IS a i i ys:=fun p q h1 h2 h3 h4=>h p q h1 h2 (by omega)
theorem IS.sw{i j:Int}(h:IS a i j ys)(h0:0<=a)(h1:a<j)(h2:j<=i)(hl:i<ys.length)(hlt:gI ys j<gI ys (j-1)):IS a i (j-1) (swI ys j (j-1)):=by
 intro p q p1 pq q1 qj;rw[zZ (by omega) (by omega) (by omega) (by omega) (by omega),zZ (by omega) (by omega) (by omega) (by omega) (by omega)];rw[if_neg qj];by_cases e:q=j
 ·subst e;rw[if_pos rfl];by_cases e2:p=q-1
  ·rw[if_pos e2];omega
  ·rw[if_neg e2,if_neg (by omega)];exact h p (q-1) p1 (by omega) (by omega) (by omega)
 ·rw[if_neg e];by_cases e2:p=j-1
  ·subst e2;rw[if_pos rfl];exact h j q (by omega) (by omega) q1 e
  ·rw[if_neg e2];by_cases e3:p=j
   ·subst e3;rw[if_pos rfl];exact h (p-1) q (by omega) (by omega) q1 e
   ·rw[if_neg e3];exact h p q p1 pq q1 e
theorem IS.done{i:Int}(h:IS a i a ys):SO a (i+1) ys:=fun p q h1 h2 h3=>h p q h1 h2 (by omega) (by omega)
theorem IS.done2{i j:Int}(h:IS a i j ys)(h1:a<j)(h2:gI ys (j-1)<=gI ys j):SO a (i+1) ys:=fun p q p1 pq q1=>by
 by_cases e:q=j
 ·subst e;by_cases e2:p=q-1
  ·rw[e2];exact h2
  ·exact Int.le_trans (h p (q-1) p1 (by omega) (by omega) (by omega)) h2
 ·exact h p q p1 pq (by omega) e
theorem SO.one:SO a (a+1) ys:=fun p q h1 h2 h3=>by omega
theorem SO.none(h:b<=a+1):SO a b ys:=fun p q h1 h2 h3=>by omega
theorem SO.sub(h:SO a b ys)(h1:a<=a')(h2:b'<=b):SO a' b' ys:=fun p q p1 pq q1=>h p q (by omega) pq (by omega)
theorem SO.next{i:Int}(h:SO a i ys)(h1:a<i)(h2:gI ys (i-1)<=gI ys i):SO a (i+1) ys:=h.is.done2 h1 h2
def HP(lo hi f:Int)(ys:List Int):Prop:=∀k c,lo<=k->(c=2*k+1\/c=2*k+2)->c<hi->gI ys (f+c)<=gI ys (f+k)
def SD(lo hi f r:Int)(ys:List Int):Prop:=(∀k c,lo<=k->k≠r->(c=2*k+1\/c=2*k+2)->c<hi->gI ys (f+c)<=gI ys (f+k))/\
 ∀k c,lo<=k->(r=2*k+1\/r=2*k+2)->(c=2*r+1\/c=2*r+2)->c<hi->gI ys (f+c)<=gI ys (f+k)
variable {lo hi f r c0:Int}
theorem HP.sd(h:HP (lo+1) hi f ys)(h0:0<=lo):SD lo hi f lo ys:=⟨fun k c h1 h2 h3 h4=>h k c (by omega) h3 h4,fun k c h1 h2 h3 h4=>by omega⟩
theorem SD.done(h:SD lo hi f r ys)(h1:∀c,(c=2*r+1\/c=2*r+2)->c<hi->gI ys (f+c)<=gI ys (f+r)):HP lo hi f ys:=fun k c k1 k2 k3=>by
 by_cases e:k=r
 ·subst e;exact h1 c k2 k3
 ·exact h.1 k c k1 e k2 k3
theorem SD.sw(h:SD lo hi f r ys)(hf:0<=f)(hl0:0<=lo)(hr:lo<=r)(hc:c0=2*r+1\/c0=2*r+2)(hc2:c0<hi)(hl:f+hi<=ys.length)(hlt:gI ys (f+r)<gI ys (f+c0))
  (hg:∀c,(c=2*r+1\/c=2*r+2)->c<hi->gI ys (f+c)<=gI ys (f+c0)):SD lo hi f c0 (swI ys (f+r) (f+c0)):=by
 have e:∀k,0<=k->gI (swI ys (f+r) (f+c0)) (f+k)=if k=c0 then gI ys (f+r)else if k=r then gI ys (f+c0)else gI ys (f+k):=fun k hk=>by
  rw[zZ (by omega) (by omega) (by omega) (by omega) (by omega)];by_cases e1:k=c0
  ·rw[if_pos (by omega),if_pos e1]
  ·rw[if_neg (by omega),if_neg e1];by_cases e2:k=r
   ·rw[if_pos (by omega),if_pos e2]
   ·rw[if_neg (by omega),if_neg e2]
 refine⟨fun k c k1 k2 k3 k4=> ?_,fun k c k1 k2 k3 k4=> ?_⟩
 ·rw[e k (by omega),e c (by omega),if_neg k2];by_cases e1:k=r
  ·subst e1;rw[if_pos rfl];by_cases e2:c=c0
   ·rw[if_pos e2];omega
   ·rw[if_neg e2,if_neg (by omega)];exact hg c k3 k4
  ·rw[if_neg e1,if_neg (by omega)];by_cases e2:c=r
   ·subst e2;rw[if_pos rfl];exact h.2 k c0 k1 k3 hc hc2
   ·rw[if_neg e2];exact h.1 k c k1 e1 k3 k4
 ·rw[e k (by omega),e c (by omega),if_neg (by omega),if_neg (by omega),if_neg (by omega)];have hk:k=r:=by omega
  rw[if_pos hk];exact h.1 c0 c (by omega) (by omega) k3 k4
theorem HP.top(h:HP 0 hi f ys)(N:Nat):∀k:Int,k.toNat=N->0<=k->k<hi->gI ys (f+k)<=gI ys f:=by
 induction N using Nat.strongRecOn with
 | _ N ih=>
  intro k hN h0 hk;by_cases e:k=0
  ·subst e;simp
  ·have:=h ((k-1)/2) k (by omega) (by omega) hk;exact Int.le_trans this (ih ((k-1)/2).toNat (by omega) _ rfl (by omega) (by omega))
theorem HP.empty(h:hi<=2*lo+1):HP lo hi f ys:=fun k c h1 h2 h3=>by omega
def TL(hi f i:Int)(ys:List Int):Prop:=∀p q,0<=p->p<q->q<hi->i<q->gI ys (f+p)<=gI ys (f+q)
theorem TL.step{i:Int}(h:TL hi f i ys)(hp:HP 0 (i+1) f ys)(hf:0<=f)(h0:0<=i)(hi1:i<hi)(hl:f+hi<=ys.length):HP 1 i f (swI ys f (f+i))/\TL hi f i (swI ys f (f+i))/\∀p,0<=p->p<i->gI (swI ys f (f+i)) (f+p)<=gI (swI ys f (f+i)) (f+i):=by
 have e:∀k,0<=k->gI (swI ys f (f+i)) (f+k)=if k=i then gI ys f else if k=0 then gI ys (f+i)else gI ys (f+k):=fun k hk=>by
  rw[zZ (by omega) (by omega) (by omega) (by omega) (by omega)];by_cases e1:k=i
  ·rw[if_pos (by omega),if_pos e1]
  ·rw[if_neg (by omega),if_neg e1];by_cases e2:k=0
   ·rw[if_pos (by omega),if_pos e2]
   ·rw[if_neg (by omega),if_neg e2]
 refine⟨fun k c k1 k2 k3=> ?_,fun p q p1 pq q1 q2=> ?_,fun p p1 p2=> ?_⟩
 ·rw[e k (by omega),e c (by omega),if_neg (by omega),if_neg (by omega),if_neg (by omega),if_neg (by omega)];exact hp k c (by omega) k2 (by omega)
 ·rw[e p (by omega),e q (by omega),if_neg (show ¬q=i by omega),if_neg (show ¬q=0 by omega)];split
  ·have:=h 0 q (by omega) (by omega) q1 q2;simpa using this
  ·split
   ·exact h i q h0 (by omega) q1 q2
   ·exact h p q p1 pq q1 q2
 ·rw[e p (by omega),e i (by omega),if_pos rfl,if_neg (by omega)];split
  ·exact hp.top _ i rfl h0 (by omega)
  ·exact hp.top _ p rfl p1 (by omega)
theorem TL.rp{i:Int}(h:TL hi f i ys)(hm:∀p,0<=p->p<i->gI ys (f+p)<=gI ys (f+i))(hr:RP f (f+i) zs ys)(hf:0<=f)(h0:0<=i)(hi1:i<hi)(hl:f+hi<=ys.length):TL hi f (i-1) zs:=by
 intro p q p1 pq q1 q2;rw[hr.out hf (by omega) (k:=f+q) (by omega) (by omega)];by_cases e:p<i
 ·refine hr.all hf (by omega) (P:=fun v=>v<=gI ys (f+q)) (fun k k1 k2=> ?_) (f+p) (by omega) (by omega);have ek:f+(k-f)=k:=by omega
  by_cases e2:q=i
  ·subst e2;rw[<-ek];exact hm _ (by omega) (by omega)
  ·rw[<-ek];exact h (k-f) q (by omega) (by omega) q1 (by omega)
 ·rw[hr.out hf (by omega) (k:=f+p) (by omega) (by omega)];exact h p q p1 pq q1 (by omega)
theorem TL.done(h:TL hi f (-1) ys):SO f (f+hi) ys:=fun p q p1 pq q1=>by
 have:=h (p-f) (q-f) (by omega) (by omega) (by omega) (by omega);rw[show f+(p-f)=p by omega,show f+(q-f)=q by omega]at this;exact this
def PT(a b i j:Int)(ys:List Int):Prop:=(∀k,a<k->k<i->gI ys k<gI ys a)/\∀k,j<k->k<b->gI ys a<=gI ys k
theorem PT.sw{i j:Int}(h:PT a b i j ys)(h0:0<=a)(hi:a<i)(hij:i<=j)(hj:j<b)(hb:b<=ys.length)(h1:¬gI ys i<gI ys a)(h2:gI ys j<gI ys a):PT a b (i+1) (j-1) (swI ys i j):=by
 have ea:gI (swI ys i j) a=gI ys a:=by rw[zZ (by omega) (by omega) (by omega) (by omega) h0,if_neg (by omega),if_neg (by omega)]
 refine⟨fun k k1 k2=> ?_,fun k k1 k2=> ?_⟩<;>rw[ea,zZ (by omega) (by omega) (by omega) (by omega) (by omega)]
 ·by_cases e:k=j
  ·have e2:i=j:=by omega
   rw[if_pos e,e2];exact h2
  ·rw[if_neg e];split
   ·exact h2
   ·exact h.1 k k1 (by omega)
 ·by_cases e:k=j
  ·rw[if_pos e];omega
  ·rw[if_neg e];split
   ·have e2:i=j:=by omega
    omega
   ·exact h.2 k (by omega) k2
theorem PT.done{i j:Int}(h:PT a b i j ys)(h0:0<=a)(hj:a<=j)(hji:j<i)(hb:j<b)(hl:b<=ys.length):(∀k,a<=k->k<j->gI (swI ys j a) k<=gI (swI ys j a) j)/\∀k,j<k->k<b->gI (swI ys j a) j<=gI (swI ys j a) k:=by
 have ej:gI (swI ys j a) j=gI ys a:=by
  rw[zZ (by omega) (by omega) (by omega) (by omega) (by omega)];split
  ·rename_i e;rw[e]
  ·rw[if_pos rfl]
 refine⟨fun k k1 k2=> ?_,fun k k1 k2=> ?_⟩<;>rw[ej,zZ (by omega) (by omega) (by omega) (by omega) (by omega)]
 ·split
  ·have:=h.1 j (by omega) hji;omega
  ·rw[if_neg (by omega)];have:=h.1 k (by omega) (by omega);omega
 ·rw[if_neg (by omega),if_neg (by omega)];exact h.2 k k1 k2
def PE(a b i j:Int)(ys:List Int):Prop:=(∀k,a<k->k<i->gI ys k<=gI ys a)/\∀k,j<k->k<b->gI ys a<gI ys k
theorem PE.sw{i j:Int}(h:PE a b i j ys)(h0:0<=a)(hi:a<i)(hij:i<=j)(hj:j<b)(hb:b<=ys.length)(h1:gI ys a<gI ys i)(h2:¬gI ys a<gI ys j):PE a b (i+1) (j-1) (swI ys i j):=by
 have ea:gI (swI ys i j) a=gI ys a:=by rw[zZ (by omega) (by omega) (by omega) (by omega) h0,if_neg (by omega),if_neg (by omega)]
 refine⟨fun k k1 k2=> ?_,fun k k1 k2=> ?_⟩<;>rw[ea,zZ (by omega) (by omega) (by omega) (by omega) (by omega)]
 ·by_cases e:k=j
  ·have e2:i=j:=by omega
   subst e2;omega
  ·rw[if_neg e];split
   ·omega
   ·exact h.1 k k1 (by omega)
 ·by_cases e:k=j
  ·rw[if_pos e];exact h1
  ·rw[if_neg e];split
   ·have e2:i=j:=by omega
    subst e2;omega
   ·exact h.2 k (by omega) k2
def FN(a b a' b':Int)(ys:List Int):Prop:=∀p q,a<=p->p<q->q<b->(p<a'\/b'<=q)->gI ys p<=gI ys q
def PB(a b:Int)(xs:List Int):Prop:=0<a->∀k,a<=k->k<b->gI xs (a-1)<=gI xs k
theorem FN.start:FN a b a b ys:=fun p q h1 h2 h3 h4=>by omega
theorem FN.rp(h:FN a b a' b' ys)(hr:RP a' b' zs ys)(h0:0<=a)(h1:a<=a')(h2:b'<=b)(hb:b<=ys.length):FN a b a' b' zs:=by
 intro p q p1 pq q1 ho;by_cases ep:p<a'
 ·rw[hr.out (by omega) (by omega) (k:=p) (by omega) (.inl ep)];by_cases eq:a'<=q/\q<b'
  ·exact hr.all (by omega) (by omega) (P:=fun v=>gI ys p<=v) (fun k k1 k2=>h p k p1 (by omega) (by omega) (.inl ep)) q eq.1 eq.2
  ·rw[hr.out (by omega) (by omega) (k:=q) (by omega) (by omega)];exact h p q p1 pq q1 ho
 ·have hq:b'<=q:=by omega
  rw[hr.out (by omega) (by omega) (k:=q) (by omega) (.inr hq)];by_cases eq:p<b'
  ·exact hr.all (by omega) (by omega) (P:=fun v=>v<=gI ys q) (fun k k1 k2=>h k q (by omega) (by omega) q1 (.inr hq)) p (by omega) eq
  ·rw[hr.out (by omega) (by omega) (k:=p) (by omega) (by omega)];exact h p q p1 pq q1 ho
theorem FN.done(h:FN a b a' b' ys)(hs:SO a' b' ys):SO a b ys:=fun p q p1 pq q1=>by
 by_cases e:p<a'\/b'<=q
 ·exact h p q p1 pq q1 e
 ·exact hs p q (by omega) pq (by omega)
theorem PB.of(h:PB a b xs)(hr:RP a b ys xs)(hf:FN a b a' b' ys)(h0:0<=a)(h1:a<=a')(h2:b'<=b)(hb:b<=xs.length):PB a' b' ys:=fun hp k k1 k2=>by
 by_cases e:a'=a
 ·subst e;rw[hr.out h0 hb (k:=a'-1) (by omega) (by omega)];exact hr.all h0 hb (P:=fun v=>gI xs (a'-1)<=v) (h hp) k k1 (by omega)
 ·exact hf (a'-1) k (by omega) (by omega) (by omega) (.inl (by omega))
def MID(a b m:Int)(ys:List Int):Prop:=(∀k,a<=k->k<m->gI ys k<=gI ys m)/\∀k,m<k->k<b->gI ys m<=gI ys k
theorem FN.left{m:Int}(h:FN a b a' b' ys)(hm:MID a' b' m ys)(hr:RP a' m zs ys)(hs:SO a' m zs)(h0:0<=a)(h1:a<=a')(h2:a'<=m)(h3:m<b')(h4:b'<=b)(hb:b<=ys.length):FN a b (m+1) b' zs:=by
 have hf:=h.rp (hr.mono (Int.le_refl _) (by omega)) h0 h1 h4 hb;have hm':∀k,a'<=k->k<m->gI zs k<=gI ys m:=hr.all (by omega) (by omega) (P:=fun v=>v<=gI ys m) hm.1;intro p q p1 pq q1 ho;by_cases e:p<a'\/b'<=q
 ·exact hf p q p1 pq q1 e
 ·have hp:p<=m:=by omega
  by_cases eq:q<m
  ·exact hs p q (by omega) pq eq
  ·have hq:gI ys m<=gI zs q:=by
    rw[hr.out (by omega) (by omega) (k:=q) (by omega) (by omega)];by_cases e2:q=m
    ·rw[e2];exact Int.le_refl _
    ·exact hm.2 q (by omega) (by omega)
   by_cases e3:p=m
   ·rw[e3,hr.out (by omega) (by omega) (k:=m) (by omega) (by omega)];exact hq
   ·exact Int.le_trans (hm' p (by omega) (by omega)) hq
theorem FN.right{m:Int}(h:FN a b a' b' ys)(hm:MID a' b' m ys)(hr:RP (m+1) b' zs ys)(hs:SO (m+1) b' zs)(h0:0<=a)(h1:a<=a')(h2:a'<=m)(h3:m<b')(h4:b'<=b)(hb:b<=ys.length):FN a b a' m zs:=by
 have hf:=h.rp (hr.mono (by omega) (Int.le_refl _)) h0 h1 h4 hb;have hm':∀k,m+1<=k->k<b'->gI ys m<=gI zs k:=hr.all (by omega) (by omega) (P:=fun v=>gI ys m<=v) (fun k k1 k2=>hm.2 k (by omega) k2);intro p q p1 pq q1 ho;by_cases e:p<a'\/b'<=q
 ·exact hf p q p1 pq q1 e
 ·have hq:m<=q:=by omega
  by_cases ep:m<p
  ·exact hs p q (by omega) pq (by omega)
  ·have hp:gI zs p<=gI ys m:=by
    rw[hr.out (by omega) (by omega) (k:=p) (by omega) (by omega)];by_cases e2:p=m
    ·rw[e2];exact Int.le_refl _
    ·exact hm.1 p (by omega) (by omega)
   by_cases e3:q=m
   ·rw[e3,hr.out (by omega) (by omega) (k:=m) (by omega) (by omega)];exact hp
   ·exact Int.le_trans hp (hm' q (by omega) (by omega))
theorem FN.equal{m P:Int}(h:FN a b a' b' ys)(h1:∀k,a'<=k->k<m->gI ys k<=P)(h2:∀k,m<=k->k<b'->P<gI ys k)(h3:∀k,a'<=k->k<b'->P<=gI ys k)(hm:m<=b'):FN a b m b' ys:=by
 intro p q p1 pq q1 ho;by_cases e:p<a'\/b'<=q
 ·exact h p q p1 pq q1 e
 ·have:=h1 p (by omega) (by omega);have:=h3 q (by omega) (by omega);omega
end
def nb(N:Ags)(a b:Nat):Prop:=∃s t,atP N a s=some (pt b t)
def Rch(N:Ags)(s k:Nat):Prop:=∀S:Nat->Prop,S s->(∀a b,S a->nb N a b->S b)->S k
section
variable {N:Ags} {a b c s k:Nat}
theorem ZN(hw:W N fun _ _=>False)(h:nb N a b):nb N b a:=by
 obtain⟨s,t,h⟩:=h;obtain⟨b',t',e,h2,_⟩:=hw a s _ h (fun h=>h);obtain⟨rfl,rfl⟩:=wW.1 e;exact⟨t,s,h2⟩
theorem Wc(h:nb N a b):a<N.length:=by obtain⟨s,t,h⟩:=h;exact Q2 h
theorem Rch.refl:Rch N a a:=fun S h _=>h
theorem Rch.step(h:Rch N s a)(hn:nb N a b):Rch N s b:=fun S h0 hs=>hs a b (h S h0 hs) hn
theorem Rch.trans(h:Rch N a b)(h':Rch N b c):Rch N a c:=fun S h0 hs=>h' S (h S h0 hs) hs
theorem Rch.symm(hw:W N fun _ _=>False)(h:Rch N a b):Rch N b a:=h (fun x=>Rch N x a) Rch.refl fun x y hx hn=>(Rch.step Rch.refl (ZN hw hn)).trans hx
theorem Rch.lt(hw:W N fun _ _=>False)(h:Rch N a b)(ha:a<N.length):b<N.length:=h (fun x=>x<N.length) ha fun x y hx hn=>Wc (ZN hw hn)
open Classical in
noncomputable def ju(N:Ags)(s:Nat):Nat->Bool:=fun k=>decide (¬Rch N s k)
theorem JX:ju N s k=false↔Rch N s k:=by unfold ju;simp
theorem Ys:ju N s k=true↔¬Rch N s k:=by unfold ju;simp
noncomputable def qU(N:Ags)(s:Nat):List Nat:=qZ (ju N s) N.length
theorem jQ:k∈qU N s↔k<N.length/\Rch N s k:=by unfold qU;rw[Vf,JX]
theorem qNB(hw:W N fun _ _=>False)(h:Rch N a b):qU N a=qU N b:=by
 have:ju N a=ju N b:=funext fun k=>by
  cases e:ju N b k
  ·exact JX.2 (h.trans (JX.1 e))
  ·exact Ys.2 fun q=>Ys.1 e ((h.symm hw).trans q)
 unfold qU;rw[this]
theorem Zz:(qU N s).Pairwise (· < ·):=List.pairwise_lt_range.filter _
theorem qHS:(qU N s).Nodup:=Zz.imp fun h=>Nat.ne_of_lt h
def TRV(N:Ags)(s:Nat)(L:List Nat):Prop:=L.Nodup/\∀k,k∈L↔Rch N s k
theorem TRV.perm(hw:W N fun _ _=>False)(hs:s<N.length){L:List Nat}(h:TRV N s L):L.Perm (qU N s):=
 (List.perm_ext_iff_of_nodup h.1 qHS).2 fun k=>by
  rw[h.2,jQ];exact⟨fun q=>⟨q.lt hw hs,q⟩,fun q=>q.2⟩
theorem qSC{ys:List Int}{n:Nat}(h:SO 0 n ys)(hl:ys.length<=n):ys.Pairwise (· <= ·):=by
 rw[List.pairwise_iff_getElem];intro i j hi hj hij;have:=h i j (by omega) (by omega) (by omega);unfold gI at this;rw[lGd,lGd,iTn,iTn,gEg hi,gEg hj]at this;exact this
def nI(L:List Nat):List Int:=L.map (fun k:Nat=>(k:Int))
theorem wK{L:List Nat}:(nI L).length=L.length:=by simp[nI]
theorem TRV.sorted(hw:W N fun _ _=>False)(hs:s<N.length){L:List Nat}(h:TRV N s L){ys:List Int}{n:Nat}(hp:ys.Perm (nI L))(ho:SO 0 n ys)(hn:n=L.length):ys=nI (qU N s):=by
 have p2:(nI L).Perm (nI (qU N s)):=(h.perm hw hs).map _;refine(hp.trans p2).eq_of_pairwise (le:=(· <= ·)) (fun a b _ _ h1 h2=>Int.le_antisymm h1 h2) (qSC ho (by rw[hp.length_eq,wK,hn];exact nLr _)) ?_;exact Zz.map _ fun a b h=>by omega
def Fst(N:Ags)(i:Nat):Prop:=∀j,j<i->¬Rch N j i
open Classical in
noncomputable def z5(N:Ags)(n:Nat):List Nat:=(List.range n).filter fun i=>decide (Fst N i)
noncomputable def qq(N:Ags)(n:Nat):List (List Nat):=(z5 N n).map (qU N)
theorem Y5{n:Nat}(h:Fst N n):z5 N (n+1)=z5 N n++[n]:=by unfold z5;rw[List.range_succ,List.filter_append];simp[h]
theorem qIX{n:Nat}(h:¬Fst N n):z5 N (n+1)=z5 N n:=by unfold z5;rw[List.range_succ,List.filter_append];simp[h]
theorem WI{n i:Nat}:i∈z5 N n↔i<n/\Fst N i:=by simp[z5]
theorem Y4{n:Nat}:(z5 N n).Pairwise (· < ·):=List.pairwise_lt_range.filter _
theorem qHU{n:Nat}(h:Fst N n):qq N (n+1)=qq N n++[qU N n]:=by unfold qq;rw[Y5 h,lMa];rfl
theorem qHV{n:Nat}(h:¬Fst N n):qq N (n+1)=qq N n:=by unfold qq;rw[qIX h]
theorem qOP:Fst N 0:=fun j h=>absurd h (Nat.not_lt_zero _)
theorem qOO(k:Nat):∃i,i<=k/\Fst N i/\Rch N i k:=by
 induction k using Nat.strongRecOn with
 | _ k ih=>
  by_cases h:Fst N k
  ·exact⟨k,nLr _,h,Rch.refl⟩
  ·have:∃j,j<k/\Rch N j k:=by
    apply Classical.byContradiction;intro hn;exact h fun j hj hr=>hn ⟨j,hj,hr⟩
   obtain⟨j,hj,hr⟩:=this;obtain⟨i,h1,h2,h3⟩:=ih j hj;exact⟨i,by omega,h2,h3.trans hr⟩
theorem qHY(hw:W N fun _ _=>False):(qq N N.length).flatten.Perm (List.range N.length):=by
 refine(List.perm_ext_iff_of_nodup ?_ List.nodup_range).2 fun k=> ?_
 ·refine List.pairwise_flatten.2 ⟨fun l hl=> ?_, ?_⟩
  ·obtain⟨i,_,rfl⟩:=List.mem_map.1 hl;exact qHS
  ·unfold qq;refine List.pairwise_map.2 (List.Pairwise.imp_of_mem (fun{a b} ha hb hlt=> ?_) Y4);intro x hx y hy e;subst e;exact(WI.1 hb).2 a hlt ((jQ.1 hx).2.trans ((jQ.1 hy).2.symm hw))
 ·rw[List.mem_flatten,lMr];constructor
  ·rintro⟨l,hl,hk⟩;obtain⟨i,_,rfl⟩:=List.mem_map.1 hl;exact(jQ.1 hk).1
  ·intro hk;obtain⟨i,h1,h2,h3⟩:=qOO (N:=N) k;exact⟨qU N i,List.mem_map.2 ⟨i,WI.2 ⟨by omega,h2⟩,rfl⟩,jQ.2 ⟨hk,h3⟩⟩
theorem qHZ(hw:W N fun _ _=>False):((qq N N.length).map List.length).sum=N.length:=by
 rw[<-List.length_flatten,(qHY hw).length_eq,List.length_range]
theorem qHW{j:Nat}(hj:j<(qq N N.length).length):∃f,(z5 N N.length)[j]?=some f/\(qq N N.length)[j]=qU N f/\f<N.length/\Fst N f:=by
 have hj':j<(z5 N N.length).length:=by simpa[qq]using hj
 refine⟨(z5 N N.length)[j],gEg hj',by simp[qq], ?_⟩;exact WI.1 (gMm hj')
theorem Zy(hs:s<N.length):0<(qU N s).length:=List.length_pos_of_mem (jQ.2 ⟨hs,Rch.refl⟩)
theorem qHR(hw:W N fun _ _=>False){f:Nat}(hf:Fst N f)(hl:f<N.length):(qU N f)[0]?=some f:=by
 have h0:=Zy hl;rw[gEg h0];have hm:=jQ.1 (gMm h0);obtain⟨i,hi,e⟩:=List.getElem_of_mem (jQ.2 ⟨hl,Rch.refl⟩:f∈qU N f);congr 1;rcases Nat.lt_trichotomy (qU N f)[0] f with q | q | q
 ·exact absurd (hm.2.symm hw) (hf _ q)
 ·exact q
 ·by_cases e0:i=0
  ·subst e0;exact e
  ·have:=(List.pairwise_iff_getElem.1 (Zz (N:=N) (s:=f))) 0 i h0 hi (by omega);omega
theorem qHX(hl:0<N.length):(qq N N.length)[0]?=some (qU N 0):=by
 have:(z5 N N.length)[0]?=some 0:=by
  obtain⟨n,e⟩:∃n,N.length=n+1:=⟨N.length-1,by omega⟩;rw[e];clear e hl
  induction n with
  | zero=>rw[Y5 qOP];simp[z5]
  | succ n ih=>
   by_cases h:Fst N (n+1)
   ·rw[Y5 h,gAl (qJ ih),ih]
   ·rw[qIX h,ih]
 unfold qq;rw[gMp,this];rfl
theorem qNC(hw:W N fun _ _=>False)(hl:0<N.length):(qq N N.length).length=1↔(qU N 0).length=N.length:=by
 have h0:=qHX hl;have hs:=qHZ hw;cases e:qq N N.length with
 | nil=>rw[e]at h0;simp at h0
 | cons x r=>
  rw[e]at h0 hs;simp only[List.getElem?_cons_zero,oSi]at h0;subst h0;simp only[lMc,List.sum_cons]at hs;cases r with
  | nil=>simp at hs|-;exact hs
  | cons y r=>
   simp only[lCo];have hy:0<y.length:=by
    have hj:1<(qq N N.length).length:=by rw[e];simp
    obtain⟨f,_,h2,h3,_⟩:=qHW hj;have:(qq N N.length)[1]=y:=by simp[e]
    rw[<-this,h2];exact Zy h3
   simp only[lMc,List.sum_cons]at hs;omega
theorem Jg{n:qI}(h:qo n=true):n.Agents.length<=600:=by
 unfold qo jD at h;simp only[bAt,wu]at h;omega
theorem qHT{n:qI}(h:qo n=true):qo ⟨zg n.Agents (ju n.Agents 0)⟩=true:=by
 have hw:=Jh h;refine qQE (fun a s q hq hx=> ?_) (fun k x hx _=>⟨Wm h hx, ?_⟩) (JX.2 Rch.refl) (We h) ?_
 ·obtain⟨b,t,e,h2,_,h4⟩:=hw a s q hq fun f=>f;refine⟨b,t,e,h2,fun hb=> ?_,h4⟩;have ha:Rch n.Agents 0 a:=JX.1 (by simpa using hx);subst e;exact Ys.1 hb (ha.step ⟨s,t,hq⟩)
 ·have hk:=qJ hx;have:=qPU h k hk;rwa[(gSi.1 hx).2]at this
 ·have:=J9 (R:=ju n.Agents 0) (n:=n.Agents.length);have:=Jg h;omega
end
def RW(h:List qA)(id:Nat)(ys:List Int):List qA:=h.set id (.row 1 (ys.map qG) true)
theorem qK2{h:List qA}{id:Nat}{o:qA}(ho:h[id]?=some o):h.set id o=h:=List.ext_getElem? fun i=>by
 rw[gSt];split
 ·rename_i e;subst e;split
  ·rw[ho]
  ·rename_i hn;rw[gEn (by omega)]
 ·rfl
theorem YY{h:List qA}{id:Nat}{ys:List Int}:(RW h id ys).length=h.length:=by simp[RW]
theorem qGR{h:List qA}{id:Nat}{ys:List Int}(hid:id<h.length):(RW h id ys)[id]?=some (.row 1 (ys.map qG) true):=by simp[RW,hid]
theorem qL9{h:List qA}{id:Nat}{ys zs:List Int}:(RW h id ys).set id (.row 1 (zs.map qG) true)=RW h id zs:=by simp[RW]
theorem YX{h ex:List qA}{id:Nat}{ys:List Int}(hid:id<h.length):RW h id ys++ex=RW (h++ex) id ys:=by simp[RW,List.set_append_left,hid]
theorem qL8{h:List qA}{id:Nat}{ys:List Int}(ho:h[id]?=some (.row 1 (ys.map qG) true)):RW h id ys=h:=qK2 ho
theorem qO{w id len:Nat}{k:IntKind}{n:Int}(h0:0<=n)(h:n<len):idx w (some (.slice w id 0 len false)) (some (.int k n))=some (.ptr id n.toNat 0):=by rw[qOZ h0 h,nZa]
theorem qP{h:List qA}{id:Nat}{ys:List Int}{e:Int}(hid:id<h.length)(h0:0<=e)(he:e<ys.length):jT none 0 e.toNat (RW h id ys)[id]?=some (.int .i64 (gI ys e)):=by
 have h1:e.toNat<ys.length:=by omega
 rw[qGR hid,gI,lGd,gEg h1];simp only[jT,gMp,gEg h1,oMs,qG,Option.getD_some];rfl
section
variable {E:Ev} {ks:List Fr1} {s m:qR} {h:List qA} {Q:qT->VSt->Prop} {l:List qB}
theorem qp{id:Nat}{ys:List Int}{e v:Int}(hid:id<h.length)(h0:0<=e)(he:e<ys.length):
  R E (.ops l::ks) ⟨s,m,RW h id (ys.set e.toNat v)⟩ Q->Sto E 1 (some (.ptr id e.toNat 0)) (some (.int .i64 v)) l ks ⟨s,m,RW h id ys⟩ Q:=by
 intro hr;have h1:e.toNat<ys.length:=by omega
 refine zq (by rfl) (qGR hid) (by rw[gMp,gEg h1];rfl) (by rfl) ?_;have hm:(ys.map qG).set e.toNat (.int .i64 v)=(ys.set e.toNat v).map qG:=by simp[List.map_set,qG]
 rw[hm,qL9];exact hr
theorem qH{n:Int}(h: -9223372036854775808<=n)(h':n<=9223372036854775807):IntKind.i64.wrap n=n:=zD h h'
end
theorem qMP(a:Int):Pure Gm 1167 [.int .i64 a] (.bool false):=by
 refine pI XT (by simp[AV.trees,AV.tree,go_sem]) rfl ?_;simp only[XT,qQ,go_sem]
 repeat' (first | (refine zE rfl ?_;simp only[go_sem]) | (first | (apply qe<;>intro hc<;>simp only[hc,go_sem]) | (apply qF<;>intro hc<;>simp only[hc,go_sem])) | refine qV rfl ?_ | refine WD (by rfl) ?_)
 all_goals (simp_all<;>omega)
theorem z9(a b:Int):Pure Gm 1345 [.int .i64 a,.int .i64 b] (.bool (decide (a<b))):=by
 refine pI Xa (by simp[AV.trees,AV.tree,go_sem]) rfl ?_;simp only[Xa,qQ,go_sem];refine qS (qMP _) ?_;simp only[go_sem];exact qV rfl rfl
theorem qRM{h:List qA}{id n:Nat}{xs:List Int}{a b:Int}{K:AV->List qA->Prop}(hid:id<h.length)(hn:xs.length=n)(hl:n<=4194304)(hab:0<=a/\a<=b/\b<=n)
  (hK:∀ys,RP a b ys xs->SO a b ys->K (.tup []) (RW h id ys)):SCall Gm 1339 [.slice 1 id 0 n false,.int .i64 a,.int .i64 b] (RW h id xs) K:=by
 refine sI XU ?_;simp only[XU,qQ,go_sem];rw[qH (by omega) (by omega)];refine Sem.loop (fun q:Int×List Int=>a+1<=q.1/\q.1<=max b (a+1)/\RP a b q.2 xs/\SO a q.1 q.2) (fun q=>(⟨[(0,.slice 1 id 0 n false),(1,.int .i64 a),(2,.int .i64 b),(6,.int .i64 q.1)],[],RW h id q.2⟩:VSt)) (fun q=>(b-q.1).toNat) (a+1,xs) (by kernel_rfl) ⟨by simp only;omega,by simp only;omega,.refl _,SO.one⟩ (Can.sub (by simp[go_sem]) (by simp[go_sem])) ?_;rintro⟨i,ys⟩ ⟨h1,h2,h3,h4⟩;simp only at h1 h2 h3 h4|-;have hyl:=h3.len;simp only[go_sem];apply qF<;>intro hc<;>simp only[hc,go_sem]
 ·have hib:=odT hc;refine Sem.loop (fun q:Int×List Int=>a<=q.1/\q.1<=i/\RP a b q.2 xs/\IS a i q.1 q.2) (fun q=>(⟨[(0,.slice 1 id 0 n false),(1,.int .i64 a),(2,.int .i64 b),(6,.int .i64 i),(7,.int .i64 q.1)],[],RW h id q.2⟩:VSt)) (fun q=>(q.1-a).toNat) (i,ys) (by kernel_rfl) ⟨by simp only;omega,by simp only;omega,h3,h4.is⟩ (Can.sub (by simp[go_sem]) (by simp[go_sem])) ?_;rintro⟨j,zs⟩ ⟨g1,g2,g3,g4⟩;simp only at g1 g2 g3 g4|-;have hzl:=g3.len;simp only[go_sem];apply qe<;>intro hc<;>simp only[hc,go_sem]
  ·have hja:=odT hc;simp(disch:=omega) only [go_sem,qH,qO,qP];refine qS (z9 _ _) ?_;simp only[go_sem];apply qF<;>intro hc<;>simp only[hc,go_sem]
   ·have hlt:=odT hc;simp(disch:=omega) only [go_sem,qH,qO,qP];refine qp hid (by omega) (by omega) ?_;simp(disch:=omega) only [go_sem,qH,qO,qP];refine qp hid (by omega) (by rw[lLs];omega) ?_;simp(disch:=omega) only [go_sem,qH,qO,qP];refine ql (j-1,swI zs j (j-1)) ⟨by simp only;omega,by simp only;omega,g3.sw (by omega) (by omega) (by omega) (by omega),g4.sw (by omega) (by omega) (by omega) (by omega) hlt⟩ (by simp only;omega) (Can.sub (by simp[go_sem]) (by simp[go_sem]))
   ·have hlt:=odF hc;simp(disch:=omega) only [go_sem,qH,qO,qP];refine ql (i+1,zs) ⟨by simp only;omega,by simp only;omega,g3,g4.done2 hja (by omega)⟩ (by simp only;omega) (Can.sub (by simp[go_sem]) (by simp[go_sem]))
  ·have hja:=odF hc;obtain rfl:j=a:=by omega
   simp(disch:=omega) only [go_sem,qH,qO,qP];refine ql (i+1,zs) ⟨by simp only;omega,by simp only;omega,g3,g4.done⟩ (by simp only;omega) (Can.sub (by simp[go_sem]) (by simp[go_sem]))
 ·have hib:=odF hc;exact hK _ h3 (h4.sub (Int.le_refl _) (by omega))
theorem qRQ{h:List qA}{id n:Nat}{xs:List Int}{a b:Int}{K:AV->List qA->Prop}(hid:id<h.length)(hn:xs.length=n)(hl:n<=4194304)(hab:0<=a/\a<=b/\b<=n)
  (hK:∀ys,RP a b ys xs->K (.tup []) (RW h id ys)):SCall Gm 1343 [.slice 1 id 0 n false,.int .i64 a,.int .i64 b] (RW h id xs) K:=by
 refine sI XY ?_;simp only[XY,qQ,go_sem];simp(config:={maxSteps:=2000000}) (disch:=omega) only [go_sem,qH,qO,qP,Int.reduceEq];refine Sem.loop (fun q:Int×Int×List Int=>a<=q.1/\q.2.1<=b-1/\RP a b q.2.2 xs) (fun q=>(⟨[(0,.slice 1 id 0 n false),(6,.int .i64 q.1),(7,.int .i64 q.2.1)],[],RW h id q.2.2⟩:VSt)) (fun q=>(b-q.1).toNat) (a,b-1,xs) (by kernel_rfl) ⟨(by simp only;omega),(by simp only;omega),.refl _⟩ (Can.sub (by simp[go_sem]) (by simp[go_sem])) ?_;rintro⟨i,j,ys⟩ ⟨h1,h2,h3⟩;simp only at h1 h2 h3|-;have hyl:=h3.len;simp only[go_sem];apply qF<;>intro hc<;>simp only[hc,go_sem]
 ·have hij:=odT hc;simp(config:={maxSteps:=2000000}) (disch:=omega) only [go_sem,qH,qO,qP,Int.reduceEq];refine qp hid (by omega) (by omega) ?_;simp(config:={maxSteps:=2000000}) (disch:=omega) only [go_sem,qH,qO,qP,Int.reduceEq];refine qp hid (by omega) (by rw[lLs];omega) ?_;simp(maxSteps:=2000000) (disch:=omega) only [go_sem,qH,qO,qP,Int.reduceEq];refine ql (i+1,j-1,swI ys i j) ⟨(by simp only;omega),(by simp only;omega),h3.sw (by omega) (by omega) (by omega) (by omega)⟩ (by simp only;omega) (Can.sub (by simp[go_sem]) (by simp[go_sem]))
 ·exact hK _ h3
theorem qKU{h:List qA}{id n:Nat}{xs:List Int}{lo hi fi:Int}{K:AV->List qA->Prop}(hid:id<h.length)(hn:xs.length=n)(hl:n<=4194304)(hab:0<=lo/\lo<=n/\0<=hi/\0<=fi/\fi+hi<=n)(hh:HP (lo+1) hi fi xs)
  (hK:∀ys,RP fi (fi+hi) ys xs->HP lo hi fi ys->K (.tup []) (RW h id ys)):SCall Gm 1476 [.slice 1 id 0 n false,.int .i64 lo,.int .i64 hi,.int .i64 fi] (RW h id xs) K:=by
 refine sI Xo ?_;simp only[Xo,qQ,go_sem];refine Sem.loop (fun q:Int×List Int=>lo<=q.1/\q.1<=n/\RP fi (fi+hi) q.2 xs/\SD lo hi fi q.1 q.2) (fun q=>(⟨[(0,.slice 1 id 0 n false),(2,.int .i64 hi),(3,.int .i64 fi),(8,.int .i64 q.1)],[],RW h id q.2⟩:VSt)) (fun q=>(n-q.1).toNat) (lo,xs) (by kernel_rfl) ⟨(by simp only;omega),(by simp only;omega),.refl _,hh.sd hab.1⟩ (Can.sub (by simp[go_sem]) (by simp[go_sem])) ?_;rintro⟨i,ys⟩ ⟨h1,h2,h3,h4⟩;simp only at h1 h2 h3 h4|-;have hyl:=h3.len;simp(config:={maxSteps:=2000000}) (disch:=omega) only [go_sem,qH,qO,qP,Int.reduceEq];apply qF<;>intro hc<;>simp only[hc,go_sem]
 ·have hch:=odT hc;exact hK _ h3 (h4.done fun c k1 k2=>by omega)
 have hch:=odF hc;simp(config:={maxSteps:=2000000}) (disch:=omega) only [go_sem,qH,qO,qP,Int.reduceEq]
 --the greater child
 have key:∀(c:Int)(p:qR),c=2*i+1\/(c=2*i+2/\c<hi)->True:=fun _ _ _=>trivial;apply qe<;>intro hc<;>simp only[hc,go_sem]
 ·have hc2:=odT hc;simp(config:={maxSteps:=2000000}) (disch:=omega) only [go_sem,qH,qO,qP,Int.reduceEq];refine qS (z9 _ _) ?_;simp only[go_sem];apply qF<;>intro hc<;>simp only[hc,go_sem]
  ·have hg:=odT hc;simp(config:={maxSteps:=2000000}) (disch:=omega) only [go_sem,qH,qO,qP,Int.reduceEq];refine qS (z9 _ _) ?_;simp only[go_sem];apply qF<;>intro hc<;>simp only[hc,go_sem]
   ·have hx:=odF (Eq.mp (bNt _) hc);exact hK _ h3 (h4.done fun c k1 k2=>by rcases k1 with rfl | rfl<;>first | omega | (simp only[Int.add_assoc,Int.reduceAdd]at*;omega))
   ·have hx:=odT (Eq.mp (Bool.not_eq_false' _) hc);simp(config:={maxSteps:=2000000}) (disch:=omega) only [go_sem,qH,qO,qP,Int.reduceEq];refine qp hid (by omega) (by omega) ?_;simp(config:={maxSteps:=2000000}) (disch:=omega) only [go_sem,qH,qO,qP,Int.reduceEq];refine qp hid (by omega) (by rw[lLs];omega) ?_;simp(maxSteps:=2000000) (disch:=omega) only [go_sem,qH,qO,qP,Int.reduceEq];refine ql (2*i+1+1,swI ys (fi+i) (fi+(2*i+1+1))) ⟨(by simp only;omega),(by simp only;omega),h3.sw (by omega) (by omega) (by omega) (by omega),h4.sw (by omega) (by omega) (by omega) (by omega) (by omega) (by omega) (by first | omega | (simp only[Int.add_assoc,Int.reduceAdd]at*;omega)) fun c k1 k2=>by rcases k1 with rfl | rfl<;>first | omega | (simp only[Int.add_assoc,Int.reduceAdd]at*;omega)⟩ (by simp only;omega) (Can.sub (by simp[go_sem]) (by simp[go_sem]))
  ·have hg:=odF hc;simp(config:={maxSteps:=2000000}) (disch:=omega) only [go_sem,qH,qO,qP,Int.reduceEq];refine qS (z9 _ _) ?_;simp only[go_sem];apply qF<;>intro hc<;>simp only[hc,go_sem]
   ·have hx:=odF (Eq.mp (bNt _) hc);exact hK _ h3 (h4.done fun c k1 k2=>by rcases k1 with rfl | rfl<;>first | omega | (simp only[Int.add_assoc,Int.reduceAdd]at*;omega))
   ·have hx:=odT (Eq.mp (Bool.not_eq_false' _) hc);simp(config:={maxSteps:=2000000}) (disch:=omega) only [go_sem,qH,qO,qP,Int.reduceEq];refine qp hid (by omega) (by omega) ?_;simp(config:={maxSteps:=2000000}) (disch:=omega) only [go_sem,qH,qO,qP,Int.reduceEq];refine qp hid (by omega) (by rw[lLs];omega) ?_;simp(maxSteps:=2000000) (disch:=omega) only [go_sem,qH,qO,qP,Int.reduceEq];refine ql (2*i+1,swI ys (fi+i) (fi+(2*i+1))) ⟨(by simp only;omega),(by simp only;omega),h3.sw (by omega) (by omega) (by omega) (by omega),h4.sw (by omega) (by omega) (by omega) (by omega) (by omega) (by omega) (by first | omega | (simp only[Int.add_assoc,Int.reduceAdd]at*;omega)) fun c k1 k2=>by rcases k1 with rfl | rfl<;>first | omega | (simp only[Int.add_assoc,Int.reduceAdd]at*;omega)⟩ (by simp only;omega) (Can.sub (by simp[go_sem]) (by simp[go_sem]))
 ·have hc2:=odF hc;simp(config:={maxSteps:=2000000}) (disch:=omega) only [go_sem,qH,qO,qP,Int.reduceEq];refine qS (z9 _ _) ?_;simp only[go_sem];apply qF<;>intro hc<;>simp only[hc,go_sem]
  ·have hx:=odF (Eq.mp (bNt _) hc);exact hK _ h3 (h4.done fun c k1 k2=>by rcases k1 with rfl | rfl<;>first | omega | (simp only[Int.add_assoc,Int.reduceAdd]at*;omega))
  ·have hx:=odT (Eq.mp (Bool.not_eq_false' _) hc);simp(config:={maxSteps:=2000000}) (disch:=omega) only [go_sem,qH,qO,qP,Int.reduceEq];refine qp hid (by omega) (by omega) ?_;simp(config:={maxSteps:=2000000}) (disch:=omega) only [go_sem,qH,qO,qP,Int.reduceEq];refine qp hid (by omega) (by rw[lLs];omega) ?_;simp(maxSteps:=2000000) (disch:=omega) only [go_sem,qH,qO,qP,Int.reduceEq];refine ql (2*i+1,swI ys (fi+i) (fi+(2*i+1))) ⟨(by simp only;omega),(by simp only;omega),h3.sw (by omega) (by omega) (by omega) (by omega),h4.sw (by omega) (by omega) (by omega) (by omega) (by omega) (by omega) (by first | omega | (simp only[Int.add_assoc,Int.reduceAdd]at*;omega)) fun c k1 k2=>by rcases k1 with rfl | rfl<;>first | omega | (simp only[Int.add_assoc,Int.reduceAdd]at*;omega)⟩ (by simp only;omega) (Can.sub (by simp[go_sem]) (by simp[go_sem]))
theorem td2{x:Int}(h: -1<=x):0<=x.tdiv 2/\x.tdiv 2<=max x 0/\x<=2*x.tdiv 2+1:=by
 by_cases h0:0<=x
 ·rw[Int.tdiv_eq_ediv_of_nonneg h0];omega
 ·rw[show x= -1 by omega];decide
theorem qRN{h:List qA}{id n:Nat}{xs:List Int}{a b:Int}{K:AV->List qA->Prop}(hid:id<h.length)(hn:xs.length=n)(hl:n<=4194304)(hab:0<=a/\a<=b/\b<=n)
  (hK:∀ys,RP a b ys xs->SO a b ys->K (.tup []) (RW h id ys)):SCall Gm 1340 [.slice 1 id 0 n false,.int .i64 a,.int .i64 b] (RW h id xs) K:=by
 refine sI XV ?_;simp only[XV,qQ,go_sem];have ht:=td2 (x:=b-a-1) (by omega);simp(config:={maxSteps:=2000000}) (disch:=omega) only [go_sem,qH,qO,qP,Int.reduceEq];refine ja (fun q:Int×List Int=> -1<=q.1/\q.1<=b-a/\RP a b q.2 xs/\HP (q.1+1) (b-a) a q.2) (fun q=>(⟨[(0,.slice 1 id 0 n false),(6,.int .i64 a),(7,.int .i64 0),(8,.int .i64 (b-a)),(9,.int .i64 q.1)],[],RW h id q.2⟩:VSt)) (fun q=>(q.1+1).toNat) ((b-a-1).tdiv 2,xs)
  (fun zs:List Int=>RP a b zs xs/\HP 0 (b-a) a zs) (fun zs=>(⟨[(0,.slice 1 id 0 n false),(6,.int .i64 a),(7,.int .i64 0),(8,.int .i64 (b-a))],[],RW h id zs⟩:VSt)) (by kernel_rfl) ⟨(by simp only;omega),(by simp only;omega),.refl _,HP.empty (by simp only;omega)⟩ (Can.sub (by simp[go_sem]) (by simp[go_sem])) ?_ ?_
 ·rintro⟨i,ys⟩ ⟨h1,h2,h3,h4⟩;simp only at h1 h2 h3 h4|-;have hyl:=h3.len;simp only[go_sem];apply qF<;>intro hc<;>simp only[hc,go_sem]
  ·have hc2:=odT hc;refine qM (qKU hid (by omega) hl (by omega) h4 fun zs hz hh=> ?_);simp(config:={maxSteps:=2000000}) (disch:=omega) only [go_sem,qH,qO,qP,Int.reduceEq];exact zw (i-1,zs) ⟨(by simp only;omega),(by simp only;omega),(hz.mono (Int.le_refl _) (by omega)).trans h3,by rw[Int.sub_add_cancel];exact hh⟩ (by simp only;omega) (Can.sub (by simp[go_sem]) (by simp[go_sem]))
  ·have hc2:=odF hc;obtain rfl:i= -1:=by omega
   exact zb ys ⟨h3,h4⟩ (Can.sub (by simp[go_sem]) (by simp[go_sem]))
 ·rintro ys ⟨h3,h4⟩;have hyl:=h3.len;simp(config:={maxSteps:=2000000}) (disch:=omega) only [go_sem,qH,qO,qP,Int.reduceEq];refine Sem.loop (fun q:Int×List Int=> -1<=q.1/\q.1<=b-a-1/\RP a b q.2 xs/\HP 0 (q.1+1) a q.2/\TL (b-a) a q.1 q.2) (fun q=>(⟨[(0,.slice 1 id 0 n false),(6,.int .i64 a),(7,.int .i64 0),(10,.int .i64 q.1)],[],RW h id q.2⟩:VSt)) (fun q=>(q.1+1).toNat) (b-a-1,ys) (by kernel_rfl) ⟨(by simp only;omega),(by simp only;omega),h3,by rw[Int.sub_add_cancel];exact h4,fun p q p1 pq q1 q2=>by omega⟩ (Can.sub (by simp[go_sem]) (by simp[go_sem])) ?_;rintro⟨i,zs⟩ ⟨g1,g2,g3,g4,g5⟩;simp only at g1 g2 g3 g4 g5|-;have hzl:=g3.len;simp only[go_sem];apply qF<;>intro hc<;>simp only[hc,go_sem]
  ·have hc2:=odT hc;simp(config:={maxSteps:=2000000}) (disch:=omega) only [go_sem,qH,qO,qP,Int.reduceEq];refine qp hid (by omega) (by omega) ?_;simp(config:={maxSteps:=2000000}) (disch:=omega) only [go_sem,qH,qO,qP,Int.reduceEq];refine qp hid (by omega) (by rw[lLs];omega) ?_;simp(maxSteps:=2000000) (disch:=omega) only [go_sem,qH,qO,qP,Int.reduceEq];obtain⟨t1,t2,t3⟩:=g5.step g4 hab.1 hc2 (by omega) (by omega);refine qM (qKU (xs:=swI zs a (a+i)) hid (by rw[UB];omega) hl (by omega) t1 fun us hu hh=> ?_);simp(config:={maxSteps:=2000000}) (disch:=omega) only [go_sem,qH,qO,qP,Int.reduceEq];exact ql (i-1,us) ⟨(by simp only;omega),(by simp only;omega),(hu.mono (Int.le_refl _) (by omega)).trans (g3.sw (by omega) (by omega) (by omega) (by omega)),by rw[Int.sub_add_cancel];exact hh,t2.rp t3 hu hab.1 hc2 (by omega) (by rw[UB];omega)⟩ (by simp only;omega) (Can.sub (by simp[go_sem]) (by simp[go_sem]))
  ·have hc2:=odF hc;obtain rfl:i= -1:=by omega
   exact hK _ g3 (by have:=g5.done;rwa[show a+(b-a)=b by omega]at this)
def bx(k:IntKind)(x:Int):qA:=.row 1 [.int k x] true
theorem qGQ{h:List qA}{o:qA}{id:Nat}{ys:List Int}(hid:id<h.length):(RW (h++[o]) id ys)[h.length]?=some o:=by
 unfold RW;rw[gSn (by omega),gAr (nLr _),nSs];rfl
theorem qL7{h:List qA}{o o':qA}{id:Nat}{ys:List Int}(hid:id<h.length):(RW (h++[o]) id ys).set h.length o'=RW (h++[o']) id ys:=by
 unfold RW;rw[List.set_comm _ _ (by omega)];congr 1;simp
theorem qJD{h:List qA}{o:qA}{id:Nat}(hid:id<h.length):id<(h++[o]).length:=by simp;omega
theorem Ji{h:List qA}{id:Nat}{ys:List Int}{k:IntKind}{x:Int}(hid:id<h.length):jT none 0 0 (RW (h++[bx k x]) id ys)[h.length]?=some (.int k x):=by
 rw[qGQ hid];rfl
theorem Za{E:Ev}{ks:List Fr1}{s m:qR}{h:List qA}{Q:qT->VSt->Prop}{l:List qB}{id:Nat}{ys:List Int}{k:IntKind}{x y:Int}(hid:id<h.length)
  (hr:R E (.ops l::ks) ⟨s,m,RW (h++[bx k y]) id ys⟩ Q):Sto E 1 (some (.ptr h.length 0 0)) (some (.int k y)) l ks ⟨s,m,RW (h++[bx k x]) id ys⟩ Q:=by
 refine zq (by rfl) (qGQ hid) (by rfl) (by rfl) ?_;rw[show (qA.row 1 (([AV.int k x]).set 0 (AV.int k y)) true)=bx k y from rfl,qL7 hid];exact hr
theorem V1{h:List qA}{id n:Nat}{xs:List Int}{a b x:Int}{K:AV->List qA->Prop}(hid:id<h.length)(hn:xs.length=n)(hab:0<=a/\a<n/\0<=b/\b<n)
  (hK:∀(p q y:Int),((p=a/\q=b)\/(p=b/\q=a))->K (.tup [.int .i64 p,.int .i64 q]) (RW (h++[bx .i64 y]) id xs)):SCall Gm 1529 [.slice 1 id 0 n false,.int .i64 a,.int .i64 b,.ptr h.length 0 0] (RW (h++[bx .i64 x]) id xs) K:=by
 refine sI Xx ?_;have hid':=qJD (o:=bx .i64 x) hid;simp only[Xx,qQ,go_sem];simp(config:={maxSteps:=2000000}) (disch:=omega) only [go_sem,qH,qO,qP,Int.reduceEq];refine qS (z9 _ _) ?_;simp only[go_sem];apply qF<;>intro hc<;>simp only[hc,go_sem]
 ·rw[Ji hid];simp only[go_sem];refine Za hid ?_;simp only[go_sem];exact hK _ _ _ (.inr ⟨rfl,rfl⟩)
 ·exact hK _ _ _ (.inl ⟨rfl,rfl⟩)
theorem V0{h:List qA}{id n:Nat}{xs:List Int}{a b c x:Int}{K:AV->List qA->Prop}(hid:id<h.length)(hn:xs.length=n)(hab:0<=a/\a<n/\0<=b/\b<n/\0<=c/\c<n)
  (hK:∀(p y:Int),(p=a\/p=b\/p=c)->K (.int .i64 p) (RW (h++[bx .i64 y]) id xs)):SCall Gm 1480 [.slice 1 id 0 n false,.int .i64 a,.int .i64 b,.int .i64 c,.ptr h.length 0 0] (RW (h++[bx .i64 x]) id xs) K:=by
 refine sI Xs ?_;simp only[Xs,qQ,go_sem];refine qM (V1 hid hn (by omega) fun p q y hpq=> ?_);simp only[go_sem];refine qM (V1 hid hn (by omega) fun p2 q2 y2 hpq2=> ?_);simp only[go_sem];refine qM (V1 hid hn (by omega) fun p3 q3 y3 hpq3=> ?_);simp only[go_sem];exact hK _ _ (by omega)
theorem Vz{h:List qA}{id n:Nat}{xs:List Int}{a x:Int}{K:AV->List qA->Prop}(hid:id<h.length)(hn:xs.length=n)(hl:n<=4194304)(hab:1<=a/\a+1<n)
  (hK:∀(p y:Int),(a-1<=p/\p<=a+1)->K (.int .i64 p) (RW (h++[bx .i64 y]) id xs)):SCall Gm 1479 [.slice 1 id 0 n false,.int .i64 a,.ptr h.length 0 0] (RW (h++[bx .i64 x]) id xs) K:=by
 refine sI Xr ?_;simp only[Xr,qQ,go_sem];simp(config:={maxSteps:=2000000}) (disch:=omega) only [go_sem,qH,qO,qP,Int.reduceEq];refine qM (V0 hid hn (by omega) fun p y hpq=> ?_);simp only[go_sem];exact hK _ _ (by omega)
theorem qRP{h:List qA}{id n:Nat}{xs:List Int}{a b:Int}{K:AV->List qA->Prop}(hid:id<h.length)(hn:xs.length=n)(hl:n<=4194304)(hab:0<=a/\a+8<=b/\b<=n)
  (hK:∀(p t y:Int),(a<=p/\p<b)->K (.tup [.int .i64 p,.int .i64 t]) (RW (h++[bx .i64 y]) id xs)):SCall Gm 1342 [.slice 1 id 0 n false,.int .i64 a,.int .i64 b] (RW h id xs) K:=by
 refine sI XX ?_;simp only[XX,qQ,go_sem];have ht:(b-a).tdiv 4=(b-a)/4:=Int.tdiv_eq_ediv_of_nonneg (by omega);have hb:(RW h id xs).length=h.length:=YY;have hx:RW h id xs++[qA.row 1 [AV.int .i64 0] true]=RW (h++[bx .i64 0]) id xs:=YX hid;simp(disch:=omega) only [go_sem,qH,Int.reduceEq,ht,hb,hx];have h8:decide ((8:Int)<=b-a)=true:=decide_eq_true (by omega);simp only[h8,go_sem]
 --the choice by the number of changes
 apply qF<;>intro hc<;>simp only[hc,go_sem]
 ·have h50:=odT hc;refine qM (Vz hid hn hl (by omega) fun p y hp=> ?_);simp only[go_sem];refine qM (Vz hid hn hl (by omega) fun p2 y2 hp2=> ?_);simp only[go_sem];refine qM (Vz hid hn hl (by omega) fun p3 y3 hp3=> ?_);simp only[go_sem];refine qM (V0 hid hn (by omega) fun q y hq=> ?_);simp only[go_sem];rw[Ji hid];simp only[go_sem];apply qF<;>intro hc<;>simp only[hc,go_sem]
  ·exact hK _ _ _ (by omega)
  ·apply qF<;>intro hc<;>simp only[hc,go_sem]
   ·exact hK _ _ _ (by omega)
   ·exact hK _ _ _ (by omega)
 ·refine qM (V0 hid hn (by omega) fun q y hq=> ?_);simp only[go_sem];rw[Ji hid];simp only[go_sem];apply qF<;>intro hc<;>simp only[hc,go_sem]
  ·exact hK _ _ _ (by omega)
  ·apply qF<;>intro hc<;>simp only[hc,go_sem]
   ·exact hK _ _ _ (by omega)
   ·exact hK _ _ _ (by omega)
def QM:List UInt8:=[0,1,2,2,3,3,3,3,4,4,4,4,4,4,4,4,5,5,5,5,5,5,5,5,5,5,5,5,5,5,5,5,6,6,6,6,6,6,6,6,6,6,6,6,6,6,6,6,6,6,6,6,6,6,6,6,6,6,6,6,6,6,6,6,7,7,7,7,7,7,7,7,7,7,7,7,7,7,7,7,7,7,7,7,7,7,7,7,7,7,7,7,7,7,7,7,7,7,7,7,7,7,7,7,7,7,7,7,7,7,7,7,7,7,7,7,7,7,7,7,7,7,7,7,7,7,7,7,8,8,8,8,8,8,8,8,8,8,8,8,8,8,8,8,8,8,8,8,8,8,8,8,8,8,8,8,8,8,8,8,8,8,8,8,8,8,8,8,8,8,8,8,8,8,8,8,8,8,8,8,8,8,8,8,8,8,8,8,8,8,8,8,8,8,8,8,8,8,8,8,8,8,8,8,8,8,8,8,8,8,8,8,8,8,8,8,8,8,8,8,8,8,8,8,8,8,8,8,8,8,8,8,8,8,8,8,8,8,8,8,8,8,8,8,8,8,8,8,8,8,8,8,8,8,8,8]
def tb(n:Int):Int:=((QM.getD n.toNat 0).toNat:Int)
theorem qLG:∀n:_root_.Fin 256,(QM[n.1]?).isSome=true/\(QM.getD n.1 0).toNat<=8/\(1<=n.1->2^(QM.getD n.1 0).toNat<=2*n.1):=by decide
theorem JS{n:Int}(h:0<=n/\n<=255):0<=tb n/\tb n<=8/\(1<=n->(2:Int)^(tb n).toNat<=2*n):=by
 have:=qLG ⟨n.toNat,by omega⟩;simp only at this;unfold tb;refine⟨by omega,by omega,fun h1=> ?_⟩;have h2:=this.2.2 (by omega);rw[iTn];have h3:((2^(QM.getD n.toNat 0).toNat:Nat):Int)<=((2*n.toNat:Nat):Int):=Int.ofNat_le.2 h2;rw[Int.natCast_pow]at h3;simpa[Int.toNat_of_nonneg h.1]using h3
theorem W7{n:Int}(h:0<=n/\n<=255):ZZ (some (.str QM)) (some (.int .u8 n))=some (.int .u8 (tb n)):=by
 have:=(qLG ⟨n.toNat,by omega⟩).1;simp only[ZZ,h.1,if_true];simp only at this;obtain⟨b,hb⟩:=Option.isSome_iff_exists.1 this;unfold tb;rw[hb,lGd,hb];rfl
def jF(x:Int):Int:=if 65536<=x then(if 256<=x/65536 then 24+tb (x/65536/256)else 16+tb (x/65536))else if 256<=x then 8+tb (x/256)else tb x
theorem Vo{a:Nat}{b:Int}{y:Int}(hb:0<=b)(h:(2:Int)^b.toNat<=2*y):(2:Int)^((a:Int)+b).toNat<=2*(y*2^a):=by
 rw[Int.toNat_add (by omega) hb,iTn,Int.pow_add];have h2:(0:Int)<=2^a:=Int.le_of_lt (Int.pow_pos (by omega));have:=Int.mul_le_mul_of_nonneg_left h h2
 calc (2:Int)^a*2^b.toNat<=2^a*(2*y):=this
  _=2*(y*2^a):=by rw[Int.mul_comm,Int.mul_assoc]
theorem qJE{x:Int}(h:0<=x/\x<4294967296):0<=jF x/\jF x<=32/\(1<=x->(2:Int)^(jF x).toNat<=2*x):=by
 unfold jF;by_cases h1:65536<=x
 ·rw[if_pos h1];by_cases h2:256<=x/65536
  ·rw[if_pos h2];have:=JS (n:=x/65536/256) (by omega);refine⟨by omega,by omega,fun _=> ?_⟩;have:=Vo (a:=24) this.1 (this.2.2 (by omega));refine Int.le_trans this ?_;simp only[show ((2:Int)^24)=16777216 from rfl];omega
  ·rw[if_neg h2];have:=JS (n:=x/65536) (by omega);refine⟨by omega,by omega,fun _=> ?_⟩;have:=Vo (a:=16) this.1 (this.2.2 (by omega));refine Int.le_trans this ?_;simp only[show ((2:Int)^16)=65536 from rfl];omega
 ·rw[if_neg h1];by_cases h2:256<=x
  ·rw[if_pos h2];have:=JS (n:=x/256) (by omega);refine⟨by omega,by omega,fun _=> ?_⟩;have:=Vo (a:=8) this.1 (this.2.2 (by omega));refine Int.le_trans this ?_;simp only[show ((2:Int)^8)=256 from rfl];omega
  ·rw[if_neg h2];have:=JS (n:=x) (by omega);exact⟨by omega,by omega,fun _=>this.2.2 (by omega)⟩
def shf2(op:BinOp):Option AV->Option AV->Option AV
 | some (.int k a),some (.int _ b)=>jV op k a b
 | _,_=>none
section
variable {E:Ev} {ks:List Fr1} {s m:qR} {h:List qA} {Q:qT->VSt->Prop} {l:List qB} {i:Nat} {d:Option Nat} {g:Option (Nat×Bool)} {ck:List qB} {x y:Ao} {op:BinOp}
@[go_sem] theorem qVR:Go1 E (.mk i d g (.shft op x y) ck) l ks ⟨s,m,h⟩ Q=Put E (shf2 op (ev (toE s) x) (ev (toE s) y)) d l ks ⟨s,m,h⟩ Q:=by
 rw[zS rfl fun _=>rfl];congr 1
@[go_sem] theorem qZY{k k':IntKind}{a b:Int}:shf2 op (some (.int k a)) (some (.int k' b))=jV op k a b:=nr rfl
end
theorem V6{k:IntKind}{a b:Int}(h0:0<=b):jV .shr k a b=some (.int k (a.fdiv (2^(min b.toNat k.bits)))):=by unfold jV;rw[if_neg (by omega)]
theorem qR3{k:IntKind}{a b:Int}(h0:0<=b):jV .shl k a b=some (.int k (k.wrap (a*2^(min b.toNat k.bits)))):=by unfold jV;rw[if_neg (by omega)]
theorem qR4{a:Int}(h:0<=a):jV .shr .u64 a 16=some (.int .u64 (a/65536)):=by
 rw[V6 (by omega),Int.fdiv_eq_ediv_of_nonneg _ (by decide)];rfl
theorem shr8{a:Int}(h:0<=a):jV .shr .u64 a 8=some (.int .u64 (a/256)):=by
 rw[V6 (by omega),Int.fdiv_eq_ediv_of_nonneg _ (by decide)];rfl
theorem XB{n:Int}(h:0<=n/\n<=255):IntKind.u8.wrap n=n:=IntWalk.u8_in n h
theorem Qj{n:Int}(h:0<=n/\n<=18446744073709551615):IntKind.u64.wrap n=n:=IntWalk.u64_in n h
theorem qMQ{x:Int}(h:0<=x/\x<4294967296):Pure Gm 1349 [.int .u64 x] (.int .i64 (jF x)):=by
 refine pI Xd (by simp[AV.trees,AV.tree,go_sem]) rfl ?_;simp only[Xd,qQ,go_sem];have h0:decide ((4294967296:Int)<=x)=false:=decide_eq_false (by omega);simp only[h0,go_sem];apply qF<;>intro hc<;>simp only[hc,go_sem]
 ·have h1:=odT hc;simp(disch:=omega) only [qR4,qH,go_sem];apply qF<;>intro hc<;>simp only[hc,go_sem]
  ·have h2:=odT hc;have tl:=JS (n:=x/65536/256) (by omega);simp(disch:=omega) only [shr8,qH,XB,go_sem];refine Jl (W7 (n:=x/65536/256) (by omega)) ?_;simp(disch:=omega) only [qH,go_sem];exact qV rfl (by unfold jF;rw[if_pos h1,if_pos h2];rfl)
  ·have h2:=odF hc;have tl:=JS (n:=x/65536) (by omega);simp(disch:=omega) only [qH,XB,go_sem];refine Jl (W7 (n:=x/65536) (by omega)) ?_;simp(disch:=omega) only [qH,go_sem];exact qV rfl (by unfold jF;rw[if_pos h1,if_neg h2,Int.zero_add])
 ·have h1:=odF hc;apply qF<;>intro hc<;>simp only[hc,go_sem]
  ·have h2:=odT hc;have tl:=JS (n:=x/256) (by omega);simp(disch:=omega) only [shr8,qH,XB,go_sem];refine Jl (W7 (n:=x/256) (by omega)) ?_;simp(disch:=omega) only [qH,go_sem];exact qV rfl (by unfold jF;rw[if_neg h1,if_pos h2];rfl)
  ·have h2:=odF hc;have tl:=JS (n:=x) (by omega);simp(disch:=omega) only [qH,XB,go_sem];refine Jl (W7 (n:=x) (by omega)) ?_;simp(disch:=omega) only [qH,go_sem];exact qV rfl (by unfold jF;rw[if_neg h1,if_neg h2,Int.zero_add])
theorem qHF{x:Int}(h:0<=x/\x<4294967296):Pure Gm 1054 [.int .u64 x] (.int .i64 (jF x)):=by
 refine pI XI (by simp[AV.trees,AV.tree,go_sem]) rfl ?_;simp only[XI,qQ,go_sem];refine qS (qMQ h) ?_;simp only[go_sem];exact qV rfl rfl
theorem qM0{x:Int}(h:1<=x/\x<1073741824):Pure Gm 1477 [.int .i64 x] (.int .u64 (2^(jF x).toNat)):=by
 refine pI Xp (by simp[AV.trees,AV.tree,go_sem]) rfl ?_;simp only[Xp,qQ,go_sem];have tl:=qJE (x:=x) (by omega);simp(disch:=omega) only [Qj,go_sem];refine qS (qHF (by omega)) ?_;simp only[go_sem];have hm:min (jF x).toNat IntKind.u64.bits=(jF x).toNat:=Nat.min_eq_left (by show _<=64;omega);have hp:=tl.2.2 (by omega);have hp0:(0:Int)<=2^(jF x).toNat:=Int.le_of_lt (Int.pow_pos (by omega));rw[qR3 (by omega),hm,Int.one_mul,Qj (by omega)];simp only[go_sem];exact qV rfl rfl
theorem qRU{h:List qA}{id:Nat}{xs:List Int}{x:Int}{K:AV->List qA->Prop}(hid:id<h.length)
  (hK:∀y:Int,K (.int .u64 y) (RW (h++[bx .u64 y]) id xs)):SCall Gm 1478 [.ptr h.length 0 0] (RW (h++[bx .u64 x]) id xs) K:=by
 refine sI Xq ?_;simp only[Xq,qQ,go_sem];have sl:∀a:Int,jV .shl .u64 a 13=some (.int .u64 (IntKind.u64.wrap (a*2^13))):=fun a=>rfl;have sr:∀a:Int,jV .shr .u64 a 7=some (.int .u64 (a.fdiv (2^7))):=fun a=>rfl;have sl2:∀a:Int,jV .shl .u64 a 17=some (.int .u64 (IntKind.u64.wrap (a*2^17))):=fun a=>rfl;have xo:∀a b:Int,∃c:Int,zt .xor .u64 a b=some (.int .u64 c):=fun a b=>⟨_,rfl⟩;simp only[Ji hid,sl,go_sem];obtain⟨c1,e1⟩:=xo x (IntKind.u64.wrap (x*2^13));simp only[e1,go_sem];refine Za hid ?_;simp only[Ji hid,sr,go_sem];obtain⟨c2,e2⟩:=xo c1 (c1.fdiv (2^7));simp only[e2,go_sem];refine Za hid ?_;simp only[Ji hid,sl2,go_sem];obtain⟨c3,e3⟩:=xo c2 (IntKind.u64.wrap (c2*2^17));simp only[e3,go_sem];refine Za hid ?_;simp only[Ji hid,go_sem];exact hK _
theorem qGX{a c:Int}(hc:0<=c/\c<9223372036854775808):∃o:Int,zt .and .u64 a c=some (.int .u64 o)/\0<=o/\o<=c:=by
 refine⟨_,rfl, ?_⟩;have h1:(BitVec.ofInt IntKind.u64.bits a&&&BitVec.ofInt IntKind.u64.bits c).toNat<=c.toNat:=by
  rw[BitVec.toNat_and];refine nLt Nat.and_le_right ?_;rw[BitVec.toNat_ofInt];show (c%((2^64:Nat):Int)).toNat<=_;omega
 rw[Qj (by omega)];omega
theorem qRO{h:List qA}{id n:Nat}{xs:List Int}{a b:Int}{K:AV->List qA->Prop}(hid:id<h.length)(hn:xs.length=n)(hl:n<=4194304)(hab:0<=a/\a+8<=b/\b<=n)
  (hK:∀(ys:List Int)(y:Int),RP a b ys xs->K (.tup []) (RW (h++[bx .u64 y]) id ys)):SCall Gm 1341 [.slice 1 id 0 n false,.int .i64 a,.int .i64 b] (RW h id xs) K:=by
 refine sI XW ?_;simp only[XW,qQ,go_sem];have ht:(b-a).tdiv 4=(b-a)/4:=Int.tdiv_eq_ediv_of_nonneg (by omega);have hb:(RW h id xs).length=h.length:=YY;have hx:RW h id xs++[qA.row 1 [AV.int .u64 0] true]=RW (h++[bx .u64 0]) id xs:=YX hid;have h8:decide ((8:Int)<=b-a)=true:=decide_eq_true (by omega);simp(disch:=omega) only [go_sem,qH,h8];simp(disch:=omega) only [go_sem,qH,Qj,Int.reduceEq,ht,hb,hx];refine Za hid ?_;simp only[go_sem];have tl:=qJE (x:=b-a) (by omega);have hp:=tl.2.2 (by omega);have hp0:(0:Int)<2^(jF (b-a)).toNat:=Int.pow_pos (by omega);refine qS (qM0 (by omega)) ?_;generalize (2:Int)^(jF (b-a)).toNat=P at hp hp0;simp(disch:=omega) only [go_sem,qH,Int.reduceEq,ht];refine Sem.loop (fun q:Int×Int×List Int=>a+(b-a)/4*2-1<=q.1/\q.1<=a+(b-a)/4*2+2/\RP a b q.2.2 xs) (fun q=>(⟨[(0,.slice 1 id 0 n false),(1,.int .i64 a),(6,.int .i64 (b-a)),(7,.ptr h.length 0 0),(8,.int .u64 P),(9,.int .i64 q.1)],[],RW (h++[bx .u64 q.2.1]) id q.2.2⟩:VSt)) (fun q=>(a+(b-a)/4*2+2-q.1).toNat) (a+(b-a)/4*2-1,b-a,xs) (by kernel_rfl) ⟨(by first | omega | (simp only;omega)),(by first | omega | (simp only;omega)),.refl _⟩ (Can.sub (by simp[go_sem]) (by simp[go_sem])) ?_;rintro⟨i,y,ys⟩ ⟨h1,h2,h3⟩;simp only at h1 h2 h3|-;have hyl:=h3.len;simp(disch:=omega) only [go_sem,qH,Int.reduceEq,ht];apply qF<;>intro hc<;>simp only[hc,go_sem]
 ·have hle:=odT hc;refine qM (qRU hid fun y2=> ?_);have hid':=qJD (o:=bx .u64 y2) hid;simp(disch:=omega) only [go_sem,Qj];obtain⟨o,e,o1,o2⟩:=qGX (a:=y2) (c:=P-1) (by omega);simp(disch:=omega) only [e,go_sem,qH];apply qF<;>intro hc<;>simp only[hc,go_sem]
  ·have hge:=odT hc;simp(config:={maxSteps:=2000000}) (disch:=omega) only [go_sem,qH,qO,qP,Int.reduceEq];refine qp hid' (by omega) (by omega) ?_;simp(config:={maxSteps:=2000000}) (disch:=omega) only [go_sem,qH,qO,qP,Int.reduceEq];refine qp hid' (by omega) (by rw[lLs];omega) ?_;simp(maxSteps:=2000000) (disch:=omega) only [go_sem,qH,qO,qP,Int.reduceEq];exact ql (i+1,y2,swI ys i (a+(o-(b-a)))) ⟨(by first | omega | (simp only;omega)),(by first | omega | (simp only;omega)),h3.sw (by omega) (by omega) (by omega) (by omega)⟩ (by first | omega | (simp only;omega)) (Can.sub (by simp[go_sem]) (by simp[go_sem]))
  ·have hlt:=odF hc;simp(config:={maxSteps:=2000000}) (disch:=omega) only [go_sem,qH,qO,qP,Int.reduceEq];refine qp hid' (by omega) (by omega) ?_;simp(config:={maxSteps:=2000000}) (disch:=omega) only [go_sem,qH,qO,qP,Int.reduceEq];refine qp hid' (by omega) (by rw[lLs];omega) ?_;simp(maxSteps:=2000000) (disch:=omega) only [go_sem,qH,qO,qP,Int.reduceEq];exact ql (i+1,y2,swI ys i (a+o)) ⟨(by first | omega | (simp only;omega)),(by first | omega | (simp only;omega)),h3.sw (by omega) (by omega) (by omega) (by omega)⟩ (by first | omega | (simp only;omega)) (Can.sub (by simp[go_sem]) (by simp[go_sem]))
 ·exact hK _ _ h3
theorem PE.incl{a b i j:Int}{ys:List Int}(h:PE a b i j ys)(h1:gI ys i<=gI ys a):PE a b (i+1) j ys:=⟨fun k k1 k2=>by
 by_cases e:k=i
 ·rw[e];exact h1
 ·exact h.1 k k1 (by omega),h.2⟩
theorem PE.decl{a b i j:Int}{ys:List Int}(h:PE a b i j ys)(h1:gI ys a<gI ys j):PE a b i (j-1) ys:=⟨h.1,fun k k1 k2=>by
 by_cases e:k=j
 ·rw[e];exact h1
 ·exact h.2 k (by omega) k2⟩
theorem qRS{h:List qA}{id n:Nat}{xs:List Int}{a b p:Int}{K:AV->List qA->Prop}(hid:id<h.length)(hn:xs.length=n)(hl:n<=4194304)(hab:0<=a/\a<b/\b<=n/\a<=p/\p<b)
  (hK:∀(ys:List Int)(m:Int),RP a b ys xs->a+1<=m->m<=b->(∀k,a<=k->k<m->gI ys k<=gI xs p)->(∀k,m<=k->k<b->gI xs p<gI ys k)->K (.int .i64 m) (RW h id ys)):SCall Gm 1346 [.slice 1 id 0 n false,.int .i64 a,.int .i64 b,.int .i64 p] (RW h id xs) K:=by
 refine sI Xb ?_;simp only[Xb,qQ,go_sem];simp(config:={maxSteps:=2000000}) (disch:=omega) only [go_sem,qH,qO,qP,Int.reduceEq];refine qp hid (by omega) (by omega) ?_;simp(config:={maxSteps:=2000000}) (disch:=omega) only [go_sem,qH,qO,qP,Int.reduceEq];refine qp hid (by omega) (by rw[lLs];omega) ?_;simp(maxSteps:=2000000) (disch:=omega) only [go_sem,qH,qO,qP,Int.reduceEq];refine ja (fun q:Int×Int×List Int=>a+1<=q.1/\q.2.1<=b-1/\q.1<=b/\RP a b q.2.2 xs/\gI q.2.2 a=gI xs p/\PE a b q.1 q.2.1 q.2.2) (fun q=>(⟨[(0,.slice 1 id 0 n false),(1,.int .i64 a),(9,.int .i64 q.1),(10,.int .i64 q.2.1)],[],RW h id q.2.2⟩:VSt)) (fun q=>(q.2.1+1-q.1).toNat) (a+1,b-1,swI xs a p)
  (fun q:Int×List Int=>a+1<=q.1/\q.1<=b/\RP a b q.2 xs/\gI q.2 a=gI xs p/\∃j,j<q.1/\PE a b q.1 j q.2) (fun q=>(⟨[(9,.int .i64 q.1)],[],RW h id q.2⟩:VSt)) (by kernel_rfl) ⟨(by first | omega | (simp only;omega)),(by first | omega | (simp only;omega)),(by first | omega | (simp only;omega)),(RP.refl _).sw (by omega) (by omega) (by omega) (by omega),by
   show gI (swI xs a p) a=_;rw[zZ (by omega) (by omega) (by omega) (by omega) (by omega)];split
   ·rename_i e;rw[e]
   ·rw[if_pos rfl],fun k k1 k2=>by simp only at k2;omega,fun k k1 k2=>by simp only at k1;omega⟩ (Can.sub (by simp[go_sem]) (by simp[go_sem])) ?_ ?_
 ·rintro⟨i,j,ys⟩ ⟨h1,h2,h3,h4,h5,h6⟩;simp only at h1 h2 h3 h4 h5 h6|-;have hyl:=h4.len;simp only[go_sem];refine ja (fun i':Int=>i<=i'/\i'<=max i (j+1)/\PE a b i' j ys) (fun i'=>(⟨[(0,.slice 1 id 0 n false),(1,.int .i64 a),(9,.int .i64 i'),(10,.int .i64 j)],[],RW h id ys⟩:VSt)) (fun i'=>(j+1-i').toNat) i
   (fun i':Int=>i<=i'/\i'<=max i (j+1)/\PE a b i' j ys/\(i'<=j->gI ys a<gI ys i')) (fun i'=>(⟨[(0,.slice 1 id 0 n false),(1,.int .i64 a),(9,.int .i64 i'),(10,.int .i64 j)],[],RW h id ys⟩:VSt)) (by kernel_rfl) ⟨(by first | omega | (simp only;omega)),(by first | omega | (simp only;omega)),h6⟩ (Can.sub (by simp[go_sem]) (by simp[go_sem])) ?_ ?_
  ·rintro i' ⟨k1,k2,k3⟩;simp only[go_sem];apply qe<;>intro hc<;>simp only[hc,go_sem]
   ·have hle:=odT hc;simp(config:={maxSteps:=2000000}) (disch:=omega) only [go_sem,qH,qO,qP,Int.reduceEq];refine qS (z9 _ _) ?_;simp only[go_sem];apply qF<;>intro hc<;>simp only[hc,go_sem]
    ·have hx:=odF (Eq.mp (bNt _) hc);simp(config:={maxSteps:=2000000}) (disch:=omega) only [go_sem,qH,qO,qP,Int.reduceEq];exact zw (i'+1) ⟨(by first | omega | (simp only;omega)),(by first | omega | (simp only;omega)),k3.incl (by omega)⟩ (by first | omega | (simp only;omega)) (Can.sub (by simp[go_sem]) (by simp[go_sem]))
    ·have hx:=odT (Eq.mp (Bool.not_eq_false' _) hc);exact zb i' ⟨by omega,by omega,k3,fun _=>hx⟩ (Can.sub (by simp[go_sem]) (by simp[go_sem]))
   ·have hle:=odF hc;exact zb i' ⟨by omega,by omega,k3,fun e=>by omega⟩ (Can.sub (by simp[go_sem]) (by simp[go_sem]))
  rintro i' ⟨k1,k2,k3,k4⟩;simp only[go_sem];refine ja (fun j':Int=>j'<=j/\PE a b i' j' ys) (fun j'=>(⟨[(0,.slice 1 id 0 n false),(1,.int .i64 a),(9,.int .i64 i'),(10,.int .i64 j')],[],RW h id ys⟩:VSt)) (fun j'=>(j'+1).toNat) j
   (fun j':Int=>j'<=j/\PE a b i' j' ys/\(i'<=j'->gI ys a<gI ys i'/\¬gI ys a<gI ys j')) (fun j'=>(⟨[(0,.slice 1 id 0 n false),(1,.int .i64 a),(9,.int .i64 i'),(10,.int .i64 j')],[],RW h id ys⟩:VSt)) (by kernel_rfl) ⟨(by first | omega | (simp only;omega)),k3⟩ (Can.sub (by simp[go_sem]) (by simp[go_sem])) ?_ ?_
  ·rintro j' ⟨m2,m3⟩;simp only[go_sem];apply qe<;>intro hc<;>simp only[hc,go_sem]
   ·have hle:=odT hc;simp(config:={maxSteps:=2000000}) (disch:=omega) only [go_sem,qH,qO,qP,Int.reduceEq];refine qS (z9 _ _) ?_;simp only[go_sem];apply qF<;>intro hc<;>simp only[hc,go_sem]
    ·have hx:=odT hc;simp(config:={maxSteps:=2000000}) (disch:=omega) only [go_sem,qH,qO,qP,Int.reduceEq];exact zw (j'-1) ⟨(by first | omega | (simp only;omega)),m3.decl hx⟩ (by first | omega | (simp only;omega)) (Can.sub (by simp[go_sem]) (by simp[go_sem]))
    ·have hx:=odF hc;exact zb j' ⟨by omega,m3,fun _=>⟨k4 (by omega),hx⟩⟩ (Can.sub (by simp[go_sem]) (by simp[go_sem]))
   ·have hle:=odF hc;exact zb j' ⟨by omega,m3,fun e=>by omega⟩ (Can.sub (by simp[go_sem]) (by simp[go_sem]))
  rintro j' ⟨m2,m3,m4⟩;simp only[go_sem];apply qF<;>intro hc<;>simp only[hc,go_sem]
  ·have hle:=odT hc;exact zb (i',ys) ⟨(by first | omega | (simp only;omega)),(by first | omega | (simp only;omega)),h4,h5,j',by omega,m3⟩ (Can.sub (by simp[go_sem]) (by simp[go_sem]))
  ·have hle:=odF hc;simp(config:={maxSteps:=2000000}) (disch:=omega) only [go_sem,qH,qO,qP,Int.reduceEq];refine qp hid (by omega) (by omega) ?_;simp(config:={maxSteps:=2000000}) (disch:=omega) only [go_sem,qH,qO,qP,Int.reduceEq];refine qp hid (by omega) (by rw[lLs];omega) ?_;simp(maxSteps:=2000000) (disch:=omega) only [go_sem,qH,qO,qP,Int.reduceEq];have m5:=m4 (by omega);refine zw (i'+1,j'-1,swI ys i' j') ⟨(by first | omega | (simp only;omega)),(by first | omega | (simp only;omega)),(by first | omega | (simp only;omega)),h4.sw (by omega) (by omega) (by omega) (by omega), ?_, ?_⟩ (by first | omega | (simp only;omega)) (Can.sub (by simp[go_sem]) (by simp[go_sem]))
   ·show gI (swI ys i' j') a=_;rw[zZ (by omega) (by omega) (by omega) (by omega) (by omega),if_neg (by omega),if_neg (by omega)];exact h5
   ·exact m3.sw (by omega) (by omega) (by omega) (by omega) (by omega) m5.1 m5.2
 ·rintro⟨i,ys⟩ ⟨h1,h2,h3,h4,j,h5,h6⟩;simp only at h1 h2 h3 h4 h5 h6|-;simp only[go_sem];refine hK _ _ h3 h1 h2 (fun k k1 k2=> ?_) fun k k1 k2=> ?_
  ·by_cases e:k=a
   ·rw[e,h4];exact Int.le_refl _
   ·rw[<-h4];exact h6.1 k (by omega) k2
  ·rw[<-h4];exact h6.2 k (by omega) k2
end Go.Ab
