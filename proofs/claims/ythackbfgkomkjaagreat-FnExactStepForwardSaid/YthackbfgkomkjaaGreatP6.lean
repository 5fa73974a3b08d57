/- Texts Dbg0 .. Dbg13: the abstract machine, its laws and contracts of functions: lemmas for the statement. No condition. -/
import Derived.Test.YthackbfgkomkjaaGreatP4
set_option linter.unusedSimpArgs false
set_option linter.unusedVariables false
namespace Go.Ab
open Go
structure qG where
 Agent:Int
 Slot:Int
deriving DecidableEq
def qG.enc(x:qG):AV:=.agg [.int .i64 x.Agent,.int .i64 x.Slot]
theorem qG.isSh:Sh qG.enc 2 (some 2):=⟨fun x=>by simp[qG.enc,AV.tree,AV.trees],fun _=>rfl,fun _=>rfl,by decide,fun x=>by simp[qG.enc]⟩
section
variable {x:qG}
@[go_sem] theorem qG.tr:x.enc.tree=true:=qG.isSh.tree x
@[go_sem] theorem qG.ln:x.enc.cells.length=2:=nr rfl
@[go_sem] theorem qG.all:x.enc.part 0 (some 2)=some x.enc:=nr rfl
@[go_sem] theorem qG.cs:x.enc.cells=[.int .i64 x.Agent,.int .i64 x.Slot]:=nr rfl
@[go_sem] theorem qG.p0:x.enc.part 0 none=some (.int .i64 x.Agent):=nr rfl
@[go_sem] theorem qG.p1:x.enc.part 1 none=some (.int .i64 x.Slot):=nr rfl
@[go_sem] theorem qG.eqf{y:qG}:JC false [1,1] (some x.enc) (some y.enc)=some (.bool (decide (x=y))):=by
 obtain⟨a0,a1⟩:=x;obtain⟨b0,b1⟩:=y;simp only[JC,qG.enc,lMc,List.map_nil,dig,and_self,if_true,JG,QN,qG.mk.injEq]
 repeat' (split<;>simp_all)
@[go_sem] theorem qG.eqt{y:qG}:JC true [1,1] (some x.enc) (some y.enc)=some (.bool (!decide (x=y))):=by
 have h:=qG.eqf (x:=x) (y:=y);unfold JC at h|-;split<;>simp_all
end
structure qA where
 Kind:Int
 Level:Int
 Value:Int
 Data:List Int
 Ports:List qG
def qA.enc(x:qA):AV:=.agg [.int .i64 x.Kind,.int .i64 x.Level,.int .i64 x.Value,.lst 1 (x.Data.map qK) false,.lst 2 (x.Ports.map qG.enc) false]
theorem qA.isSh:Sh qA.enc 5 (some 5):=⟨fun x=>by simp[qA.enc,AV.tree,AV.trees,qV qG.isSh.tree,qV shI.tree],fun _=>rfl,fun _=>rfl,by decide,fun x=>by simp[qA.enc]⟩
section
variable {x:qA}
@[go_sem] theorem qA.tr:x.enc.tree=true:=qA.isSh.tree x
@[go_sem] theorem qA.ln:x.enc.cells.length=5:=nr rfl
@[go_sem] theorem qA.all:x.enc.part 0 (some 5)=some x.enc:=nr rfl
@[go_sem] theorem qA.cs:x.enc.cells=[.int .i64 x.Kind,.int .i64 x.Level,.int .i64 x.Value,.lst 1 (x.Data.map qK) false,.lst 2 (x.Ports.map qG.enc) false]:=nr rfl
@[go_sem] theorem qA.p0:x.enc.part 0 none=some (.int .i64 x.Kind):=nr rfl
@[go_sem] theorem qA.p1:x.enc.part 1 none=some (.int .i64 x.Level):=nr rfl
@[go_sem] theorem qA.p2:x.enc.part 2 none=some (.int .i64 x.Value):=nr rfl
@[go_sem] theorem qA.p3:x.enc.part 3 none=some (.lst 1 (x.Data.map qK) false):=nr rfl
@[go_sem] theorem qA.p4:x.enc.part 4 none=some (.lst 2 (x.Ports.map qG.enc) false):=nr rfl
end
def qA.sz(x:qA):Nat:=x.Data.length+x.Ports.length
def qA.bd(x:qA):Prop:=x.Data.length<=140737488355328/\x.Ports.length<=140737488355328
structure qC where
 Agents:List qA
def qC.enc(x:qC):AV:=.agg [.lst 5 (x.Agents.map qA.enc) false]
theorem qC.isSh:Sh qC.enc 1 (some 1):=⟨fun x=>by simp[qC.enc,AV.tree,AV.trees,qV qA.isSh.tree],fun _=>rfl,fun _=>rfl,by decide,fun x=>by simp[qC.enc]⟩
section
variable {x:qC}
@[go_sem] theorem qC.tr:x.enc.tree=true:=qC.isSh.tree x
@[go_sem] theorem qC.ln:x.enc.cells.length=1:=nr rfl
@[go_sem] theorem qC.all:x.enc.part 0 (some 1)=some x.enc:=nr rfl
@[go_sem] theorem qC.cs:x.enc.cells=[.lst 5 (x.Agents.map qA.enc) false]:=nr rfl
@[go_sem] theorem qC.p0:x.enc.part 0 none=some (.lst 5 (x.Agents.map qA.enc) false):=nr rfl
@[go_sem] theorem qC.lst1{E:Ev}{t off:Nat}{cs:List AV}{l:List qB}{ks:List Fr1}{s m:qo}{h:List qD}{Q:qh->VSt->Prop}:Lst E t off 1 (some (.agg cs)) (some x.enc) l ks ⟨s,m,h⟩ Q=wO E t (jI cs off (.lst 5 (x.Agents.map qA.enc) false)) l ks ⟨s,m,h⟩ Q:=JQ rfl
end
def qC.sz(x:qC):Nat:=(x.Agents.length+qH qA.sz x.Agents)
def qC.bd(x:qC):Prop:=x.Agents.length<=140737488355328/\(∀y∈x.Agents,qA.bd y)
structure qE where
 Step:Int
 Def:Int
 Source:Int
deriving DecidableEq
def qE.enc(x:qE):AV:=.agg [.int .i64 x.Step,.int .i64 x.Def,.int .i64 x.Source]
theorem qE.isSh:Sh qE.enc 3 (some 3):=⟨fun x=>by simp[qE.enc,AV.tree,AV.trees],fun _=>rfl,fun _=>rfl,by decide,fun x=>by simp[qE.enc]⟩
section
variable {x:qE}
@[go_sem] theorem qE.tr:x.enc.tree=true:=qE.isSh.tree x
@[go_sem] theorem qE.ln:x.enc.cells.length=3:=nr rfl
@[go_sem] theorem qE.all:x.enc.part 0 (some 3)=some x.enc:=nr rfl
@[go_sem] theorem qE.cs:x.enc.cells=[.int .i64 x.Step,.int .i64 x.Def,.int .i64 x.Source]:=nr rfl
@[go_sem] theorem qE.p0:x.enc.part 0 none=some (.int .i64 x.Step):=nr rfl
@[go_sem] theorem qE.p1:x.enc.part 1 none=some (.int .i64 x.Def):=nr rfl
@[go_sem] theorem qE.p2:x.enc.part 2 none=some (.int .i64 x.Source):=nr rfl
@[go_sem] theorem qE.eqf{y:qE}:JC false [1,1,1] (some x.enc) (some y.enc)=some (.bool (decide (x=y))):=by
 obtain⟨a0,a1,a2⟩:=x;obtain⟨b0,b1,b2⟩:=y;simp only[JC,qE.enc,lMc,List.map_nil,dig,and_self,if_true,JG,QN,qE.mk.injEq]
 repeat' (split<;>simp_all)
@[go_sem] theorem qE.eqt{y:qE}:JC true [1,1,1] (some x.enc) (some y.enc)=some (.bool (!decide (x=y))):=by
 have h:=qE.eqf (x:=x) (y:=y);unfold JC at h|-;split<;>simp_all
end
structure qI where
 Kind:Int
 Value:Int
deriving DecidableEq
def qI.enc(x:qI):AV:=.agg [.int .i64 x.Kind,.int .i64 x.Value]
theorem qI.isSh:Sh qI.enc 2 (some 2):=⟨fun x=>by simp[qI.enc,AV.tree,AV.trees],fun _=>rfl,fun _=>rfl,by decide,fun x=>by simp[qI.enc]⟩
section
variable {x:qI}
@[go_sem] theorem qI.tr:x.enc.tree=true:=qI.isSh.tree x
@[go_sem] theorem qI.ln:x.enc.cells.length=2:=nr rfl
@[go_sem] theorem qI.all:x.enc.part 0 (some 2)=some x.enc:=nr rfl
@[go_sem] theorem qI.cs:x.enc.cells=[.int .i64 x.Kind,.int .i64 x.Value]:=nr rfl
@[go_sem] theorem qI.p0:x.enc.part 0 none=some (.int .i64 x.Kind):=nr rfl
@[go_sem] theorem qI.p1:x.enc.part 1 none=some (.int .i64 x.Value):=nr rfl
@[go_sem] theorem qI.eqf{y:qI}:JC false [1,1] (some x.enc) (some y.enc)=some (.bool (decide (x=y))):=by
 obtain⟨a0,a1⟩:=x;obtain⟨b0,b1⟩:=y;simp only[JC,qI.enc,lMc,List.map_nil,dig,and_self,if_true,JG,QN,qI.mk.injEq]
 repeat' (split<;>simp_all)
@[go_sem] theorem qI.eqt{y:qI}:JC true [1,1] (some x.enc) (some y.enc)=some (.bool (!decide (x=y))):=by
 have h:=qI.eqf (x:=x) (y:=y);unfold JC at h|-;split<;>simp_all
end
structure qF where
 At:Int
 Net:qC
 Origins:List qE
def qF.enc(x:qF):AV:=.agg [.int .i64 x.At,.lst 5 (x.Net.Agents.map qA.enc) false,.lst 3 (x.Origins.map qE.enc) false]
theorem qF.isSh:Sh qF.enc 3 (some 3):=⟨fun x=>by simp[qF.enc,AV.tree,AV.trees,qV qA.isSh.tree,qV qE.isSh.tree],fun _=>rfl,fun _=>rfl,by decide,fun x=>by simp[qF.enc]⟩
section
variable {x:qF}
@[go_sem] theorem qF.tr:x.enc.tree=true:=qF.isSh.tree x
@[go_sem] theorem qF.ln:x.enc.cells.length=3:=nr rfl
@[go_sem] theorem qF.all:x.enc.part 0 (some 3)=some x.enc:=nr rfl
@[go_sem] theorem qF.cs:x.enc.cells=[.int .i64 x.At,.lst 5 (x.Net.Agents.map qA.enc) false,.lst 3 (x.Origins.map qE.enc) false]:=nr rfl
@[go_sem] theorem qF.p0:x.enc.part 0 none=some (.int .i64 x.At):=nr rfl
@[go_sem] theorem qF.p1:x.enc.part 1 none=some (.lst 5 (x.Net.Agents.map qA.enc) false):=nr rfl
@[go_sem] theorem qF.p2:x.enc.part 2 none=some (.lst 3 (x.Origins.map qE.enc) false):=nr rfl
@[go_sem] theorem qF.q1_1:x.enc.part 1 (some 1)=some (qC.enc x.Net):=nr rfl
end
def qF.sz(x:qF):Nat:=qC.sz x.Net+x.Origins.length
def qF.bd(x:qF):Prop:=qC.bd x.Net/\x.Origins.length<=140737488355328
structure qJ where
 Book:List qC
 Schedule:List Int
 Every:Int
 At:Int
 Net:qC
 Origins:List qE
 Breaks:List qI
 Points:List qF
def qJ.enc(x:qJ):AV:=.agg [.lst 1 (x.Book.map qC.enc) false,.lst 1 (x.Schedule.map qK) false,.int .i64 x.Every,.int .i64 x.At,.lst 5 (x.Net.Agents.map qA.enc) false,.lst 3 (x.Origins.map qE.enc) false,.lst 2 (x.Breaks.map qI.enc) false,.lst 3 (x.Points.map qF.enc) false]
theorem qJ.isSh:Sh qJ.enc 8 (some 8):=⟨fun x=>by simp[qJ.enc,AV.tree,AV.trees,qV qA.isSh.tree,qV qI.isSh.tree,qV qF.isSh.tree,qV qC.isSh.tree,qV qE.isSh.tree,qV shI.tree],fun _=>rfl,fun _=>rfl,by decide,fun x=>by simp[qJ.enc]⟩
section
variable {x:qJ}
@[go_sem] theorem qJ.tr:x.enc.tree=true:=qJ.isSh.tree x
@[go_sem] theorem qJ.ln:x.enc.cells.length=8:=nr rfl
@[go_sem] theorem qJ.all:x.enc.part 0 (some 8)=some x.enc:=nr rfl
@[go_sem] theorem qJ.cs:x.enc.cells=[.lst 1 (x.Book.map qC.enc) false,.lst 1 (x.Schedule.map qK) false,.int .i64 x.Every,.int .i64 x.At,.lst 5 (x.Net.Agents.map qA.enc) false,.lst 3 (x.Origins.map qE.enc) false,.lst 2 (x.Breaks.map qI.enc) false,.lst 3 (x.Points.map qF.enc) false]:=nr rfl
@[go_sem] theorem qJ.p0:x.enc.part 0 none=some (.lst 1 (x.Book.map qC.enc) false):=nr rfl
@[go_sem] theorem qJ.p1:x.enc.part 1 none=some (.lst 1 (x.Schedule.map qK) false):=nr rfl
@[go_sem] theorem qJ.p2:x.enc.part 2 none=some (.int .i64 x.Every):=nr rfl
@[go_sem] theorem qJ.p3:x.enc.part 3 none=some (.int .i64 x.At):=nr rfl
@[go_sem] theorem qJ.p4:x.enc.part 4 none=some (.lst 5 (x.Net.Agents.map qA.enc) false):=nr rfl
@[go_sem] theorem qJ.p5:x.enc.part 5 none=some (.lst 3 (x.Origins.map qE.enc) false):=nr rfl
@[go_sem] theorem qJ.p6:x.enc.part 6 none=some (.lst 2 (x.Breaks.map qI.enc) false):=nr rfl
@[go_sem] theorem qJ.p7:x.enc.part 7 none=some (.lst 3 (x.Points.map qF.enc) false):=nr rfl
@[go_sem] theorem qJ.q4_1:x.enc.part 4 (some 1)=some (qC.enc x.Net):=nr rfl
end
def qJ.sz(x:qJ):Nat:=(x.Book.length+qH qC.sz x.Book)+x.Schedule.length+qC.sz x.Net+x.Origins.length+x.Breaks.length+(x.Points.length+qH qF.sz x.Points)
def qJ.bd(x:qJ):Prop:=x.Book.length<=140737488355328/\(∀y∈x.Book,qC.bd y)/\x.Schedule.length<=140737488355328/\qC.bd x.Net/\x.Origins.length<=140737488355328/\x.Breaks.length<=140737488355328/\x.Points.length<=140737488355328/\(∀y∈x.Points,qF.bd y)
set_option maxRecDepth 10000
def sr(l:List qB)(c:qL):qL:=.seq (.reg true l) c
@[go_sem] theorem quA{l:List qB}{c:qL}:sr l c=.seq (.reg true l) c:=nr rfl
def oL(i d t:Nat):qB:=.mk i (some d) none (.load none (.t t)) []
@[go_sem] theorem qr7{i d t:Nat}:oL i d t=.mk i (some d) none (.load none (.t t)) []:=nr rfl
def oC(i d:Nat)(n:Int):qB:=.mk i (some d) none (.mov (.c (.int .i64 n))) []
@[go_sem] theorem qrY{i d:Nat}{n:Int}:oC i d n=.mk i (some d) none (.mov (.c (.int .i64 n))) []:=nr rfl
def oQ(i d:Nat)(b:Bool):qB:=.mk i (some d) none (.mov (.c (.bool b))) []
@[go_sem] theorem qsD{i d:Nat}{b:Bool}:oQ i d b=.mk i (some d) none (.mov (.c (.bool b))) []:=nr rfl
def oE(i d:Nat)(op:BinOp)(a:Nat)(n:Int):qB:=.mk i (some d) none (.bin op (.t a) (.c (.int .i64 n))) []
@[go_sem] theorem qr1{i d:Nat}{op:BinOp}{a:Nat}{n:Int}:oE i d op a n=.mk i (some d) none (.bin op (.t a) (.c (.int .i64 n))) []:=nr rfl
def oB(i d:Nat)(op:BinOp)(a b:Nat):qB:=.mk i (some d) none (.bin op (.t a) (.t b)) []
@[go_sem] theorem qrX{i d:Nat}{op:BinOp}{a b:Nat}:oB i d op a b=.mk i (some d) none (.bin op (.t a) (.t b)) []:=nr rfl
def oA(i d w a b:Nat):qB:=.mk i (some d) none (.iaddr w (.t a) (.t b)) []
@[go_sem] theorem qrW{i d w a b:Nat}:oA i d w a b=.mk i (some d) none (.iaddr w (.t a) (.t b)) []:=nr rfl
def oX(i d t k:Nat):qB:=.mk i (some d) none (.lload t k none) []
@[go_sem] theorem qsJ{i d t k:Nat}:oX i d t k=.mk i (some d) none (.lload t k none) []:=nr rfl
def oY(i d t k w:Nat):qB:=.mk i (some d) none (.lload t k (some w)) []
@[go_sem] theorem qsK{i d t k w:Nat}:oY i d t k w=.mk i (some d) none (.lload t k (some w)) []:=nr rfl
def oS(i t k w x:Nat):qB:=.mk i none none (.lstore t k w (.t x)) []
@[go_sem] theorem qsE{i t k w x:Nat}:oS i t k w x=.mk i none none (.lstore t k w (.t x)) []:=nr rfl
def oT(i w a b:Nat):qB:=.mk i none none (.store w (.t a) (.t b)) []
@[go_sem] theorem qsF{i w a b:Nat}:oT i w a b=.mk i none none (.store w (.t a) (.t b)) []:=nr rfl
def oF(i d k a:Nat):qB:=.mk i (some d) none (.faddr k (.t a)) []
@[go_sem] theorem qr2{i d k a:Nat}:oF i d k a=.mk i (some d) none (.faddr k (.t a)) []:=nr rfl
def oK(i d a:Nat):qB:=.mk i (some d) none (.nilchk (.t a)) []
@[go_sem] theorem qr6{i d a:Nat}:oK i d a=.mk i (some d) none (.nilchk (.t a)) []:=nr rfl
def oV(i d a k:Nat):qB:=.mk i (some d) none (.ext (.t a) k) []
@[go_sem] theorem qsH{i d a k:Nat}:oV i d a k=.mk i (some d) none (.ext (.t a) k) []:=nr rfl
def oU(i d a:Nat):qB:=.mk i (some d) none (.nop a) []
@[go_sem] theorem qsG{i d a:Nat}:oU i d a=.mk i (some d) none (.nop a) []:=nr rfl
def oJ(i d a:Nat):qB:=.mk i (some d) none (.not (.t a)) []
@[go_sem] theorem qr5{i d a:Nat}:oJ i d a=.mk i (some d) none (.not (.t a)) []:=nr rfl
def oW(i d a:Nat):qB:=.mk i (some d) none (.len (.t a)) []
@[go_sem] theorem qsI{i d a:Nat}:oW i d a=.mk i (some d) none (.len (.t a)) []:=nr rfl
def oH(i d k:Nat)(b:Bool)(a:Nat):qB:=.mk i (some d) (some (k,b)) (.mov (.t a)) []
@[go_sem] theorem qr4{i d k:Nat}{b:Bool}{a:Nat}:oH i d k b a=.mk i (some d) (some (k,b)) (.mov (.t a)) []:=nr rfl
def oD1(i d g a:Nat):qB:=.mk i (some d) none (.call g [.t a]) []
@[go_sem] theorem qrZ{i d g a:Nat}:oD1 i d g a=.mk i (some d) none (.call g [.t a]) []:=nr rfl
def oD2(i d g a b:Nat):qB:=.mk i (some d) none (.call g [.t a,.t b]) []
@[go_sem] theorem qr0{i d g a b:Nat}:oD2 i d g a b=.mk i (some d) none (.call g [.t a,.t b]) []:=nr rfl
def oPf(i d a b:Nat):qB:=.mk i (some d) none (.pick (.t a) (.t b) (.c (.bool false))) []
@[go_sem] theorem qsB{i d a b:Nat}:oPf i d a b=.mk i (some d) none (.pick (.t a) (.t b) (.c (.bool false))) []:=nr rfl
def oPt(i d a b:Nat):qB:=.mk i (some d) none (.pick (.t a) (.c (.bool true)) (.t b)) []
@[go_sem] theorem qsC{i d a b:Nat}:oPt i d a b=.mk i (some d) none (.pick (.t a) (.c (.bool true)) (.t b)) []:=nr rfl
def F338:qP:=XL
def qFP:qP:=XL
def qWJ:List qB:=[oU 0 5 2,oX 1 6 2 3,oM 2 7 1,oD2 3 8 338 6 7,oM 4 1 8]
def qWK:List qB:=[oU 0 11 2,oX 1 12 2 4,oM 2 13 1,oD2 3 14 1173 12 13,oM 4 1 14]
def qWI:qL:=sr qWK (.seq (sr [oM 0 15 1,oE 1 16 .lss 15 0] (.cond (.t 16) (sr [oP 0 4 (.mov (.c (.int .i64 (-1))))] .ret) .skip)) (sr [oM 0 17 1,oM 1 4 17] .ret))
def F852:qP:=⟨2,18,[.t 4],sr [oP 0 2 (.lbox 5 (.t 0)),oC 1 4 0] (sr qWJ (.seq (sr [oM 0 9 1,oE 1 10 .lss 9 0] (.cond (.t 10) (sr [oP 0 4 (.mov (.c (.int .i64 (-1))))] .ret) .skip)) qWI))⟩
def F501:qP:=szS 5 (some 5) 852
def qMZ:List qB:=[oU 0 5 2,oX 1 6 2 0,oM 2 7 1,oD2 3 8 501 6 7,oM 4 1 8]
def qMY:qL:=sr qMZ (.seq (sr [oM 0 9 1,oE 1 10 .lss 9 0] (.cond (.t 10) (sr [oP 0 4 (.mov (.c (.int .i64 (-1))))] .ret) .skip)) (sr [oM 0 11 1,oM 1 4 11] .ret))
def Kb:qP:=⟨2,12,[.t 4],sr [oP 0 2 (.lbox 1 (.t 0)),oC 1 4 0] qMY⟩
def F181:qP:=szS 1 (some 1) 182
def F364:qP:=XL
def F365:qP:=XL
def qUE:List qB:=[oU 0 5 2,oY 1 6 2 1 1,oM 2 7 1,oD2 3 8 182 6 7,oM 4 1 8]
def qUF:List qB:=[oU 0 11 2,oX 1 12 2 2,oM 2 13 1,oD2 3 14 364 12 13,oM 4 1 14]
def qUD:qL:=sr qUF (.seq (sr [oM 0 15 1,oE 1 16 .lss 15 0] (.cond (.t 16) (sr [oP 0 4 (.mov (.c (.int .i64 (-1))))] .ret) .skip)) (sr [oM 0 17 1,oM 1 4 17] .ret))
def kf:qP:=⟨2,18,[.t 4],sr [oP 0 2 (.lbox 3 (.t 0)),oC 1 4 0] (sr qUE (.seq (sr [oM 0 9 1,oE 1 10 .lss 9 0] (.cond (.t 10) (sr [oP 0 4 (.mov (.c (.int .i64 (-1))))] .ret) .skip)) qUD))⟩
def F366:qP:=szS 3 (some 3) 740
def qDO:List qB:=[oU 0 5 2,oX 1 6 2 0,oM 2 7 1,oD2 3 8 181 6 7,oM 4 1 8]
def qDP:List qB:=[oU 0 11 2,oX 1 12 2 1,oM 2 13 1,oD2 3 14 338 12 13,oM 4 1 14]
def qDQ:List qB:=[oU 0 17 2,oY 1 18 2 4 1,oM 2 19 1,oD2 3 20 182 18 19,oM 4 1 20]
def qDR:List qB:=[oU 0 23 2,oX 1 24 2 5,oM 2 25 1,oD2 3 26 364 24 25,oM 4 1 26]
def qDS:List qB:=[oU 0 29 2,oX 1 30 2 6,oM 2 31 1,oD2 3 32 365 30 31,oM 4 1 32]
def qDT:List qB:=[oU 0 35 2,oX 1 36 2 7,oM 2 37 1,oD2 3 38 366 36 37,oM 4 1 38]
def qDL:qL:=sr qDT (.seq (sr [oM 0 39 1,oE 1 40 .lss 39 0] (.cond (.t 40) (sr [oP 0 4 (.mov (.c (.int .i64 (-1))))] .ret) .skip)) (sr [oM 0 41 1,oM 1 4 41] .ret))
def qDM:qL:=.seq (sr [oM 0 27 1,oE 1 28 .lss 27 0] (.cond (.t 28) (sr [oP 0 4 (.mov (.c (.int .i64 (-1))))] .ret) .skip)) (sr qDS (.seq (sr [oM 0 33 1,oE 1 34 .lss 33 0] (.cond (.t 34) (sr [oP 0 4 (.mov (.c (.int .i64 (-1))))] .ret) .skip)) qDL))
def qDN:qL:=.seq (sr [oM 0 15 1,oE 1 16 .lss 15 0] (.cond (.t 16) (sr [oP 0 4 (.mov (.c (.int .i64 (-1))))] .ret) .skip)) (sr qDQ (.seq (sr [oM 0 21 1,oE 1 22 .lss 21 0] (.cond (.t 22) (sr [oP 0 4 (.mov (.c (.int .i64 (-1))))] .ret) .skip)) (sr qDR qDM)))
def UU:qP:=⟨2,42,[.t 4],sr [oP 0 2 (.lbox 8 (.t 0)),oC 1 4 0] (sr qDO (.seq (sr [oM 0 9 1,oE 1 10 .lss 9 0] (.cond (.t 10) (sr [oP 0 4 (.mov (.c (.int .i64 (-1))))] .ret) .skip)) (sr qDP qDN)))⟩
def qOC:List qB:=[oM 0 7 0,oM 1 8 1,oB 2 9 .geq 7 8,oM 3 10 9,oH 4 11 10 true 0,oH 5 12 10 true 2,oG 6 13 10 true (.bin .leq (.t 11) (.t 12)),oPf 7 14 10 13,oM 8 6 14]
def Km:qP:=⟨3,15,[.t 6],sr [oQ 0 6 false] (sr qOC .ret)⟩
def qPV:List qB:=[oM 0 7 3,oM 1 8 0,oW 2 9 8,oB 3 10 .lss 7 9]
def qPW:List qB:=[oM 0 13 0,oM 1 14 3,oA 2 15 1 13 14,oL 3 16 15,oP 4 17 (.call 340 [.t 16,.c (.int .i64 0),.c (.int .i64 600)]),oJ 5 18 17]
def qPT:qL:=.loop (.seq (sr qPV (.cond (.t 10) .skip (.exit 0))) (.seq (.blk 1 (sr qPW (.cond (.t 18) (sr [oQ 0 2 false] .ret) .skip))) (.reg true [oM 0 11 3,oE 1 12 .add 11 1,oM 2 3 12])))
def qPU:qL:=.seq (sr [oM 0 4 0,oW 1 5 4,oE 2 6 .gtr 5 200] (.cond (.t 6) (sr [oQ 0 2 false] .ret) .skip)) (.seq (sr [oC 0 3 0] (.blk 0 qPT)) (sr [oQ 0 2 true] .ret))
def Kz:qP:=⟨1,19,[.t 2],sr [oQ 0 2 false] qPU⟩
def qQG:List qB:=[oM 0 3 0,oK 1 4 3,oF 2 5 0 4,oL 3 6 5]
def qQH:List qB:=[oM 0 9 0,oK 1 10 9,oF 2 11 1 10,oL 3 12 11,oP 4 13 (.call 340 [.t 12,.c (.int .i64 1),.c (.int .i64 8)]),oM 5 2 13]
def qQI:List qB:=[oM 0 16 0,oK 1 17 16,oF 2 18 1 17,oL 3 19 18,oP 4 20 (.call 340 [.t 19,.c (.int .i64 0),.c (.int .i64 23)]),oM 5 2 20]
def qQJ:List qB:=[oM 0 23 0,oK 1 24 23,oF 2 25 1 24,oL 3 26 25,oP 4 27 (.call 340 [.t 26,.c (.int .i64 1),.c (.int .i64 600)]),oM 5 2 27]
def qQF:qL:=.cond (.t 7) (sr qQH .ret) (sr [oE 0 15 .eql 6 2,oM 1 14 15] (.cond (.t 14) (sr qQI .ret) (sr [oE 0 22 .eql 6 3,oM 1 21 22] (.cond (.t 21) (sr qQJ .ret) .skip))))
def K0:qP:=⟨1,28,[.t 2],sr [oQ 0 2 false] (.seq (sr qQG (.blk 0 (sr [oE 0 8 .eql 6 1,oM 1 7 8] qQF))) (sr [oQ 0 2 false] .ret))⟩
def qRZ:List qB:=[oU 0 5 3,oX 1 6 3 0,oM 2 7 0,oW 3 8 7,oE 4 9 .sub 8 1,oP 5 10 (.call 340 [.t 6,.c (.int .i64 0),.t 9]),oM 6 11 10,oG 7 12 11 true (.nop 3),oG 8 13 11 true (.lload 3 1 none),oH 9 14 11 true 0,oG 10 15 11 true (.nop 3),oG 11 16 11 true (.lload 3 0 none),oG 12 17 11 true (.iaddr 5 (.t 14) (.t 16)),oG 13 18 11 true (.faddr 4 (.t 17)),oG 14 19 11 true (.load none (.t 18)),oG 15 20 11 true (.len (.t 19)),oG 16 21 11 true (.bin .sub (.t 20) (.c (.int .i64 1))),oG 17 22 11 true (.call 340 [.t 13,.c (.int .i64 0),.t 21]),oPf 18 23 11 22,oM 19 4 23]
def kG:qP:=⟨2,24,[.t 4],sr [oP 0 3 (.lbox 2 (.t 1)),oQ 1 4 false] (sr qRZ .ret)⟩
def qJ6:qL:=.seq (sr [oM 0 7 1,oP 1 8 (.call 340 [.t 7,.c (.int .i64 0),.c (.int .i64 3)])] (.cond (.t 8) (sr [oM 0 9 1,oP 1 10 (.bin .add (.c (.int .i64 1)) (.t 9)),oM 2 4 10] .ret) .skip)) (sr [oC 0 4 0] .ret)
def qJ7:qL:=sr [oE 0 16 .eql 13 5,oM 1 14 16] (.cond (.t 14) .skip (sr [oE 0 17 .eql 13 6,oM 1 14 17] (.cond (.t 14) .skip (.reg true [oE 0 18 .eql 13 12,oM 1 14 18]))))
def qJ8:qL:=sr [oE 0 20 .eql 13 8,oM 1 19 20] (.cond (.t 19) .skip (sr [oE 0 21 .eql 13 10,oM 1 19 21] (.cond (.t 19) .skip (.reg true [oE 0 22 .eql 13 11,oM 1 19 22]))))
def qJ9:qL:=sr [oE 0 25 .eql 13 3,oM 1 23 25] (.cond (.t 23) .skip (sr [oE 0 26 .eql 13 4,oM 1 23 26] (.cond (.t 23) .skip (.reg true [oE 0 27 .eql 13 7,oM 1 23 27]))))
def qKA:qL:=.cond (.t 14) (sr [oC 0 4 1] .ret) (.seq qJ8 (.cond (.t 19) (sr [oC 0 4 2] .ret) (.seq (sr [oE 0 24 .eql 13 2,oM 1 23 24] (.cond (.t 23) .skip qJ9)) (.cond (.t 23) (sr [oC 0 4 3] .ret) .skip))))
def qKB:qL:=.seq (sr [oM 0 11 1,oE 1 12 .neq 11 0] (.cond (.t 12) (sr [oC 0 4 0] .ret) .skip)) (.seq (sr [oM 0 13 0] (.blk 0 (.seq (sr [oE 0 15 .eql 13 1,oM 1 14 15] (.cond (.t 14) .skip qJ7)) qKA))) (sr [oC 0 4 0] .ret))
def U8:qP:=⟨2,28,[.t 4],sr [oC 0 4 0] (.seq (sr [oM 0 5 0,oE 1 6 .eql 5 9] (.cond (.t 6) qJ6 .skip)) qKB)⟩
def qKR:List qB:=[oM 0 3 0,oK 1 4 3,oF 2 5 0 4,oL 3 6 5,oE 4 7 .eql 6 9]
def qKS:List qB:=[oM 0 8 0,oK 1 9 8,oF 2 10 4 9,oL 3 11 10,oW 4 12 11,oE 5 13 .sub 12 1,oM 6 2 13]
def KB:qP:=⟨1,14,[.t 2],sr [oC 0 2 0] (.seq (sr qKR (.cond (.t 7) (sr qKS .ret) .skip)) (sr [oC 0 2 0] .ret))⟩
def qKC:qL:=sr [oE 0 11 .eql 3 10,oM 1 4 11] (.cond (.t 4) .skip (sr [oE 0 12 .eql 3 11,oM 1 4 12] (.cond (.t 4) .skip (.reg true [oE 0 13 .eql 3 12,oM 1 4 13]))))
def qKD:qL:=sr [oE 0 8 .eql 3 7,oM 1 4 8] (.cond (.t 4) .skip (sr [oE 0 9 .eql 3 8,oM 1 4 9] (.cond (.t 4) .skip (sr [oE 0 10 .eql 3 9,oM 1 4 10] (.cond (.t 4) .skip qKC)))))
def qKE:qL:=sr [oE 0 5 .eql 3 2,oM 1 4 5] (.cond (.t 4) .skip (sr [oE 0 6 .eql 3 3,oM 1 4 6] (.cond (.t 4) .skip (sr [oE 0 7 .eql 3 4,oM 1 4 7] (.cond (.t 4) .skip qKD)))))
def U9:qP:=⟨1,14,[.t 2],sr [oQ 0 2 false] (.seq (sr [oM 0 3 0] (.blk 0 (.seq qKE (.cond (.t 4) (sr [oQ 0 2 true] .ret) .skip)))) (sr [oQ 0 2 false] .ret))⟩
def KU:qP:=⟨1,5,[.t 2],sr [oQ 0 2 false] (sr [oM 0 3 0,oP 1 4 (.call 340 [.t 3,.c (.int .i64 1),.c (.int .i64 12)]),oM 2 2 4] .ret)⟩
def qKT:List qB:=[oM 0 9 0,oD1 1 10 1489 9,oM 2 11 10,oH 3 12 11 true 1,oG 4 13 11 true (.bin .eql (.t 12) (.c (.int .i64 0))),oPf 5 14 11 13,oM 6 4 14]
def KC:qP:=⟨2,15,[.t 4],sr [oQ 0 4 false] (.seq (sr [oM 0 5 0,oD1 1 6 1372 5] (.cond (.t 6) (sr [oM 0 7 1,oP 1 8 (.call 340 [.t 7,.c (.int .i64 0),.c (.int .i64 8)]),oM 2 4 8] .ret) .skip)) (sr qKT .ret))⟩
def KV:qP:=⟨1,5,[.t 2],sr [oQ 0 2 false] (sr [oM 0 3 0,oP 1 4 (.call 340 [.t 3,.c (.int .i64 0),.c (.int .i64 23)]),oM 2 2 4] .ret)⟩
def qKY:List qB:=[oM 0 4 0,oK 1 5 4,oF 2 6 0 5,oL 3 7 6]
def qKZ:List qB:=[oM 0 10 0,oK 1 11 10,oF 2 12 3 11,oL 3 13 12,oW 4 14 13,oE 5 15 .eql 14 0,oM 6 16 15,oH 7 17 16 true 0,oG 8 18 16 true (.nilchk (.t 17)),oG 9 19 16 true (.faddr 2 (.t 18)),oG 10 20 16 true (.load none (.t 19)),oG 11 21 16 true (.call 340 [.t 20,.c (.int .i64 (-2147483648)),.c (.int .i64 2147483647)]),oPf 12 22 16 21,oM 13 2 22]
def qK1:List qB:=[oM 0 25 0,oK 1 26 25,oF 2 27 3 26,oL 3 28 27,oW 4 29 28,oE 5 30 .eql 29 0,oM 6 31 30,oH 7 32 31 true 0,oG 8 33 31 true (.nilchk (.t 32)),oG 9 34 31 true (.faddr 2 (.t 33)),oG 10 35 31 true (.load none (.t 34)),oG 11 36 31 true (.call 340 [.t 35,.c (.int .i64 1),.c (.int .i64 6)]),oPf 12 37 31 36,oM 13 2 37]
def qK2:List qB:=[oM 0 40 0,oK 1 41 40,oF 2 42 3 41,oL 3 43 42,oW 4 44 43,oE 5 45 .eql 44 1,oM 6 46 45,oH 7 47 46 true 0,oG 8 48 46 true (.nilchk (.t 47)),oG 9 49 46 true (.faddr 2 (.t 48)),oG 10 50 46 true (.load none (.t 49)),oG 11 51 46 true (.call 340 [.t 50,.c (.int .i64 1),.c (.int .i64 6)]),oPf 12 52 46 51,oM 13 53 52,oH 14 54 53 true 0,oG 15 55 53 true (.nilchk (.t 54)),oG 16 56 53 true (.faddr 3 (.t 55)),oG 17 57 53 true (.load none (.t 56)),oG 18 58 53 true (.iaddr 1 (.t 57) (.c (.int .i64 0))),oG 19 59 53 true (.load none (.t 58)),oG 20 60 53 true (.call 340 [.t 59,.c (.int .i64 (-2147483648)),.c (.int .i64 2147483647)]),oPf 21 61 53 60,oM 22 2 61]
def qK3:List qB:=[oM 0 64 0,oK 1 65 64,oF 2 66 3 65,oL 3 67 66,oW 4 68 67,oE 5 69 .eql 68 0,oM 6 70 69,oH 7 71 70 true 0,oG 8 72 70 true (.nilchk (.t 71)),oG 9 73 70 true (.faddr 2 (.t 72)),oG 10 74 70 true (.load none (.t 73)),oG 11 75 70 true (.call 340 [.t 74,.c (.int .i64 0),.c (.int .i64 3)]),oPf 12 76 70 75,oM 13 2 76]
def qK4:List qB:=[oM 0 79 0,oK 1 80 79,oF 2 81 3 80,oL 3 82 81,oW 4 83 82,oE 5 84 .eql 83 0,oM 6 85 84,oH 7 86 85 true 0,oG 8 87 85 true (.nilchk (.t 86)),oG 9 88 85 true (.faddr 2 (.t 87)),oG 10 89 85 true (.load none (.t 88)),oG 11 90 85 true (.call 1494 [.t 89]),oPf 12 91 85 90,oM 13 2 91]
def qK5:List qB:=[oM 0 95 0,oK 1 96 95,oF 2 97 2 96,oL 3 98 97,oE 4 99 .neq 98 0,oM 5 100 99,oH 6 101 100 false 0,oG 7 102 100 false (.nilchk (.t 101)),oG 8 103 100 false (.faddr 0 (.t 102)),oG 9 104 100 false (.load none (.t 103)),oG 10 105 100 false (.bin .eql (.t 104) (.c (.int .i64 11))),oH 11 106 100 false 105,oH 12 107 106 true 0,oG 13 108 106 true (.nilchk (.t 107)),oG 14 109 106 true (.faddr 3 (.t 108)),oG 15 110 106 true (.load none (.t 109)),oG 16 111 106 true (.len (.t 110)),oG 17 112 106 true (.bin .neq (.t 111) (.c (.int .i64 2))),oG 18 113 100 false (.pick (.t 106) (.t 112) (.c (.bool false))),oPt 19 114 100 113,oM 20 115 114,oH 21 116 115 false 0,oG 22 117 115 false (.nilchk (.t 116)),oG 23 118 115 false (.faddr 0 (.t 117)),oG 24 119 115 false (.load none (.t 118)),oG 25 120 115 false (.bin .eql (.t 119) (.c (.int .i64 10))),oH 26 121 115 false 120,oH 27 122 121 true 0,oG 28 123 121 true (.nilchk (.t 122)),oG 29 124 121 true (.faddr 3 (.t 123)),oG 30 125 121 true (.load none (.t 124)),oG 31 126 121 true (.len (.t 125)),oG 32 127 121 true (.call 340 [.t 126,.c (.int .i64 1),.c (.int .i64 4)]),oG 33 128 121 true (.not (.t 127)),oG 34 129 115 false (.pick (.t 121) (.t 128) (.c (.bool false))),oPt 35 130 115 129]
def qK6:List qB:=[oM 0 131 3,oM 1 132 0,oK 2 133 132,oF 3 134 3 133,oL 4 135 134,oW 5 136 135,oB 6 137 .lss 131 136]
def qK7:List qB:=[oM 0 140 0,oK 1 141 140,oF 2 142 3 141,oL 3 143 142,oM 4 144 3,oA 5 145 1 143 144,oL 6 146 145,oD1 7 147 1494 146,oJ 8 148 147]
def qKX:qL:=.loop (.seq (sr qK6 (.cond (.t 137) .skip (.exit 1))) (.seq (.blk 2 (sr qK7 (.cond (.t 148) (sr [oQ 0 2 false] .ret) .skip))) (.reg true [oM 0 138 3,oE 1 139 .add 138 1,oM 2 3 139])))
def qKU:qL:=.seq (sr [oE 0 93 .eql 7 10,oM 1 92 93] (.cond (.t 92) .skip (.reg true [oE 0 94 .eql 7 11,oM 1 92 94]))) (.cond (.t 92) (.seq (sr qK5 (.cond (.t 130) (sr [oQ 0 2 false] .ret) .skip)) (.seq (sr [oC 0 3 0] (.blk 1 qKX)) (sr [oQ 0 2 true] .ret))) .skip)
def qKV:qL:=.cond (.t 38) (sr qK2 .ret) (sr [oE 0 63 .eql 7 9,oM 1 62 63] (.cond (.t 62) (sr qK3 .ret) (sr [oE 0 78 .eql 7 12,oM 1 77 78] (.cond (.t 77) (sr qK4 .ret) qKU))))
def qKW:qL:=sr [oE 0 9 .eql 7 6,oM 1 8 9] (.cond (.t 8) (sr qKZ .ret) (sr [oE 0 24 .eql 7 7,oM 1 23 24] (.cond (.t 23) (sr qK1 .ret) (sr [oE 0 39 .eql 7 8,oM 1 38 39] qKV))))
def qK0:List qB:=[oM 0 149 0,oK 1 150 149,oF 2 151 2 150,oL 3 152 151,oE 4 153 .eql 152 0,oM 5 154 153,oH 6 155 154 true 0,oG 7 156 154 true (.nilchk (.t 155)),oG 8 157 154 true (.faddr 3 (.t 156)),oG 9 158 154 true (.load none (.t 157)),oG 10 159 154 true (.len (.t 158)),oG 11 160 154 true (.bin .eql (.t 159) (.c (.int .i64 0))),oPf 12 161 154 160,oM 13 2 161]
def KD:qP:=⟨1,162,[.t 2],sr [oQ 0 2 false] (.seq (sr qKY (.blk 0 qKW)) (sr qK0 .ret))⟩
def qEG:List qB:=[oM 0 4 0,oK 1 5 4,oF 2 6 0 5,oL 3 7 6,oM 4 8 0,⟨5,some 9,none,.call 1384 [.t 8],[⟨3,some 7,none,.load none (.t 6),[]⟩]⟩,oD2 6 10 1371 7 9,oM 7 3 10]
def qEH:List qB:=[oM 0 11 3,oE 1 12 .gtr 11 0,oM 2 13 12,oH 3 14 13 true 0,oG 4 15 13 true (.nilchk (.t 14)),oG 5 16 13 true (.faddr 4 (.t 15)),oG 6 17 13 true (.load none (.t 16)),oG 7 18 13 true (.len (.t 17)),oH 8 19 13 true 3,oG 9 20 13 true (.bin .eql (.t 18) (.t 19)),oPf 10 21 13 20,oM 11 22 21,oH 12 23 22 true 0,oG 13 24 22 true (.nilchk (.t 23)),oG 14 25 22 true (.faddr 0 (.t 24)),oG 15 26 22 true (.load none (.t 25)),oH 16 27 22 true 0,oG 17 28 22 true (.nilchk (.t 27)),oG 18 29 22 true (.faddr 1 (.t 28)),oG 19 30 22 true (.load none (.t 29)),oG 20 31 22 true (.call 1385 [.t 26,.t 30]),oPf 21 32 22 31,oM 22 33 32,oH 23 34 33 true 0,oG 24 35 33 true (.call 1386 [.t 34]),oPf 25 36 33 35,oM 26 2 36]
def UZ:qP:=⟨1,37,[.t 2],sr [oQ 0 2 false] (sr qEG (sr qEH .ret))⟩
def qT2:List qB:=[oM 0 4 0,oW 1 5 4,oP 2 6 (.call 340 [.t 5,.c (.int .i64 1),.c (.int .i64 600)]),oJ 3 7 6]
def qT3:List qB:=[oM 0 8 3,oM 1 9 0,oW 2 10 9,oB 3 11 .lss 8 10]
def qT4:List qB:=[oM 0 14 0,oM 1 15 3,oA 2 16 5 14 15,oD1 3 17 1096 16,oJ 4 18 17,oM 5 19 18,oH 6 20 19 false 0,oH 7 21 19 false 3,oG 8 22 19 false (.iaddr 5 (.t 20) (.t 21)),oG 9 23 19 false (.faddr 0 (.t 22)),oG 10 24 19 false (.load none (.t 23)),oG 11 25 19 false (.bin .eql (.t 24) (.c (.int .i64 1))),oH 12 26 19 false 3,oG 13 27 19 false (.bin .eql (.t 26) (.c (.int .i64 0))),oG 14 28 19 false (.beq true (.t 25) (.t 27)),oPt 15 29 19 28]
def qT1:qL:=.loop (.seq (sr qT3 (.cond (.t 11) .skip (.exit 0))) (.seq (.blk 1 (sr qT4 (.cond (.t 29) (sr [oQ 0 2 false] .ret) .skip))) (.reg true [oM 0 12 3,oE 1 13 .add 12 1,oM 2 3 13])))
def kX:qP:=⟨1,30,[.t 2],sr [oQ 0 2 false] (.seq (sr qT2 (.cond (.t 7) (sr [oQ 0 2 false] .ret) .skip)) (.seq (sr [oC 0 3 0] (.blk 0 qT1)) (sr [oQ 0 2 true] .ret)))⟩
def qN3:List qB:=[oM 0 8 0,oK 1 9 8,oF 2 10 0 9,oL 3 11 10,oD1 4 12 710 11,oJ 5 13 12]
def qN4:List qB:=[oM 0 14 3,oM 1 15 0,oK 2 16 15,oF 3 17 0 16,oL 4 18 17,oW 5 19 18,oB 6 20 .lss 14 19]
def qN5:List qB:=[oM 0 23 0,oK 1 24 23,oF 2 25 0 24,oL 3 26 25,oM 4 27 3,oA 5 28 5 26 27,oM 6 4 28]
def qN6:List qB:=[oM 0 29 5,oM 1 30 4,oK 2 31 30,oF 3 32 4 31,oL 4 33 32,oW 5 34 33,oB 6 35 .lss 29 34]
def qN7:List qB:=[oM 0 38 3,oM 1 39 5,oP 2 40 (.build (.agg [.int .i64 0,.int .i64 0]) [(0,1,.t 38),(1,1,.t 39)]),oP 3 6 (.lalloc (.agg [.int .i64 0,.int .i64 0])),oS 4 6 0 2 40]
def qN8:List qB:=[oM 0 41 4,oK 1 42 41,oF 2 43 4 42,oL 3 44 43,oM 4 45 5,oA 5 46 2 44 45,oP 6 47 (.load (some 2) (.t 46)),oP 7 7 (.lalloc (.agg [.int .i64 0,.int .i64 0])),oS 8 7 0 2 47]
def qN9:List qB:=[oY 0 48 7 0 2,oY 1 49 6 0 2,oP 2 50 (.seq false [1,1] (.t 48) (.t 49)),oM 3 51 50,oH 4 52 51 false 0,oG 5 53 51 false (.nilchk (.t 52)),oG 6 54 51 false (.faddr 0 (.t 53)),oG 7 55 51 false (.load none (.t 54)),oG 8 56 51 false (.lload 7 0 (some 2)),oG 9 57 51 false (.call 488 [.t 55,.t 56]),oG 10 58 51 false (.not (.t 57)),oPt 11 59 51 58,oM 12 60 59,oH 13 61 60 false 0,oG 14 62 60 false (.nilchk (.t 61)),oG 15 63 60 false (.faddr 0 (.t 62)),oG 16 64 60 false (.load none (.t 63)),oG 17 65 60 false (.nop 7),oG 18 66 60 false (.lload 7 0 none),oG 19 67 60 false (.iaddr 5 (.t 64) (.t 66)),oG 20 68 60 false (.faddr 4 (.t 67)),oG 21 69 60 false (.load none (.t 68)),oG 22 70 60 false (.nop 7),oG 23 71 60 false (.lload 7 1 none),oG 24 72 60 false (.iaddr 2 (.t 69) (.t 71)),oG 25 73 60 false (.load (some 2) (.t 72)),oG 26 74 60 false (.lload 6 0 (some 2)),oG 27 75 60 false (.seq true [1,1] (.t 73) (.t 74)),oPt 28 76 60 75]
def qN0:qL:=.seq (.blk 3 (sr qN7 (sr qN8 (sr qN9 (.cond (.t 76) (sr [oQ 0 2 false] .ret) .skip))))) (.reg true [oM 0 36 5,oE 1 37 .add 36 1,oM 2 5 37])
def qN1:qL:=.seq (.blk 1 (sr qN5 (sr [oC 0 5 0] (.blk 2 (.loop (.seq (sr qN6 (.cond (.t 35) .skip (.exit 2))) qN0)))))) (.reg true [oM 0 21 3,oE 1 22 .add 21 1,oM 2 3 22])
def qN2:qL:=.seq (sr qN3 (.cond (.t 13) (sr [oQ 0 2 false] .ret) .skip)) (.seq (sr [oC 0 3 0] (.blk 0 (.loop (.seq (sr qN4 (.cond (.t 20) .skip (.exit 0))) qN1)))) (sr [oQ 0 2 true] .ret))
def Kk:qP:=⟨1,77,[.t 2],sr [oQ 0 2 false] qN2⟩
def qSY:List qB:=[oM 0 7 3,oM 1 8 0,oW 2 9 8,oB 3 10 .lss 7 9]
def qSZ:List qB:=[oM 0 13 0,oM 1 14 3,oA 2 15 1 13 14,oD1 3 16 318 15,oJ 4 17 16]
def qSW:qL:=.loop (.seq (sr qSY (.cond (.t 10) .skip (.exit 0))) (.seq (.blk 1 (sr qSZ (.cond (.t 17) (sr [oQ 0 2 false] .ret) .skip))) (.reg true [oM 0 11 3,oE 1 12 .add 11 1,oM 2 3 12])))
def qSX:qL:=.seq (sr [oM 0 4 0,oW 1 5 4,oE 2 6 .gtr 5 24] (.cond (.t 6) (sr [oQ 0 2 false] .ret) .skip)) (.seq (sr [oC 0 3 0] (.blk 0 qSW)) (sr [oQ 0 2 true] .ret))
def kR:qP:=⟨1,18,[.t 2],sr [oQ 0 2 false] qSX⟩
def qEX:List qB:=[oM 0 5 0,oK 1 6 5,oF 2 7 0 6,oL 3 8 7,oM 4 9 1,oP 5 10 (.call 340 [.t 8,.c (.int .i64 0),.t 9]),oM 6 11 10,oH 7 12 11 true 0,oG 8 13 11 true (.nilchk (.t 12)),oG 9 14 11 true (.faddr 1 (.t 13)),oG 10 15 11 true (.load none (.t 14)),oG 11 16 11 true (.call 340 [.t 15,.c (.int .i64 (-1)),.c (.int .i64 23)]),oPf 12 17 11 16,oM 13 18 17,oH 14 19 18 true 0,oG 15 20 18 true (.nilchk (.t 19)),oG 16 21 18 true (.faddr 2 (.t 20)),oG 17 22 18 true (.load none (.t 21)),oG 18 23 18 true (.call 340 [.t 22,.c (.int .i64 (-1)),.c (.int .i64 599)]),oPf 19 24 18 23,oM 20 25 24,oH 21 26 25 true 0,oG 22 27 25 true (.nilchk (.t 26)),oG 23 28 25 true (.faddr 2 (.t 27)),oG 24 29 25 true (.load none (.t 28)),oG 25 30 25 true (.bin .geq (.t 29) (.c (.int .i64 0))),oH 26 31 25 true 30,oH 27 32 31 false 0,oG 28 33 31 false (.nilchk (.t 32)),oG 29 34 31 false (.faddr 1 (.t 33)),oG 30 35 31 false (.load none (.t 34)),oG 31 36 31 false (.bin .lss (.t 35) (.c (.int .i64 0))),oG 32 37 25 true (.pick (.t 31) (.c (.bool true)) (.t 36)),oPf 33 38 25 37,oM 34 4 38]
def Ub:qP:=⟨2,39,[.t 4],sr [oQ 0 4 false] (sr qEX .ret)⟩
def qUH:List qB:=[oM 0 8 0,oD1 1 9 318 8,oJ 2 10 9,oM 3 11 10,oH 4 12 11 false 1,oG 5 13 11 false (.len (.t 12)),oH 6 14 11 false 0,oG 7 15 11 false (.nilchk (.t 14)),oG 8 16 11 false (.faddr 0 (.t 15)),oG 9 17 11 false (.load none (.t 16)),oG 10 18 11 false (.len (.t 17)),oG 11 19 11 false (.bin .neq (.t 13) (.t 18)),oPt 12 20 11 19]
def qUI:List qB:=[oM 0 21 7,oM 1 22 1,oW 2 23 22,oB 3 24 .lss 21 23]
def qUJ:List qB:=[oM 0 27 1,oM 1 28 7,oA 2 29 3 27 28,oM 3 30 2,oD2 4 31 1109 29 30,oJ 5 32 31]
def qUG:qL:=.loop (.seq (sr qUI (.cond (.t 24) .skip (.exit 0))) (.seq (.blk 1 (sr qUJ (.cond (.t 32) (sr [oQ 0 6 false] .ret) .skip))) (.reg true [oM 0 25 7,oE 1 26 .add 25 1,oM 2 7 26])))
def ki:qP:=⟨3,33,[.t 6],sr [oQ 0 6 false] (.seq (sr qUH (.cond (.t 20) (sr [oQ 0 6 false] .ret) .skip)) (.seq (sr [oC 0 7 0] (.blk 0 qUG)) (sr [oQ 0 6 true] .ret)))⟩
def qOG:List qB:=[oM 0 6 0,oK 1 7 6,oF 2 8 0 7,oL 3 9 8,oD1 4 10 598 9,oJ 5 11 10,oM 6 12 11,oH 7 13 12 false 0,oG 8 14 12 false (.nilchk (.t 13)),oG 9 15 12 false (.faddr 1 (.t 14)),oG 10 16 12 false (.load none (.t 15)),oG 11 17 12 false (.call 412 [.t 16]),oG 12 18 12 false (.not (.t 17)),oPt 13 19 12 18,oM 14 20 19,oH 15 21 20 false 0,oG 16 22 20 false (.nilchk (.t 21)),oG 17 23 20 false (.faddr 2 (.t 22)),oG 18 24 20 false (.load none (.t 23)),oG 19 25 20 false (.call 340 [.t 24,.c (.int .i64 1),.c (.int .i64 50)]),oG 20 26 20 false (.not (.t 25)),oPt 21 27 20 26,oM 22 28 27,oH 23 29 28 false 0,oG 24 30 28 false (.nilchk (.t 29)),oG 25 31 28 false (.faddr 3 (.t 30)),oG 26 32 28 false (.load none (.t 31)),oG 27 33 28 false (.call 340 [.t 32,.c (.int .i64 0),.c (.int .i64 4000)]),oG 28 34 28 false (.not (.t 33)),oPt 29 35 28 34,oM 30 36 35,oH 31 37 36 false 0,oG 32 38 36 false (.nilchk (.t 37)),oG 33 39 36 false (.faddr 4 (.t 38)),oH 34 40 36 false 0,oG 35 41 36 false (.nilchk (.t 40)),oG 36 42 36 false (.faddr 5 (.t 41)),oG 37 43 36 false (.load none (.t 42)),oH 38 44 36 false 0,oG 39 45 36 false (.nilchk (.t 44)),oG 40 46 36 false (.faddr 3 (.t 45)),oG 41 47 36 false (.load none (.t 46)),oG 42 48 36 false (.call 741 [.t 39,.t 43,.t 47]),oG 43 49 36 false (.not (.t 48)),oPt 44 50 36 49,oM 45 51 50,oH 46 52 51 false 0,oG 47 53 51 false (.nilchk (.t 52)),oG 48 54 51 false (.faddr 6 (.t 53)),oG 49 55 51 false (.load none (.t 54)),oG 50 56 51 false (.len (.t 55)),oG 51 57 51 false (.bin .gtr (.t 56) (.c (.int .i64 8))),oPt 52 58 51 57]
def qOH:List qB:=[oM 0 59 3,oM 1 60 0,oK 2 61 60,oF 3 62 6 61,oL 4 63 62,oW 5 64 63,oB 6 65 .lss 59 64]
def qOI:List qB:=[oM 0 68 0,oK 1 69 68,oF 2 70 6 69,oL 3 71 70,oM 4 72 3,oA 5 73 2 71 72,oD1 6 74 426 73,oJ 7 75 74]
def qOD:qL:=.loop (.seq (sr qOH (.cond (.t 65) .skip (.exit 0))) (.seq (.blk 1 (sr qOI (.cond (.t 75) (sr [oQ 0 2 false] .ret) .skip))) (.reg true [oM 0 66 3,oE 1 67 .add 66 1,oM 2 3 67])))
def qOJ:List qB:=[oM 0 76 0,oK 1 77 76,oF 2 78 7 77,oL 3 79 78,oW 4 80 79,oM 5 81 0,oK 6 82 81,oF 7 83 3 82,oL 8 84 83,oM 9 85 0,oK 10 86 85,oF 11 87 2 86,oL 12 88 87,oB 13 89 .quo 84 88,oE 14 90 .add 89 1,oM 15 91 0,oK 16 92 91,oF 17 93 2 92,oL 18 94 93,oP 19 95 (.bin .quo (.c (.int .i64 4000)) (.t 94)),oE 20 96 .add 95 1,oP 21 97 (.call 340 [.t 80,.t 90,.t 96]),oJ 22 98 97]
def qOK:List qB:=[oM 0 99 4,oM 1 100 0,oK 2 101 100,oF 3 102 7 101,oL 4 103 102,oW 5 104 103,oB 6 105 .lss 99 104]
def qOL:List qB:=[oM 0 108 0,oK 1 109 108,oF 2 110 7 109,oL 3 111 110,oM 4 112 4,oA 5 113 3 111 112,oM 6 5 113]
def qOM:List qB:=[oM 0 114 5,oK 1 115 114,oF 2 116 0 115,oL 3 117 116,oM 4 118 4,oM 5 119 0,oK 6 120 119,oF 7 121 2 120,oL 8 122 121,oB 9 123 .mul 118 122,oB 10 124 .neq 117 123,oM 11 125 124,oH 12 126 125 false 5,oG 13 127 125 false (.nilchk (.t 126)),oG 14 128 125 false (.faddr 1 (.t 127)),oH 15 129 125 false 5,oG 16 130 125 false (.nilchk (.t 129)),oG 17 131 125 false (.faddr 2 (.t 130)),oG 18 132 125 false (.load none (.t 131)),oH 19 133 125 false 5,oG 20 134 125 false (.nilchk (.t 133)),oG 21 135 125 false (.faddr 0 (.t 134)),oG 22 136 125 false (.load none (.t 135)),oG 23 137 125 false (.call 741 [.t 128,.t 132,.t 136]),oG 24 138 125 false (.not (.t 137)),oPt 25 139 125 138]
def qOE:qL:=.seq (sr qOK (.cond (.t 105) .skip (.exit 2))) (.seq (.blk 3 (sr qOL (sr qOM (.cond (.t 139) (sr [oQ 0 2 false] .ret) .skip)))) (.reg true [oM 0 106 4,oE 1 107 .add 106 1,oM 2 4 107]))
def qOF:qL:=.seq (sr qOJ (.cond (.t 98) (sr [oQ 0 2 false] .ret) .skip)) (.seq (sr [oC 0 4 0] (.blk 2 (.loop qOE))) (sr [oQ 0 2 true] .ret))
def Kn:qP:=⟨1,140,[.t 2],sr [oQ 0 2 false] (.seq (sr qOG (.cond (.t 58) (sr [oQ 0 2 false] .ret) .skip)) (.seq (sr [oC 0 3 0] (.blk 0 qOD)) qOF))⟩
def qUM:List qB:=[oM 0 7 4,oM 1 8 0,oK 2 9 8,oF 3 10 0 9,oL 4 11 10,oW 5 12 11,oB 6 13 .lss 7 12]
def qUN:List qB:=[oM 0 16 0,oK 1 17 16,oF 2 18 0 17,oL 3 19 18,oM 4 20 4,oA 5 21 5 19 20,oF 6 22 0 21,oL 7 23 22,oE 8 24 .eql 23 0]
def qUO:List qB:=[oM 0 25 0,oK 1 26 25,oF 2 27 0 26,oL 3 28 27,oM 4 29 4,oA 5 30 5 28 29,oF 6 31 4 30,oL 7 32 31,oP 8 33 (.iaddr 2 (.t 32) (.c (.int .i64 0))),oP 9 34 (.load (some 2) (.t 33)),oP 10 5 (.lalloc (.agg [.int .i64 0,.int .i64 0])),oS 11 5 0 2 34]
def qUP:List qB:=[oU 0 35 5,oX 1 36 5 1,oE 2 37 .eql 36 0,oM 3 38 37,oG 4 39 38 true (.nop 5),oG 5 40 38 true (.lload 5 0 none),oH 6 41 38 true 4,oG 7 42 38 true (.bin .gtr (.t 40) (.t 41)),oPf 8 43 38 42]
def qUQ:List qB:=[oM 0 44 3,oM 1 45 4,oU 2 46 5,oX 3 47 5 0,oP 4 48 (.build (.agg [.int .i64 0,.int .i64 0]) [(0,1,.t 45),(1,1,.t 47)]),oP 5 49 (.bslice 2 (.agg [.int .i64 0,.int .i64 0]) 1 [(0,.t 48)]),oP 6 50 (.app 2 (.t 44) (.t 49)),oM 7 3 50]
def qUK:qL:=.seq (sr qUM (.cond (.t 13) .skip (.exit 0))) (.seq (.blk 1 (.seq (sr qUN (.cond (.t 24) (.exit 1) .skip)) (sr qUO (sr qUP (.cond (.t 43) (.reg true qUQ) .skip))))) (.reg true [oM 0 14 4,oE 1 15 .add 14 1,oM 2 4 15]))
def qUL:qL:=sr [oP 0 6 (.mov (.c (.lst 2 [] true))),oM 1 3 6] (.seq (sr [oC 0 4 1] (.blk 0 (.loop qUK))) (sr [oM 0 51 3,oM 1 2 51] .ret))
def kj:qP:=⟨1,52,[.t 2],sr [oP 0 2 (.mov (.c (.nils)))] qUL⟩
def qLF:List qB:=[oM 0 9 0,oM 1 10 1,oD2 2 11 1385 9 10,oM 3 12 11,oH 4 13 12 true 2,oH 5 14 12 true 3,oG 6 15 12 true (.call 1385 [.t 13,.t 14]),oPf 7 16 12 15,oM 8 17 16,oH 9 18 17 true 0,oG 10 19 17 true (.bin .neq (.t 18) (.c (.int .i64 1))),oPf 11 20 17 19,oM 12 21 20,oH 13 22 21 true 2,oG 14 23 21 true (.bin .neq (.t 22) (.c (.int .i64 1))),oPf 15 24 21 23,oM 16 8 24]
def KI:qP:=⟨4,25,[.t 8],sr [oQ 0 8 false] (sr qLF .ret)⟩
def qMQ:List qB:=[oM 0 7 0,oP 1 8 (.call 340 [.t 7,.c (.int .i64 0),.c (.int .i64 8)]),oJ 2 9 8,oM 3 10 9,oH 4 11 10 false 1,oH 5 12 10 false 2,oG 6 13 10 false (.call 1385 [.t 11,.t 12]),oG 7 14 10 false (.not (.t 13)),oPt 8 15 10 14]
def qMR:List qB:=[oM 0 16 1,oE 1 17 .eql 16 6,oM 2 18 17,oH 3 19 18 false 1,oG 4 20 18 false (.bin .eql (.t 19) (.c (.int .i64 12))),oPt 5 21 18 20]
def qMS:List qB:=[oM 0 22 1,oD1 1 23 1372 22,oM 2 24 23,oH 3 25 24 true 2,oH 4 26 24 true 0,oG 5 27 24 true (.bin .gtr (.t 25) (.t 26)),oPf 6 28 24 27,oM 7 6 28]
def KX:qP:=⟨3,29,[.t 6],sr [oQ 0 6 false] (.seq (sr qMQ (.cond (.t 15) (sr [oQ 0 6 false] .ret) .skip)) (.seq (sr qMR (.cond (.t 21) (sr [oQ 0 6 true] .ret) .skip)) (sr qMS .ret)))⟩
def qMT:qL:=sr [oE 0 7 .eql 3 8,oM 1 4 7] (.cond (.t 4) .skip (sr [oE 0 8 .eql 3 10,oM 1 4 8] (.cond (.t 4) .skip (.reg true [oE 0 9 .eql 3 11,oM 1 4 9]))))
def qMU:qL:=sr [oM 0 3 0] (.blk 0 (.seq (sr [oE 0 5 .eql 3 3,oM 1 4 5] (.cond (.t 4) .skip (sr [oE 0 6 .eql 3 7,oM 1 4 6] (.cond (.t 4) .skip qMT)))) (.cond (.t 4) (sr [oQ 0 2 true] .ret) .skip)))
def KY:qP:=⟨1,10,[.t 2],sr [oQ 0 2 false] (.seq qMU (sr [oQ 0 2 false] .ret))⟩
def qLL:List qB:=[oM 0 14 2,oE 1 15 .eql 14 4,oM 2 16 15,oH 3 17 16 true 1,oH 4 18 16 true 3,oG 5 19 16 true (.bin .eql (.t 17) (.t 18)),oPf 6 20 16 19]
def qLM:List qB:=[oM 0 21 1,oM 1 22 2,oM 2 23 3,oP 3 24 (.call 1499 [.t 21,.t 22,.t 23])]
def qLN:List qB:=[oM 0 27 2,oE 1 28 .eql 27 3,oM 2 29 28,oH 3 30 29 true 1,oH 4 31 29 true 3,oG 5 32 29 true (.bin .eql (.t 30) (.t 31)),oPf 6 33 29 32]
def qLG:qL:=.seq (sr [oE 0 38 .eql 36 7,oM 1 37 38] (.cond (.t 37) .skip (.reg true [oE 0 39 .eql 36 8,oM 1 37 39]))) (.cond (.t 37) (sr [oC 0 8 5] .ret) (sr [oE 0 41 .eql 36 11,oM 1 40 41] (.cond (.t 40) (sr [oC 0 8 6] .ret) .skip)))
def qLH:qL:=.cond (.t 42) (sr [oM 0 44 2,oE 1 45 .eql 44 10] (.cond (.t 45) (sr [oC 0 8 6] .ret) .skip)) (sr [oE 0 47 .eql 9 12,oM 1 46 47] (.cond (.t 46) (sr [oM 0 48 2,oD1 1 49 1500 48] (.cond (.t 49) (sr [oC 0 8 7] .ret) .skip)) .skip))
def qLI:qL:=.cond (.t 25) (sr qLN (.cond (.t 33) (sr [oC 0 8 1] .ret) .skip)) (sr [oE 0 35 .eql 9 6,oM 1 34 35] (.cond (.t 34) (sr [oM 0 36 2] (.blk 1 qLG)) (sr [oE 0 43 .eql 9 9,oM 1 42 43] qLH)))
def qLJ:qL:=.cond (.t 12) (.seq (sr qLL (.cond (.t 20) (sr [oC 0 8 2] .ret) .skip)) (sr qLM (.cond (.t 24) (sr [oC 0 8 3] .ret) .skip))) (sr [oE 0 26 .eql 9 2,oM 1 25 26] qLI)
def qLK:qL:=sr [oM 0 9 0] (.blk 0 (sr [oE 0 11 .eql 9 5,oM 1 10 11] (.cond (.t 10) (sr [oC 0 8 4] .ret) (sr [oE 0 13 .eql 9 4,oM 1 12 13] qLJ))))
def KJ:qP:=⟨4,50,[.t 8],sr [oC 0 8 0] (.seq qLK (sr [oC 0 8 0] .ret))⟩
def qEZ:List qB:=[oM 0 9 0,oM 1 10 1,oM 2 11 2,oM 3 12 3,oP 4 13 (.call 1395 [.t 9,.t 10,.t 11,.t 12]),oJ 5 14 13]
def qE0:List qB:=[oM 0 15 0,oM 1 16 1,oM 2 17 2,oM 3 18 3,oP 4 19 (.call 1396 [.t 15,.t 16,.t 17,.t 18]),oE 5 20 .neq 19 0]
def qE1:List qB:=[oM 0 21 2,oM 1 22 3,oM 2 23 0,oM 3 24 1,oP 4 25 (.call 1396 [.t 21,.t 22,.t 23,.t 24]),oE 5 26 .neq 25 0]
def qEY:qL:=.seq (sr qEZ (.cond (.t 14) (sr [oC 0 8 0] .ret) .skip)) (.seq (sr qE0 (.cond (.t 20) (sr [oC 0 8 1] .ret) .skip)) (.seq (sr qE1 (.cond (.t 26) (sr [oC 0 8 2] .ret) .skip)) (sr [oC 0 8 0] .ret)))
def Uc:qP:=⟨4,27,[.t 8],sr [oC 0 8 0] qEY⟩
def qUR:List qB:=[oM 0 10 0,oK 1 11 10,oF 2 12 0 11,oL 3 13 12,oM 4 14 1,oA 5 15 5 13 14,oM 6 8 15]
def qUS:List qB:=[oM 0 16 0,oK 1 17 16,oF 2 18 0 17,oL 3 19 18,oM 4 20 2,oA 5 21 5 19 20,oM 6 9 21]
def qUT:List qB:=[oM 0 22 8,oK 1 23 22,oF 2 24 0 23,oL 3 25 24,oM 4 26 8,oK 5 27 26,oF 6 28 1 27,oL 7 29 28,oM 8 30 9,oK 9 31 30,oF 10 32 0 31,oL 11 33 32,oM 12 34 9,oK 13 35 34,oF 14 36 1 35,oL 15 37 36,oP 16 38 (.call 1110 [.t 25,.t 29,.t 33,.t 37]),oE 17 39 .eql 38 2]
def qUU:List qB:=[oM 0 40 2,oM 1 41 1,oM 2 6 40,oM 3 7 41]
def qUV:List qB:=[oM 0 42 1,oM 1 43 2,oM 2 6 42,oM 3 7 43]
def kq:qP:=⟨3,44,[.t 6,.t 7],sr [oC 0 6 0,oC 1 7 0] (sr qUR (sr qUS (.seq (sr qUT (.cond (.t 39) (sr qUU .ret) .skip)) (sr qUV .ret))))⟩
def qE3:List qB:=[oM 0 10 0,oM 1 11 1,oM 2 12 2,oM 3 13 3,oP 4 14 (.call 1395 [.t 10,.t 11,.t 12,.t 13]),oJ 5 15 14]
def qE4:List qB:=[oM 0 16 0,oM 1 17 1,oM 2 18 2,oM 3 19 3,oP 4 20 (.call 1396 [.t 16,.t 17,.t 18,.t 19]),oM 5 9 20]
def qE5:List qB:=[oM 0 23 2,oM 1 24 3,oM 2 25 0,oM 3 26 1,oP 4 27 (.call 1396 [.t 23,.t 24,.t 25,.t 26]),oM 5 9 27]
def qE2:qL:=.seq (sr [oM 0 21 9,oE 1 22 .eql 21 0] (.cond (.t 22) (.reg true qE5) .skip)) (.seq (sr [oM 0 28 9,oE 1 29 .eql 28 0] (.cond (.t 29) (sr [oC 0 8 8] .ret) .skip)) (sr [oM 0 30 9,oM 1 8 30] .ret))
def Ud:qP:=⟨4,31,[.t 8],sr [oC 0 8 0] (.seq (sr qE3 (.cond (.t 15) (sr [oC 0 8 0] .ret) .skip)) (sr qE4 qE2))⟩
def qUW:List qB:=[oM 0 5 0,oK 1 6 5,oF 2 7 0 6,oL 3 8 7,oE 4 9 .eql 8 9,oM 5 10 9,oH 6 11 10 true 1,oG 7 12 10 true (.nilchk (.t 11)),oG 8 13 10 true (.faddr 0 (.t 12)),oG 9 14 10 true (.load none (.t 13)),oG 10 15 10 true (.bin .eql (.t 14) (.c (.int .i64 10))),oPf 11 16 10 15,oM 12 17 16,oH 13 18 17 true 0,oG 14 19 17 true (.nilchk (.t 18)),oG 15 20 17 true (.faddr 2 (.t 19)),oG 16 21 17 true (.load none (.t 20)),oH 17 22 17 true 1,oG 18 23 17 true (.nilchk (.t 22)),oG 19 24 17 true (.faddr 3 (.t 23)),oG 20 25 17 true (.load none (.t 24)),oG 21 26 17 true (.len (.t 25)),oG 22 27 17 true (.bin .geq (.t 21) (.t 26)),oPf 23 28 17 27]
def qUX:List qB:=[oM 0 29 0,oK 1 30 29,oF 2 31 0 30,oL 3 32 31,oE 4 33 .eql 32 10,oM 5 34 33,oH 6 35 34 true 1,oG 7 36 34 true (.nilchk (.t 35)),oG 8 37 34 true (.faddr 0 (.t 36)),oG 9 38 34 true (.load none (.t 37)),oG 10 39 34 true (.bin .eql (.t 38) (.c (.int .i64 9))),oPf 11 40 34 39,oM 12 41 40,oH 13 42 41 true 1,oG 14 43 41 true (.nilchk (.t 42)),oG 15 44 41 true (.faddr 2 (.t 43)),oG 16 45 41 true (.load none (.t 44)),oH 17 46 41 true 0,oG 18 47 41 true (.nilchk (.t 46)),oG 19 48 41 true (.faddr 3 (.t 47)),oG 20 49 41 true (.load none (.t 48)),oG 21 50 41 true (.len (.t 49)),oG 22 51 41 true (.bin .geq (.t 45) (.t 50)),oPf 23 52 41 51]
def qUY:List qB:=[oM 0 53 0,oK 1 54 53,oF 2 55 0 54,oL 3 56 55,oM 4 57 0,oK 5 58 57,oF 6 59 1 58,oL 7 60 59,oM 8 61 1,oK 9 62 61,oF 10 63 0 62,oL 11 64 63,oM 12 65 1,oK 13 66 65,oF 14 67 1 66,oL 15 68 67,oP 16 69 (.call 1111 [.t 56,.t 60,.t 64,.t 68]),oM 17 4 69]
def ku:qP:=⟨2,70,[.t 4],sr [oC 0 4 0] (.seq (sr qUW (.cond (.t 28) (sr [oC 0 4 8] .ret) .skip)) (.seq (sr qUX (.cond (.t 52) (sr [oC 0 4 8] .ret) .skip)) (sr qUY .ret)))⟩
def qOO:List qB:=[oC 0 2 0,oP 1 3 (.lalloc (.agg [.int .i64 0,.int .i64 0])),oC 2 4 0,oQ 3 5 false]
def qOP:List qB:=[oM 0 10 0,oK 1 11 10,oF 2 12 4 11,oD1 3 13 742 12,oM 4 6 13]
def qOQ:List qB:=[oP 0 17 (.build (.agg [.int .i64 0,.int .i64 0]) []),oC 1 2 0,oS 2 3 0 2 17,oC 3 4 0,oQ 4 5 false]
def qOR:List qB:=[oM 0 18 0,oK 1 19 18,oF 2 20 1 19,oL 3 21 20,oW 4 22 21,oE 5 23 .gtr 22 0]
def qOS:List qB:=[oM 0 24 0,oK 1 25 24,oF 2 26 1 25,oL 3 27 26,oM 4 28 0,oK 5 29 28,oF 6 30 3 29,oL 7 31 30,oM 8 32 0,oK 9 33 32,oF 10 34 1 33,oL 11 35 34,oW 12 36 35,oB 13 37 .rem 31 36,oA 14 38 1 27 37,oL 15 39 38,oM 16 40 6,oW 17 41 40,oB 18 42 .rem 39 41,oM 19 7 42]
def qOT:List qB:=[oM 0 44 0,oK 1 45 44,oF 2 46 4 45,oM 3 47 6,oM 4 48 7,oA 5 49 2 47 48,oF 6 50 0 49,oL 7 51 50,oM 8 52 6,oM 9 53 7,oA 10 54 2 52 53,oF 11 55 1 54,oL 12 56 55,oP 13 57 (.call 743 [.t 46,.t 51,.t 56]),oM 14 43 57,oV 15 58 43 0,oV 16 59 43 1,oM 17 8 58,oM 18 9 59]
def qOU:List qB:=[oM 0 60 7,oM 1 61 8,oM 2 62 9,oP 3 63 (.build (.agg [.int .i64 0,.int .i64 0]) [(0,1,.t 61),(1,1,.t 62)]),oM 4 64 0,oK 5 65 64,oF 6 66 4 65,oF 7 67 0 66,oL 8 68 67,oM 9 69 8,oA 10 70 5 68 69,oM 11 71 0,oK 12 72 71,oF 13 73 4 72,oF 14 74 0 73,oL 15 75 74,oM 16 76 9,oA 17 77 5 75 76,oD2 18 78 744 70 77,oM 19 2 60,oS 20 3 0 2 63,oM 21 4 78,oQ 22 5 true]
def qON:qL:=.seq (sr [oM 0 14 6,oW 1 15 14,oE 2 16 .eql 15 0] (.cond (.t 16) (sr qOQ .ret) .skip)) (sr [oC 0 7 0] (.seq (sr qOR (.cond (.t 23) (.reg true qOS) .skip)) (sr qOT (sr qOU .ret))))
def Ko:qP:=⟨1,79,[.t 2,.l 3 (some 2),.t 4,.t 5],sr qOO (sr qOP qON)⟩
def qOV:List qB:=[oM 0 9 0,oK 1 10 9,oF 2 11 4 10,oF 3 12 0 11,oL 4 13 12,oU 5 14 4,oX 6 15 4 0,oA 7 16 5 13 15,oF 8 17 2 16,oL 9 18 17,oM 10 6 18]
def Kp:qP:=⟨3,19,[.t 6],sr [oP 0 4 (.lbox 2 (.t 1)),oC 1 6 0] (.seq (sr [oM 0 7 2,oE 1 8 .eql 7 7] (.cond (.t 8) (sr qOV .ret) .skip)) (sr [oP 0 6 (.mov (.c (.int .i64 (-1))))] .ret))⟩
def KS:qP:=Yd
def qLY:List qB:=[oU 0 4 1,oX 1 5 1 0,oU 2 6 3,oS 3 3 0 1 5]
def qLZ:List qB:=[oU 0 7 1,oX 1 8 1 1,oU 2 9 3,oS 3 3 1 1 8]
def XW:qP:=⟨1,11,[.l 2 (some 2)],sr [oP 0 1 (.lbox 2 (.t 0)),oP 1 2 (.lalloc (.agg [.int .i64 0,.int .i64 0]))] (sr [oP 0 3 (.lalloc (.agg [.int .i64 0,.int .i64 0]))] (sr qLY (sr qLZ (sr [oY 0 10 3 0 2,oS 1 2 0 2 10] .ret))))⟩
def Ul:qP:=toS 2 (some 2) (.agg [.int .i64 0,.int .i64 0]) 1419
def qWN:List qB:=[oU 0 4 1,oX 1 5 1 0,oU 2 6 3,oS 3 3 0 1 5]
def qWO:List qB:=[oU 0 7 1,oX 1 8 1 1,oU 2 9 3,oS 3 3 1 1 8]
def qWP:List qB:=[oU 0 10 1,oX 1 11 1 2,oU 2 12 3,oS 3 3 2 1 11]
def qWQ:List qB:=[oU 0 13 1,oX 1 14 1 3,oD1 2 15 147 14,oU 3 16 3,oS 4 3 3 1 15]
def qWR:List qB:=[oU 0 17 1,oX 1 18 1 4,oD1 2 19 1178 18,oU 3 20 3,oS 4 3 4 1 19]
def qWM:qL:=sr [oP 0 3 (.lalloc (.agg [.int .i64 0,.int .i64 0,.int .i64 0,.nils,.nils]))] (sr qWN (sr qWO (sr qWP (sr qWQ (sr qWR (sr [oY 0 21 3 0 5,oS 1 2 0 5 21] .ret))))))
def Xe:qP:=⟨1,22,[.l 2 (some 5)],sr [oP 0 1 (.lbox 5 (.t 0)),oP 1 2 (.lalloc (.agg [.int .i64 0,.int .i64 0,.int .i64 0,.nils,.nils]))] qWM⟩
def kL:qP:=toS 5 (some 5) (.agg [.int .i64 0,.int .i64 0,.int .i64 0,.nils,.nils]) 858
def qM0:List qB:=[oU 0 4 1,oX 1 5 1 0,oD1 2 6 504 5,oU 3 7 3,oS 4 3 0 1 6]
def XX:qP:=⟨1,9,[.l 2 (some 1)],sr [oP 0 1 (.lbox 1 (.t 0)),oP 1 2 (.lalloc (.agg [.nils]))] (sr [oP 0 3 (.lalloc (.agg [.nils]))] (sr qM0 (sr [oY 0 8 3 0 1,oS 1 2 0 1 8] .ret)))⟩
def Kc:qP:=toS 1 (some 1) (.agg [.nils]) 185
def qUZ:List qB:=[oU 0 4 1,oX 1 5 1 0,oU 2 6 3,oS 3 3 0 1 5]
def qU0:List qB:=[oU 0 7 1,oX 1 8 1 1,oU 2 9 3,oS 3 3 1 1 8]
def qU1:List qB:=[oU 0 10 1,oX 1 11 1 2,oU 2 12 3,oS 3 3 2 1 11]
def Xa:qP:=⟨1,14,[.l 2 (some 3)],sr [oP 0 1 (.lbox 3 (.t 0)),oP 1 2 (.lalloc (.agg [.int .i64 0,.int .i64 0,.int .i64 0]))] (sr [oP 0 3 (.lalloc (.agg [.int .i64 0,.int .i64 0,.int .i64 0]))] (sr qUZ (sr qU0 (sr qU1 (sr [oY 0 13 3 0 3,oS 1 2 0 3 13] .ret)))))⟩
def Kq:qP:=toS 3 (some 3) (.agg [.int .i64 0,.int .i64 0,.int .i64 0]) 745
def qJX:List qB:=[oU 0 4 1,oX 1 5 1 0,oU 2 6 3,oS 3 3 0 1 5]
def qJY:List qB:=[oU 0 7 1,oX 1 8 1 1,oU 2 9 3,oS 3 3 1 1 8]
def XV:qP:=⟨1,11,[.l 2 (some 2)],sr [oP 0 1 (.lbox 2 (.t 0)),oP 1 2 (.lalloc (.agg [.int .i64 0,.int .i64 0]))] (sr [oP 0 3 (.lalloc (.agg [.int .i64 0,.int .i64 0]))] (sr qJX (sr qJY (sr [oY 0 10 3 0 2,oS 1 2 0 2 10] .ret))))⟩
def Kr:qP:=toS 2 (some 2) (.agg [.int .i64 0,.int .i64 0]) 134
def qU2:List qB:=[oU 0 4 1,oX 1 5 1 0,oU 2 6 3,oS 3 3 0 1 5]
def qU3:List qB:=[oU 0 7 1,oY 1 8 1 1 1,oD1 2 9 185 8,oU 3 10 3,oS 4 3 1 1 9]
def qU4:List qB:=[oU 0 11 1,oX 1 12 1 2,oD1 2 13 370 12,oU 3 14 3,oS 4 3 2 1 13]
def Xb:qP:=⟨1,16,[.l 2 (some 3)],sr [oP 0 1 (.lbox 3 (.t 0)),oP 1 2 (.lalloc (.agg [.int .i64 0,.nils,.nils]))] (sr [oP 0 3 (.lalloc (.agg [.int .i64 0,.nils,.nils]))] (sr qU2 (sr qU3 (sr qU4 (sr [oY 0 15 3 0 3,oS 1 2 0 3 15] .ret)))))⟩
def Ks:qP:=toS 3 (some 3) (.agg [.int .i64 0,.nils,.nils]) 746
def qDX:List qB:=[oU 0 4 1,oX 1 5 1 0,oD1 2 6 184 5,oU 3 7 3,oS 4 3 0 1 6]
def qDY:List qB:=[oU 0 8 1,oX 1 9 1 1,oD1 2 10 147 9,oU 3 11 3,oS 4 3 1 1 10]
def qDZ:List qB:=[oU 0 12 1,oX 1 13 1 2,oU 2 14 3,oS 3 3 2 1 13]
def qD0:List qB:=[oU 0 15 1,oX 1 16 1 3,oU 2 17 3,oS 3 3 3 1 16]
def qD1:List qB:=[oU 0 18 1,oY 1 19 1 4 1,oD1 2 20 185 19,oU 3 21 3,oS 4 3 4 1 20]
def qD2:List qB:=[oU 0 22 1,oX 1 23 1 5,oD1 2 24 370 23,oU 3 25 3,oS 4 3 5 1 24]
def qD3:List qB:=[oU 0 26 1,oX 1 27 1 6,oD1 2 28 371 27,oU 3 29 3,oS 4 3 6 1 28]
def qD4:List qB:=[oU 0 30 1,oX 1 31 1 7,oD1 2 32 372 31,oU 3 33 3,oS 4 3 7 1 32]
def qDW:qL:=sr qDZ (sr qD0 (sr qD1 (sr qD2 (sr qD3 (sr qD4 (sr [oY 0 34 3 0 8,oS 1 2 0 8 34] .ret))))))
def XT:qP:=⟨1,35,[.l 2 (some 8)],sr [oP 0 1 (.lbox 8 (.t 0)),oP 1 2 (.lalloc (.agg [.nils,.nils,.int .i64 0,.int .i64 0,.nils,.nils,.nils,.nils]))] (sr [oP 0 3 (.lalloc (.agg [.nils,.nils,.int .i64 0,.int .i64 0,.nils,.nils,.nils,.nils]))] (sr qDX (sr qDY qDW)))⟩
def F774:qP:=ZF 1 none
def F397:qP:=Zk 774
def qV2:List qB:=[oM 0 3 0,oE 1 4 .lss 3 0,oM 2 5 4,oH 3 6 5 false 0,oG 4 7 5 false (.bin .gtr (.t 6) (.c (.int .i64 600))),oPt 5 8 5 7,oM 6 2 8]
def F775:qP:=⟨1,9,[.t 2],sr [oQ 0 2 false] (sr qV2 .ret)⟩
def qPS:List qB:=[oM 0 3 0,oW 1 4 3,oE 2 5 .leq 4 200,oM 3 6 5,oH 4 7 6 true 0,oG 5 8 6 true (.call 397 [.t 7,.f 775]),oG 6 9 6 true (.not (.t 8)),oPf 7 10 6 9,oM 8 2 10]
def Ky:qP:=⟨1,11,[.t 2],sr [oQ 0 2 false] (sr qPS .ret)⟩
def qWG:List qB:=[oM 0 4 0,oE 1 5 .lss 4 0,oM 2 6 5,oH 3 7 6 false 0,oG 4 8 6 false (.load none (.t 1)),oG 5 9 6 false (.bin .gtr (.t 7) (.t 8)),oPt 6 10 6 9,oM 7 3 10]
def F801:qP:=⟨2,11,[.t 3],sr [oQ 0 3 false] (sr qWG .ret)⟩
def qRY:List qB:=[oM 0 5 1,oP 1 6 (.mkfn 801 [.t 2]),oD2 2 7 397 5 6,oJ 3 8 7,oM 4 4 8]
def kE:qP:=⟨2,9,[.t 4],sr [oP 0 2 (.hbox 1 (.t 0)),oQ 1 4 false] (sr qRY .ret)⟩
def qFT:qP:=ZF 1 (some 1)
def F859:qP:=Zk 1179
def qSR:List qB:=[oM 0 7 0,oK 1 8 7,oF 2 9 0 8,oL 3 10 9,oW 4 11 10,oC 5 12 0]
def qSS:List qB:=[oM 0 14 12,oA 1 15 5 10 12,oP 2 16 (.load (some 5) (.t 15)),oP 3 5 (.lalloc (.agg [.int .i64 0,.int .i64 0,.int .i64 0,.nils,.nils])),oM 4 4 14,oS 5 5 0 5 16]
def qST:List qB:=[oU 0 17 5,oX 1 18 5 4,oW 2 19 18,oC 3 20 0]
def qSU:List qB:=[oM 0 23 3,oM 1 24 4,oM 2 25 6,oP 3 26 (.build (.agg [.int .i64 0,.int .i64 0]) [(0,1,.t 24),(1,1,.t 25)]),oP 4 27 (.bslice 2 (.agg [.int .i64 0,.int .i64 0]) 1 [(0,.t 26)]),oP 5 28 (.app 2 (.t 23) (.t 27)),oM 6 3 28]
def qSP:qL:=sr [oB 0 21 .lss 20 19] (.seq (.cond (.t 21) .skip (.exit 2)) (.seq (.blk 3 (sr [oM 0 22 20,oM 1 6 22] (.reg true qSU))) (.reg true [oE 0 29 .add 20 1,oM 1 20 29])))
def qSQ:qL:=sr [oB 0 13 .lss 12 11] (.seq (.cond (.t 13) .skip (.exit 0)) (.seq (.blk 1 (sr qSS (sr qST (.blk 2 (.loop qSP))))) (.reg true [oE 0 30 .add 12 1,oM 1 12 30])))
def kP:qP:=⟨1,32,[.t 2],sr [oP 0 2 (.mov (.c (.nils)))] (sr [oP 0 3 (.mov (.c (.nils)))] (.seq (sr qSR (.blk 0 (.loop qSQ))) (sr [oM 0 31 3,oM 1 2 31] .ret)))⟩
def qV4:List qB:=[oM 0 3 0,oE 1 4 .geq 3 0,oM 2 5 4,oH 3 6 5 true 0,oG 4 7 5 true (.bin .lss (.t 6) (.c (.int .i64 24))),oPf 5 8 5 7,oM 6 2 8]
def F796:qP:=⟨1,9,[.t 2],sr [oQ 0 2 false] (sr qV4 .ret)⟩
def qDU:List qB:=[oM 0 3 0,oE 1 4 .geq 3 1,oM 2 5 4,oH 3 6 5 true 0,oG 4 7 5 true (.bin .leq (.t 6) (.c (.int .i64 6))),oPf 5 8 5 7,oM 6 2 8]
def UV:qP:=⟨1,9,[.t 2],sr [oQ 0 2 false] (sr qDU .ret)⟩
def qDV:List qB:=[oM 0 3 0,oP 1 4 (.bin .geq (.t 3) (.c (.int .i64 (-2147483648)))),oM 2 5 4,oH 3 6 5 true 0,oG 4 7 5 true (.bin .leq (.t 6) (.c (.int .i64 2147483647))),oPf 5 8 5 7,oM 6 2 8]
def UW:qP:=⟨1,9,[.t 2],sr [oQ 0 2 false] (sr qDV .ret)⟩
def qMO:List qB:=[oM 0 3 0,oE 1 4 .geq 3 1,oM 2 5 4,oH 3 6 5 true 0,oG 4 7 5 true (.bin .leq (.t 6) (.c (.int .i64 12))),oPf 5 8 5 7,oM 6 2 8]
def KT:qP:=⟨1,9,[.t 2],sr [oQ 0 2 false] (sr qMO .ret)⟩
def qK9:List qB:=[oM 0 6 0,oE 1 7 .eql 6 9,oM 2 8 7,oH 3 9 8 true 1,oG 4 10 8 true (.bin .geq (.t 9) (.c (.int .i64 0))),oPf 5 11 8 10,oM 6 12 11,oH 7 13 12 true 1,oG 8 14 12 true (.bin .leq (.t 13) (.c (.int .i64 3))),oPf 9 15 12 14,oM 10 5 15]
def qLA:List qB:=[oM 0 19 0,oD1 1 20 1487 19,oJ 2 21 20,oM 3 22 21,oH 4 23 22 false 0,oG 5 24 22 false (.bin .eql (.t 23) (.c (.int .i64 9))),oPt 6 25 22 24,oM 7 26 25,oH 8 27 26 false 1,oG 9 28 26 false (.bin .neq (.t 27) (.c (.int .i64 0))),oPt 10 29 26 28,oM 11 18 29]
def qLB:List qB:=[oP 0 30 (.build (.agg [.int .i64 0,.int .i64 0,.int .i64 0,.int .i64 0,.int .i64 0,.int .i64 0,.int .i64 0,.int .i64 0,.int .i64 0,.int .i64 0,.int .i64 0,.int .i64 0,.int .i64 0]) [(1,1,.c (.int .i64 1)),(2,1,.c (.int .i64 3)),(3,1,.c (.int .i64 3)),(4,1,.c (.int .i64 3)),(5,1,.c (.int .i64 1)),(6,1,.c (.int .i64 1)),(7,1,.c (.int .i64 3)),(8,1,.c (.int .i64 2)),(10,1,.c (.int .i64 2)),(11,1,.c (.int .i64 2)),(12,1,.c (.int .i64 1))]),oM 1 31 0,oP 2 32 (.aidx 13 1 none (.t 30) (.t 31)),oM 3 4 32]
def qK8:qL:=.seq (.blk 0 (sr qK9 (.cond (.t 5) (sr [oM 0 16 1,oE 1 17 .add 16 1,oM 2 4 17] .ret) (sr qLA (.cond (.t 18) (sr [oC 0 4 0] .ret) .skip))))) (sr qLB .ret)
def KE:qP:=⟨2,33,[.t 4],sr [oC 0 4 0] qK8⟩
def qLC:qL:=.seq (sr [oM 0 5 0,oE 1 6 .eql 5 9] (.cond (.t 6) (sr [oM 0 7 1,oE 1 8 .sub 7 1,oM 2 4 8] .ret) .skip)) (sr [oC 0 4 0] .ret)
def KF:qP:=⟨2,9,[.t 4],sr [oC 0 4 0] qLC⟩
def qKH:List qB:=[oM 0 3 0,oD1 1 4 1487 3,oM 2 5 4,oH 3 6 5 true 0,oG 4 7 5 true (.bin .neq (.t 6) (.c (.int .i64 1))),oPf 5 8 5 7,oM 6 9 8,oH 7 10 9 true 0,oG 8 11 9 true (.bin .neq (.t 10) (.c (.int .i64 5))),oPf 9 12 9 11,oM 10 13 12,oH 11 14 13 true 0,oG 12 15 13 true (.bin .neq (.t 14) (.c (.int .i64 6))),oPf 13 16 13 15,oM 14 2 16]
def KA:qP:=⟨1,17,[.t 2],sr [oQ 0 2 false] (sr qKH .ret)⟩
def qMP:List qB:=[oM 0 3 0,oE 1 4 .geq 3 0,oM 2 5 4,oH 3 6 5 true 0,oG 4 7 5 true (.bin .leq (.t 6) (.c (.int .i64 8))),oPf 5 8 5 7,oM 6 2 8]
def KW:qP:=⟨1,9,[.t 2],sr [oQ 0 2 false] (sr qMP .ret)⟩
def qLD:List qB:=[oM 0 5 0,oD1 1 6 1487 5,oM 2 7 6,oH 3 8 7 true 1,oG 4 9 7 true (.bin .eql (.t 8) (.c (.int .i64 0))),oH 5 10 7 true 9,oH 6 11 10 false 0,oG 7 12 10 false (.call 1375 [.t 11]),oH 8 13 10 false 12,oH 9 14 13 true 1,oG 10 15 13 true (.call 1495 [.t 14]),oG 11 16 10 false (.pick (.t 13) (.t 15) (.c (.bool false))),oG 12 17 7 true (.pick (.t 10) (.c (.bool true)) (.t 16)),oPf 13 18 7 17,oM 14 4 18]
def KG:qP:=⟨2,19,[.t 4],sr [oQ 0 4 false] (sr qLD .ret)⟩
def qLE:List qB:=[oM 0 3 0,oD1 1 4 796 3,oJ 2 5 4,oM 3 2 5]
def KH:qP:=⟨1,6,[.t 2],sr [oQ 0 2 false] (sr qLE .ret)⟩
def qEL:List qB:=[oU 0 6 1,oX 1 7 1 4,oW 2 8 7,oE 3 9 .eql 8 0,oM 4 10 9,oG 5 11 10 false (.nop 1),oG 6 12 10 false (.lload 1 0 none),oG 7 13 10 false (.nop 1),oG 8 14 10 false (.lload 1 0 none),oG 9 15 10 false (.nop 1),oG 10 16 10 false (.lload 1 4 none),oG 11 17 10 false (.len (.t 16)),oG 14 20 10 false (.nop 1),oG 15 21 10 false (.lload 1 4 none),oG 16 22 10 false (.len (.t 21)),oG 12 18 10 false (.call 1388 [.t 14,.t 17]),oG 13 19 10 false (.call 1387 [.t 12,.t 18]),oG 17 23 10 false (.bin .neq (.t 19) (.t 22)),oPt 18 24 10 23,oM 19 25 24,oG 20 26 25 false (.nop 1),oG 21 27 25 false (.lload 1 0 none),oG 22 28 25 false (.nop 1),oG 23 29 25 false (.lload 1 1 none),oG 24 30 25 false (.call 1389 [.t 27,.t 29]),oG 25 31 25 false (.not (.t 30)),oPt 26 32 25 31]
def qEM:List qB:=[oU 0 33 1,oX 1 34 1 2,oE 2 35 .eql 34 0,oU 3 36 1,oX 4 37 1 3,oW 5 38 37,oE 6 39 .eql 38 0,oM 7 3 35,oM 8 4 39]
def qEO:List qB:=[oU 0 40 1,oX 1 41 1 3,oP 2 42 (.call 397 [.t 41,.f 1390]),oJ 3 43 42,oM 4 5 43]
def qEP:List qB:=[oU 0 48 1,oX 1 49 1 2,oD1 2 50 1051 49,oM 3 3 50]
def qEQ:List qB:=[oU 0 53 1,oX 1 54 1 2,oD1 2 55 1050 54,oM 3 3 55]
def qER:List qB:=[oU 0 58 1,oX 1 59 1 2,oD1 2 60 1050 59,oM 3 61 60,oG 4 62 61 true (.nop 1),oG 5 63 61 true (.lload 1 3 none),oG 6 64 61 true (.len (.t 63)),oG 7 65 61 true (.bin .eql (.t 64) (.c (.int .i64 1))),oPf 8 66 61 65,oM 9 67 66,oG 10 68 67 true (.nop 1),oG 11 69 67 true (.lload 1 3 none),oG 12 70 67 true (.iaddr 1 (.t 69) (.c (.int .i64 0))),oG 13 71 67 true (.load none (.t 70)),oG 14 72 67 true (.call 1051 [.t 71]),oPf 15 73 67 72,oM 16 2 73]
def qES:List qB:=[oU 0 76 1,oX 1 77 1 2,oE 2 78 .geq 77 0,oM 3 79 78,oG 4 80 79 true (.nop 1),oG 5 81 79 true (.lload 1 2 none),oG 6 82 79 true (.bin .lss (.t 81) (.c (.int .i64 4))),oPf 7 83 79 82,oM 8 3 83]
def qET:List qB:=[oU 0 86 1,oX 1 87 1 3,oW 2 88 87,oE 3 89 .geq 88 1,oM 4 90 89,oG 5 91 90 true (.nop 1),oG 6 92 90 true (.lload 1 3 none),oG 7 93 90 true (.len (.t 92)),oG 8 94 90 true (.bin .leq (.t 93) (.c (.int .i64 4))),oPf 9 95 90 94,oM 10 96 95,oH 11 97 96 true 5,oPf 12 98 96 97,oM 13 4 98]
def qEU:List qB:=[oU 0 101 1,oX 1 102 1 3,oW 2 103 102,oE 3 104 .eql 103 2,oM 4 105 104,oH 5 106 105 true 5,oPf 6 107 105 106,oM 7 4 107]
def qEV:List qB:=[oU 0 110 1,oX 1 111 1 2,oD1 2 112 796 111,oM 3 3 112]
def qEI:qL:=.cond (.t 84) (.reg true qET) (sr [oE 0 100 .eql 45 11,oM 1 99 100] (.cond (.t 99) (.reg true qEU) (sr [oE 0 109 .eql 45 12,oM 1 108 109] (.cond (.t 108) (.reg true qEV) .skip))))
def qEJ:qL:=sr [oE 0 57 .eql 45 8,oM 1 56 57] (.cond (.t 56) (sr qER .ret) (sr [oE 0 75 .eql 45 9,oM 1 74 75] (.cond (.t 74) (.reg true qES) (sr [oE 0 85 .eql 45 10,oM 1 84 85] qEI))))
def qEK:qL:=sr [oU 0 44 1,oX 1 45 1 0] (.blk 0 (sr [oE 0 47 .eql 45 6,oM 1 46 47] (.cond (.t 46) (.reg true qEP) (sr [oE 0 52 .eql 45 7,oM 1 51 52] (.cond (.t 51) (.reg true qEQ) qEJ)))))
def qEN:List qB:=[oM 0 113 3,oM 1 114 113,oH 2 115 114 true 4,oPf 3 116 114 115,oM 4 2 116]
def Ua:qP:=⟨1,117,[.t 2],sr [oP 0 1 (.lbox 5 (.t 0)),oQ 1 2 false] (.seq (sr qEL (.cond (.t 32) (sr [oQ 0 2 false] .ret) .skip)) (sr qEM (sr qEO (.seq qEK (sr qEN .ret)))))⟩
def qT7:List qB:=[oM 0 5 0,oW 1 6 5,oE 2 7 .lss 6 1,oM 3 8 7,oH 4 9 8 false 0,oG 5 10 8 false (.len (.t 9)),oG 6 11 8 false (.bin .gtr (.t 10) (.c (.int .i64 600))),oPt 7 12 8 11]
def qT8:List qB:=[oM 0 17 15,oA 1 18 5 13 15,oP 2 19 (.load (some 5) (.t 18)),oP 3 4 (.lalloc (.agg [.int .i64 0,.int .i64 0,.int .i64 0,.nils,.nils])),oM 4 3 17,oS 5 4 0 5 19]
def qT9:List qB:=[oY 0 20 4 0 5,oD1 1 21 1097 20,oJ 2 22 21,oM 3 23 22,oG 4 24 23 false (.nop 4),oG 5 25 23 false (.lload 4 0 none),oG 6 26 23 false (.bin .eql (.t 25) (.c (.int .i64 1))),oH 7 27 23 false 3,oG 8 28 23 false (.bin .eql (.t 27) (.c (.int .i64 0))),oG 9 29 23 false (.beq true (.t 26) (.t 28)),oPt 10 30 23 29]
def qT5:qL:=sr [oB 0 16 .lss 15 14] (.seq (.cond (.t 16) .skip (.exit 0)) (.seq (.blk 1 (sr qT8 (sr qT9 (.cond (.t 30) (sr [oQ 0 2 false] .ret) .skip)))) (.reg true [oE 0 31 .add 15 1,oM 1 15 31])))
def qT6:qL:=.seq (sr qT7 (.cond (.t 12) (sr [oQ 0 2 false] .ret) .skip)) (.seq (sr [oM 0 13 0,oW 1 14 13,oC 2 15 0] (.blk 0 (.loop qT5))) (sr [oQ 0 2 true] .ret))
def kY:qP:=⟨1,32,[.t 2],sr [oQ 0 2 false] qT6⟩
def qEW:qP:=ZF 2 (some 2)
def F712:qP:=Zk 1098
def qSV:List qB:=[oM 0 5 0,oK 1 6 5,oF 2 7 0 6,oL 3 8 7,oU 4 9 3,oX 5 10 3 0,oA 6 11 5 8 10,oF 7 12 4 11,oL 8 13 12,oU 9 14 3,oX 10 15 3 1,oA 11 16 2 13 15,oP 12 17 (.load (some 2) (.t 16)),oS 13 4 0 2 17]
def Ze:qP:=⟨2,18,[.l 4 (some 2)],sr [oP 0 3 (.lbox 2 (.t 1)),oP 1 4 (.lalloc (.agg [.int .i64 0,.int .i64 0]))] (sr qSV .ret)⟩
def qUC:List qB:=[oU 0 5 3,oX 1 6 3 0,oE 2 7 .geq 6 0,oM 3 8 7,oG 4 9 8 true (.nop 3),oG 5 10 8 true (.lload 3 0 none),oH 6 11 8 true 0,oG 7 12 8 true (.len (.t 11)),oG 8 13 8 true (.bin .lss (.t 10) (.t 12)),oPf 9 14 8 13,oM 10 15 14,oG 11 16 15 true (.nop 3),oG 12 17 15 true (.lload 3 1 none),oG 13 18 15 true (.bin .geq (.t 17) (.c (.int .i64 0))),oPf 14 19 15 18,oM 15 20 19,oG 16 21 20 true (.nop 3),oG 17 22 20 true (.lload 3 1 none),oH 18 23 20 true 0,oG 19 24 20 true (.nop 3),oG 20 25 20 true (.lload 3 0 none),oG 21 26 20 true (.iaddr 5 (.t 23) (.t 25)),oG 22 27 20 true (.faddr 4 (.t 26)),oG 23 28 20 true (.load none (.t 27)),oG 24 29 20 true (.len (.t 28)),oG 25 30 20 true (.bin .lss (.t 22) (.t 29)),oPf 26 31 20 30,oM 27 4 31]
def ke:qP:=⟨2,32,[.t 4],sr [oP 0 3 (.lbox 2 (.t 1)),oQ 1 4 false] (sr qUC .ret)⟩
def qUA:List qB:=[oY 0 5 2 0 2,oD2 1 6 555 1 5,oP 2 4 (.lalloc (.agg [.int .i64 0,.int .i64 0])),oS 3 4 0 2 6]
def qUB:List qB:=[oY 0 7 4 0 2,oY 1 8 2 0 2,oP 2 9 (.seq false [1,1] (.t 7) (.t 8)),oM 3 10 9,oG 4 11 10 false (.faddr 0 (.t 1)),oG 5 12 10 false (.load none (.t 11)),oG 6 13 10 false (.lload 4 0 (some 2)),oG 7 14 10 false (.call 714 [.t 12,.t 13]),oG 8 15 10 false (.not (.t 14)),oPt 9 16 10 15,oM 10 17 16,oG 11 18 17 false (.lload 4 0 (some 2)),oG 13 20 17 false (.lload 2 0 (some 2)),oG 12 19 17 false (.call 555 [.t 1,.t 18]),oG 14 21 17 false (.seq true [1,1] (.t 19) (.t 20)),oPt 15 22 17 21,oM 16 3 22]
def kZ:qP:=⟨2,23,[.t 3],sr [oP 0 2 (.lbox 2 (.t 0)),oQ 1 3 false] (sr qUA (sr qUB .ret))⟩
def qOA:List qB:=[oF 0 3 0 1,oL 1 4 3,oD1 2 5 711 4,oJ 3 6 5]
def qOB:List qB:=[oD1 0 7 554 1,oP 1 8 (.mkfn 713 [.t 1]),oD2 2 9 712 7 8,oJ 3 10 9,oM 4 2 10]
def Kl:qP:=⟨1,11,[.t 2],sr [oP 0 1 (.hbox 1 (.t 0)),oQ 1 2 false] (.seq (sr qOA (.cond (.t 6) (sr [oQ 0 2 false] .ret) .skip)) (sr qOB .ret))⟩
def qWS:List qB:=[oY 0 3 1 0 1,oD1 1 4 319 3,oJ 2 5 4,oM 3 2 5]
def F860:qP:=⟨1,6,[.t 2],sr [oP 0 1 (.lbox 1 (.t 0)),oQ 1 2 false] (sr qWS .ret)⟩
def qR6:List qB:=[oM 0 3 0,oW 1 4 3,oE 2 5 .leq 4 24,oM 3 6 5,oH 4 7 6 true 0,oG 5 8 6 true (.call 859 [.t 7,.f 860]),oG 6 9 6 true (.not (.t 8)),oPf 7 10 6 9,oM 8 2 10]
def kM:qP:=⟨1,11,[.t 2],sr [oQ 0 2 false] (sr qR6 .ret)⟩
def qLO:qP:=ZF 3 (some 3)
def qE6:qP:=Zk 1397
def qE8:List qB:=[oM 0 5 1,oU 1 6 2,oX 2 7 2 0,oP 3 8 (.bslice 1 (.int .i64 0) 1 [(0,.t 7)]),oD2 4 9 436 5 8,oM 5 10 9,oG 6 11 10 true (.nop 2),oG 7 12 10 true (.lload 2 1 none),oG 8 13 10 true (.bin .geq (.t 12) (.c (.int .i64 (-1)))),oPf 9 14 10 13,oM 10 15 14,oG 11 16 15 true (.nop 2),oG 12 17 15 true (.lload 2 1 none),oG 13 18 15 true (.bin .lss (.t 17) (.c (.int .i64 24))),oPf 14 19 15 18,oM 15 20 19,oG 16 21 20 true (.nop 2),oG 17 22 20 true (.lload 2 2 none),oG 18 23 20 true (.bin .geq (.t 22) (.c (.int .i64 (-1)))),oPf 19 24 20 23,oM 20 25 24,oG 21 26 25 true (.nop 2),oG 22 27 25 true (.lload 2 2 none),oG 23 28 25 true (.bin .lss (.t 27) (.c (.int .i64 600))),oPf 24 29 25 28,oM 25 30 29,oG 26 31 30 true (.nop 2),oG 27 32 30 true (.lload 2 2 none),oG 28 33 30 true (.bin .neq (.t 32) (.c (.int .i64 (-1)))),oH 29 34 30 true 33,oG 30 35 34 false (.nop 2),oG 31 36 34 false (.lload 2 1 none),oG 32 37 34 false (.bin .eql (.t 36) (.c (.int .i64 (-1)))),oG 33 38 30 true (.pick (.t 34) (.c (.bool true)) (.t 37)),oPf 34 39 30 38,oM 35 4 39]
def Uf:qP:=⟨2,40,[.t 4],sr [oP 0 2 (.lbox 3 (.t 0)),oQ 1 4 false] (sr qE8 .ret)⟩
def qE7:List qB:=[oY 0 4 2 0 3,oL 1 5 1,oD2 2 6 1114 4 5,oJ 3 7 6,oM 4 3 7]
def Ue:qP:=⟨2,8,[.t 3],sr [oP 0 2 (.lbox 3 (.t 0)),oQ 1 3 false] (sr qE7 .ret)⟩
def qU5:List qB:=[oY 0 7 3 0 1,oD1 1 8 319 7,oM 2 9 8,oH 3 10 9 true 1,oG 4 11 9 true (.len (.t 10)),oG 5 12 9 true (.nop 3),oG 6 13 9 true (.lload 3 0 none),oG 7 14 9 true (.len (.t 13)),oG 8 15 9 true (.bin .eql (.t 11) (.t 14)),oPf 9 16 9 15,oM 10 17 16,oH 11 18 17 true 1,oG 12 19 17 true (.mkfn 1113 [.t 5]),oG 13 20 17 true (.call 1112 [.t 18,.t 19]),oG 14 21 17 true (.not (.t 20)),oPf 15 22 17 21,oM 16 6 22]
def kw:qP:=⟨3,23,[.t 6],sr [oP 0 3 (.lbox 1 (.t 0)),oP 1 5 (.hbox 1 (.t 2)),oQ 2 6 false] (sr qU5 .ret)⟩
def F771:qP:=ZF 2 (some 2)
def F748:qP:=Zk 771
def qQS:List qB:=[oU 0 7 1,oX 1 8 1 1,oE 2 9 .geq 8 1,oM 3 10 9,oG 4 11 10 true (.nop 1),oG 5 12 10 true (.lload 1 1 none),oG 6 13 10 true (.bin .leq (.t 12) (.c (.int .i64 8))),oPf 7 14 10 13,oM 8 2 14]
def qQT:List qB:=[oU 0 17 1,oX 1 18 1 1,oD1 2 19 796 18,oM 3 2 19]
def qQU:List qB:=[oU 0 22 1,oX 1 23 1 1,oE 2 24 .geq 23 1,oM 3 25 24,oG 4 26 25 true (.nop 1),oG 5 27 25 true (.lload 1 1 none),oG 6 28 25 true (.bin .leq (.t 27) (.c (.int .i64 600))),oPf 7 29 25 28,oM 8 2 29]
def qQR:qL:=.cond (.t 5) (sr qQS .ret) (sr [oE 0 16 .eql 4 2,oM 1 15 16] (.cond (.t 15) (sr qQT .ret) (sr [oE 0 21 .eql 4 3,oM 1 20 21] (.cond (.t 20) (sr qQU .ret) .skip))))
def K3:qP:=⟨1,30,[.t 2],sr [oP 0 1 (.lbox 2 (.t 0)),oQ 1 2 false] (.seq (sr [oU 0 3 1,oX 1 4 1 0] (.blk 0 (sr [oE 0 6 .eql 4 1,oM 1 5 6] qQR))) (sr [oQ 0 2 false] .ret))⟩
def qU6:List qB:=[oY 0 3 1 0 2,oD1 1 4 428 3,oJ 2 5 4,oM 3 2 5]
def kz:qP:=⟨1,6,[.t 2],sr [oP 0 1 (.lbox 2 (.t 0)),oQ 1 2 false] (sr qU6 .ret)⟩
def qOY:List qB:=[oU 0 6 1,oX 1 7 1 0,oD1 2 8 505 7,oJ 3 9 8,oM 4 10 9,oG 5 11 10 false (.nop 1),oG 6 12 10 false (.lload 1 1 none),oG 7 13 10 false (.call 406 [.t 12]),oG 8 14 10 false (.not (.t 13)),oPt 9 15 10 14,oM 10 16 15,oG 11 17 16 false (.nop 1),oG 12 18 16 false (.lload 1 2 none),oG 13 19 16 false (.bin .lss (.t 18) (.c (.int .i64 1))),oPt 14 20 16 19,oM 15 21 20,oG 16 22 21 false (.nop 1),oG 17 23 21 false (.lload 1 2 none),oG 18 24 21 false (.bin .gtr (.t 23) (.c (.int .i64 50))),oPt 19 25 21 24,oM 20 26 25,oG 21 27 26 false (.nop 1),oG 22 28 26 false (.lload 1 3 none),oG 23 29 26 false (.bslice 1 (.int .i64 0) 1 [(0,.t 28)]),oG 24 30 26 false (.call 436 [.c (.int .i64 4000),.t 29]),oG 25 31 26 false (.not (.t 30)),oPt 26 32 26 31,oM 27 33 32,oG 28 34 33 false (.nop 1),oG 29 35 33 false (.lload 1 4 (some 1)),oG 30 36 33 false (.nop 1),oG 31 37 33 false (.lload 1 5 none),oG 32 38 33 false (.nop 1),oG 33 39 33 false (.lload 1 3 none),oG 34 40 33 false (.call 747 [.t 35,.t 37,.t 39]),oG 35 41 33 false (.not (.t 40)),oPt 36 42 33 41]
def qOZ:List qB:=[oU 0 43 1,oX 1 44 1 6,oW 2 45 44,oE 3 46 .gtr 45 8,oM 4 47 46,oG 5 48 47 false (.nop 1),oG 6 49 47 false (.lload 1 6 none),oG 7 50 47 false (.call 748 [.t 49,.f 749]),oPt 8 51 47 50]
def qO0:List qB:=[oU 0 52 1,oX 1 53 1 7,oW 2 54 53,oM 3 3 54]
def qO1:List qB:=[oM 0 55 3,oU 1 56 1,oX 2 57 1 3,oU 3 58 1,oX 4 59 1 2,oB 5 60 .quo 57 59,oE 6 61 .add 60 1,oB 7 62 .lss 55 61,oM 8 63 62,oH 9 64 63 false 3,oG 10 65 63 false (.nop 1),oG 11 66 63 false (.lload 1 2 none),oG 12 67 63 false (.bin .quo (.c (.int .i64 4000)) (.t 66)),oG 13 68 63 false (.bin .add (.t 67) (.c (.int .i64 1))),oG 14 69 63 false (.bin .gtr (.t 64) (.t 68)),oPt 15 70 63 69]
def qO2:List qB:=[oU 0 71 1,oX 1 72 1 7,oW 2 73 72,oC 3 74 0]
def qO3:List qB:=[oM 0 76 74,oA 1 77 3 72 74,oP 2 78 (.load (some 3) (.t 77)),oP 3 5 (.lalloc (.agg [.int .i64 0,.nils,.nils])),oM 4 4 76,oS 5 5 0 3 78]
def qO4:List qB:=[oU 0 79 5,oX 1 80 5 0,oM 2 81 4,oU 3 82 1,oX 4 83 1 2,oB 5 84 .mul 81 83,oB 6 85 .neq 80 84,oM 7 86 85,oG 8 87 86 false (.nop 5),oG 9 88 86 false (.lload 5 1 (some 1)),oG 10 89 86 false (.nop 5),oG 11 90 86 false (.lload 5 2 none),oG 12 91 86 false (.nop 5),oG 13 92 86 false (.lload 5 0 none),oG 14 93 86 false (.call 747 [.t 88,.t 90,.t 92]),oG 15 94 86 false (.not (.t 93)),oPt 16 95 86 94]
def qOW:qL:=sr [oB 0 75 .lss 74 73] (.seq (.cond (.t 75) .skip (.exit 0)) (.seq (.blk 1 (sr qO3 (sr qO4 (.cond (.t 95) (sr [oQ 0 2 false] .ret) .skip)))) (.reg true [oE 0 96 .add 74 1,oM 1 74 96])))
def qOX:qL:=sr qO0 (.seq (sr qO1 (.cond (.t 70) (sr [oQ 0 2 false] .ret) .skip)) (.seq (sr qO2 (.blk 0 (.loop qOW))) (sr [oQ 0 2 true] .ret)))
def Kt:qP:=⟨1,97,[.t 2],sr [oP 0 1 (.lbox 8 (.t 0)),oQ 1 2 false] (.seq (sr qOY (.cond (.t 42) (sr [oQ 0 2 false] .ret) .skip)) (.seq (sr qOZ (.cond (.t 51) (sr [oQ 0 2 false] .ret) .skip)) qOX))⟩
def qPE:List qB:=[oM 0 7 0,oK 1 8 7,oF 2 9 0 8,oL 3 10 9,oW 4 11 10,oC 5 12 0]
def qPF:List qB:=[oM 0 14 12,oA 1 15 5 10 12,oP 2 16 (.load (some 5) (.t 15)),oP 3 5 (.lalloc (.agg [.int .i64 0,.int .i64 0,.int .i64 0,.nils,.nils])),oM 4 4 14,oS 5 5 0 5 16]
def qPG:List qB:=[oU 0 17 5,oX 1 18 5 4,oP 2 19 (.iaddr 2 (.t 18) (.c (.int .i64 0))),oP 3 20 (.load (some 2) (.t 19)),oP 4 6 (.lalloc (.agg [.int .i64 0,.int .i64 0])),oS 5 6 0 2 20]
def qPH:List qB:=[oU 0 21 6,oX 1 22 6 1,oE 2 23 .eql 22 0,oM 3 24 23,oG 4 25 24 true (.nop 6),oG 5 26 24 true (.lload 6 0 none),oH 6 27 24 true 4,oG 7 28 24 true (.bin .gtr (.t 26) (.t 27)),oPf 8 29 24 28,oM 9 30 29,oG 10 31 30 true (.nop 5),oG 11 32 30 true (.lload 5 0 none),oG 12 33 30 true (.bin .neq (.t 32) (.c (.int .i64 1))),oPf 13 34 30 33]
def qPI:List qB:=[oM 0 35 3,oM 1 36 4,oU 2 37 6,oX 3 38 6 0,oP 4 39 (.build (.agg [.int .i64 0,.int .i64 0]) [(0,1,.t 36),(1,1,.t 38)]),oP 5 40 (.bslice 2 (.agg [.int .i64 0,.int .i64 0]) 1 [(0,.t 39)]),oP 6 41 (.app 2 (.t 35) (.t 40)),oM 7 3 41]
def qPD:qL:=sr [oB 0 13 .lss 12 11] (.seq (.cond (.t 13) .skip (.exit 0)) (.seq (.blk 1 (sr qPF (sr qPG (sr qPH (.cond (.t 34) (.reg true qPI) .skip))))) (.reg true [oE 0 42 .add 12 1,oM 1 12 42])))
def Kv:qP:=⟨1,44,[.t 2],sr [oP 0 2 (.mov (.c (.nils)))] (sr [oP 0 3 (.mov (.c (.nils)))] (.seq (sr qPE (.blk 0 (.loop qPD))) (sr [oM 0 43 3,oM 1 2 43] .ret)))⟩
def qU7:List qB:=[oM 0 11 0,oM 1 12 2,oM 2 13 0,oW 3 14 13,oB 4 15 .rem 12 14,oA 5 16 1 11 15,oL 6 17 16,oM 7 7 17]
def qU8:List qB:=[oM 0 18 1,oM 1 19 7,oM 2 20 1,oW 3 21 20,oB 4 22 .rem 19 21,oA 5 23 2 18 22,oP 6 24 (.load (some 2) (.t 23)),oS 7 6 0 2 24]
def F750:qP:=⟨3,25,[.l 6 (some 2)],sr [oP 0 6 (.lalloc (.agg [.int .i64 0,.int .i64 0]))] (sr [oC 0 7 0] (.seq (sr [oM 0 8 0,oW 1 9 8,oE 2 10 .gtr 9 0] (.cond (.t 10) (.reg true qU7) .skip)) (sr qU8 .ret)))⟩
def qMV:List qB:=[oM 0 7 0,oD1 1 8 1495 7,oJ 2 9 8,oM 3 10 9,oH 4 11 10 false 1,oH 5 12 10 false 2,oG 6 13 10 false (.call 1389 [.t 11,.t 12]),oG 7 14 10 false (.not (.t 13)),oPt 8 15 10 14]
def qMW:List qB:=[oM 0 16 1,oE 1 17 .eql 16 6,oM 2 18 17,oH 3 19 18 false 1,oG 4 20 18 false (.bin .eql (.t 19) (.c (.int .i64 12))),oPt 5 21 18 20,oM 6 22 21,oH 7 23 22 false 1,oG 8 24 22 false (.call 1375 [.t 23]),oH 9 25 22 false 24,oH 10 26 25 true 2,oH 11 27 25 true 0,oG 12 28 25 true (.bin .gtr (.t 26) (.t 27)),oG 13 29 22 false (.pick (.t 25) (.t 28) (.c (.bool false))),oPt 14 30 22 29,oM 15 6 30]
def KZ:qP:=⟨3,31,[.t 6],sr [oQ 0 6 false] (.seq (sr qMV (.cond (.t 15) (sr [oQ 0 6 false] .ret) .skip)) (sr qMW .ret))⟩
def qMX:List qB:=[oM 0 3 0,oE 1 4 .eql 3 3,oM 2 5 4,oH 3 6 5 false 0,oG 4 7 5 false (.bin .eql (.t 6) (.c (.int .i64 7))),oPt 5 8 5 7,oM 6 9 8,oH 7 10 9 false 0,oG 8 11 9 false (.bin .eql (.t 10) (.c (.int .i64 8))),oPt 9 12 9 11,oM 10 13 12,oH 11 14 13 false 0,oG 12 15 13 false (.bin .eql (.t 14) (.c (.int .i64 10))),oPt 13 16 13 15,oM 14 17 16,oH 15 18 17 false 0,oG 16 19 17 false (.bin .eql (.t 18) (.c (.int .i64 11))),oPt 17 20 17 19,oM 18 2 20]
def Ka:qP:=⟨1,21,[.t 2],sr [oQ 0 2 false] (sr qMX .ret)⟩
def qLU:List qB:=[oM 0 15 2,oE 1 16 .eql 15 4,oM 2 17 16,oH 3 18 17 true 1,oH 4 19 17 true 3,oG 5 20 17 true (.bin .eql (.t 18) (.t 19)),oPf 6 21 17 20,oM 7 14 21]
def qLV:List qB:=[oM 0 23 1,oM 1 24 2,oM 2 25 3,oP 3 26 (.call 1501 [.t 23,.t 24,.t 25]),oM 4 22 26]
def qLW:List qB:=[oM 0 29 2,oE 1 30 .eql 29 3,oM 2 31 30,oH 3 32 31 true 1,oH 4 33 31 true 3,oG 5 34 31 true (.bin .eql (.t 32) (.t 33)),oPf 6 35 31 34]
def qLP:qL:=.seq (sr [oE 0 40 .eql 38 7,oM 1 39 40] (.cond (.t 39) .skip (.reg true [oE 0 41 .eql 38 8,oM 1 39 41]))) (.cond (.t 39) (sr [oC 0 8 5] .ret) (sr [oE 0 43 .eql 38 11,oM 1 42 43] (.cond (.t 42) (sr [oC 0 8 6] .ret) .skip)))
def qLQ:qL:=.cond (.t 44) (sr [oM 0 46 2,oE 1 47 .eql 46 10] (.cond (.t 47) (sr [oC 0 8 6] .ret) .skip)) (sr [oE 0 49 .eql 9 12,oM 1 48 49] (.cond (.t 48) (sr [oM 0 50 2,oD1 1 51 1502 50] (.cond (.t 51) (sr [oC 0 8 7] .ret) .skip)) .skip))
def qLR:qL:=.cond (.t 27) (sr qLW (.cond (.t 35) (sr [oC 0 8 1] .ret) .skip)) (sr [oE 0 37 .eql 9 6,oM 1 36 37] (.cond (.t 36) (sr [oM 0 38 2] (.blk 2 qLP)) (sr [oE 0 45 .eql 9 9,oM 1 44 45] qLQ)))
def qLS:qL:=.cond (.t 12) (.blk 1 (sr qLU (.cond (.t 14) (sr [oC 0 8 2] .ret) (sr qLV (.cond (.t 22) (sr [oC 0 8 3] .ret) .skip))))) (sr [oE 0 28 .eql 9 2,oM 1 27 28] qLR)
def qLT:qL:=sr [oM 0 9 0] (.blk 0 (sr [oE 0 11 .eql 9 5,oM 1 10 11] (.cond (.t 10) (sr [oC 0 8 4] .ret) (sr [oE 0 13 .eql 9 4,oM 1 12 13] qLS))))
def KL:qP:=⟨4,52,[.t 8],sr [oC 0 8 0] (.seq qLT (sr [oC 0 8 0] .ret))⟩
def qFB:List qB:=[oM 0 12 0,oE 1 13 .eql 12 1,oM 2 14 13,oH 3 15 14 false 2,oG 4 16 14 false (.bin .eql (.t 15) (.c (.int .i64 1))),oPt 5 17 14 16,oM 6 18 17,oH 7 19 18 false 0,oH 8 20 18 false 1,oG 9 21 18 false (.call 1389 [.t 19,.t 20]),oG 10 22 18 false (.not (.t 21)),oPt 11 23 18 22,oM 12 24 23,oH 13 25 24 false 2,oH 14 26 24 false 3,oG 15 27 24 false (.call 1389 [.t 25,.t 26]),oG 16 28 24 false (.not (.t 27)),oPt 17 29 24 28]
def qFC:List qB:=[oM 0 30 0,oM 1 31 1,oM 2 32 2,oM 3 33 3,oP 4 34 (.call 1398 [.t 30,.t 31,.t 32,.t 33]),oM 5 10 34]
def qFD:List qB:=[oM 0 38 2,oM 1 39 3,oM 2 40 0,oM 3 41 1,oP 4 42 (.call 1398 [.t 38,.t 39,.t 40,.t 41]),oM 5 11 42]
def qE9:qL:=.seq (sr qFD (sr [oM 0 43 11,oE 1 44 .neq 43 0] (.cond (.t 44) (sr [oM 0 45 11,oM 1 8 45,oC 2 9 2] .ret) .skip))) (sr [oC 0 8 8,oC 1 9 0] .ret)
def qFA:qL:=.seq (sr qFB (.cond (.t 29) (sr [oC 0 8 0,oC 1 9 0] .ret) .skip)) (.seq (sr qFC (sr [oM 0 35 10,oE 1 36 .neq 35 0] (.cond (.t 36) (sr [oM 0 37 10,oM 1 8 37,oC 2 9 1] .ret) .skip))) qE9)
def Ug:qP:=⟨4,46,[.t 8,.t 9],sr [oC 0 8 0,oC 1 9 0] qFA⟩
def qVA:List qB:=[oM 0 10 0,oK 1 11 10,oF 2 12 0 11,oL 3 13 12,oU 4 14 3,oX 5 15 3 0,oA 6 16 5 13 15,oP 7 17 (.load (some 5) (.t 16)),oM 8 18 0,oK 9 19 18,oF 10 20 0 19,oL 11 21 20,oU 12 22 3,oX 13 23 3 1,oA 14 24 5 21 23,oP 15 25 (.load (some 5) (.t 24)),oP 16 6 (.lalloc (.agg [.int .i64 0,.int .i64 0,.int .i64 0,.nils,.nils])),oP 17 7 (.lalloc (.agg [.int .i64 0,.int .i64 0,.int .i64 0,.nils,.nils])),oS 18 6 0 5 17,oS 19 7 0 5 25]
def qVB:List qB:=[oU 0 27 6,oX 1 28 6 0,oU 2 29 6,oX 3 30 6 1,oU 4 31 7,oX 5 32 7 0,oU 6 33 7,oX 7 34 7 1,oP 8 35 (.call 1115 [.t 28,.t 30,.t 32,.t 34]),oM 9 26 35,oV 10 36 26 0,oV 11 37 26 1,oM 12 8 36,oM 13 9 37]
def qVC:List qB:=[oY 0 40 7 0 5,oY 1 41 6 0 5,oS 2 6 0 5 40,oS 3 7 0 5 41]
def qVD:List qB:=[oM 0 42 8,oE 1 43 .eql 42 6,oM 2 44 43,oG 3 45 44 true (.nop 7),oG 4 46 44 true (.lload 7 0 none),oG 5 47 44 true (.bin .eql (.t 46) (.c (.int .i64 10))),oPf 6 48 44 47,oM 7 49 48,oG 8 50 49 true (.nop 6),oG 9 51 49 true (.lload 6 2 none),oG 10 52 49 true (.nop 7),oG 11 53 49 true (.lload 7 3 none),oG 12 54 49 true (.len (.t 53)),oG 13 55 49 true (.bin .geq (.t 51) (.t 54)),oPf 14 56 49 55]
def qVE:List qB:=[oM 0 57 8,oM 1 58 9,oE 2 59 .eql 58 2,oM 3 4 57,oM 4 5 59]
def qU9:qL:=.seq (sr [oM 0 38 9,oE 1 39 .eql 38 2] (.cond (.t 39) (.reg true qVC) .skip)) (.seq (sr qVD (.cond (.t 56) (sr [oC 0 4 8,oQ 1 5 false] .ret) .skip)) (sr qVE .ret))
def Xc:qP:=⟨2,60,[.t 4,.t 5],sr [oP 0 3 (.lbox 2 (.t 1)),oC 1 4 0,oQ 2 5 false] (sr qVA (sr qVB qU9))⟩
def qO7:List qB:=[oM 0 9 0,oK 1 10 9,oF 2 11 4 10,oD1 3 12 376 11,oM 4 4 12]
def qO8:List qB:=[oM 0 17 0,oK 1 18 17,oF 2 19 1 18,oL 3 20 19,oM 4 21 4,oM 5 22 0,oK 6 23 22,oF 7 24 3 23,oL 8 25 24,oP 10 5 (.lalloc (.agg [.int .i64 0,.int .i64 0])),oP 9 26 (.call 750 [.t 20,.t 21,.t 25]),oS 11 5 0 2 26]
def qO9:List qB:=[oM 0 28 0,oK 1 29 28,oF 2 30 4 29,oY 3 31 5 0 2,oD2 4 32 751 30 31,oM 5 27 32,oV 6 33 27 0,oV 7 34 27 1,oM 8 6 33,oM 9 7 34]
def qPA:List qB:=[oY 0 35 5 0 2,oM 1 36 6,oU 2 37 5,oX 3 38 5 0,oU 4 39 5,oX 5 40 5 1,oP 6 41 (.build (.agg [.int .i64 0,.int .i64 0,.int .i64 0,.int .i64 0,.int .i64 0,.int .i64 0]) [(0,2,.t 35),(2,1,.t 36),(3,1,.t 38),(4,1,.t 40),(5,1,.c (.int .i64 (-1)))]),oP 7 8 (.lalloc (.agg [.int .i64 0,.int .i64 0,.int .i64 0,.int .i64 0,.int .i64 0,.int .i64 0])),oS 8 8 0 6 41]
def qPB:List qB:=[oU 0 43 5,oX 1 44 5 1,oU 2 45 5,oX 3 46 5 0,oU 4 47 8,oS 5 8 3 1 44,oU 6 48 8,oS 7 8 4 1 46]
def qPC:List qB:=[oM 0 51 0,oK 1 52 51,oF 2 53 4 52,oF 3 54 0 53,oL 4 55 54,oU 5 56 8,oX 6 57 8 3,oA 7 58 5 55 57,oF 8 59 2 58,oL 9 60 59,oU 10 61 8,oS 11 8 5 1 60]
def qO5:qL:=.seq (sr [oM 0 42 7] (.cond (.t 42) (.reg true qPB) .skip)) (.seq (sr [oM 0 49 6,oE 1 50 .eql 49 7] (.cond (.t 50) (.reg true qPC) .skip)) (sr [oY 0 62 8 0 6,oS 1 2 0 6 62,oQ 2 3 true] .ret))
def qO6:qL:=.seq (sr [oM 0 13 4,oW 1 14 13,oE 2 15 .eql 14 0] (.cond (.t 15) (sr [oP 0 16 (.build (.agg [.int .i64 0,.int .i64 0,.int .i64 0,.int .i64 0,.int .i64 0,.int .i64 0]) []),oS 1 2 0 6 16,oQ 2 3 false] .ret) .skip)) (sr qO8 (sr qO9 (sr qPA qO5)))
def Ku:qP:=⟨1,63,[.l 2 (some 6),.t 3],sr [oP 0 2 (.lalloc (.agg [.int .i64 0,.int .i64 0,.int .i64 0,.int .i64 0,.int .i64 0,.int .i64 0])),oQ 1 3 false] (sr qO7 qO6)⟩
def F86:qP:=eqS0
def qL0:List qB:=[oU 0 5 2,oX 1 6 2 0,oU 2 7 3,oX 3 8 3 0,oB 4 9 .neq 6 8]
def qL1:List qB:=[oU 0 10 2,oX 1 11 2 1,oU 2 12 3,oX 3 13 3 1,oB 4 14 .neq 11 13]
def KO:qP:=⟨2,15,[.t 4],sr [oP 0 2 (.lbox 2 (.t 0)),oP 1 3 (.lbox 2 (.t 1)),oQ 2 4 false] (.seq (sr qL0 (.cond (.t 9) (sr [oQ 0 4 false] .ret) .skip)) (.seq (sr qL1 (.cond (.t 14) (sr [oQ 0 4 false] .ret) .skip)) (sr [oQ 0 4 true] .ret)))⟩
def qFU:qP:=eqS 2 (some 2) 1422
def qWU:List qB:=[oU 0 5 2,oX 1 6 2 0,oU 2 7 3,oX 3 8 3 0,oB 4 9 .neq 6 8]
def qWV:List qB:=[oU 0 10 2,oX 1 11 2 1,oU 2 12 3,oX 3 13 3 1,oB 4 14 .neq 11 13]
def qWW:List qB:=[oU 0 15 2,oX 1 16 2 2,oU 2 17 3,oX 3 18 3 2,oB 4 19 .neq 16 18]
def qWX:List qB:=[oU 0 20 2,oX 1 21 2 3,oU 2 22 3,oX 3 23 3 3,oD2 4 24 86 21 23,oJ 5 25 24]
def qWY:List qB:=[oU 0 26 2,oX 1 27 2 4,oU 2 28 3,oX 3 29 3 4,oD2 4 30 1184 27 29,oJ 5 31 30]
def qWT:qL:=.seq (sr qWW (.cond (.t 19) (sr [oQ 0 4 false] .ret) .skip)) (.seq (sr qWX (.cond (.t 25) (sr [oQ 0 4 false] .ret) .skip)) (.seq (sr qWY (.cond (.t 31) (sr [oQ 0 4 false] .ret) .skip)) (sr [oQ 0 4 true] .ret)))
def F870:qP:=⟨2,32,[.t 4],sr [oP 0 2 (.lbox 5 (.t 0)),oP 1 3 (.lbox 5 (.t 1)),oQ 2 4 false] (.seq (sr qWU (.cond (.t 9) (sr [oQ 0 4 false] .ret) .skip)) (.seq (sr qWV (.cond (.t 14) (sr [oQ 0 4 false] .ret) .skip)) qWT))⟩
def F508:qP:=eqS 5 (some 5) 870
def qM1:List qB:=[oU 0 5 2,oX 1 6 2 0,oU 2 7 3,oX 3 8 3 0,oD2 4 9 508 6 8,oJ 5 10 9]
def Kd:qP:=⟨2,11,[.t 4],sr [oP 0 2 (.lbox 1 (.t 0)),oP 1 3 (.lbox 1 (.t 1)),oQ 2 4 false] (.seq (sr qM1 (.cond (.t 10) (sr [oQ 0 4 false] .ret) .skip)) (sr [oQ 0 4 true] .ret))⟩
def F187:qP:=eqS 1 (some 1) 188
def qVG:List qB:=[oU 0 5 2,oX 1 6 2 0,oU 2 7 3,oX 3 8 3 0,oB 4 9 .neq 6 8]
def qVH:List qB:=[oU 0 10 2,oX 1 11 2 1,oU 2 12 3,oX 3 13 3 1,oB 4 14 .neq 11 13]
def qVI:List qB:=[oU 0 15 2,oX 1 16 2 2,oU 2 17 3,oX 3 18 3 2,oB 4 19 .neq 16 18]
def qVF:qL:=.seq (sr qVG (.cond (.t 9) (sr [oQ 0 4 false] .ret) .skip)) (.seq (sr qVH (.cond (.t 14) (sr [oQ 0 4 false] .ret) .skip)) (.seq (sr qVI (.cond (.t 19) (sr [oQ 0 4 false] .ret) .skip)) (sr [oQ 0 4 true] .ret)))
def F752:qP:=⟨2,20,[.t 4],sr [oP 0 2 (.lbox 3 (.t 0)),oP 1 3 (.lbox 3 (.t 1)),oQ 2 4 false] qVF⟩
def F377:qP:=eqS 3 (some 3) 752
def qVJ:List qB:=[oU 0 5 2,oX 1 6 2 0,oU 2 7 3,oX 3 8 3 0,oB 4 9 .neq 6 8]
def qVK:List qB:=[oU 0 10 2,oX 1 11 2 1,oU 2 12 3,oX 3 13 3 1,oB 4 14 .neq 11 13]
def F753:qP:=⟨2,15,[.t 4],sr [oP 0 2 (.lbox 2 (.t 0)),oP 1 3 (.lbox 2 (.t 1)),oQ 2 4 false] (.seq (sr qVJ (.cond (.t 9) (sr [oQ 0 4 false] .ret) .skip)) (.seq (sr qVK (.cond (.t 14) (sr [oQ 0 4 false] .ret) .skip)) (sr [oQ 0 4 true] .ret)))⟩
def F378:qP:=eqS 2 (some 2) 753
def qVM:List qB:=[oU 0 5 2,oX 1 6 2 0,oU 2 7 3,oX 3 8 3 0,oB 4 9 .neq 6 8]
def qVN:List qB:=[oU 0 10 2,oY 1 11 2 1 1,oU 2 12 3,oY 3 13 3 1 1,oD2 4 14 188 11 13,oJ 5 15 14]
def qVO:List qB:=[oU 0 16 2,oX 1 17 2 2,oU 2 18 3,oX 3 19 3 2,oD2 4 20 377 17 19,oJ 5 21 20]
def qVL:qL:=.seq (sr qVM (.cond (.t 9) (sr [oQ 0 4 false] .ret) .skip)) (.seq (sr qVN (.cond (.t 15) (sr [oQ 0 4 false] .ret) .skip)) (.seq (sr qVO (.cond (.t 21) (sr [oQ 0 4 false] .ret) .skip)) (sr [oQ 0 4 true] .ret)))
def F754:qP:=⟨2,22,[.t 4],sr [oP 0 2 (.lbox 3 (.t 0)),oP 1 3 (.lbox 3 (.t 1)),oQ 2 4 false] qVL⟩
def F379:qP:=eqS 3 (some 3) 754
def qD8:List qB:=[oU 0 5 2,oX 1 6 2 0,oU 2 7 3,oX 3 8 3 0,oD2 4 9 187 6 8,oJ 5 10 9]
def qD9:List qB:=[oU 0 11 2,oX 1 12 2 1,oU 2 13 3,oX 3 14 3 1,oD2 4 15 86 12 14,oJ 5 16 15]
def qEA:List qB:=[oU 0 17 2,oX 1 18 2 2,oU 2 19 3,oX 3 20 3 2,oB 4 21 .neq 18 20]
def qEB:List qB:=[oU 0 22 2,oX 1 23 2 3,oU 2 24 3,oX 3 25 3 3,oB 4 26 .neq 23 25]
def qEC:List qB:=[oU 0 27 2,oY 1 28 2 4 1,oU 2 29 3,oY 3 30 3 4 1,oD2 4 31 188 28 30,oJ 5 32 31]
def qED:List qB:=[oU 0 33 2,oX 1 34 2 5,oU 2 35 3,oX 3 36 3 5,oD2 4 37 377 34 36,oJ 5 38 37]
def qEE:List qB:=[oU 0 39 2,oX 1 40 2 6,oU 2 41 3,oX 3 42 3 6,oD2 4 43 378 40 42,oJ 5 44 43]
def qEF:List qB:=[oU 0 45 2,oX 1 46 2 7,oU 2 47 3,oX 3 48 3 7,oD2 4 49 379 46 48,oJ 5 50 49]
def qD6:qL:=.seq (sr qED (.cond (.t 38) (sr [oQ 0 4 false] .ret) .skip)) (.seq (sr qEE (.cond (.t 44) (sr [oQ 0 4 false] .ret) .skip)) (.seq (sr qEF (.cond (.t 50) (sr [oQ 0 4 false] .ret) .skip)) (sr [oQ 0 4 true] .ret)))
def qD7:qL:=.seq (sr qEA (.cond (.t 21) (sr [oQ 0 4 false] .ret) .skip)) (.seq (sr qEB (.cond (.t 26) (sr [oQ 0 4 false] .ret) .skip)) (.seq (sr qEC (.cond (.t 32) (sr [oQ 0 4 false] .ret) .skip)) qD6))
def UX:qP:=⟨2,51,[.t 4],sr [oP 0 2 (.lbox 8 (.t 0)),oP 1 3 (.lbox 8 (.t 1)),oQ 2 4 false] (.seq (sr qD8 (.cond (.t 10) (sr [oQ 0 4 false] .ret) .skip)) (.seq (sr qD9 (.cond (.t 16) (sr [oQ 0 4 false] .ret) .skip)) qD7))⟩
def qPK:List qB:=[oM 0 10 0,oD1 1 11 368 10,oM 2 9 11,oV 3 12 9 0,oV 4 13 9 1,oV 5 14 9 2,oV 6 15 9 3,oP 7 4 (.lalloc (.agg [.int .i64 0,.int .i64 0])),oM 8 3 12,oS 9 4 0 2 13,oM 10 5 14,oM 11 6 15]
def qPL:List qB:=[oM 0 16 7,oM 1 17 0,oK 2 18 17,oF 3 19 6 18,oL 4 20 19,oW 5 21 20,oB 6 22 .lss 16 21,oM 7 23 22,oH 8 24 23 true 6,oPf 9 25 23 24]
def qPM:List qB:=[oM 0 28 0,oK 1 29 28,oF 2 30 6 29,oL 3 31 30,oM 4 32 7,oA 5 33 2 31 32,oP 6 34 (.load (some 2) (.t 33)),oP 7 8 (.lalloc (.agg [.int .i64 0,.int .i64 0])),oS 8 8 0 2 34]
def qPN:List qB:=[oU 0 35 8,oX 1 36 8 0,oE 2 37 .eql 36 1,oM 3 38 37,oG 4 39 38 true (.nop 8),oG 5 40 38 true (.lload 8 1 none),oH 6 41 38 true 5,oG 7 42 38 true (.bin .eql (.t 40) (.t 41)),oPf 8 43 38 42,oM 9 44 43,oG 10 45 44 false (.nop 8),oG 11 46 44 false (.lload 8 0 none),oG 12 47 44 false (.bin .eql (.t 46) (.c (.int .i64 2))),oH 13 48 44 false 47,oG 14 49 48 true (.nop 8),oG 15 50 48 true (.lload 8 1 none),oH 16 51 48 true 0,oG 17 52 48 true (.lload 4 0 (some 2)),oH 18 53 48 true 5,oG 19 54 48 true (.call 369 [.t 51,.t 52,.t 53]),oG 20 55 48 true (.bin .eql (.t 50) (.t 54)),oG 21 56 44 false (.pick (.t 48) (.t 55) (.c (.bool false))),oPt 22 57 44 56,oM 23 58 57,oG 24 59 58 false (.nop 8),oG 25 60 58 false (.lload 8 0 none),oG 26 61 58 false (.bin .eql (.t 60) (.c (.int .i64 3))),oH 27 62 58 false 61,oH 28 63 62 true 0,oG 29 64 62 true (.nilchk (.t 63)),oG 30 65 62 true (.faddr 4 (.t 64)),oG 31 66 62 true (.faddr 0 (.t 65)),oG 32 67 62 true (.load none (.t 66)),oG 33 68 62 true (.len (.t 67)),oG 34 69 62 true (.nop 8),oG 35 70 62 true (.lload 8 1 none),oG 36 71 62 true (.bin .geq (.t 68) (.t 70)),oG 37 72 58 false (.pick (.t 62) (.t 71) (.c (.bool false))),oPt 38 73 58 72]
def qPJ:qL:=.seq (.blk 1 (sr qPM (sr qPN (.cond (.t 73) (sr [oM 0 74 7,oM 1 2 74] .ret) .skip)))) (.reg true [oM 0 26 7,oE 1 27 .add 26 1,oM 2 7 27])
def Kw:qP:=⟨1,75,[.t 2],sr [oC 0 2 0] (sr qPK (.seq (sr [oC 0 7 0] (.blk 0 (.loop (.seq (sr qPL (.cond (.t 25) .skip (.exit 0))) qPJ)))) (sr [oP 0 2 (.mov (.c (.int .i64 (-1))))] .ret)))⟩
def qVZ:List qB:=[oU 0 9 3,oX 1 10 3 1,oF 2 11 2 1,oL 3 12 11,oB 4 13 .eql 10 12,oM 5 4 13]
def qV0:List qB:=[oU 0 16 3,oX 1 17 3 1,oF 2 18 5 1,oL 3 19 18,oB 4 20 .eql 17 19,oM 5 4 20]
def qVY:qL:=sr [oU 0 5 3,oX 1 6 3 0] (.blk 0 (sr [oE 0 8 .eql 6 1,oM 1 7 8] (.cond (.t 7) (sr qVZ .ret) (sr [oE 0 15 .eql 6 2,oM 1 14 15] (.cond (.t 14) (sr qV0 .ret) .skip)))))
def qV1:List qB:=[oU 0 21 3,oX 1 22 3 1,oL 2 23 2,oK 3 24 23,oF 4 25 4 24,oF 5 26 0 25,oL 6 27 26,oW 7 28 27,oB 8 29 .leq 22 28,oM 9 4 29]
def F772:qP:=⟨3,30,[.t 4],sr [oP 0 3 (.lbox 2 (.t 0)),oQ 1 4 false] (.seq qVY (sr qV1 .ret))⟩
def qPO:List qB:=[oL 0 6 1,oD1 1 7 374 6,oM 2 5 7,oV 3 8 5 0,oV 4 9 5 1,oP 5 3 (.halloc 6 (.agg [.int .i64 0,.int .i64 0,.int .i64 0,.int .i64 0,.int .i64 0,.int .i64 0])),oT 6 6 3 8,oM 7 4 9]
def qPP:List qB:=[oL 0 12 1,oK 1 13 12,oF 2 14 6 13,oL 3 15 14,oP 4 16 (.mkfn 772 [.t 3,.t 1]),oD2 5 17 771 15 16,oM 6 2 17]
def Kx:qP:=⟨1,18,[.t 2],sr [oP 0 1 (.hbox 1 (.t 0)),oC 1 2 0] (sr qPO (.seq (sr [oM 0 10 4,oJ 1 11 10] (.cond (.t 11) (sr [oP 0 2 (.mov (.c (.int .i64 (-1))))] .ret) .skip)) (sr qPP .ret)))⟩
def qPR:List qB:=[oP 0 3 (.mov (.c (.lst 1 [] true))),oM 1 4 0,oP 2 5 (.app 1 (.t 3) (.t 4)),oM 3 2 5]
def XY:qP:=⟨1,6,[.t 2],sr [oP 0 2 (.mov (.c (.nils)))] (sr qPR .ret)⟩
def qWH:List qB:=[oM 0 3 0,oK 1 4 3,oF 2 5 0 4,oL 3 6 5,oM 4 7 0,oK 5 8 7,oF 6 9 1 8,oL 7 10 9,oM 8 11 0,oK 9 12 11,oF 10 13 2 12,oL 11 14 13,oM 12 15 0,oK 13 16 15,oF 14 17 3 16,oL 15 18 17,oP 17 20 (.mov (.c (.lst 2 [] true))),oM 18 21 0,oK 19 22 21,oF 20 23 4 22,oL 21 24 23,⟨16,some 19,none,.call 402 [.t 18],[⟨3,some 6,none,.load none (.t 5),[]⟩,⟨7,some 10,none,.load none (.t 9),[]⟩,⟨11,some 14,none,.load none (.t 13),[]⟩,⟨21,some 24,none,.load none (.t 23),[]⟩]⟩,⟨22,some 25,none,.app 2 (.t 20) (.t 24),[⟨3,some 6,none,.load none (.t 5),[]⟩,⟨7,some 10,none,.load none (.t 9),[]⟩,⟨11,some 14,none,.load none (.t 13),[]⟩]⟩,oP 23 26 (.build (.agg [.int .i64 0,.int .i64 0,.int .i64 0,.nils,.nils]) [(0,1,.t 6),(1,1,.t 10),(2,1,.t 14),(3,1,.t 19),(4,1,.t 25)]),oS 24 2 0 5 26]
def Zf:qP:=⟨1,27,[.l 2 (some 5)],sr [oP 0 2 (.lalloc (.agg [.int .i64 0,.int .i64 0,.int .i64 0,.nils,.nils]))] (sr qWH .ret)⟩
def qR1:List qB:=[oM 0 6 4,oM 1 7 0,oK 2 8 7,oF 3 9 0 8,oL 4 10 9,oW 5 11 10,oB 6 12 .lss 6 11]
def qR2:List qB:=[oU 0 15 3,oX 1 16 3 0,oM 2 17 0,oK 3 18 17,oF 4 19 0 18,oL 5 20 19,oM 6 21 4,oA 7 22 5 20 21,oD1 8 23 837 22,oP 9 24 (.bslice 5 (.agg [.int .i64 0,.int .i64 0,.int .i64 0,.nils,.nils]) 1 [(0,.t 23)]),oP 10 25 (.app 5 (.t 16) (.t 24)),oU 11 26 3,oS 12 3 0 1 25]
def qR0:qL:=sr [oC 0 4 0] (.blk 0 (.loop (.seq (sr qR1 (.cond (.t 12) .skip (.exit 0))) (.seq (.blk 1 (.reg true qR2)) (.reg true [oM 0 13 4,oE 1 14 .add 13 1,oM 2 4 14])))))
def XZ:qP:=⟨1,28,[.l 2 (some 1)],sr [oP 0 2 (.lalloc (.agg [.nils]))] (sr [oP 0 5 (.build (.agg [.nils]) []),oP 1 3 (.lalloc (.agg [.nils])),oS 2 3 0 1 5] (.seq qR0 (sr [oY 0 27 3 0 1,oS 1 2 0 1 27] .ret)))⟩
def qV3:List qB:=[oM 0 3 0,oK 1 4 3,oF 2 5 0 4,oL 3 6 5,oM 4 7 0,oK 5 8 7,oF 6 9 1 8,oP 8 11 (.mov (.c (.lst 3 [] true))),oM 9 12 0,oK 10 13 12,oF 11 14 2 13,oL 12 15 14,⟨7,some 10,none,.call 489 [.t 9],[⟨3,some 6,none,.load none (.t 5),[]⟩,⟨12,some 15,none,.load none (.t 14),[]⟩]⟩,⟨13,some 16,none,.app 3 (.t 11) (.t 15),[⟨3,some 6,none,.load none (.t 5),[]⟩]⟩,oP 14 17 (.build (.agg [.int .i64 0,.nils,.nils]) [(0,1,.t 6),(1,1,.t 10),(2,1,.t 16)]),oS 15 2 0 3 17]
def Xd:qP:=⟨1,18,[.l 2 (some 3)],sr [oP 0 2 (.lalloc (.agg [.int .i64 0,.nils,.nils]))] (sr qV3 .ret)⟩
def qQM:List qB:=[oM 0 6 0,oK 1 7 6,oF 2 8 1 7,oL 3 9 8,oM 5 11 0,oK 6 12 11,oF 7 13 2 12,oL 8 14 13,oM 9 15 0,oK 10 16 15,oF 11 17 3 16,oL 12 18 17,oM 13 19 0,oK 14 20 19,oF 15 21 4 20,oP 17 23 (.mov (.c (.lst 3 [] true))),oM 18 24 0,oK 19 25 24,oF 20 26 5 25,oL 21 27 26,oP 23 29 (.mov (.c (.lst 2 [] true))),oM 24 30 0,oK 25 31 30,oF 26 32 6 31,oL 27 33 32,oP 30 3 (.lalloc (.agg [.nils,.nils,.int .i64 0,.int .i64 0,.nils,.nils,.nils,.nils])),⟨4,some 10,none,.call 402 [.t 9],[⟨8,some 14,none,.load none (.t 13),[]⟩,⟨12,some 18,none,.load none (.t 17),[]⟩,⟨21,some 27,none,.load none (.t 26),[]⟩,⟨27,some 33,none,.load none (.t 32),[]⟩]⟩,⟨16,some 22,none,.call 489 [.t 21],[⟨8,some 14,none,.load none (.t 13),[]⟩,⟨12,some 18,none,.load none (.t 17),[]⟩,⟨21,some 27,none,.load none (.t 26),[]⟩,⟨27,some 33,none,.load none (.t 32),[]⟩]⟩,⟨22,some 28,none,.app 3 (.t 23) (.t 27),[⟨8,some 14,none,.load none (.t 13),[]⟩,⟨12,some 18,none,.load none (.t 17),[]⟩,⟨27,some 33,none,.load none (.t 32),[]⟩]⟩,⟨28,some 34,none,.app 2 (.t 29) (.t 33),[⟨8,some 14,none,.load none (.t 13),[]⟩,⟨12,some 18,none,.load none (.t 17),[]⟩]⟩,oP 29 35 (.build (.agg [.nils,.nils,.int .i64 0,.int .i64 0,.nils,.nils,.nils,.nils]) [(1,1,.t 10),(2,1,.t 14),(3,1,.t 18),(4,1,.t 22),(5,1,.t 28),(6,1,.t 34)]),oS 31 3 0 8 35]
def qQN:List qB:=[oM 0 36 4,oM 1 37 0,oK 2 38 37,oF 3 39 0 38,oL 4 40 39,oW 5 41 40,oB 6 42 .lss 36 41]
def qQO:List qB:=[oU 0 45 3,oX 1 46 3 0,oM 2 47 0,oK 3 48 47,oF 4 49 0 48,oL 5 50 49,oM 6 51 4,oA 7 52 1 50 51,oD1 8 53 489 52,oP 9 54 (.bslice 1 (.agg [.nils]) 1 [(0,.t 53)]),oP 10 55 (.app 1 (.t 46) (.t 54)),oU 11 56 3,oS 12 3 0 1 55]
def qQK:qL:=sr [oC 0 4 0] (.blk 0 (.loop (.seq (sr qQN (.cond (.t 42) .skip (.exit 0))) (.seq (.blk 1 (.reg true qQO)) (.reg true [oM 0 43 4,oE 1 44 .add 43 1,oM 2 4 44])))))
def qQP:List qB:=[oM 0 57 5,oM 1 58 0,oK 2 59 58,oF 3 60 7 59,oL 4 61 60,oW 5 62 61,oB 6 63 .lss 57 62]
def qQQ:List qB:=[oU 0 66 3,oX 1 67 3 7,oM 2 68 0,oK 3 69 68,oF 4 70 7 69,oL 5 71 70,oM 6 72 5,oA 7 73 3 71 72,oD1 8 74 795 73,oP 9 75 (.bslice 3 (.agg [.int .i64 0,.nils,.nils]) 1 [(0,.t 74)]),oP 10 76 (.app 3 (.t 67) (.t 75)),oU 11 77 3,oS 12 3 7 1 76]
def qQL:qL:=sr [oC 0 5 0] (.blk 2 (.loop (.seq (sr qQP (.cond (.t 63) .skip (.exit 2))) (.seq (.blk 3 (.reg true qQQ)) (.reg true [oM 0 64 5,oE 1 65 .add 64 1,oM 2 5 65])))))
def K2:qP:=⟨1,79,[.l 2 (some 8)],sr [oP 0 2 (.lalloc (.agg [.nils,.nils,.int .i64 0,.int .i64 0,.nils,.nils,.nils,.nils]))] (sr qQM (.seq qQK (.seq qQL (sr [oY 0 78 3 0 8,oS 1 2 0 8 78] .ret))))⟩
def qPQ:List qB:=[oP 0 5 (.mov (.c (.lst 1 [] true))),oM 1 6 0,oP 2 7 (.app 1 (.t 5) (.t 6)),oM 3 2 7]
def F401:qP:=⟨1,8,[.t 2],sr [oP 0 2 (.mov (.c (.nils)))] (.seq (sr [oM 0 3 0,oP 1 4 (.isnil 1 false (.t 3))] (.cond (.t 4) (sr [oP 0 2 (.mov (.c (.nils)))] .ret) .skip)) (sr qPQ .ret))⟩
def qKG:List qB:=[oP 0 5 (.mov (.c (.lst 2 [] true))),oM 1 6 0,oP 2 7 (.app 2 (.t 5) (.t 6)),oM 3 2 7]
def qKF:qP:=⟨1,8,[.t 2],sr [oP 0 2 (.mov (.c (.nils)))] (.seq (sr [oM 0 3 0,oP 1 4 (.isnil 1 false (.t 3))] (.cond (.t 4) (sr [oP 0 2 (.mov (.c (.nils)))] .ret) .skip)) (sr qKG .ret))⟩
def qD5:List qB:=[oU 0 3 1,oX 1 4 1 3,oU 3 6 1,oX 4 7 1 4,oD1 2 5 401 4,oU 6 9 1,oD1 5 8 1373 7,oS 7 1 3 1 5,oU 8 10 1,oS 9 1 4 1 8]
def UY:qP:=⟨1,12,[.l 2 (some 5)],sr [oP 0 1 (.lbox 5 (.t 0)),oP 1 2 (.lalloc (.agg [.int .i64 0,.int .i64 0,.int .i64 0,.nils,.nils]))] (sr qD5 (sr [oY 0 11 1 0 5,oS 1 2 0 5 11] .ret))⟩
def qWA:List qB:=[oU 0 6 1,oX 1 7 1 0,oW 2 8 7,oP 3 9 (.mksl 5 (.agg [.int .i64 0,.int .i64 0,.int .i64 0,.nils,.nils]) (.c (.int .i64 0)) (.t 8)),oP 4 10 (.build (.agg [.nils]) [(0,1,.t 9)]),oP 5 3 (.lalloc (.agg [.nils])),oS 6 3 0 1 10]
def qWB:List qB:=[oU 0 11 1,oX 1 12 1 0,oW 2 13 12,oC 3 14 0]
def qWC:List qB:=[oA 0 16 5 12 14,oP 1 17 (.load (some 5) (.t 16)),oP 2 5 (.lalloc (.agg [.int .i64 0,.int .i64 0,.int .i64 0,.nils,.nils])),oS 3 5 0 5 17]
def qWD:List qB:=[oU 0 18 3,oX 1 19 3 0,oY 2 20 5 0 5,oD1 3 21 1085 20,oP 4 22 (.bslice 5 (.agg [.int .i64 0,.int .i64 0,.int .i64 0,.nils,.nils]) 1 [(0,.t 21)]),oP 5 23 (.app 5 (.t 19) (.t 22)),oU 6 24 3,oS 7 3 0 1 23]
def qV9:qL:=.loop (sr [oB 0 15 .lss 14 13] (.seq (.cond (.t 15) .skip (.exit 0)) (.seq (.blk 1 (sr qWC (.reg true qWD))) (.reg true [oE 0 25 .add 14 1,oM 1 14 25]))))
def F798:qP:=⟨1,27,[.l 2 (some 1)],sr [oP 0 1 (.lbox 1 (.t 0)),oP 1 2 (.lalloc (.agg [.nils]))] (sr qWA (.seq (sr qWB (.blk 0 qV9)) (sr [oY 0 26 3 0 1,oS 1 2 0 1 26] .ret)))⟩
def qV7:List qB:=[oA 0 10 1 6 8,oP 1 11 (.load (some 1) (.t 10)),oP 2 5 (.lalloc (.agg [.nils])),oS 3 5 0 1 11]
def qV8:List qB:=[oM 0 12 3,oY 1 13 5 0 1,oD1 2 14 798 13,oP 3 15 (.bslice 1 (.agg [.nils]) 1 [(0,.t 14)]),oP 4 16 (.app 1 (.t 12) (.t 15)),oM 5 3 16]
def qV5:qL:=.loop (sr [oB 0 9 .lss 8 7] (.seq (.cond (.t 9) .skip (.exit 0)) (.seq (.blk 1 (sr qV7 (.reg true qV8))) (.reg true [oE 0 17 .add 8 1,oM 1 8 17]))))
def qV6:qL:=sr [oP 0 3 (.mov (.c (.nils)))] (.seq (sr [oM 0 6 0,oW 1 7 6,oC 2 8 0] (.blk 0 qV5)) (sr [oM 0 18 3,oM 1 2 18] .ret))
def F797:qP:=⟨1,19,[.t 2],sr [oP 0 2 (.mov (.c (.nils)))] qV6⟩
def qWE:List qB:=[oP 0 5 (.mov (.c (.lst 3 [] true))),oM 1 6 0,oP 2 7 (.app 3 (.t 5) (.t 6)),oM 3 2 7]
def F799:qP:=⟨1,8,[.t 2],sr [oP 0 2 (.mov (.c (.nils)))] (.seq (sr [oM 0 3 0,oP 1 4 (.isnil 1 false (.t 3))] (.cond (.t 4) (sr [oP 0 2 (.mov (.c (.nils)))] .ret) .skip)) (sr qWE .ret))⟩
def qWF:List qB:=[oP 0 5 (.mov (.c (.lst 2 [] true))),oM 1 6 0,oP 2 7 (.app 2 (.t 5) (.t 6)),oM 3 2 7]
def F800:qP:=⟨1,8,[.t 2],sr [oP 0 2 (.mov (.c (.nils)))] (.seq (sr [oM 0 3 0,oP 1 4 (.isnil 1 false (.t 3))] (.cond (.t 4) (sr [oP 0 2 (.mov (.c (.nils)))] .ret) .skip)) (sr qWF .ret))⟩
def qQX:List qB:=[oU 0 8 1,oX 1 9 1 0,oU 3 11 1,oX 4 12 1 1,oU 6 14 1,oY 7 15 1 4 1,oU 9 17 1,oX 10 18 1 5,oU 12 20 1,oX 13 21 1 6,oD1 2 10 797 9,oU 15 23 1,oD1 5 13 401 12,oD1 8 16 798 15,oD1 11 19 799 18,oD1 14 22 800 21,oS 16 1 0 1 10,oU 17 24 1,oS 18 1 1 1 13,oU 19 25 1,oS 20 1 4 1 16,oU 21 26 1,oS 22 1 5 1 19,oU 23 27 1,oS 24 1 6 1 22,oU 25 28 1,oN 26 (.lstore 1 7 1 (.c (.nils)))]
def qQY:List qB:=[oA 0 33 3 29 31,oP 1 34 (.load (some 3) (.t 33)),oP 2 5 (.lalloc (.agg [.int .i64 0,.nils,.nils])),oS 3 5 0 3 34]
def qQZ:List qB:=[oU 0 35 1,oX 1 36 1 7,oU 2 37 5,oX 3 38 5 0,oU 4 39 5,oY 5 40 5 1 1,oU 7 42 5,oX 8 43 5 2,oD1 6 41 798 40,oD1 9 44 799 43,oP 10 45 (.build (.agg [.int .i64 0,.nils,.nils]) [(0,1,.t 38),(1,1,.t 41),(2,1,.t 44)]),oP 11 46 (.bslice 3 (.agg [.int .i64 0,.nils,.nils]) 1 [(0,.t 45)]),oP 12 47 (.app 3 (.t 36) (.t 46)),oU 13 48 1,oS 14 1 7 1 47]
def qQV:qL:=.loop (sr [oB 0 32 .lss 31 30] (.seq (.cond (.t 32) .skip (.exit 0)) (.seq (.blk 1 (sr qQY (.reg true qQZ))) (.reg true [oE 0 49 .add 31 1,oM 1 31 49]))))
def qQW:qL:=sr [oU 0 6 1,oX 1 7 1 7,oM 2 3 7] (sr qQX (.seq (sr [oM 0 29 3,oW 1 30 29,oC 2 31 0] (.blk 0 qQV)) (sr [oY 0 50 1 0 8,oS 1 2 0 8 50] .ret)))
def K4:qP:=⟨1,51,[.l 2 (some 8)],sr [oP 0 1 (.lbox 8 (.t 0)),oP 1 2 (.lalloc (.agg [.nils,.nils,.int .i64 0,.int .i64 0,.nils,.nils,.nils,.nils]))] qQW⟩
def qXA:List qB:=[oM 0 6 5,oM 1 7 0,oW 2 8 7,oB 3 9 .lss 6 8]
def qXB:List qB:=[oM 0 12 0,oM 1 13 5,oM 2 14 1,oA 3 15 1 12 13,oT 4 1 15 14]
def qW9:qL:=.seq (.blk 1 (sr qXB (.reg true [oM 0 16 1,oE 1 17 .add 16 1,oM 2 1 17]))) (.reg true [oM 0 10 5,oE 1 11 .add 10 1,oM 2 5 11])
def F90:qP:=⟨2,19,[.t 4],sr [oC 0 4 0] (.seq (sr [oC 0 5 0] (.blk 0 (.loop (.seq (sr qXA (.cond (.t 9) .skip (.exit 0))) qW9)))) (sr [oM 0 18 1,oM 1 4 18] .ret))⟩
def qW1:List qB:=[oM 0 6 5,oM 1 7 0,oW 2 8 7,oB 3 9 .lss 6 8]
def qW2:List qB:=[oM 0 12 0,oM 1 13 5,oM 2 14 1,oA 3 15 2 12 13,oF 4 16 0 15,oT 5 1 16 14]
def qW3:List qB:=[oM 0 19 0,oM 1 20 5,oM 2 21 1,oA 3 22 2 19 20,oF 4 23 1 22,oT 5 1 23 21]
def qWZ:qL:=sr [oM 0 17 1,oE 1 18 .add 17 1,oM 2 1 18] (sr qW3 (.reg true [oM 0 24 1,oE 1 25 .add 24 1,oM 2 1 25]))
def qW0:qL:=sr [oC 0 5 0] (.blk 0 (.loop (.seq (sr qW1 (.cond (.t 9) .skip (.exit 0))) (.seq (.blk 1 (sr qW2 qWZ)) (.reg true [oM 0 10 5,oE 1 11 .add 10 1,oM 2 5 11])))))
def F885:qP:=⟨2,27,[.t 4],sr [oC 0 4 0] (.seq qW0 (sr [oM 0 26 1,oM 1 4 26] .ret))⟩
def qR9:List qB:=[oM 0 6 5,oM 1 7 0,oW 2 8 7,oB 3 9 .lss 6 8]
def qSA:List qB:=[oM 0 12 0,oM 1 13 5,oM 2 14 1,oA 3 15 5 12 13,oF 4 16 0 15,oT 5 1 16 14]
def qSB:List qB:=[oM 0 19 0,oM 1 20 5,oM 2 21 1,oA 3 22 5 19 20,oF 4 23 1 22,oT 5 1 23 21]
def qSC:List qB:=[oM 0 26 0,oM 1 27 5,oM 2 28 1,oA 3 29 5 26 27,oF 4 30 2 29,oT 5 1 30 28]
def qSD:List qB:=[oM 0 33 0,oM 1 34 5,oA 2 35 5 33 34,oF 3 36 3 35,oL 4 37 36,oM 5 38 1,oD2 6 39 90 37 38,oM 7 1 39]
def qSE:List qB:=[oM 0 40 0,oM 1 41 5,oA 2 42 5 40 41,oF 3 43 4 42,oL 4 44 43,oM 5 45 1,oD2 6 46 885 44 45,oM 7 1 46]
def qR7:qL:=sr [oM 0 24 1,oE 1 25 .add 24 1,oM 2 1 25] (sr qSC (sr [oM 0 31 1,oE 1 32 .add 31 1,oM 2 1 32] (sr qSD (.reg true qSE))))
def qR8:qL:=.seq (.blk 1 (sr qSA (sr [oM 0 17 1,oE 1 18 .add 17 1,oM 2 1 18] (sr qSB qR7)))) (.reg true [oM 0 10 5,oE 1 11 .add 10 1,oM 2 5 11])
def kN:qP:=⟨2,48,[.t 4],sr [oC 0 4 0] (.seq (sr [oC 0 5 0] (.blk 0 (.loop (.seq (sr qR9 (.cond (.t 9) .skip (.exit 0))) qR8)))) (sr [oM 0 47 1,oM 1 4 47] .ret))⟩
def qM2:List qB:=[oU 0 5 2,oX 1 6 2 0,oM 2 7 1,oD2 3 8 524 6 7,oM 4 1 8]
def Ke:qP:=⟨2,10,[.t 4],sr [oP 0 2 (.lbox 1 (.t 0)),oC 1 4 0] (sr qM2 (sr [oM 0 9 1,oM 1 4 9] .ret))⟩
def qM6:List qB:=[oM 0 6 5,oM 1 7 0,oW 2 8 7,oB 3 9 .lss 6 8]
def qM7:List qB:=[oM 0 12 0,oM 1 13 5,oA 2 14 1 12 13,oF 3 15 0 14,oL 4 16 15,oM 5 17 1,oD2 6 18 524 16 17,oM 7 1 18]
def qM5:qL:=sr [oC 0 5 0] (.blk 0 (.loop (.seq (sr qM6 (.cond (.t 9) .skip (.exit 0))) (.seq (.blk 1 (.reg true qM7)) (.reg true [oM 0 10 5,oE 1 11 .add 10 1,oM 2 5 11])))))
def Kg:qP:=⟨2,20,[.t 4],sr [oC 0 4 0] (.seq qM5 (sr [oM 0 19 1,oM 1 4 19] .ret))⟩
def qQ2:List qB:=[oM 0 6 5,oM 1 7 0,oW 2 8 7,oB 3 9 .lss 6 8]
def qQ3:List qB:=[oM 0 12 0,oM 1 13 5,oM 2 14 1,oA 3 15 3 12 13,oF 4 16 0 15,oT 5 1 16 14]
def qQ4:List qB:=[oM 0 19 0,oM 1 20 5,oM 2 21 1,oA 3 22 3 19 20,oF 4 23 1 22,oT 5 1 23 21]
def qQ5:List qB:=[oM 0 26 0,oM 1 27 5,oM 2 28 1,oA 3 29 3 26 27,oF 4 30 2 29,oT 5 1 30 28]
def qQ0:qL:=sr [oM 0 24 1,oE 1 25 .add 24 1,oM 2 1 25] (sr qQ5 (.reg true [oM 0 31 1,oE 1 32 .add 31 1,oM 2 1 32]))
def qQ1:qL:=.seq (.blk 1 (sr qQ3 (sr [oM 0 17 1,oE 1 18 .add 17 1,oM 2 1 18] (sr qQ4 qQ0)))) (.reg true [oM 0 10 5,oE 1 11 .add 10 1,oM 2 5 11])
def K5:qP:=⟨2,34,[.t 4],sr [oC 0 4 0] (.seq (sr [oC 0 5 0] (.blk 0 (.loop (.seq (sr qQ2 (.cond (.t 9) .skip (.exit 0))) qQ1)))) (sr [oM 0 33 1,oM 1 4 33] .ret))⟩
def qQ8:List qB:=[oM 0 6 5,oM 1 7 0,oW 2 8 7,oB 3 9 .lss 6 8]
def qQ9:List qB:=[oM 0 12 0,oM 1 13 5,oM 2 14 1,oA 3 15 2 12 13,oF 4 16 0 15,oT 5 1 16 14]
def qRA:List qB:=[oM 0 19 0,oM 1 20 5,oM 2 21 1,oA 3 22 2 19 20,oF 4 23 1 22,oT 5 1 23 21]
def qQ6:qL:=sr [oM 0 17 1,oE 1 18 .add 17 1,oM 2 1 18] (sr qRA (.reg true [oM 0 24 1,oE 1 25 .add 24 1,oM 2 1 25]))
def qQ7:qL:=sr [oC 0 5 0] (.blk 0 (.loop (.seq (sr qQ8 (.cond (.t 9) .skip (.exit 0))) (.seq (.blk 1 (sr qQ9 qQ6)) (.reg true [oM 0 10 5,oE 1 11 .add 10 1,oM 2 5 11])))))
def K6:qP:=⟨2,27,[.t 4],sr [oC 0 4 0] (.seq qQ7 (sr [oM 0 26 1,oM 1 4 26] .ret))⟩
def qRC:List qB:=[oM 0 6 5,oM 1 7 0,oW 2 8 7,oB 3 9 .lss 6 8]
def qRD:List qB:=[oM 0 12 0,oM 1 13 5,oM 2 14 1,oA 3 15 3 12 13,oF 4 16 0 15,oT 5 1 16 14]
def qRE:List qB:=[oM 0 19 0,oM 1 20 5,oA 2 21 3 19 20,oF 3 22 1 21,oF 4 23 0 22,oL 5 24 23,oM 6 25 1,oD2 7 26 524 24 25,oM 8 1 26]
def qRF:List qB:=[oM 0 27 0,oM 1 28 5,oA 2 29 3 27 28,oF 3 30 2 29,oL 4 31 30,oM 5 32 1,oD2 6 33 430 31 32,oM 7 1 33]
def qRB:qL:=.seq (.blk 1 (sr qRD (sr [oM 0 17 1,oE 1 18 .add 17 1,oM 2 1 18] (sr qRE (.reg true qRF))))) (.reg true [oM 0 10 5,oE 1 11 .add 10 1,oM 2 5 11])
def K7:qP:=⟨2,35,[.t 4],sr [oC 0 4 0] (.seq (sr [oC 0 5 0] (.blk 0 (.loop (.seq (sr qRC (.cond (.t 9) .skip (.exit 0))) qRB)))) (sr [oM 0 34 1,oM 1 4 34] .ret))⟩
def qJ0:List qB:=[oU 0 5 2,oX 1 6 2 0,oM 2 7 1,oD2 3 8 225 6 7,oM 4 1 8]
def qJ1:List qB:=[oU 0 9 2,oX 1 10 2 1,oM 2 11 1,oD2 3 12 90 10 11,oM 4 1 12]
def qJ2:List qB:=[oU 0 13 2,oY 1 14 2 4 1,oM 2 15 1,oD2 3 16 198 14 15,oM 4 1 16]
def qJ3:List qB:=[oU 0 17 2,oX 1 18 2 5,oM 2 19 1,oD2 3 20 430 18 19,oM 4 1 20]
def qJ4:List qB:=[oU 0 21 2,oX 1 22 2 6,oM 2 23 1,oD2 3 24 431 22 23,oM 4 1 24]
def qJ5:List qB:=[oU 0 25 2,oX 1 26 2 7,oM 2 27 1,oD2 3 28 432 26 27,oM 4 1 28]
def qJZ:qL:=sr qJ0 (sr qJ1 (sr qJ2 (sr qJ3 (sr qJ4 (sr qJ5 (sr [oM 0 29 1,oM 1 4 29] .ret))))))
def U6:qP:=⟨2,30,[.t 4],sr [oP 0 2 (.lbox 8 (.t 0)),oC 1 4 0] qJZ⟩
def qXD:List qB:=[oM 0 6 5,oM 1 7 0,oW 2 8 7,oB 3 9 .lss 6 8]
def qXE:List qB:=[oM 0 12 0,oM 1 13 5,oA 2 14 1 12 13,oL 3 15 14,oM 4 16 1,oB 5 17 .neq 15 16]
def qXC:qL:=.seq (.blk 1 (.seq (sr qXE (.cond (.t 17) (sr [oP 0 4 (.mov (.c (.int .i64 (-1))))] .ret) .skip)) (.reg true [oM 0 18 1,oE 1 19 .add 18 1,oM 2 1 19]))) (.reg true [oM 0 10 5,oE 1 11 .add 10 1,oM 2 5 11])
def F92:qP:=⟨2,21,[.t 4],sr [oC 0 4 0] (.seq (sr [oC 0 5 0] (.blk 0 (.loop (.seq (sr qXD (.cond (.t 9) .skip (.exit 0))) qXC)))) (sr [oM 0 20 1,oM 1 4 20] .ret))⟩
def qW6:List qB:=[oM 0 6 5,oM 1 7 0,oW 2 8 7,oB 3 9 .lss 6 8]
def qW7:List qB:=[oM 0 12 0,oM 1 13 5,oA 2 14 2 12 13,oF 3 15 0 14,oL 4 16 15,oM 5 17 1,oB 6 18 .neq 16 17]
def qW8:List qB:=[oM 0 21 0,oM 1 22 5,oA 2 23 2 21 22,oF 3 24 1 23,oL 4 25 24,oM 5 26 1,oB 6 27 .neq 25 26]
def qW4:qL:=sr [oM 0 19 1,oE 1 20 .add 19 1,oM 2 1 20] (.seq (sr qW8 (.cond (.t 27) (sr [oP 0 4 (.mov (.c (.int .i64 (-1))))] .ret) .skip)) (.reg true [oM 0 28 1,oE 1 29 .add 28 1,oM 2 1 29]))
def qW5:qL:=.loop (.seq (sr qW6 (.cond (.t 9) .skip (.exit 0))) (.seq (.blk 1 (.seq (sr qW7 (.cond (.t 18) (sr [oP 0 4 (.mov (.c (.int .i64 (-1))))] .ret) .skip)) qW4)) (.reg true [oM 0 10 5,oE 1 11 .add 10 1,oM 2 5 11])))
def F886:qP:=⟨2,31,[.t 4],sr [oC 0 4 0] (.seq (sr [oC 0 5 0] (.blk 0 qW5)) (sr [oM 0 30 1,oM 1 4 30] .ret))⟩
def qSJ:List qB:=[oM 0 6 5,oM 1 7 0,oW 2 8 7,oB 3 9 .lss 6 8]
def qSK:List qB:=[oM 0 12 0,oM 1 13 5,oA 2 14 5 12 13,oF 3 15 0 14,oL 4 16 15,oM 5 17 1,oB 6 18 .neq 16 17]
def qSL:List qB:=[oM 0 21 0,oM 1 22 5,oA 2 23 5 21 22,oF 3 24 1 23,oL 4 25 24,oM 5 26 1,oB 6 27 .neq 25 26]
def qSM:List qB:=[oM 0 30 0,oM 1 31 5,oA 2 32 5 30 31,oF 3 33 2 32,oL 4 34 33,oM 5 35 1,oB 6 36 .neq 34 35]
def qSN:List qB:=[oM 0 39 0,oM 1 40 5,oA 2 41 5 39 40,oF 3 42 3 41,oL 4 43 42,oM 5 44 1,oD2 6 45 92 43 44,oM 7 1 45]
def qSO:List qB:=[oM 0 48 0,oM 1 49 5,oA 2 50 5 48 49,oF 3 51 4 50,oL 4 52 51,oM 5 53 1,oD2 6 54 886 52 53,oM 7 1 54]
def qSF:qL:=.seq (sr [oM 0 46 1,oE 1 47 .lss 46 0] (.cond (.t 47) (sr [oP 0 4 (.mov (.c (.int .i64 (-1))))] .ret) .skip)) (sr qSO (sr [oM 0 55 1,oE 1 56 .lss 55 0] (.cond (.t 56) (sr [oP 0 4 (.mov (.c (.int .i64 (-1))))] .ret) .skip)))
def qSG:qL:=sr [oM 0 28 1,oE 1 29 .add 28 1,oM 2 1 29] (.seq (sr qSM (.cond (.t 36) (sr [oP 0 4 (.mov (.c (.int .i64 (-1))))] .ret) .skip)) (sr [oM 0 37 1,oE 1 38 .add 37 1,oM 2 1 38] (sr qSN qSF)))
def qSH:qL:=.seq (sr qSK (.cond (.t 18) (sr [oP 0 4 (.mov (.c (.int .i64 (-1))))] .ret) .skip)) (sr [oM 0 19 1,oE 1 20 .add 19 1,oM 2 1 20] (.seq (sr qSL (.cond (.t 27) (sr [oP 0 4 (.mov (.c (.int .i64 (-1))))] .ret) .skip)) qSG))
def qSI:qL:=sr [oC 0 5 0] (.blk 0 (.loop (.seq (sr qSJ (.cond (.t 9) .skip (.exit 0))) (.seq (.blk 1 qSH) (.reg true [oM 0 10 5,oE 1 11 .add 10 1,oM 2 5 11])))))
def kO:qP:=⟨2,58,[.t 4],sr [oC 0 4 0] (.seq qSI (sr [oM 0 57 1,oM 1 4 57] .ret))⟩
def qM4:List qB:=[oU 0 5 2,oX 1 6 2 0,oM 2 7 1,oD2 3 8 525 6 7,oM 4 1 8]
def qM3:qL:=sr qM4 (.seq (sr [oM 0 9 1,oE 1 10 .lss 9 0] (.cond (.t 10) (sr [oP 0 4 (.mov (.c (.int .i64 (-1))))] .ret) .skip)) (sr [oM 0 11 1,oM 1 4 11] .ret))
def Kf:qP:=⟨2,12,[.t 4],sr [oP 0 2 (.lbox 1 (.t 0)),oC 1 4 0] qM3⟩
def qM9:List qB:=[oM 0 6 5,oM 1 7 0,oW 2 8 7,oB 3 9 .lss 6 8]
def qNA:List qB:=[oM 0 12 0,oM 1 13 5,oA 2 14 1 12 13,oF 3 15 0 14,oL 4 16 15,oM 5 17 1,oD2 6 18 525 16 17,oM 7 1 18]
def qM8:qL:=.seq (.blk 1 (sr qNA (sr [oM 0 19 1,oE 1 20 .lss 19 0] (.cond (.t 20) (sr [oP 0 4 (.mov (.c (.int .i64 (-1))))] .ret) .skip)))) (.reg true [oM 0 10 5,oE 1 11 .add 10 1,oM 2 5 11])
def Kh:qP:=⟨2,22,[.t 4],sr [oC 0 4 0] (.seq (sr [oC 0 5 0] (.blk 0 (.loop (.seq (sr qM9 (.cond (.t 9) .skip (.exit 0))) qM8)))) (sr [oM 0 21 1,oM 1 4 21] .ret))⟩
def qRJ:List qB:=[oM 0 6 5,oM 1 7 0,oW 2 8 7,oB 3 9 .lss 6 8]
def qRK:List qB:=[oM 0 12 0,oM 1 13 5,oA 2 14 3 12 13,oF 3 15 0 14,oL 4 16 15,oM 5 17 1,oB 6 18 .neq 16 17]
def qRL:List qB:=[oM 0 21 0,oM 1 22 5,oA 2 23 3 21 22,oF 3 24 1 23,oL 4 25 24,oM 5 26 1,oB 6 27 .neq 25 26]
def qRM:List qB:=[oM 0 30 0,oM 1 31 5,oA 2 32 3 30 31,oF 3 33 2 32,oL 4 34 33,oM 5 35 1,oB 6 36 .neq 34 35]
def qRG:qL:=sr [oM 0 28 1,oE 1 29 .add 28 1,oM 2 1 29] (.seq (sr qRM (.cond (.t 36) (sr [oP 0 4 (.mov (.c (.int .i64 (-1))))] .ret) .skip)) (.reg true [oM 0 37 1,oE 1 38 .add 37 1,oM 2 1 38]))
def qRH:qL:=.seq (sr qRK (.cond (.t 18) (sr [oP 0 4 (.mov (.c (.int .i64 (-1))))] .ret) .skip)) (sr [oM 0 19 1,oE 1 20 .add 19 1,oM 2 1 20] (.seq (sr qRL (.cond (.t 27) (sr [oP 0 4 (.mov (.c (.int .i64 (-1))))] .ret) .skip)) qRG))
def qRI:qL:=sr [oC 0 5 0] (.blk 0 (.loop (.seq (sr qRJ (.cond (.t 9) .skip (.exit 0))) (.seq (.blk 1 qRH) (.reg true [oM 0 10 5,oE 1 11 .add 10 1,oM 2 5 11])))))
def K8:qP:=⟨2,40,[.t 4],sr [oC 0 4 0] (.seq qRI (sr [oM 0 39 1,oM 1 4 39] .ret))⟩
def qRP:List qB:=[oM 0 6 5,oM 1 7 0,oW 2 8 7,oB 3 9 .lss 6 8]
def qRQ:List qB:=[oM 0 12 0,oM 1 13 5,oA 2 14 2 12 13,oF 3 15 0 14,oL 4 16 15,oM 5 17 1,oB 6 18 .neq 16 17]
def qRR:List qB:=[oM 0 21 0,oM 1 22 5,oA 2 23 2 21 22,oF 3 24 1 23,oL 4 25 24,oM 5 26 1,oB 6 27 .neq 25 26]
def qRN:qL:=sr [oM 0 19 1,oE 1 20 .add 19 1,oM 2 1 20] (.seq (sr qRR (.cond (.t 27) (sr [oP 0 4 (.mov (.c (.int .i64 (-1))))] .ret) .skip)) (.reg true [oM 0 28 1,oE 1 29 .add 28 1,oM 2 1 29]))
def qRO:qL:=.loop (.seq (sr qRP (.cond (.t 9) .skip (.exit 0))) (.seq (.blk 1 (.seq (sr qRQ (.cond (.t 18) (sr [oP 0 4 (.mov (.c (.int .i64 (-1))))] .ret) .skip)) qRN)) (.reg true [oM 0 10 5,oE 1 11 .add 10 1,oM 2 5 11])))
def K9:qP:=⟨2,31,[.t 4],sr [oC 0 4 0] (.seq (sr [oC 0 5 0] (.blk 0 qRO)) (sr [oM 0 30 1,oM 1 4 30] .ret))⟩
def qRU:List qB:=[oM 0 6 5,oM 1 7 0,oW 2 8 7,oB 3 9 .lss 6 8]
def qRV:List qB:=[oM 0 12 0,oM 1 13 5,oA 2 14 3 12 13,oF 3 15 0 14,oL 4 16 15,oM 5 17 1,oB 6 18 .neq 16 17]
def qRW:List qB:=[oM 0 21 0,oM 1 22 5,oA 2 23 3 21 22,oF 3 24 1 23,oF 4 25 0 24,oL 5 26 25,oM 6 27 1,oD2 7 28 525 26 27,oM 8 1 28]
def qRX:List qB:=[oM 0 31 0,oM 1 32 5,oA 2 33 3 31 32,oF 3 34 2 33,oL 4 35 34,oM 5 36 1,oD2 6 37 433 35 36,oM 7 1 37]
def qRS:qL:=.seq (sr [oM 0 29 1,oE 1 30 .lss 29 0] (.cond (.t 30) (sr [oP 0 4 (.mov (.c (.int .i64 (-1))))] .ret) .skip)) (sr qRX (sr [oM 0 38 1,oE 1 39 .lss 38 0] (.cond (.t 39) (sr [oP 0 4 (.mov (.c (.int .i64 (-1))))] .ret) .skip)))
def qRT:qL:=.seq (.blk 1 (.seq (sr qRV (.cond (.t 18) (sr [oP 0 4 (.mov (.c (.int .i64 (-1))))] .ret) .skip)) (sr [oM 0 19 1,oE 1 20 .add 19 1,oM 2 1 20] (sr qRW qRS)))) (.reg true [oM 0 10 5,oE 1 11 .add 10 1,oM 2 5 11])
def kD:qP:=⟨2,41,[.t 4],sr [oC 0 4 0] (.seq (sr [oC 0 5 0] (.blk 0 (.loop (.seq (sr qRU (.cond (.t 9) .skip (.exit 0))) qRT)))) (sr [oM 0 40 1,oM 1 4 40] .ret))⟩
def qKL:List qB:=[oU 0 5 2,oX 1 6 2 0,oM 2 7 1,oD2 3 8 230 6 7,oM 4 1 8]
def qKM:List qB:=[oU 0 11 2,oX 1 12 2 1,oM 2 13 1,oD2 3 14 92 12 13,oM 4 1 14]
def qKN:List qB:=[oU 0 17 2,oY 1 18 2 4 1,oM 2 19 1,oD2 3 20 199 18 19,oM 4 1 20]
def qKO:List qB:=[oU 0 23 2,oX 1 24 2 5,oM 2 25 1,oD2 3 26 433 24 25,oM 4 1 26]
def qKP:List qB:=[oU 0 29 2,oX 1 30 2 6,oM 2 31 1,oD2 3 32 434 30 31,oM 4 1 32]
def qKQ:List qB:=[oU 0 35 2,oX 1 36 2 7,oM 2 37 1,oD2 3 38 435 36 37,oM 4 1 38]
def qKI:qL:=sr qKQ (.seq (sr [oM 0 39 1,oE 1 40 .lss 39 0] (.cond (.t 40) (sr [oP 0 4 (.mov (.c (.int .i64 (-1))))] .ret) .skip)) (sr [oM 0 41 1,oM 1 4 41] .ret))
def qKJ:qL:=.seq (sr [oM 0 27 1,oE 1 28 .lss 27 0] (.cond (.t 28) (sr [oP 0 4 (.mov (.c (.int .i64 (-1))))] .ret) .skip)) (sr qKP (.seq (sr [oM 0 33 1,oE 1 34 .lss 33 0] (.cond (.t 34) (sr [oP 0 4 (.mov (.c (.int .i64 (-1))))] .ret) .skip)) qKI))
def qKK:qL:=.seq (sr [oM 0 15 1,oE 1 16 .lss 15 0] (.cond (.t 16) (sr [oP 0 4 (.mov (.c (.int .i64 (-1))))] .ret) .skip)) (sr qKN (.seq (sr [oM 0 21 1,oE 1 22 .lss 21 0] (.cond (.t 22) (sr [oP 0 4 (.mov (.c (.int .i64 (-1))))] .ret) .skip)) (sr qKO qKJ)))
def U7:qP:=⟨2,42,[.t 4],sr [oP 0 2 (.lbox 8 (.t 0)),oC 1 4 0] (sr qKL (.seq (sr [oM 0 9 1,oE 1 10 .lss 9 0] (.cond (.t 10) (sr [oP 0 4 (.mov (.c (.int .i64 (-1))))] .ret) .skip)) (sr qKM qKK)))⟩
def qXG:List qB:=[oM 0 15 1,oM 1 16 2,oM 2 17 3,oM 3 18 4,oD1 4 19 402 18,oP 5 20 (.build (.agg [.int .i64 0,.int .i64 0,.int .i64 0,.nils,.nils]) [(0,1,.t 15),(1,1,.t 16),(2,1,.t 17),(3,1,.t 19)]),oP 6 13 (.lalloc (.agg [.int .i64 0,.int .i64 0,.int .i64 0,.nils,.nils])),oS 7 13 0 5 20]
def qXH:List qB:=[oU 0 26 13,oX 1 27 13 4,oP 2 28 (.build (.agg [.int .i64 0,.int .i64 0]) []),oP 3 29 (.bslice 2 (.agg [.int .i64 0,.int .i64 0]) 1 [(0,.t 28)]),oP 4 30 (.app 2 (.t 27) (.t 29)),oU 5 31 13,oS 6 13 4 1 30]
def qXF:qL:=.loop (.seq (sr [oM 0 22 14,oE 1 23 .gtr 22 0] (.cond (.t 23) .skip (.exit 0))) (.seq (.blk 1 (.reg true qXH)) (.reg true [oM 0 24 14,oE 1 25 .sub 24 1,oM 2 14 25])))
def qXI:List qB:=[oM 0 32 0,oM 1 33 0,oK 2 34 33,oF 3 35 0 34,oL 4 36 35,oY 5 37 13 0 5,oP 6 38 (.bslice 5 (.agg [.int .i64 0,.int .i64 0,.int .i64 0,.nils,.nils]) 1 [(0,.t 37)]),oP 7 39 (.app 5 (.t 36) (.t 38)),oK 8 40 32,oF 9 41 0 40,oT 10 1 41 39]
def qXJ:List qB:=[oM 0 42 0,oK 1 43 42,oF 2 44 0 43,oL 3 45 44,oW 4 46 45,oE 5 47 .sub 46 1,oM 6 12 47]
def F949:qP:=⟨6,48,[.t 12],sr [oC 0 12 0] (sr qXG (.seq (sr [oM 0 21 5,oM 1 14 21] (.blk 0 qXF)) (sr qXI (sr qXJ .ret))))⟩
def qXK:List qB:=[oM 0 5 0,oM 1 6 1,oP 2 7 (.build (.agg [.int .i64 0,.int .i64 0]) [(0,1,.t 5),(1,1,.t 6)]),oS 3 4 0 2 7]
def F952:qP:=⟨2,8,[.l 4 (some 2)],sr [oP 0 4 (.lalloc (.agg [.int .i64 0,.int .i64 0]))] (sr qXK .ret)⟩
def qWL:qL:=.seq (sr [oM 0 5 0,oM 1 6 1,oB 2 7 .gtr 5 6] (.cond (.t 7) (sr [oM 0 8 0,oM 1 4 8] .ret) .skip)) (sr [oM 0 9 1,oM 1 4 9] .ret)
def F856:qP:=⟨2,10,[.t 4],sr [oC 0 4 0] qWL⟩
def qFR:List qB:=[oM 0 5 4,oM 1 6 0,oK 2 7 6,oF 3 8 0 7,oL 4 9 8,oW 5 10 9,oB 6 11 .lss 5 10]
def qFS:List qB:=[oM 0 14 3,oM 1 15 0,oK 2 16 15,oF 3 17 0 16,oL 4 18 17,oM 5 19 4,oA 6 20 5 18 19,oF 7 21 1 20,oL 8 22 21,oD2 9 23 856 14 22,oM 10 3 23]
def qFQ:qL:=sr [oC 0 4 0] (.blk 0 (.loop (.seq (sr qFR (.cond (.t 11) .skip (.exit 0))) (.seq (.blk 1 (.reg true qFS)) (.reg true [oM 0 12 4,oE 1 13 .add 12 1,oM 2 4 13])))))
def Uk:qP:=⟨1,25,[.t 2],sr [oC 0 2 0] (sr [oC 0 3 0] (.seq qFQ (sr [oM 0 24 3,oM 1 2 24] .ret)))⟩
def qMA:qL:=.cond (.t 26) (sr [oC 0 6 2] (sr [oC 0 7 600] (.reg true [oM 0 28 1,oE 1 29 .sub 28 2,oM 2 8 29]))) (sr [oC 0 4 0,oC 1 5 2] .ret)
def qMB:qL:=.cond (.t 22) (sr [oC 0 7 3] (.reg true [oM 0 24 1,oE 1 25 .sub 24 1,oM 2 8 25])) (sr [oE 0 27 .eql 9 7,oM 1 26 27] qMA)
def qMC:qL:=.cond (.t 16) (sr [oC 0 7 3] (.reg true [oM 0 18 1,oE 1 19 .sub 18 2,oM 2 8 19])) (sr [oE 0 21 .eql 9 5,oM 1 20 21] (.cond (.t 20) (.reg true [oP 0 8 (.mov (.c (.int .i64 (-1))))]) (sr [oE 0 23 .eql 9 6,oM 1 22 23] qMB)))
def qMD:qL:=sr [oE 0 14 .eql 9 3,oM 1 13 14] (.cond (.t 13) (sr [oC 0 7 3] (.reg true [oM 0 15 1,oM 1 8 15])) (sr [oE 0 17 .eql 9 4,oM 1 16 17] qMC))
def qME:qL:=sr [oM 0 9 0] (.blk 0 (.seq (sr [oE 0 11 .eql 9 1,oM 1 10 11] (.cond (.t 10) .skip (.reg true [oE 0 12 .eql 9 2,oM 1 10 12]))) (.cond (.t 10) (.reg true [oP 0 8 (.mov (.c (.int .i64 (-2))))]) qMD)))
def qMG:List qB:=[oM 0 30 1,oM 1 31 6,oM 2 32 7,oP 3 33 (.call 340 [.t 30,.t 31,.t 32]),oJ 4 34 33]
def qMF:qL:=sr [oC 0 8 0] (.seq qME (.seq (sr qMG (.cond (.t 34) (sr [oC 0 4 0,oC 1 5 2] .ret) .skip)) (sr [oM 0 35 8,oM 1 4 35,oC 2 5 0] .ret)))
def KQ:qP:=⟨2,36,[.t 4,.t 5],sr [oC 0 4 0,oC 1 5 0] (sr [oC 0 6 0] (sr [oC 0 7 0] qMF))⟩
def qF1:List qB:=[oM 0 17 1,oM 1 18 2,oM 2 19 3,oP 3 20 (.call 743 [.t 17,.t 18,.t 19]),oM 4 16 20,oV 5 21 16 0,oV 6 22 16 1,oM 7 2 21,oM 8 3 22]
def qF2:List qB:=[oM 0 23 1,oK 1 24 23,oF 2 25 0 24,oL 3 26 25,oM 4 27 2,oA 5 28 5 26 27,oM 6 10 28]
def qF4:List qB:=[oM 0 29 1,oK 1 30 29,oF 2 31 0 30,oL 3 32 31,oM 4 33 3,oA 5 34 5 32 33,oM 6 11 34]
def qF5:List qB:=[oM 0 35 10,oM 1 36 11,oD2 2 37 744 35 36,oM 3 12 37]
def qF6:List qB:=[oM 0 44 11,oK 1 45 44,oF 2 46 4 45,oL 3 47 46,oW 4 48 47,oE 5 49 .sub 48 1,oM 6 13 49]
def qF7:List qB:=[oM 0 56 10,oK 1 57 56,oF 2 58 2 57,oL 3 59 58,oM 4 60 0,oW 5 61 60,oB 6 62 .geq 59 61]
def qF8:List qB:=[oM 0 63 0,oM 1 64 10,oK 2 65 64,oF 3 66 2 65,oL 4 67 66,oA 5 68 1 63 67,oF 6 69 0 68,oL 7 70 69,oW 8 71 70,oM 9 13 71]
def qF9:List qB:=[oM 0 72 0,oM 1 73 10,oK 2 74 73,oF 3 75 2 74,oL 4 76 75,oA 5 77 1 72 76,oM 7 79 10,oK 8 80 79,oF 9 81 1 80,oL 10 82 81,⟨6,some 78,none,.call 1177 [.t 77],[⟨10,some 82,none,.load none (.t 81),[]⟩]⟩,oB 11 83 .add 78 82,oE 12 84 .gtr 83 8]
def qFZ:qL:=.seq (sr qF7 (.cond (.t 62) (sr [oC 0 8 0,oC 1 9 3] .ret) .skip)) (sr qF8 (sr qF9 (.cond (.t 84) (sr [oC 0 8 0,oC 1 9 9] .ret) .skip)))
def qF0:qL:=sr [oE 0 51 .eql 38 6,oM 1 50 51] (.cond (.t 50) (.reg true [oM 0 52 10,oD1 1 53 1384 52,oM 2 13 53]) (sr [oE 0 55 .eql 38 7,oM 1 54 55] (.cond (.t 54) qFZ .skip)))
def qFX:qL:=.cond (.t 39) (sr [oC 0 8 0,oC 1 9 11] .ret) (.seq (sr [oE 0 42 .eql 38 3,oM 1 41 42] (.cond (.t 41) .skip (.reg true [oE 0 43 .eql 38 4,oM 1 41 43]))) (.cond (.t 41) (.reg true qF6) qF0))
def qF3:List qB:=[oM 0 86 12,oM 1 87 13,oD2 2 88 1460 86 87,oM 3 85 88,oV 4 89 85 0,oV 5 90 85 1,oM 6 14 89,oM 7 15 90]
def qFY:qL:=.seq (sr [oM 0 38 12] (.blk 0 (sr [oE 0 40 .eql 38 8,oM 1 39 40] qFX))) (sr qF3 (sr [oM 0 91 14,oM 1 8 91,oC 2 9 0] .ret))
def Un:qP:=⟨4,92,[.t 8,.t 9],sr [oC 0 8 0,oC 1 9 0] (sr qF1 (sr qF2 (sr qF4 (sr qF5 (sr [oC 0 13 0] qFY)))))⟩
def qGC:List qB:=[oM 0 5 4,oM 1 6 0,oK 2 7 6,oF 3 8 0 7,oL 4 9 8,oW 5 10 9,oB 6 11 .lss 5 10]
def qGD:List qB:=[oM 0 14 0,oK 1 15 14,oF 2 16 0 15,oL 3 17 16,oM 4 18 4,oA 5 19 5 17 18,oF 6 20 0 19,oL 7 21 20,oE 8 22 .neq 21 0]
def qGA:qL:=.seq (.blk 1 (sr qGD (.cond (.t 22) (.reg true [oM 0 23 3,oE 1 24 .add 23 1,oM 2 3 24]) .skip))) (.reg true [oM 0 12 4,oE 1 13 .add 12 1,oM 2 4 13])
def qGB:qL:=sr [oC 0 3 0] (.seq (sr [oC 0 4 0] (.blk 0 (.loop (.seq (sr qGC (.cond (.t 11) .skip (.exit 0))) qGA)))) (sr [oM 0 25 3,oM 1 2 25] .ret))
def Uo:qP:=⟨1,26,[.t 2],sr [oC 0 2 0] qGB⟩
def qR3:List qB:=[oM 0 5 0,oK 1 6 5,oF 2 7 0 6,oL 3 8 7,oU 4 9 3,oX 5 10 3 0,oA 6 11 5 8 10,oF 7 12 4 11,oL 8 13 12,oU 9 14 3,oX 10 15 3 1,oA 11 16 2 13 15,oP 12 17 (.load (some 2) (.t 16)),oS 13 4 0 2 17]
def kJ:qP:=⟨2,18,[.l 4 (some 2)],sr [oP 0 3 (.lbox 2 (.t 1)),oP 1 4 (.lalloc (.agg [.int .i64 0,.int .i64 0]))] (sr qR3 .ret)⟩
def qR4:List qB:=[oM 0 6 0,oK 1 7 6,oF 2 8 0 7,oL 3 9 8,oU 4 10 4,oX 5 11 4 0,oA 6 12 5 9 11,oF 7 13 4 12,oL 8 14 13,oU 9 15 4,oX 10 16 4 1,oY 11 17 5 0 2,oA 12 18 2 14 16,oT 13 2 18 17]
def qR5:List qB:=[oM 0 19 0,oK 1 20 19,oF 2 21 0 20,oL 3 22 21,oU 4 23 5,oX 5 24 5 0,oA 6 25 5 22 24,oF 7 26 4 25,oL 8 27 26,oU 9 28 5,oX 10 29 5 1,oY 11 30 4 0 2,oA 12 31 2 27 29,oT 13 2 31 30]
def kK:qP:=⟨3,32,[],sr [oP 0 4 (.lbox 2 (.t 1)),oP 1 5 (.lbox 2 (.t 2))] (sr qR4 (.reg true qR5))⟩
def qGE:List qB:=[oM 0 8 0,oY 1 9 4 0 2,oD2 2 10 490 8 9,oP 3 6 (.lalloc (.agg [.int .i64 0,.int .i64 0])),oS 4 6 0 2 10]
def qGF:List qB:=[oM 0 11 0,oY 1 12 5 0 2,oD2 2 13 490 11 12,oP 3 7 (.lalloc (.agg [.int .i64 0,.int .i64 0])),oS 4 7 0 2 13]
def qGG:List qB:=[oM 0 17 0,oY 1 18 6 0 2,oY 2 19 7 0 2,oP 3 20 (.call 491 [.t 17,.t 18,.t 19])]
def Up:qP:=⟨3,21,[],sr [oP 0 4 (.lbox 2 (.t 1)),oP 1 5 (.lbox 2 (.t 2))] (sr qGE (sr qGF (sr [oY 0 14 6 0 2,oY 1 15 5 0 2,oP 2 16 (.seq true [1,1] (.t 14) (.t 15))] (.cond (.t 16) (.reg true qGG) .skip))))⟩
def qGV:List qB:=[oM 0 6 0,oY 1 7 5 0 2,oM 2 8 0,oY 3 9 4 0 2,oD2 4 10 490 8 9,oP 5 11 (.call 491 [.t 6,.t 7,.t 10])]
def Ur:qP:=⟨3,12,[],sr [oP 0 4 (.lbox 2 (.t 1)),oP 1 5 (.lbox 2 (.t 2))] (.reg true qGV)⟩
def qGK:List qB:=[oM 0 14 0,oK 1 15 14,oF 2 16 0 15,oL 3 17 16,oM 4 18 1,oA 5 19 5 17 18,oF 6 20 1 19,oL 7 21 20,oM 8 6 21]
def qGL:List qB:=[oM 0 22 0,oK 1 23 22,oF 2 24 0 23,oL 3 25 24,oM 4 26 2,oA 5 27 5 25 26,oD1 6 28 837 27,oP 7 7 (.lalloc (.agg [.int .i64 0,.int .i64 0,.int .i64 0,.nils,.nils])),oS 8 7 0 5 28]
def qGO:List qB:=[oU 0 29 7,oX 1 30 7 4,oW 2 31 30,oM 3 8 31]
def qGP:List qB:=[oM 0 32 0,oU 1 33 7,oX 2 34 7 0,oU 3 35 7,oX 4 36 7 1,oU 5 37 7,oX 6 38 7 2,oU 7 39 7,oX 8 40 7 3,oM 9 41 8,oP 10 42 (.call 949 [.t 32,.t 34,.t 36,.t 38,.t 40,.t 41]),oM 11 9 42]
def qGQ:List qB:=[oM 0 43 0,oU 1 44 7,oX 2 45 7 0,oU 3 46 7,oX 4 47 7 1,oU 5 48 7,oX 6 49 7 2,oU 7 50 7,oX 8 51 7 3,oM 9 52 8,oP 10 53 (.call 949 [.t 43,.t 45,.t 47,.t 49,.t 51,.t 52]),oM 11 10 53]
def qGR:List qB:=[oM 0 59 0,oM 1 60 6,oP 2 61 (.call 949 [.t 59,.c (.int .i64 4),.t 60,.c (.int .i64 0),.c (.nils),.c (.int .i64 3)]),oM 3 12 61]
def qGS:List qB:=[oM 0 62 0,oM 1 63 12,oP 2 64 (.call 952 [.t 63,.c (.int .i64 1)]),oM 3 65 9,oM 4 66 11,oD2 5 67 952 65 66,oP 6 68 (.call 491 [.t 62,.t 64,.t 67])]
def qGT:List qB:=[oM 0 69 0,oM 1 70 12,oP 2 71 (.call 952 [.t 70,.c (.int .i64 2)]),oM 3 72 10,oM 4 73 11,oD2 5 74 952 72 73,oP 6 75 (.call 491 [.t 69,.t 71,.t 74])]
def qGJ:qL:=.seq (sr [oM 0 54 11,oM 1 55 8,oB 2 56 .lss 54 55] (.cond (.t 56) .skip (.exit 0))) (.seq (.blk 1 (sr qGR (sr qGS (.reg true qGT)))) (.reg true [oM 0 57 11,oE 1 58 .add 57 1,oM 2 11 58]))
def qGU:List qB:=[oM 0 76 0,oM 1 77 1,oP 2 78 (.call 952 [.t 77,.c (.int .i64 1)]),oM 3 79 9,oP 4 80 (.call 952 [.t 79,.c (.int .i64 0)]),oP 5 81 (.call 1300 [.t 76,.t 78,.t 80])]
def qGM:List qB:=[oM 0 82 0,oM 1 83 1,oP 2 84 (.call 952 [.t 83,.c (.int .i64 2)]),oM 3 85 10,oP 4 86 (.call 952 [.t 85,.c (.int .i64 0)]),oP 5 87 (.call 1300 [.t 82,.t 84,.t 86])]
def qGN:List qB:=[oM 0 93 0,oM 1 94 2,oM 2 95 13,oD2 3 96 952 94 95,oM 4 97 10,oM 5 98 13,oB 6 99 .add 97 98,oP 7 100 (.call 952 [.t 99,.c (.int .i64 0)]),oP 8 101 (.call 1300 [.t 93,.t 96,.t 100])]
def qGH:qL:=.seq (sr [oM 0 88 13,oM 1 89 8,oB 2 90 .lss 88 89] (.cond (.t 90) .skip (.exit 2))) (.seq (.blk 3 (.reg true qGN)) (.reg true [oM 0 91 13,oE 1 92 .add 91 1,oM 2 13 92]))
def qGI:qL:=.seq (sr [oC 0 11 1] (.blk 0 (.loop qGJ))) (sr qGU (sr qGM (sr [oC 0 13 1] (.blk 2 (.loop qGH)))))
def Uq:qP:=⟨3,102,[],sr qGK (sr qGL (sr qGO (sr qGP (sr qGQ qGI))))⟩
def qFO:List qB:=[oM 0 3 0,oP 1 4 (.conv .u64 (.t 3)),oP 2 5 (.conv .u32 (.t 4)),oP 3 6 (.conv .i32 (.t 5)),oP 4 7 (.conv .i64 (.t 6)),oM 5 2 7]
def Ui:qP:=⟨1,8,[.t 2],sr [oC 0 2 0] (sr qFO .ret)⟩
def Uj:qP:=⟨1,4,[.t 2],sr [oC 0 2 0] (.seq (sr [oM 0 3 0] (.cond (.t 3) (sr [oC 0 2 1] .ret) .skip)) (sr [oC 0 2 0] .ret))⟩
def qVS:List qB:=[oM 0 16 7,oM 1 17 8,oB 2 18 .add 16 17,oD1 3 19 1125 18,oM 4 6 19]
def qVT:List qB:=[oM 0 22 7,oM 1 23 8,oB 2 24 .sub 22 23,oD1 3 25 1125 24,oM 4 6 25]
def qVU:List qB:=[oM 0 28 7,oM 1 29 8,oB 2 30 .mul 28 29,oD1 3 31 1125 30,oM 4 6 31]
def qVV:List qB:=[oM 0 36 7,oM 1 37 8,oB 2 38 .quo 36 37,oD1 3 39 1125 38,oM 4 6 39]
def qVW:List qB:=[oM 0 42 7,oM 1 43 8,oB 2 44 .lss 42 43,oD1 3 45 1126 44,oM 4 6 45]
def qVX:List qB:=[oM 0 48 7,oM 1 49 8,oB 2 50 .eql 48 49,oD1 3 51 1126 50,oM 4 6 51]
def qVP:qL:=.cond (.t 32) (.seq (sr [oM 0 34 8,oE 1 35 .eql 34 0] (.cond (.t 35) (sr [oC 0 6 0] .ret) .skip)) (sr qVV .ret)) (sr [oE 0 41 .eql 13 5,oM 1 40 41] (.cond (.t 40) (sr qVW .ret) (sr [oE 0 47 .eql 13 6,oM 1 46 47] (.cond (.t 46) (sr qVX .ret) .skip))))
def qVQ:qL:=sr [oE 0 21 .eql 13 2,oM 1 20 21] (.cond (.t 20) (sr qVT .ret) (sr [oE 0 27 .eql 13 3,oM 1 26 27] (.cond (.t 26) (sr qVU .ret) (sr [oE 0 33 .eql 13 4,oM 1 32 33] qVP))))
def qVR:qL:=sr [oM 0 11 2,oD1 1 12 1125 11,oM 2 8 12] (.seq (sr [oM 0 13 0] (.blk 0 (sr [oE 0 15 .eql 13 1,oM 1 14 15] (.cond (.t 14) (sr qVS .ret) qVQ)))) (sr [oC 0 6 0] .ret))
def F762:qP:=⟨3,52,[.t 6],sr [oC 0 6 0] (sr [oM 0 9 1,oD1 1 10 1125 9,oM 2 7 10] qVR)⟩
def qGX:List qB:=[oM 0 10 0,oK 1 11 10,oF 2 12 0 11,oL 3 13 12,oM 4 14 2,oA 5 15 5 13 14,oD1 6 16 837 15,oP 7 6 (.lalloc (.agg [.int .i64 0,.int .i64 0,.int .i64 0,.nils,.nils])),oS 8 6 0 5 16]
def qGY:List qB:=[oM 0 17 0,oK 1 18 17,oF 2 19 0 18,oL 3 20 19,oM 4 21 1,oA 5 22 5 20 21,oF 6 23 2 22,oL 7 24 23,oM 8 7 24]
def qGZ:List qB:=[oM 0 28 0,oU 1 29 6,oX 2 30 6 2,oU 3 31 6,oX 4 32 6 3,oP 5 33 (.iaddr 1 (.t 32) (.c (.int .i64 0))),oL 6 34 33,oM 7 35 7,oP 8 36 (.call 762 [.t 30,.t 34,.t 35]),oP 9 37 (.call 949 [.t 28,.c (.int .i64 6),.c (.int .i64 0),.t 36,.c (.nils),.c (.int .i64 1)]),oM 10 8 37]
def qG0:List qB:=[oM 0 38 0,oM 1 39 2,oP 2 40 (.call 952 [.t 39,.c (.int .i64 1)]),oM 3 41 8,oP 4 42 (.call 952 [.t 41,.c (.int .i64 0)]),oP 5 43 (.call 1300 [.t 38,.t 40,.t 42])]
def qG1:List qB:=[oM 0 44 0,oU 1 45 6,oX 2 46 6 1,oU 3 47 6,oX 4 48 6 2,oM 5 49 7,oP 6 50 (.bslice 1 (.int .i64 0) 1 [(0,.t 49)]),oP 7 51 (.call 949 [.t 44,.c (.int .i64 8),.t 46,.t 48,.t 50,.c (.int .i64 2)]),oM 8 9 51]
def qG2:List qB:=[oM 0 52 0,oM 1 53 2,oP 2 54 (.call 952 [.t 53,.c (.int .i64 1)]),oM 3 55 9,oP 4 56 (.call 952 [.t 55,.c (.int .i64 0)]),oP 5 57 (.call 1300 [.t 52,.t 54,.t 56])]
def qG3:List qB:=[oM 0 58 0,oM 1 59 2,oP 2 60 (.call 952 [.t 59,.c (.int .i64 2)]),oM 3 61 9,oP 4 62 (.call 952 [.t 61,.c (.int .i64 1)]),oP 5 63 (.call 1300 [.t 58,.t 60,.t 62])]
def qGW:qL:=.seq (sr [oU 0 25 6,oX 1 26 6 0,oE 2 27 .eql 26 8] (.cond (.t 27) (sr qGZ (sr qG0 .ret)) .skip)) (sr qG1 (sr qG2 (.reg true qG3)))
def Us:qP:=⟨3,64,[],sr qGX (sr qGY qGW)⟩
def qG7:List qB:=[oM 0 14 0,oK 1 15 14,oF 2 16 0 15,oL 3 17 16,oM 4 18 2,oA 5 19 5 17 18,oD1 6 20 837 19,oP 7 6 (.lalloc (.agg [.int .i64 0,.int .i64 0,.int .i64 0,.nils,.nils])),oS 8 6 0 5 20]
def qG8:List qB:=[oU 0 24 6,oX 1 25 6 3,oP 2 26 (.iaddr 1 (.t 25) (.c (.int .i64 1))),oL 3 27 26,oM 4 7 27]
def qHD:List qB:=[oM 0 28 0,oK 1 29 28,oF 2 30 0 29,oL 3 31 30,oM 4 32 1,oA 5 33 5 31 32,oF 6 34 2 33,oL 7 35 34,oE 8 36 .neq 35 0]
def qHE:List qB:=[oU 0 37 6,oX 1 38 6 3,oP 2 39 (.iaddr 1 (.t 38) (.c (.int .i64 0))),oL 3 40 39,oM 4 7 40]
def qHF:List qB:=[oM 0 41 0,oU 1 42 6,oX 2 43 6 1,oM 3 44 7,oP 4 45 (.call 949 [.t 41,.c (.int .i64 12),.t 43,.t 44,.c (.nils),.c (.int .i64 1)]),oM 5 8 45]
def qHG:List qB:=[oM 0 46 0,oM 1 47 2,oP 2 48 (.call 952 [.t 47,.c (.int .i64 1)]),oM 3 49 8,oP 4 50 (.call 952 [.t 49,.c (.int .i64 0)]),oP 5 51 (.call 1300 [.t 46,.t 48,.t 50])]
def qG6:qL:=sr [oU 0 21 6,oX 1 22 6 0,oE 2 23 .eql 22 11] (.cond (.t 23) (sr qG8 (.seq (sr qHD (.cond (.t 36) (.reg true qHE) .skip)) (sr qHF (sr qHG .ret)))) .skip)
def qHH:List qB:=[oM 0 52 0,oK 1 53 52,oF 2 54 0 53,oL 3 55 54,oM 4 56 1,oA 5 57 5 55 56,oD1 6 58 1384 57,oM 7 9 58]
def qHI:List qB:=[oM 0 59 0,oU 1 60 6,oX 2 61 6 1,oU 3 62 6,oX 4 63 6 3,oM 5 64 0,oK 6 65 64,oF 7 66 0 65,oL 8 67 66,oM 9 68 1,oA 10 69 5 67 68,oF 11 70 2 69,oL 12 71 70,oA 13 72 1 63 71,oL 14 73 72,oP 15 74 (.call 949 [.t 59,.c (.int .i64 12),.t 61,.t 73,.c (.nils),.c (.int .i64 1)]),oM 16 10 74]
def qHJ:List qB:=[oM 0 75 10,oP 1 76 (.call 952 [.t 75,.c (.int .i64 0)]),oP 2 11 (.lalloc (.agg [.int .i64 0,.int .i64 0])),oS 3 11 0 2 76]
def qG9:List qB:=[oM 0 82 0,oU 1 83 6,oX 2 84 6 1,oP 3 85 (.call 949 [.t 82,.c (.int .i64 3),.t 84,.c (.int .i64 0),.c (.nils),.c (.int .i64 3)]),oM 4 13 85]
def qHA:List qB:=[oM 0 86 0,oY 1 87 11 0 2,oM 2 88 13,oP 3 89 (.call 952 [.t 88,.c (.int .i64 0)]),oP 4 90 (.call 491 [.t 86,.t 87,.t 89])]
def qHB:List qB:=[oM 0 91 0,oM 1 92 1,oM 2 93 12,oD2 3 94 952 92 93,oM 4 95 13,oP 5 96 (.call 952 [.t 95,.c (.int .i64 1)]),oP 6 97 (.call 1300 [.t 91,.t 94,.t 96])]
def qG4:qL:=.seq (.blk 1 (sr qG9 (sr qHA (sr qHB (.reg true [oM 0 98 13,oP 1 99 (.call 952 [.t 98,.c (.int .i64 2)]),oS 2 11 0 2 99]))))) (.reg true [oM 0 80 12,oE 1 81 .add 80 1,oM 2 12 81])
def qHC:List qB:=[oM 0 100 0,oM 1 101 2,oY 3 103 11 0 2,oP 2 102 (.call 952 [.t 101,.c (.int .i64 1)]),oP 4 104 (.call 1300 [.t 100,.t 102,.t 103])]
def qG5:qL:=.seq (sr [oC 0 12 1] (.blk 0 (.loop (.seq (sr [oM 0 77 12,oM 1 78 9,oB 2 79 .leq 77 78] (.cond (.t 79) .skip (.exit 0))) qG4)))) (.reg true qHC)
def Ut:qP:=⟨3,105,[],sr qG7 (.seq qG6 (sr qHH (sr qHI (sr qHJ qG5))))⟩
def qHM:List qB:=[oM 0 14 1,oK 1 15 14,oF 2 16 0 15,oL 3 17 16,oM 4 18 2,oA 5 19 5 17 18,oF 6 20 1 19,oL 7 21 20,oM 8 8 21]
def qHN:List qB:=[oM 0 22 1,oK 1 23 22,oF 2 24 0 23,oL 3 25 24,oW 4 26 25,oE 5 27 .sub 26 1,oM 6 9 27]
def qHQ:List qB:=[oM 0 28 10,oM 1 29 0,oK 2 30 29,oF 3 31 0 30,oL 4 32 31,oW 5 33 32,oB 6 34 .lss 28 33]
def qHR:List qB:=[oM 0 37 0,oK 1 38 37,oF 2 39 0 38,oL 3 40 39,oM 4 41 10,oA 5 42 5 40 41,oD1 6 43 837 42,oP 7 11 (.lalloc (.agg [.int .i64 0,.int .i64 0,.int .i64 0,.nils,.nils])),oS 8 11 0 5 43]
def qHS:List qB:=[oU 0 47 11,oX 1 48 11 1,oM 2 49 8,oB 3 50 .add 48 49,oU 4 51 11,oS 5 11 1 1 50]
def qHT:List qB:=[oM 0 52 12,oU 1 53 11,oX 2 54 11 4,oW 3 55 54,oB 4 56 .lss 52 55]
def qHU:List qB:=[oU 0 59 11,oX 1 60 11 4,oM 2 61 12,oA 3 62 2 60 61,oF 4 63 0 62,oL 5 64 63,oM 6 65 9,oB 7 66 .add 64 65,oA 8 67 2 60 61,oF 9 68 0 67,oT 10 1 68 66]
def qHK:qL:=sr [oC 0 12 0] (.blk 2 (.loop (.seq (sr qHT (.cond (.t 56) .skip (.exit 2))) (.seq (.blk 3 (.reg true qHU)) (.reg true [oM 0 57 12,oE 1 58 .add 57 1,oM 2 12 58])))))
def qHV:List qB:=[oM 0 69 1,oM 1 70 1,oK 2 71 70,oF 3 72 0 71,oL 4 73 72,oY 5 74 11 0 5,oP 6 75 (.bslice 5 (.agg [.int .i64 0,.int .i64 0,.int .i64 0,.nils,.nils]) 1 [(0,.t 74)]),oP 7 76 (.app 5 (.t 73) (.t 75)),oK 8 77 69,oF 9 78 0 77,oT 10 1 78 76]
def qHL:qL:=.seq (.blk 1 (sr qHR (.seq (sr [oU 0 44 11,oX 1 45 11 0,oD1 2 46 1372 45] (.cond (.t 46) (.reg true qHS) .skip)) (.seq qHK (.reg true qHV))))) (.reg true [oM 0 35 10,oE 1 36 .add 35 1,oM 2 10 36])
def qHO:List qB:=[oM 0 79 0,oK 1 80 79,oF 2 81 0 80,oL 3 82 81,oP 4 83 (.iaddr 5 (.t 82) (.c (.int .i64 0))),oF 5 84 4 83,oL 6 85 84,oP 7 86 (.iaddr 2 (.t 85) (.c (.int .i64 0))),oP 8 87 (.load (some 2) (.t 86)),oP 9 13 (.lalloc (.agg [.int .i64 0,.int .i64 0])),oS 10 13 0 2 87]
def qHP:List qB:=[oM 0 88 1,oM 1 89 9,oU 2 90 13,oX 3 91 13 0,oB 4 92 .add 89 91,oU 5 93 13,oX 6 94 13 1,oD2 7 95 952 92 94,oM 8 96 3,oP 9 97 (.call 952 [.t 96,.c (.int .i64 0)]),oP 10 98 (.call 491 [.t 88,.t 95,.t 97])]
def Uu:qP:=⟨4,99,[],sr qHM (sr qHN (.seq (sr [oC 0 10 1] (.blk 0 (.loop (.seq (sr qHQ (.cond (.t 34) .skip (.exit 0))) qHL)))) (sr qHO (.reg true qHP))))⟩
def qHW:List qB:=[oM 0 4 0,oK 1 5 4,oF 2 6 0 5,oL 3 7 6,oM 4 8 1,oP 5 9 (.build (.agg [.int .i64 0,.int .i64 0,.int .i64 0,.nils,.nils]) []),oA 6 10 5 7 8,oT 7 5 10 9]
def XU:qP:=⟨2,11,[],.reg true qHW⟩
def qXR:List qB:=[oM 0 16 0,oM 1 17 1,oM 2 18 2,oM 3 19 3,oP 4 20 (.call 1296 [.t 16,.t 17,.t 18,.t 19]),oM 5 15 20,oV 6 21 15 0,oV 7 22 15 1,oM 8 9 21,oM 9 10 22]
def qXS:List qB:=[oM 0 26 1,oD1 1 27 1297 26,oM 2 28 9,oB 3 29 .add 27 28,oE 4 30 .gtr 29 600]
def qXW:List qB:=[oM 0 32 1,oM 1 33 2,oM 2 34 3,oP 3 35 (.call 743 [.t 32,.t 33,.t 34]),oM 4 31 35,oV 5 36 31 0,oV 6 37 31 1,oM 7 2 36,oM 8 3 37]
def qXX:List qB:=[oM 0 38 1,oK 1 39 38,oF 2 40 0 39,oL 3 41 40,oM 4 42 2,oA 5 43 5 41 42,oM 6 44 1,oK 7 45 44,oF 8 46 0 45,oL 9 47 46,oM 10 48 3,oA 11 49 5 47 48,oD2 12 50 744 43 49,oM 13 11 50]
def qXY:List qB:=[oM 0 55 1,oM 1 56 2,oP 2 57 (.call 952 [.t 56,.c (.int .i64 1)]),oM 3 58 3,oP 4 59 (.call 952 [.t 58,.c (.int .i64 1)]),oP 5 60 (.call 1298 [.t 55,.t 57,.t 59])]
def qXZ:List qB:=[oM 0 61 1,oM 1 62 2,oP 2 63 (.call 952 [.t 62,.c (.int .i64 2)]),oM 3 64 3,oP 4 65 (.call 952 [.t 64,.c (.int .i64 2)]),oP 5 66 (.call 1298 [.t 61,.t 63,.t 65])]
def qX0:List qB:=[oM 0 69 1,oM 1 70 2,oM 2 71 3,oP 3 72 (.call 1299 [.t 69,.t 70,.t 71])]
def qX1:List qB:=[oM 0 75 1,oK 1 76 75,oF 2 77 0 76,oL 3 78 77,oM 4 79 3,oA 5 80 5 78 79,oF 6 81 4 80,oL 7 82 81,oW 8 83 82,oM 9 12 83]
def qX2:List qB:=[oM 0 91 1,oM 1 92 3,oM 2 93 13,oD2 3 94 952 92 93,oM 4 95 14,oP 5 96 (.call 952 [.t 95,.c (.int .i64 0)]),oP 6 97 (.call 1300 [.t 91,.t 94,.t 96])]
def qXQ:qL:=.seq (.blk 2 (sr [oM 0 89 1,oP 1 90 (.call 949 [.t 89,.c (.int .i64 5),.c (.int .i64 0),.c (.int .i64 0),.c (.nils),.c (.int .i64 1)]),oM 2 14 90] (.reg true qX2))) (.reg true [oM 0 87 13,oE 1 88 .add 87 1,oM 2 13 88])
def qXL:qL:=sr qX1 (sr [oC 0 13 1] (.blk 1 (.loop (.seq (sr [oM 0 84 13,oM 1 85 12,oB 2 86 .lss 84 85] (.cond (.t 86) .skip (.exit 1))) qXQ))))
def qXT:List qB:=[oM 0 100 1,oM 1 101 2,oM 2 102 3,oP 3 103 (.call 1301 [.t 100,.t 101,.t 102])]
def qXU:List qB:=[oM 0 106 1,oM 1 107 2,oM 2 108 3,oP 3 109 (.call 1302 [.t 106,.t 107,.t 108])]
def qXV:List qB:=[oM 0 112 0,oM 1 113 1,oK 2 114 113,oF 3 115 0 114,oL 4 116 115,oM 5 117 2,oA 6 118 5 116 117,oF 7 119 2 118,oL 8 120 119,oA 9 121 1 112 120,oM 10 122 1,oM 11 123 2,oM 12 124 3,oP 13 125 (.call 1303 [.t 121,.t 122,.t 123,.t 124])]
def qXM:qL:=.cond (.t 98) (.reg true qXT) (sr [oE 0 105 .eql 51 6,oM 1 104 105] (.cond (.t 104) (.reg true qXU) (sr [oE 0 111 .eql 51 7,oM 1 110 111] (.cond (.t 110) (.reg true qXV) .skip))))
def qXN:qL:=sr [oE 0 68 .eql 51 3,oM 1 67 68] (.cond (.t 67) (.reg true qX0) (sr [oE 0 74 .eql 51 4,oM 1 73 74] (.cond (.t 73) qXL (sr [oE 0 99 .eql 51 5,oM 1 98 99] qXM))))
def qXO:qL:=sr [oM 0 51 11] (.blk 0 (.seq (sr [oE 0 53 .eql 51 1,oM 1 52 53] (.cond (.t 52) .skip (.reg true [oE 0 54 .eql 51 2,oM 1 52 54]))) (.cond (.t 52) (sr qXY (.reg true qXZ)) qXN)))
def qAA:qL:=.seq (sr [oM 0 129 11,oE 1 130 .neq 129 7] (.cond (.t 130) (.reg true [oM 0 131 1,oM 1 132 3,oD2 2 133 1304 131 132]) .skip)) (sr [oC 0 8 0] .ret)
def qXP:qL:=.seq (sr qXS (.cond (.t 30) (sr [oC 0 8 4] .ret) .skip)) (sr qXW (sr qXX (.seq qXO (sr [oM 0 126 1,oM 1 127 2,oD2 2 128 1304 126 127] qAA))))
def F979:qP:=⟨4,134,[.t 8],sr [oC 0 8 0] (sr qXR (.seq (sr [oM 0 23 10,oE 1 24 .neq 23 0] (.cond (.t 24) (sr [oM 0 25 10,oM 1 8 25] .ret) .skip)) qXP))⟩
def qX4:List qB:=[oM 0 12 0,oE 1 13 .eql 12 3,oM 2 14 13,oH 3 15 14 true 1,oG 4 16 14 true (.bin .lss (.t 15) (.c (.int .i64 2))),oPf 5 17 14 16,oM 6 11 17]
def qX5:List qB:=[oM 0 18 2,oU 1 19 9,oX 2 20 9 1,oU 3 21 9,oX 4 22 9 2,oP 5 23 (.build (.agg [.int .i64 0,.int .i64 0,.int .i64 0]) [(0,1,.t 18),(1,1,.t 20),(2,1,.t 22)]),oS 6 10 0 3 23]
def qX6:List qB:=[oM 0 27 2,oM 1 28 3,oM 2 29 1,oE 3 30 .add 29 1,oP 4 31 (.build (.agg [.int .i64 0,.int .i64 0,.int .i64 0]) [(0,1,.t 27),(1,1,.t 28),(2,1,.t 30)]),oS 5 10 0 3 31]
def qX3:qL:=.seq (.blk 0 (sr qX4 (.cond (.t 11) (sr qX5 .ret) (sr [oM 0 25 0,oE 1 26 .eql 25 7,oM 2 24 26] (.cond (.t 24) (sr qX6 .ret) .skip))))) (sr [oM 0 32 2,oP 1 33 (.build (.agg [.int .i64 0,.int .i64 0,.int .i64 0]) [(0,1,.t 32),(1,1,.c (.int .i64 (-1))),(2,1,.c (.int .i64 (-1)))]),oS 2 10 0 3 33] .ret)
def F980:qP:=⟨5,34,[.l 10 (some 3)],sr [oP 0 9 (.lbox 3 (.t 4)),oP 1 10 (.lalloc (.agg [.int .i64 0,.int .i64 0,.int .i64 0]))] qX3⟩
def qYB:List qB:=[oM 0 10 4,oM 1 11 0,oK 2 12 11,oF 3 13 0 12,oL 4 14 13,oW 5 15 14,oB 6 16 .lss 10 15]
def qYC:List qB:=[oM 0 19 2,oM 1 20 3,oP 2 21 (.bslice 1 (.int .i64 0) 1 [(0,.t 20)]),oP 3 22 (.app 1 (.t 19) (.t 21)),oM 4 2 22]
def qYF:List qB:=[oM 0 23 0,oK 1 24 23,oF 2 25 0 24,oL 3 26 25,oM 4 27 4,oA 5 28 5 26 27,oF 6 29 0 28,oL 7 30 29,oE 8 31 .neq 30 0]
def qX9:qL:=.seq (.blk 1 (sr qYC (sr qYF (.cond (.t 31) (.reg true [oM 0 32 3,oE 1 33 .add 32 1,oM 2 3 33]) .skip)))) (.reg true [oM 0 17 4,oE 1 18 .add 17 1,oM 2 4 18])
def qYG:List qB:=[oM 0 35 6,oM 1 36 0,oK 2 37 36,oF 3 38 0 37,oL 4 39 38,oW 5 40 39,oB 6 41 .lss 35 40]
def qYH:List qB:=[oM 0 44 0,oK 1 45 44,oF 2 46 0 45,oL 3 47 46,oM 4 48 6,oA 5 49 5 47 48,oF 6 50 0 49,oL 7 51 50,oE 8 52 .neq 51 0]
def qYI:List qB:=[oM 0 53 0,oK 1 54 53,oF 2 55 0 54,oL 3 56 55,oM 4 57 6,oA 5 58 5 56 57,oD1 6 59 837 58,oP 7 7 (.lalloc (.agg [.int .i64 0,.int .i64 0,.int .i64 0,.nils,.nils])),oS 8 7 0 5 59]
def qYJ:List qB:=[oM 0 60 8,oU 1 61 7,oX 2 62 7 4,oW 3 63 62,oB 4 64 .lss 60 63]
def qYK:List qB:=[oU 0 67 7,oX 1 68 7 4,oM 2 69 8,oM 3 70 2,oU 4 71 7,oX 5 72 7 4,oM 6 73 8,oA 7 74 2 72 73,oF 8 75 0 74,oL 9 76 75,oA 10 77 1 70 76,oL 11 78 77,oA 12 79 2 68 69,oF 13 80 0 79,oT 14 1 80 78]
def qYA:qL:=sr [oC 0 8 0] (.blk 4 (.loop (.seq (sr qYJ (.cond (.t 64) .skip (.exit 4))) (.seq (.blk 5 (.reg true qYK)) (.reg true [oM 0 65 8,oE 1 66 .add 65 1,oM 2 8 66])))))
def qYD:List qB:=[oM 0 81 5,oY 1 82 7 0 5,oP 2 83 (.bslice 5 (.agg [.int .i64 0,.int .i64 0,.int .i64 0,.nils,.nils]) 1 [(0,.t 82)]),oP 3 84 (.app 5 (.t 81) (.t 83)),oM 4 5 84]
def qX7:qL:=.loop (.seq (sr qYG (.cond (.t 41) .skip (.exit 2))) (.seq (.blk 3 (sr qYH (.cond (.t 52) (sr qYI (.seq qYA (.reg true qYD))) .skip))) (.reg true [oM 0 42 6,oE 1 43 .add 42 1,oM 2 6 43])))
def qYE:List qB:=[oM 0 85 0,oM 1 86 5,oK 2 87 85,oF 3 88 0 87,oT 4 1 88 86]
def qX8:qL:=.seq (sr [oC 0 4 0] (.blk 0 (.loop (.seq (sr qYB (.cond (.t 16) .skip (.exit 0))) qX9)))) (sr [oP 0 34 (.mov (.c (.lst 5 [] true))),oM 1 5 34] (.seq (sr [oC 0 6 0] (.blk 2 qX7)) (.reg true qYE)))
def F981:qP:=⟨1,89,[],sr [oP 0 9 (.mov (.c (.lst 1 [] true))),oM 1 2 9] (sr [oC 0 3 0] qX8)⟩
def qS4:List qB:=[oM 0 15 0,oD1 1 16 368 15,oM 2 14 16,oV 3 17 14 0,oV 4 18 14 1,oV 5 19 14 2,oV 6 20 14 3,oP 7 4 (.lalloc (.agg [.int .i64 0,.int .i64 0])),oM 8 3 17,oS 9 4 0 2 18,oM 10 5 19,oM 11 6 20]
def qS5:List qB:=[oM 0 23 0,oK 1 24 23,oF 2 25 3 24,oL 3 26 25,oE 4 27 .geq 26 4000]
def qTB:List qB:=[oM 0 28 0,oY 1 29 4 0 2,oM 2 30 5,oP 3 31 (.call 369 [.t 28,.t 29,.t 30]),oM 4 7 31]
def qTC:List qB:=[oM 0 32 0,oK 1 33 32,oF 2 34 5 33,oL 3 35 34,oU 4 36 4,oX 5 37 4 1,oA 6 38 3 35 37,oP 7 39 (.load (some 3) (.t 38)),oP 8 8 (.lalloc (.agg [.int .i64 0,.int .i64 0,.int .i64 0])),oS 9 8 0 3 39]
def qTD:List qB:=[oM 0 40 0,oK 1 41 40,oF 2 42 4 41,oD1 3 43 489 42,oP 4 9 (.halloc 1 (.agg [.nils])),oT 5 1 9 43]
def qTE:List qB:=[oM 0 44 0,oK 1 45 44,oF 2 46 0 45,oL 3 47 46,oU 4 48 4,oX 5 49 4 0,oU 6 50 4,oX 7 51 4 1,oP 8 52 (.call 979 [.t 47,.t 9,.t 49,.t 51]),oM 9 10 52]
def qTF:List qB:=[oM 0 56 0,oK 1 57 56,oF 2 58 3 57,oL 3 59 58,oE 4 60 .add 59 1,oK 5 61 56,oF 6 62 3 61,oT 7 1 62 60]
def qTG:List qB:=[oM 0 64 12,oF 1 65 0 9,oL 2 66 65,oW 3 67 66,oB 4 68 .lss 64 67]
def qTH:List qB:=[oF 0 71 0 9,oL 1 72 71,oM 2 73 12,oA 3 74 5 72 73,oF 4 75 0 74,oL 5 76 75,oE 6 77 .eql 76 0]
def qTI:List qB:=[oM 0 78 12,oM 1 79 0,oK 2 80 79,oF 3 81 5 80,oL 4 82 81,oW 5 83 82,oB 6 84 .lss 78 83]
def qS6:List qB:=[oM 0 85 11,oM 1 86 0,oK 2 87 86,oF 3 88 5 87,oL 4 89 88,oM 5 90 12,oA 6 91 3 89 90,oP 7 92 (.load (some 3) (.t 91)),oP 8 93 (.bslice 3 (.agg [.int .i64 0,.int .i64 0,.int .i64 0]) 1 [(0,.t 92)]),oP 9 94 (.app 3 (.t 85) (.t 93)),oM 10 11 94]
def qS7:List qB:=[oM 0 95 11,oM 1 96 5,oM 2 97 12,oM 3 98 0,oK 4 99 98,oF 5 100 5 99,oL 6 101 100,oW 7 102 101,oB 8 103 .sub 97 102,oM 9 104 0,oK 10 105 104,oF 11 106 3 105,oL 12 107 106,oM 13 108 7,oY 14 109 8 0 3,oP 15 110 (.call 980 [.t 96,.t 103,.t 107,.t 108,.t 109]),oP 16 111 (.bslice 3 (.agg [.int .i64 0,.int .i64 0,.int .i64 0]) 1 [(0,.t 110)]),oP 17 112 (.app 3 (.t 95) (.t 111)),oM 18 11 112]
def qS0:qL:=.seq (sr qTG (.cond (.t 68) .skip (.exit 0))) (.seq (.blk 1 (.seq (sr qTH (.cond (.t 77) (.exit 1) .skip)) (sr qTI (.cond (.t 84) (.reg true qS6) (.reg true qS7))))) (.reg true [oM 0 69 12,oE 1 70 .add 69 1,oM 2 12 70]))
def qS8:List qB:=[oM 0 114 0,oP 1 115 (.load (some 1) (.t 9)),oK 2 116 114,oF 3 117 4 116,oT 4 1 117 115]
def qS9:List qB:=[oM 0 118 0,oM 1 119 11,oK 2 120 118,oF 3 121 5 120,oT 4 1 121 119]
def kT:List qB:=[oM 0 122 0,oK 1 123 122,oF 2 124 3 123,oL 3 125 124,oM 4 126 0,oK 5 127 126,oF 6 128 2 127,oL 7 129 128,oB 8 130 .rem 125 129,oE 9 131 .eql 130 0,oM 10 132 131,oH 11 133 132 true 0,oG 12 134 132 true (.nilchk (.t 133)),oG 13 135 132 true (.faddr 7 (.t 134)),oG 14 136 132 true (.load none (.t 135)),oG 15 137 132 true (.len (.t 136)),oH 16 138 132 true 0,oG 17 139 132 true (.nilchk (.t 138)),oG 18 140 132 true (.faddr 3 (.t 139)),oG 19 141 132 true (.load none (.t 140)),oH 20 142 132 true 0,oG 21 143 132 true (.nilchk (.t 142)),oG 22 144 132 true (.faddr 2 (.t 143)),oG 23 145 132 true (.load none (.t 144)),oG 24 146 132 true (.bin .quo (.t 141) (.t 145)),oG 25 147 132 true (.bin .eql (.t 137) (.t 146)),oPf 26 148 132 147]
def kU:List qB:=[oM 0 149 0,oK 1 150 149,oF 2 151 3 150,oL 3 152 151,oP 4 153 (.load (some 1) (.t 9)),oM 5 154 11,oP 6 155 (.build (.agg [.int .i64 0,.nils,.nils]) [(0,1,.t 152),(1,1,.t 153),(2,1,.t 154)]),oP 7 13 (.halloc 3 (.agg [.int .i64 0,.nils,.nils])),oT 8 3 13 155]
def qTA:List qB:=[oM 0 156 0,oM 1 157 0,oK 2 158 157,oF 3 159 7 158,oL 4 160 159,⟨5,some 161,none,.call 795 [.t 13],[⟨4,some 160,none,.load none (.t 159),[]⟩]⟩,oP 6 162 (.bslice 3 (.agg [.int .i64 0,.nils,.nils]) 1 [(0,.t 161)]),oP 7 163 (.app 3 (.t 160) (.t 162)),oK 8 164 156,oF 9 165 7 164,oT 10 1 165 163]
def qS1:qL:=sr [oD1 0 113 981 9] (sr qS8 (sr qS9 (.seq (sr kT (.cond (.t 148) (sr kU (.reg true qTA)) .skip)) (sr [oC 0 2 0] .ret))))
def qS2:qL:=.seq (sr [oM 0 53 10,oE 1 54 .neq 53 0] (.cond (.t 54) (sr [oM 0 55 10,oM 1 2 55] .ret) .skip)) (sr qTF (sr [oP 0 63 (.mov (.c (.lst 3 [] true))),oM 1 11 63] (.seq (sr [oC 0 12 0] (.blk 0 (.loop qS0))) qS1)))
def qS3:qL:=.seq (sr [oM 0 21 6,oJ 1 22 21] (.cond (.t 22) (sr [oC 0 2 3] .ret) .skip)) (.seq (sr qS5 (.cond (.t 27) (sr [oC 0 2 12] .ret) .skip)) (sr qTB (sr qTC (sr qTD (sr qTE qS2)))))
def kS:qP:=⟨1,166,[.t 2],sr [oC 0 2 0] (sr qS4 qS3)⟩
def qNE:List qB:=[oP 0 2 (.hbox 8 (.t 0)),oP 1 4 (.lalloc (.agg [.nils,.nils,.int .i64 0,.int .i64 0,.nils,.nils,.nils,.nils])),oC 2 5 0,oC 3 6 0]
def qNF:List qB:=[oP 0 16 (.build (.agg [.nils,.nils,.int .i64 0,.int .i64 0,.nils,.nils,.nils,.nils]) []),oS 1 4 0 8 16,oC 2 5 0,oC 3 6 1]
def qNG:List qB:=[oP 0 20 (.build (.agg [.nils,.nils,.int .i64 0,.int .i64 0,.nils,.nils,.nils,.nils]) []),oS 1 4 0 8 20,oC 2 5 0,oC 3 6 2]
def qNH:List qB:=[oM 0 22 8,oM 1 23 1,oB 2 24 .lss 22 23,oM 3 25 24,oH 4 26 25 true 8,oG 5 27 25 true (.bin .eql (.t 26) (.c (.int .i64 0))),oH 6 28 25 true 27,oG 7 29 28 false (.call 393 [.t 7]),oG 8 30 28 false (.bin .lss (.t 29) (.c (.int .i64 0))),oG 9 31 25 true (.pick (.t 28) (.c (.bool true)) (.t 30)),oPf 10 32 25 31]
def qNI:List qB:=[oD1 0 34 368 7,oM 1 33 34,oV 2 35 33 0,oV 3 36 33 1,oV 4 37 33 2,oV 5 38 33 3,oP 6 10 (.lalloc (.agg [.int .i64 0,.int .i64 0])),oM 7 9 35,oS 8 10 0 2 36,oM 9 11 37,oM 10 12 38]
def qNJ:List qB:=[oP 0 41 (.load (some 8) (.t 7)),oM 1 42 8,oS 2 4 0 8 41,oM 3 5 42,oC 4 6 0]
def qNK:List qB:=[oP 0 46 (.build (.agg [.nils,.nils,.int .i64 0,.int .i64 0,.nils,.nils,.nils,.nils]) []),oM 1 47 13,oS 2 4 0 8 46,oC 3 5 0,oM 4 6 47]
def qNC:qL:=sr [oD1 0 43 607 7,oM 1 13 43] (.seq (sr [oM 0 44 13,oE 1 45 .neq 44 0] (.cond (.t 45) (sr qNK .ret) .skip)) (.reg true [oM 0 48 8,oE 1 49 .add 48 1,oM 2 8 49]))
def qNL:List qB:=[oP 0 50 (.load (some 8) (.t 7)),oM 1 51 8,oS 2 4 0 8 50,oM 3 5 51,oC 4 6 0]
def qND:qL:=.seq (.blk 0 (.loop (.seq (sr qNH (.cond (.t 32) .skip (.exit 0))) (.blk 1 (sr qNI (.seq (sr [oM 0 39 12,oJ 1 40 39] (.cond (.t 40) (sr qNJ .ret) .skip)) qNC)))))) (sr qNL .ret)
def qNB:qL:=.seq (sr [oM 0 17 1,oP 1 18 (.call 340 [.t 17,.c (.int .i64 0),.c (.int .i64 4000)]),oJ 2 19 18] (.cond (.t 19) (sr qNG .ret) .skip)) (sr [oD1 0 21 427 2,oP 1 7 (.halloc 8 (.agg [.nils,.nils,.int .i64 0,.int .i64 0,.nils,.nils,.nils,.nils])),oT 2 8 7 21] (sr [oC 0 8 0] qND))
def Ki:qP:=⟨2,52,[.l 4 (some 8),.t 5,.t 6],sr qNE (.seq (sr [oD1 0 14 367 2,oJ 1 15 14] (.cond (.t 15) (sr qNF .ret) .skip)) qNB)⟩
def qYL:List qB:=[oY 0 5 3 0 1,oD1 1 6 798 5,oM 2 7 0,oP 3 8 (.mkmap),oP 4 9 (.build (.agg [.nils,.nils,.nilm]) [(0,1,.t 6),(1,1,.t 7),(2,1,.t 8)]),oP 5 10 (.hbox 3 (.t 9)),oM 6 4 10]
def F982:qP:=⟨2,11,[.t 4],sr [oP 0 3 (.lbox 1 (.t 1)),oP 1 4 (.mov (.c (.nilp)))] (sr qYL .ret)⟩
def qL4:List qB:=[oY 0 9 2 0 1,oD1 1 10 798 9,oP 2 6 (.lalloc (.agg [.nils])),oS 3 6 0 1 10]
def qL5:List qB:=[oU 0 11 6,oX 1 12 6 0,oW 2 13 12,oC 3 14 0]
def qL6:List qB:=[oU 0 17 6,oX 1 18 6 0,oM 2 19 7,oA 3 20 5 18 19,oM 4 8 20]
def qL7:List qB:=[oM 0 21 8,oK 1 22 21,oF 2 23 0 22,oL 3 24 23,oD1 4 25 1375 24,oJ 5 26 25]
def qL8:List qB:=[oM 0 27 8,oK 1 28 27,oF 2 29 1 28,oL 3 30 29,oM 4 31 1,oB 5 32 .add 30 31,oK 6 33 27,oF 7 34 1 33,oT 8 1 34 32]
def qL9:List qB:=[oM 0 35 8,oK 1 36 35,oF 2 37 1 36,oL 3 38 37,oE 4 39 .gtr 38 8]
def qL2:qL:=sr [oM 0 16 14,oM 1 7 16] (sr qL6 (.seq (sr qL7 (.cond (.t 26) (.exit 1) .skip)) (sr qL8 (sr qL9 (.cond (.t 39) (sr [oP 0 40 (.build (.agg [.nils]) []),oS 1 4 0 1 40,oQ 2 5 false] .ret) .skip)))))
def qL3:qL:=.seq (sr qL5 (.blk 0 (.loop (sr [oB 0 15 .lss 14 13] (.seq (.cond (.t 15) .skip (.exit 0)) (.seq (.blk 1 qL2) (.reg true [oE 0 41 .add 14 1,oM 1 14 41]))))))) (sr [oY 0 42 6 0 1,oS 1 4 0 1 42,oQ 2 5 true] .ret)
def KP:qP:=⟨2,43,[.l 4 (some 1),.t 5],sr [oP 0 2 (.lbox 1 (.t 0)),oP 1 4 (.lalloc (.agg [.nils])),oQ 2 5 false] (sr qL4 qL3)⟩
def qHZ:List qB:=[oP 0 3 (.lbox 2 (.t 1)),oC 1 4 0,oC 2 5 0,oC 3 6 0,oC 4 7 0]
def qH0:List qB:=[oM 0 13 0,oK 1 14 13,oF 2 15 0 14,oY 3 16 3 0 2,oD2 4 17 751 15 16,oM 5 12 17,oV 6 18 12 0,oV 7 19 12 1,oM 8 4 18,oM 9 8 19]
def qH2:List qB:=[oU 0 20 3,oX 1 21 3 0,oU 2 22 3,oX 3 23 3 1,oM 4 5 21,oM 5 6 23]
def qH3:List qB:=[oM 0 25 6,oM 1 26 5,oM 2 5 25,oM 3 6 26]
def qH4:List qB:=[oC 0 4 0,oC 1 5 0,oC 2 6 0,oC 3 7 11]
def qH5:List qB:=[oM 0 32 0,oK 1 33 32,oF 2 34 0 33,oF 3 35 0 34,oL 4 36 35,oM 5 37 5,oA 6 38 5 36 37,oP 7 39 (.load (some 5) (.t 38)),oP 8 9 (.lalloc (.agg [.int .i64 0,.int .i64 0,.int .i64 0,.nils,.nils])),oS 9 9 0 5 39]
def qH6:List qB:=[oU 0 40 9,oX 1 41 9 2,oM 2 42 0,oK 3 43 42,oF 4 44 1 43,oL 5 45 44,oW 6 46 45,oB 7 47 .geq 41 46]
def qH7:List qB:=[oC 0 4 0,oC 1 5 0,oC 2 6 0,oC 3 7 3]
def qH8:List qB:=[oM 0 49 0,oK 1 50 49,oF 2 51 1 50,oL 3 52 51,oU 4 53 9,oX 5 54 9 2,oA 6 55 1 52 54,oP 7 56 (.load (some 1) (.t 55)),oU 8 57 9,oX 9 58 9 1,oP 14 10 (.lalloc (.agg [.nils])),oD2 10 59 1456 56 58,oM 11 48 59,oV 12 60 48 0,oV 13 61 48 1,oS 15 10 0 1 60,oM 16 11 61]
def qH9:List qB:=[oC 0 4 0,oC 1 5 0,oC 2 6 0,oC 3 7 9]
def qHX:qL:=sr [oE 0 31 .eql 27 7,oM 1 30 31] (.cond (.t 30) (sr qH5 (.seq (sr qH6 (.cond (.t 47) (sr qH7 .ret) .skip)) (sr qH8 (sr [oM 0 62 11,oJ 1 63 62] (.cond (.t 63) (sr qH9 .ret) .skip))))) .skip)
def qH1:List qB:=[oM 0 64 4,oM 1 65 5,oM 2 66 6,oM 3 4 64,oM 4 5 65,oM 5 6 66,oC 6 7 0]
def qHY:qL:=.seq (sr [oM 0 24 8] (.cond (.t 24) (.reg true qH3) .skip)) (.seq (sr [oM 0 27 4] (.blk 0 (sr [oE 0 29 .eql 27 8,oM 1 28 29] (.cond (.t 28) (sr qH4 .ret) qHX)))) (sr qH1 .ret))
def Uv:qP:=⟨2,67,[.t 4,.t 5,.t 6,.t 7],sr qHZ (sr qH0 (sr qH2 qHY))⟩
def qIA:List qB:=[oM 0 3 0,oK 1 4 3,oF 2 5 0 4,oF 3 6 0 5,oL 4 7 6,oW 5 8 7,oM 6 9 0,oK 7 10 9,oF 8 11 2 10,oL 9 12 11,oP 10 13 (.mlen (.t 12)),oB 11 14 .sub 8 13,oM 12 2 14]
def Uw:qP:=⟨1,15,[.t 2],sr [oC 0 2 0] (sr qIA .ret)⟩
def qMH:qL:=sr [oE 0 22 .eql 9 7,oM 1 21 22] (.cond (.t 21) (.reg true [oC 0 6 2,oC 1 7 600,oP 2 8 (.mov (.c (.int .i64 (-2))))]) (sr [oC 0 4 0,oC 1 5 2] .ret))
def qMI:qL:=sr [oE 0 18 .eql 9 5,oM 1 17 18] (.cond (.t 17) (.reg true [oP 0 8 (.mov (.c (.int .i64 (-1))))]) (sr [oE 0 20 .eql 9 6,oM 1 19 20] (.cond (.t 19) (.reg true [oC 0 7 3,oP 1 8 (.mov (.c (.int .i64 (-1))))]) qMH)))
def qMJ:qL:=sr [oE 0 14 .eql 9 3,oM 1 13 14] (.cond (.t 13) (.reg true [oC 0 7 3]) (sr [oE 0 16 .eql 9 4,oM 1 15 16] (.cond (.t 15) (.reg true [oC 0 7 3,oP 1 8 (.mov (.c (.int .i64 (-2))))]) qMI)))
def qMK:qL:=sr [oM 0 9 0] (.blk 0 (.seq (sr [oE 0 11 .eql 9 1,oM 1 10 11] (.cond (.t 10) .skip (.reg true [oE 0 12 .eql 9 2,oM 1 10 12]))) (.cond (.t 10) (.reg true [oP 0 8 (.mov (.c (.int .i64 (-2))))]) qMJ)))
def qMM:List qB:=[oM 0 23 1,oM 1 24 6,oB 2 25 .lss 23 24,oM 3 26 25,oH 4 27 26 false 1,oH 5 28 26 false 7,oG 6 29 26 false (.bin .gtr (.t 27) (.t 28)),oPt 7 30 26 29]
def qMN:List qB:=[oM 0 31 1,oM 1 32 8,oB 2 33 .add 31 32,oM 3 4 33,oC 4 5 0]
def qML:qL:=sr [oC 0 6 0,oC 1 7 0,oC 2 8 0] (.seq qMK (.seq (sr qMM (.cond (.t 30) (sr [oC 0 4 0,oC 1 5 2] .ret) .skip)) (sr qMN .ret)))
def KR:qP:=⟨2,34,[.t 4,.t 5],sr [oC 0 4 0,oC 1 5 0] qML⟩
def qID:List qB:=[oM 0 16 0,oK 1 17 16,oF 2 18 0 17,oF 3 19 0 18,oL 4 20 19,oM 5 21 3,oA 6 22 5 20 21,oF 7 23 4 22,oL 8 24 23,oW 9 25 24,oE 10 26 .sub 25 1,oM 11 9 26]
def qIE:List qB:=[oM 0 29 0,oK 1 30 29,oF 2 31 0 30,oF 3 32 0 31,oL 4 33 32,oM 5 34 2,oA 6 35 5 33 34,oF 7 36 0 35,oL 8 37 36,oE 9 38 .eql 37 9]
def qIF:List qB:=[oM 0 39 0,oK 1 40 39,oF 2 41 0 40,oF 3 42 0 41,oL 4 43 42,oM 5 44 2,oA 6 45 5 43 44,oF 7 46 4 45,oL 8 47 46,oW 9 48 47,oE 10 49 .sub 48 1,oM 11 9 49]
def qIG:List qB:=[oM 0 52 0,oK 1 53 52,oF 2 54 1 53,oL 3 55 54,oM 4 56 0,oK 5 57 56,oF 6 58 0 57,oF 7 59 0 58,oL 8 60 59,oM 9 61 2,oA 10 62 5 60 61,oF 11 63 2 62,oL 12 64 63,oA 13 65 1 55 64,oF 14 66 0 65,oL 15 67 66,oW 16 68 67,oM 17 9 68]
def qIB:qL:=sr [oE 0 28 .eql 12 6,oM 1 27 28] (.cond (.t 27) (sr qIE (.cond (.t 38) (.reg true qIF) .skip)) (sr [oE 0 51 .eql 12 7,oM 1 50 51] (.cond (.t 50) (.reg true qIG) .skip)))
def qIC:qL:=sr [oM 0 12 1] (.blk 0 (.seq (sr [oE 0 14 .eql 12 3,oM 1 13 14] (.cond (.t 13) .skip (.reg true [oE 0 15 .eql 12 4,oM 1 13 15]))) (.cond (.t 13) (.reg true qID) qIB)))
def qIH:List qB:=[oM 0 70 1,oM 1 71 9,oD2 2 72 1461 70 71,oM 3 69 72,oV 4 73 69 0,oV 5 74 69 1,oM 6 10 73,oM 7 11 74]
def Ux:qP:=⟨4,76,[.t 8],sr [oC 0 8 0] (sr [oC 0 9 0] (.seq qIC (sr qIH (sr [oM 0 75 10,oM 1 8 75] .ret))))⟩
def qFV:List qB:=[oM 0 6 0,oK 1 7 6,oF 2 8 0 7,oL 3 9 8,oU 4 10 4,oX 5 11 4 0,oA 6 12 5 9 11,oF 7 13 4 12,oL 8 14 13,oU 9 15 4,oX 10 16 4 1,oY 11 17 5 0 2,oA 12 18 2 14 16,oT 13 2 18 17]
def qFW:List qB:=[oM 0 19 0,oK 1 20 19,oF 2 21 0 20,oL 3 22 21,oU 4 23 5,oX 5 24 5 0,oA 6 25 5 22 24,oF 7 26 4 25,oL 8 27 26,oU 9 28 5,oX 10 29 5 1,oY 11 30 4 0 2,oA 12 31 2 27 29,oT 13 2 31 30]
def Um:qP:=⟨3,32,[],sr [oP 0 4 (.lbox 2 (.t 1)),oP 1 5 (.lbox 2 (.t 2))] (sr qFV (.reg true qFW))⟩
def qII:List qB:=[oM 0 8 0,oK 1 9 8,oF 2 10 0 9,oY 3 11 4 0 2,oM 5 13 0,oK 6 14 13,oF 7 15 0 14,oY 8 16 5 0 2,oP 10 6 (.lalloc (.agg [.int .i64 0,.int .i64 0])),oP 11 7 (.lalloc (.agg [.int .i64 0,.int .i64 0])),oD2 4 12 555 10 11,oD2 9 17 555 15 16,oS 12 6 0 2 12,oS 13 7 0 2 17]
def qIJ:List qB:=[oM 0 21 0,oK 1 22 21,oF 2 23 0 22,oY 3 24 6 0 2,oY 4 25 7 0 2,oP 5 26 (.call 1196 [.t 23,.t 24,.t 25])]
def Uy:qP:=⟨3,27,[],sr [oP 0 4 (.lbox 2 (.t 1)),oP 1 5 (.lbox 2 (.t 2))] (sr qII (sr [oY 0 18 6 0 2,oY 1 19 5 0 2,oP 2 20 (.seq true [1,1] (.t 18) (.t 19))] (.cond (.t 20) (.reg true qIJ) .skip)))⟩
def qIZ:List qB:=[oM 0 6 0,oK 1 7 6,oF 2 8 0 7,oM 3 9 0,oK 4 10 9,oF 5 11 0 10,oY 6 12 4 0 2,oY 8 14 5 0 2,oD2 7 13 555 11 12,oP 9 15 (.call 1196 [.t 8,.t 13,.t 14])]
def U0:qP:=⟨3,16,[],sr [oP 0 4 (.lbox 2 (.t 1)),oP 1 5 (.lbox 2 (.t 2))] (.reg true qIZ)⟩
def qI0:List qB:=[oM 0 13 0,oM 1 14 0,oK 2 15 14,oF 3 16 0 15,oF 4 17 0 16,oL 5 18 17,oM 6 19 1,oM 7 20 2,oM 8 21 3,oM 9 22 4,oM 11 24 5,⟨10,some 23,none,.call 401 [.t 22],[⟨5,some 18,none,.load none (.t 17),[]⟩]⟩,oP 12 25 (.mksl 2 (.agg [.int .i64 0,.int .i64 0]) (.t 24) (.t 24)),oP 13 26 (.build (.agg [.int .i64 0,.int .i64 0,.int .i64 0,.nils,.nils]) [(0,1,.t 19),(1,1,.t 20),(2,1,.t 21),(3,1,.t 23),(4,1,.t 25)]),oP 14 27 (.bslice 5 (.agg [.int .i64 0,.int .i64 0,.int .i64 0,.nils,.nils]) 1 [(0,.t 26)]),oP 15 28 (.app 5 (.t 18) (.t 27)),oK 16 29 13,oF 17 30 0 29,oF 18 31 0 30,oT 19 1 31 28]
def qI1:List qB:=[oM 0 32 0,oK 1 33 32,oF 2 34 0 33,oF 3 35 0 34,oL 4 36 35,oW 5 37 36,oE 6 38 .sub 37 1,oM 7 12 38]
def U1:qP:=⟨6,39,[.t 12],sr [oC 0 12 0] (.seq (.reg false qI0) (sr qI1 .ret))⟩
def qIN:List qB:=[oM 0 14 0,oK 1 15 14,oF 2 16 0 15,oF 3 17 0 16,oL 4 18 17,oM 5 19 2,oA 6 20 5 18 19,oP 7 21 (.load (some 5) (.t 20)),oP 8 6 (.lalloc (.agg [.int .i64 0,.int .i64 0,.int .i64 0,.nils,.nils])),oS 9 6 0 5 21]
def qIO:List qB:=[oM 0 22 0,oU 1 23 6,oX 2 24 6 0,oU 3 25 6,oX 4 26 6 1,oU 5 27 6,oX 6 28 6 2,oU 7 29 6,oX 8 30 6 3,oU 9 31 6,oX 10 32 6 4,oW 11 33 32,oP 12 34 (.call 1311 [.t 22,.t 24,.t 26,.t 28,.t 30,.t 33]),oM 13 7 34]
def qIS:List qB:=[oM 0 35 0,oU 1 36 6,oX 2 37 6 0,oU 3 38 6,oX 4 39 6 1,oU 5 40 6,oX 6 41 6 2,oU 7 42 6,oX 8 43 6 3,oU 9 44 6,oX 10 45 6 4,oW 11 46 45,oP 12 47 (.call 1311 [.t 35,.t 37,.t 39,.t 41,.t 43,.t 46]),oM 13 8 47]
def qIT:List qB:=[oM 0 48 10,oU 1 49 6,oX 2 50 6 4,oW 3 51 50,oB 4 52 .lss 48 51]
def qIU:List qB:=[oM 0 55 0,oM 1 56 0,oK 2 57 56,oF 3 58 0 57,oF 4 59 0 58,oL 5 60 59,oM 6 61 1,oA 7 62 5 60 61,oF 8 63 1 62,oL 9 64 63,oP 10 65 (.call 1311 [.t 55,.c (.int .i64 4),.t 64,.c (.int .i64 0),.c (.nils),.c (.int .i64 3)]),oM 11 11 65]
def qIV:List qB:=[oM 0 66 0,oK 1 67 66,oF 2 68 0 67,oM 3 69 11,oP 4 70 (.build (.agg [.int .i64 0,.int .i64 0]) [(0,1,.t 69),(1,1,.c (.int .i64 1))]),oM 5 71 7,oM 6 72 10,oP 7 73 (.build (.agg [.int .i64 0,.int .i64 0]) [(0,1,.t 71),(1,1,.t 72)]),oP 8 74 (.call 1196 [.t 68,.t 70,.t 73])]
def qIW:List qB:=[oM 0 75 0,oK 1 76 75,oF 2 77 0 76,oM 3 78 11,oP 4 79 (.build (.agg [.int .i64 0,.int .i64 0]) [(0,1,.t 78),(1,1,.c (.int .i64 2))]),oM 5 80 8,oM 6 81 10,oP 7 82 (.build (.agg [.int .i64 0,.int .i64 0]) [(0,1,.t 80),(1,1,.t 81)]),oP 8 83 (.call 1196 [.t 77,.t 79,.t 82])]
def qIX:List qB:=[oM 0 84 9,oM 1 85 11,oP 2 86 (.bslice 1 (.int .i64 0) 1 [(0,.t 85)]),oP 3 87 (.app 1 (.t 84) (.t 86)),oM 4 9 87]
def qIM:qL:=.seq (sr qIT (.cond (.t 52) .skip (.exit 0))) (.seq (.blk 1 (sr qIU (sr qIV (sr qIW (.reg true qIX))))) (.reg true [oM 0 53 10,oE 1 54 .add 53 1,oM 2 10 54]))
def qIY:List qB:=[oM 0 88 0,oM 1 89 1,oP 2 90 (.build (.agg [.int .i64 0,.int .i64 0]) [(0,1,.t 89),(1,1,.c (.int .i64 1))]),oM 3 91 7,oP 4 92 (.build (.agg [.int .i64 0,.int .i64 0]) [(0,1,.t 91),(1,1,.c (.int .i64 0))]),oP 5 93 (.call 1310 [.t 88,.t 90,.t 92])]
def qIP:List qB:=[oM 0 94 0,oM 1 95 1,oP 2 96 (.build (.agg [.int .i64 0,.int .i64 0]) [(0,1,.t 95),(1,1,.c (.int .i64 2))]),oM 3 97 8,oP 4 98 (.build (.agg [.int .i64 0,.int .i64 0]) [(0,1,.t 97),(1,1,.c (.int .i64 0))]),oP 5 99 (.call 1310 [.t 94,.t 96,.t 98])]
def qIQ:List qB:=[oM 0 104 102,oA 1 105 1 100 102,oL 2 106 105,oM 3 12 104,oM 4 13 106]
def qIR:List qB:=[oM 0 107 0,oM 1 108 2,oM 2 109 12,oE 3 110 .add 109 1,oP 4 111 (.build (.agg [.int .i64 0,.int .i64 0]) [(0,1,.t 108),(1,1,.t 110)]),oM 5 112 13,oP 6 113 (.build (.agg [.int .i64 0,.int .i64 0]) [(0,1,.t 112),(1,1,.c (.int .i64 0))]),oP 7 114 (.call 1310 [.t 107,.t 111,.t 113])]
def qIK:qL:=.loop (sr [oB 0 103 .lss 102 101] (.seq (.cond (.t 103) .skip (.exit 2)) (.seq (.blk 3 (sr qIQ (.reg true qIR))) (.reg true [oE 0 115 .add 102 1,oM 1 102 115]))))
def qIL:qL:=.seq (sr [oC 0 10 1] (.blk 0 (.loop qIM))) (sr qIY (sr qIP (sr [oM 0 100 9,oW 1 101 100,oC 2 102 0] (.blk 2 qIK))))
def Uz:qP:=⟨3,116,[],sr qIN (sr qIO (sr qIS (sr [oP 0 9 (.mov (.c (.nils)))] qIL)))⟩
def kQ:qP:=⟨1,4,[.t 2],sr [oC 0 2 0] (.seq (sr [oM 0 3 0] (.cond (.t 3) (sr [oC 0 2 1] .ret) .skip)) (sr [oC 0 2 0] .ret))⟩
def qLX:List qB:=[oM 0 3 0,oP 1 4 (.conv .i32 (.t 3)),oP 2 5 (.conv .i64 (.t 4)),oM 3 2 5]
def KN:qP:=⟨1,6,[.t 2],sr [oC 0 2 0] (sr qLX .ret)⟩
def qFH:List qB:=[oM 0 9 1,oD1 1 10 1400 9,oM 2 11 2,oD1 3 12 1400 11,oM 4 7 10,oM 5 8 12]
def qFI:List qB:=[oM 0 16 7,oM 1 17 8,oB 2 18 .add 16 17,oD1 3 19 1400 18,oM 4 6 19]
def qFJ:List qB:=[oM 0 22 7,oM 1 23 8,oB 2 24 .sub 22 23,oD1 3 25 1400 24,oM 4 6 25]
def qFK:List qB:=[oM 0 28 7,oM 1 29 8,oB 2 30 .mul 28 29,oD1 3 31 1400 30,oM 4 6 31]
def qFL:List qB:=[oM 0 36 7,oM 1 37 8,oB 2 38 .quo 36 37,oD1 3 39 1400 38,oM 4 6 39]
def qFM:List qB:=[oM 0 42 7,oM 1 43 8,oB 2 44 .lss 42 43,oD1 3 45 566 44,oM 4 6 45]
def qFN:List qB:=[oM 0 48 7,oM 1 49 8,oB 2 50 .eql 48 49,oD1 3 51 566 50,oM 4 6 51]
def qFE:qL:=.cond (.t 32) (.seq (sr [oM 0 34 8,oE 1 35 .eql 34 0] (.cond (.t 35) (sr [oC 0 6 0] .ret) .skip)) (sr qFL .ret)) (sr [oE 0 41 .eql 13 5,oM 1 40 41] (.cond (.t 40) (sr qFM .ret) (sr [oE 0 47 .eql 13 6,oM 1 46 47] (.cond (.t 46) (sr qFN .ret) .skip))))
def qFF:qL:=sr [oE 0 21 .eql 13 2,oM 1 20 21] (.cond (.t 20) (sr qFJ .ret) (sr [oE 0 27 .eql 13 3,oM 1 26 27] (.cond (.t 26) (sr qFK .ret) (sr [oE 0 33 .eql 13 4,oM 1 32 33] qFE))))
def qFG:qL:=sr qFH (.seq (sr [oM 0 13 0] (.blk 0 (sr [oE 0 15 .eql 13 1,oM 1 14 15] (.cond (.t 14) (sr qFI .ret) qFF)))) (sr [oC 0 6 0] .ret))
def Uh:qP:=⟨3,52,[.t 6],sr [oC 0 6 0] qFG⟩
def qI2:List qB:=[oM 0 9 0,oK 1 10 9,oF 2 11 0 10,oF 3 12 0 11,oL 4 13 12,oM 5 14 1,oA 6 15 5 13 14,oF 7 16 2 15,oL 8 17 16,oM 9 18 0,oK 10 19 18,oF 11 20 0 19,oF 12 21 0 20,oL 13 22 21,oM 14 23 2,oA 15 24 5 22 23,oP 16 25 (.load (some 5) (.t 24)),oP 17 7 (.lalloc (.agg [.int .i64 0,.int .i64 0,.int .i64 0,.nils,.nils])),oM 18 6 17,oS 19 7 0 5 25]
def qI3:List qB:=[oM 0 29 0,oU 1 30 7,oX 2 31 7 1,oU 3 32 7,oX 4 33 7 2,oM 5 34 6,oP 6 35 (.bslice 1 (.int .i64 0) 1 [(0,.t 34)]),oP 7 36 (.call 1311 [.t 29,.c (.int .i64 8),.t 31,.t 33,.t 35,.c (.int .i64 2)]),oM 8 8 36]
def qI4:List qB:=[oM 0 37 0,oM 1 38 2,oP 2 39 (.build (.agg [.int .i64 0,.int .i64 0]) [(0,1,.t 38),(1,1,.c (.int .i64 1))]),oM 3 40 8,oP 4 41 (.build (.agg [.int .i64 0,.int .i64 0]) [(0,1,.t 40),(1,1,.c (.int .i64 0))]),oP 5 42 (.call 1310 [.t 37,.t 39,.t 41])]
def qI5:List qB:=[oM 0 43 0,oM 1 44 2,oP 2 45 (.build (.agg [.int .i64 0,.int .i64 0]) [(0,1,.t 44),(1,1,.c (.int .i64 2))]),oM 3 46 8,oP 4 47 (.build (.agg [.int .i64 0,.int .i64 0]) [(0,1,.t 46),(1,1,.c (.int .i64 1))]),oP 5 48 (.call 1310 [.t 43,.t 45,.t 47])]
def qI6:List qB:=[oM 0 49 0,oM 1 50 2,oP 2 51 (.build (.agg [.int .i64 0,.int .i64 0]) [(0,1,.t 50),(1,1,.c (.int .i64 1))]),oM 3 52 0,oU 4 53 7,oX 5 54 7 2,oU 6 55 7,oX 7 56 7 3,oP 8 57 (.iaddr 1 (.t 56) (.c (.int .i64 0))),oL 9 58 57,oM 10 59 6,oP 11 60 (.call 1118 [.t 54,.t 58,.t 59]),oP 12 61 (.call 1311 [.t 52,.c (.int .i64 6),.c (.int .i64 0),.t 60,.c (.nils),.c (.int .i64 1)]),oP 13 62 (.build (.agg [.int .i64 0,.int .i64 0]) [(0,1,.t 61),(1,1,.c (.int .i64 0))]),oP 14 63 (.call 1310 [.t 49,.t 51,.t 62])]
def U2:qP:=⟨3,64,[],sr qI2 (.seq (sr [oU 0 26 7,oX 1 27 7 0,oE 2 28 .eql 27 7] (.cond (.t 28) (sr qI3 (sr qI4 (sr qI5 .ret))) .skip)) (.reg true qI6))⟩
def qJA:List qB:=[oM 0 13 0,oK 1 14 13,oF 2 15 0 14,oF 3 16 0 15,oL 4 17 16,oM 5 18 1,oA 6 19 5 17 18,oP 7 20 (.load (some 5) (.t 19)),oM 8 21 0,oK 9 22 21,oF 10 23 0 22,oF 11 24 0 23,oL 12 25 24,oM 13 26 2,oA 14 27 5 25 26,oP 15 28 (.load (some 5) (.t 27)),oP 16 6 (.lalloc (.agg [.int .i64 0,.int .i64 0,.int .i64 0,.nils,.nils])),oP 17 7 (.lalloc (.agg [.int .i64 0,.int .i64 0,.int .i64 0,.nils,.nils])),oS 18 6 0 5 20,oS 19 7 0 5 28]
def qJB:List qB:=[oM 0 32 0,oM 1 33 2,oP 2 34 (.build (.agg [.int .i64 0,.int .i64 0]) [(0,1,.t 33),(1,1,.c (.int .i64 1))]),oM 3 35 0,oU 4 36 7,oX 5 37 7 1,oU 6 38 7,oX 7 39 7 3,oU 8 40 6,oX 9 41 6 2,oE 10 42 .eql 41 0,oD1 11 43 566 42,oA 12 44 1 39 43,oL 13 45 44,oP 14 46 (.call 1311 [.t 35,.c (.int .i64 12),.t 37,.t 45,.c (.nils),.c (.int .i64 1)]),oP 15 47 (.build (.agg [.int .i64 0,.int .i64 0]) [(0,1,.t 46),(1,1,.c (.int .i64 0))]),oP 16 48 (.call 1310 [.t 32,.t 34,.t 47])]
def qJD:List qB:=[oM 0 49 0,oU 1 50 7,oX 2 51 7 1,oU 3 52 7,oX 4 53 7 3,oU 5 54 6,oX 6 55 6 2,oA 7 56 1 53 55,oL 8 57 56,oP 11 8 (.lalloc (.agg [.int .i64 0,.int .i64 0])),oP 9 58 (.call 1311 [.t 49,.c (.int .i64 12),.t 51,.t 57,.c (.nils),.c (.int .i64 1)]),oP 10 59 (.build (.agg [.int .i64 0,.int .i64 0]) [(0,1,.t 58),(1,1,.c (.int .i64 0))]),oS 12 8 0 2 59]
def qJE:List qB:=[oU 0 60 6,oX 1 61 6 4,oW 2 62 61,oE 3 63 .sub 62 1,oC 4 64 0]
def qJF:List qB:=[oM 0 66 0,oU 1 67 7,oX 2 68 7 1,oP 3 69 (.call 1311 [.t 66,.c (.int .i64 3),.t 68,.c (.int .i64 0),.c (.nils),.c (.int .i64 3)]),oM 4 10 69]
def qJG:List qB:=[oM 0 70 0,oK 1 71 70,oF 2 72 0 71,oM 3 73 10,oP 4 74 (.build (.agg [.int .i64 0,.int .i64 0]) [(0,1,.t 73),(1,1,.c (.int .i64 0))]),oY 5 75 8 0 2,oP 6 76 (.call 1196 [.t 72,.t 74,.t 75])]
def qJH:List qB:=[oM 0 79 9,oM 1 80 10,oP 2 81 (.bslice 1 (.int .i64 0) 1 [(0,.t 80)]),oP 3 82 (.app 1 (.t 79) (.t 81)),oM 4 9 82]
def qI9:qL:=.seq (.blk 1 (sr qJF (sr qJG (sr [oM 0 77 10,oP 1 78 (.build (.agg [.int .i64 0,.int .i64 0]) [(0,1,.t 77),(1,1,.c (.int .i64 2))]),oS 2 8 0 2 78] (.reg true qJH))))) (.reg true [oE 0 83 .add 64 1,oM 1 64 83])
def qJI:List qB:=[oM 0 88 86,oA 1 89 1 84 86,oL 2 90 89,oM 3 11 88,oM 4 12 90]
def qJJ:List qB:=[oM 0 91 0,oM 1 92 1,oM 2 93 11,oE 3 94 .add 93 1,oP 4 95 (.build (.agg [.int .i64 0,.int .i64 0]) [(0,1,.t 92),(1,1,.t 94)]),oM 5 96 12,oP 6 97 (.build (.agg [.int .i64 0,.int .i64 0]) [(0,1,.t 96),(1,1,.c (.int .i64 1))]),oP 7 98 (.call 1310 [.t 91,.t 95,.t 97])]
def qI7:qL:=.loop (sr [oB 0 87 .lss 86 85] (.seq (.cond (.t 87) .skip (.exit 2)) (.seq (.blk 3 (sr qJI (.reg true qJJ))) (.reg true [oE 0 99 .add 86 1,oM 1 86 99]))))
def qJC:List qB:=[oM 0 100 0,oM 1 101 2,oP 2 102 (.build (.agg [.int .i64 0,.int .i64 0]) [(0,1,.t 101),(1,1,.c (.int .i64 1))]),oY 3 103 8 0 2,oP 4 104 (.call 1310 [.t 100,.t 102,.t 103])]
def qI8:qL:=.seq (sr qJE (.blk 0 (.loop (sr [oB 0 65 .lss 64 63] (.seq (.cond (.t 65) .skip (.exit 0)) qI9))))) (.seq (sr [oM 0 84 9,oW 1 85 84,oC 2 86 0] (.blk 2 qI7)) (.reg true qJC))
def U3:qP:=⟨3,105,[],sr qJA (.seq (sr [oU 0 29 6,oX 1 30 6 0,oE 2 31 .eql 30 6] (.cond (.t 31) (sr qJB .ret) .skip)) (sr qJD (sr [oP 0 9 (.mov (.c (.nils)))] qI8)))⟩
def qJM:List qB:=[oM 0 14 0,oK 1 15 14,oF 2 16 1 15,oL 3 17 16,oM 4 18 0,oK 5 19 18,oF 6 20 0 19,oF 7 21 0 20,oL 8 22 21,oM 9 23 1,oA 10 24 5 22 23,oF 11 25 2 24,oL 12 26 25,oA 13 27 1 17 26,oP 14 28 (.load (some 1) (.t 27)),oM 15 29 0,oK 16 30 29,oF 17 31 0 30,oF 18 32 0 31,oL 19 33 32,oM 20 34 1,oA 21 35 5 33 34,oF 22 36 1 35,oL 23 37 36,oD2 24 38 1456 28 37,oM 25 13 38,oV 26 39 13 0,oV 27 40 13 1,oP 28 6 (.halloc 1 (.agg [.nils])),oT 29 1 6 39,oM 30 7 40]
def qJN:List qB:=[oM 0 41 0,oK 1 42 41,oF 2 43 0 42,oF 3 44 0 43,oL 4 45 44,oW 5 46 45,oE 6 47 .sub 46 1,oM 7 8 47]
def qJP:List qB:=[oP 0 48 (.build (.agg [.int .i64 0,.int .i64 0]) [(0,1,.c (.int .i64 0)),(1,1,.c (.int .i64 0))]),oD2 1 49 555 6 48,oP 2 9 (.lalloc (.agg [.int .i64 0,.int .i64 0])),oS 3 9 0 2 49]
def qJQ:List qB:=[oF 0 50 0 6,oL 1 51 50,oP 2 52 (.slc 5 (.t 51) (some (.c (.int .i64 1))) none none),oW 3 53 52,oC 4 54 0]
def qJR:List qB:=[oA 0 56 5 52 54,oP 1 57 (.load (some 5) (.t 56)),oP 2 11 (.lalloc (.agg [.int .i64 0,.int .i64 0,.int .i64 0,.nils,.nils])),oS 3 11 0 5 57]
def qJS:List qB:=[oU 0 58 11,oX 1 59 11 4,oW 2 60 59,oC 3 61 0]
def qJT:List qB:=[oU 0 64 11,oX 1 65 11 4,oM 2 66 12,oA 3 67 2 65 66,oF 4 68 0 67,oL 5 69 68,oM 6 70 8,oB 7 71 .add 69 70,oA 8 72 2 65 66,oF 9 73 0 72,oT 10 1 73 71]
def qJK:qL:=sr [oB 0 62 .lss 61 60] (.seq (.cond (.t 62) .skip (.exit 2)) (.seq (.blk 3 (sr [oM 0 63 61,oM 1 12 63] (.reg true qJT))) (.reg true [oE 0 74 .add 61 1,oM 1 61 74])))
def qJU:List qB:=[oM 0 75 0,oM 1 76 0,oK 2 77 76,oF 3 78 0 77,oF 4 79 0 78,oL 5 80 79,oY 6 81 11 0 5,oP 7 82 (.bslice 5 (.agg [.int .i64 0,.int .i64 0,.int .i64 0,.nils,.nils]) 1 [(0,.t 81)]),oP 8 83 (.app 5 (.t 80) (.t 82)),oK 9 84 75,oF 10 85 0 84,oF 11 86 0 85,oT 12 1 86 83]
def qJL:qL:=sr [oB 0 55 .lss 54 53] (.seq (.cond (.t 55) .skip (.exit 0)) (.seq (.blk 1 (sr qJR (.seq (sr qJS (.blk 2 (.loop qJK))) (.reg true qJU)))) (.reg true [oE 0 87 .add 54 1,oM 1 54 87])))
def qJO:List qB:=[oM 0 88 0,oK 1 89 88,oF 2 90 0 89,oM 3 91 2,oP 4 92 (.build (.agg [.int .i64 0,.int .i64 0]) [(0,1,.t 91),(1,1,.c (.int .i64 0))]),oU 5 93 9,oX 6 94 9 0,oM 7 95 8,oB 8 96 .add 94 95,oU 9 97 9,oX 10 98 9 1,oP 11 99 (.build (.agg [.int .i64 0,.int .i64 0]) [(0,1,.t 96),(1,1,.t 98)]),oP 12 100 (.call 1196 [.t 90,.t 92,.t 99])]
def U4:qP:=⟨3,101,[],.seq (.reg false qJM) (sr qJN (sr qJP (.seq (sr qJQ (.blk 0 (.loop qJL))) (.reg true qJO))))⟩
def qJW:List qB:=[oM 0 12 0,oK 1 13 12,oF 2 14 2 13,oL 3 15 14,oM 4 16 5,oN 5 (.mupd (.t 15) (.t 16) (.c (.bool true)))]
def qJV:qL:=sr [oB 0 9 .lss 8 7] (.seq (.cond (.t 9) .skip (.exit 0)) (.seq (.blk 1 (sr [oA 0 10 1 6 8,oL 1 11 10,oM 2 5 11] (.reg true qJW))) (.reg true [oE 0 17 .add 8 1,oM 1 8 17])))
def U5:qP:=⟨2,18,[],sr [oM 0 6 1,oW 1 7 6,oC 2 8 0] (.blk 0 (.loop qJV))⟩
def qYR:List qB:=[oM 0 11 0,oY 1 12 3 0 2,oD2 2 13 1305 11 12,oM 3 10 13,oV 4 14 10 0,oV 5 15 10 1,oV 6 16 10 2,oV 7 17 10 3,oM 8 5 14,oM 9 6 15,oM 10 7 16,oM 11 8 17]
def qYS:List qB:=[oM 0 21 0,oD1 1 22 1306 21,oM 2 23 0,oM 3 24 5,oM 4 25 6,oM 5 26 7,oP 6 27 (.call 1307 [.t 23,.t 24,.t 25,.t 26]),oB 7 28 .add 22 27,oE 8 29 .gtr 28 600]
def qYW:List qB:=[oM 0 34 0,oM 1 35 6,oP 2 36 (.build (.agg [.int .i64 0,.int .i64 0]) [(0,1,.t 35),(1,1,.c (.int .i64 1))]),oM 3 37 7,oP 4 38 (.build (.agg [.int .i64 0,.int .i64 0]) [(0,1,.t 37),(1,1,.c (.int .i64 1))]),oP 5 39 (.call 1308 [.t 34,.t 36,.t 38])]
def qYX:List qB:=[oM 0 40 0,oM 1 41 6,oP 2 42 (.build (.agg [.int .i64 0,.int .i64 0]) [(0,1,.t 41),(1,1,.c (.int .i64 2))]),oM 3 43 7,oP 4 44 (.build (.agg [.int .i64 0,.int .i64 0]) [(0,1,.t 43),(1,1,.c (.int .i64 2))]),oP 5 45 (.call 1308 [.t 40,.t 42,.t 44])]
def qYY:List qB:=[oM 0 48 0,oM 1 49 6,oM 2 50 7,oP 3 51 (.call 1309 [.t 48,.t 49,.t 50])]
def qYZ:List qB:=[oM 0 54 9,oM 1 55 0,oK 2 56 55,oF 3 57 0 56,oF 4 58 0 57,oL 5 59 58,oM 6 60 7,oA 7 61 5 59 60,oF 8 62 4 61,oL 9 63 62,oW 10 64 63,oB 11 65 .lss 54 64]
def qY0:List qB:=[oM 0 68 0,oM 1 69 7,oM 2 70 9,oP 3 71 (.build (.agg [.int .i64 0,.int .i64 0]) [(0,1,.t 69),(1,1,.t 70)]),oM 4 72 0,oP 5 73 (.call 1311 [.t 72,.c (.int .i64 5),.c (.int .i64 0),.c (.int .i64 0),.c (.nils),.c (.int .i64 1)]),oP 6 74 (.build (.agg [.int .i64 0,.int .i64 0]) [(0,1,.t 73),(1,1,.c (.int .i64 0))]),oP 7 75 (.call 1310 [.t 68,.t 71,.t 74])]
def qYQ:qL:=sr [oC 0 9 1] (.blk 1 (.loop (.seq (sr qYZ (.cond (.t 65) .skip (.exit 1))) (.seq (.blk 2 (.reg true qY0)) (.reg true [oM 0 66 9,oE 1 67 .add 66 1,oM 2 9 67])))))
def qY1:List qB:=[oM 0 78 0,oM 1 79 6,oM 2 80 7,oP 3 81 (.call 1312 [.t 78,.t 79,.t 80])]
def qY2:List qB:=[oM 0 84 0,oM 1 85 6,oM 2 86 7,oP 3 87 (.call 1313 [.t 84,.t 85,.t 86])]
def qYT:List qB:=[oM 0 90 0,oM 1 91 6,oM 2 92 7,oP 3 93 (.call 1314 [.t 90,.t 91,.t 92])]
def qYU:List qB:=[oM 0 94 0,oM 1 95 6,oP 2 96 (.bslice 1 (.int .i64 0) 1 [(0,.t 95)]),oD2 3 97 1315 94 96]
def qYM:qL:=sr [oE 0 83 .eql 30 6,oM 1 82 83] (.cond (.t 82) (.reg true qY2) (sr [oE 0 89 .eql 30 7,oM 1 88 89] (.cond (.t 88) (sr qYT (sr qYU (sr [oC 0 4 0] .ret))) .skip)))
def qYN:qL:=sr [oE 0 47 .eql 30 3,oM 1 46 47] (.cond (.t 46) (.reg true qYY) (sr [oE 0 53 .eql 30 4,oM 1 52 53] (.cond (.t 52) qYQ (sr [oE 0 77 .eql 30 5,oM 1 76 77] (.cond (.t 76) (.reg true qY1) qYM)))))
def qYO:qL:=sr [oM 0 30 5] (.blk 0 (.seq (sr [oE 0 32 .eql 30 1,oM 1 31 32] (.cond (.t 31) .skip (.reg true [oE 0 33 .eql 30 2,oM 1 31 33]))) (.cond (.t 31) (sr qYW (.reg true qYX)) qYN)))
def qYV:List qB:=[oM 0 98 0,oM 1 99 6,oM 2 100 7,oP 3 101 (.bslice 1 (.int .i64 0) 2 [(0,.t 99),(1,.t 100)]),oD2 4 102 1315 98 101]
def qYP:qL:=.seq (sr [oM 0 18 8,oE 1 19 .neq 18 0] (.cond (.t 19) (sr [oM 0 20 8,oM 1 4 20] .ret) .skip)) (.seq (sr qYS (.cond (.t 29) (sr [oC 0 4 4] .ret) .skip)) (.seq qYO (sr qYV (sr [oC 0 4 0] .ret))))
def F983:qP:=⟨2,103,[.t 4],sr [oP 0 3 (.lbox 2 (.t 1)),oC 1 4 0] (sr qYR qYP)⟩
def qY3:List qB:=[oM 0 8 0,oK 1 9 8,oF 2 10 3 9,oL 3 11 10,oP 4 12 (.build (.agg [.int .i64 0,.int .i64 0,.int .i64 0]) [(0,1,.t 11),(1,1,.c (.int .i64 (-1))),(2,1,.c (.int .i64 (-1)))]),oP 5 7 (.lalloc (.agg [.int .i64 0,.int .i64 0,.int .i64 0])),oS 6 7 0 3 12]
def qY4:List qB:=[oU 0 14 4,oX 1 15 4 2,oE 2 16 .eql 15 3,oM 3 17 16,oH 4 18 17 true 2,oG 5 19 17 true (.bin .lss (.t 18) (.c (.int .i64 2))),oPf 6 20 17 19,oM 7 13 20]
def qY5:List qB:=[oM 0 21 0,oK 1 22 21,oF 2 23 5 22,oL 3 24 23,oU 4 25 4,oX 5 26 4 4,oA 6 27 3 24 26,oF 7 28 1 27,oL 8 29 28,oM 9 30 0,oK 10 31 30,oF 11 32 5 31,oL 12 33 32,oU 13 34 4,oX 14 35 4 4,oA 15 36 3 33 35,oF 16 37 2 36,oL 17 38 37,oU 18 39 7,oS 19 7 1 1 29,oU 20 40 7,oS 21 7 2 1 38]
def qY6:List qB:=[oU 0 42 4,oX 1 43 4 2,oE 2 44 .eql 43 7,oM 3 41 44]
def qY7:List qB:=[oU 0 45 4,oX 1 46 4 5,oM 2 47 2,oE 3 48 .add 47 1,oU 4 49 7,oS 5 7 1 1 46,oU 6 50 7,oS 7 7 2 1 48]
def F984:qP:=⟨3,52,[.l 6 (some 3)],sr [oP 0 4 (.lbox 6 (.t 1)),oP 1 6 (.lalloc (.agg [.int .i64 0,.int .i64 0,.int .i64 0]))] (sr qY3 (.seq (.blk 0 (sr qY4 (.cond (.t 13) (.reg true qY5) (sr qY6 (.cond (.t 41) (.reg true qY7) .skip))))) (sr [oY 0 51 7 0 3,oS 1 6 0 3 51] .ret)))⟩
def qTV:List qB:=[oM 0 18 16,oA 1 19 1 14 16,oL 2 20 19,oM 3 6 18,oM 4 7 20]
def qTW:List qB:=[oM 0 21 5,oM 1 22 7,oM 2 23 6,oN 3 (.mupd (.t 21) (.t 22) (.t 23))]
def qTR:qL:=.loop (sr [oB 0 17 .lss 16 15] (.seq (.cond (.t 17) .skip (.exit 0)) (.seq (.blk 1 (sr qTV (.reg true qTW))) (.reg true [oE 0 24 .add 16 1,oM 1 16 24]))))
def qTX:List qB:=[oM 0 31 0,oK 1 32 31,oF 2 33 0 32,oL 3 34 33,oM 4 35 10,oA 5 36 5 34 35,oP 6 37 (.load (some 5) (.t 36)),oD1 7 38 1085 37,oP 8 11 (.lalloc (.agg [.int .i64 0,.int .i64 0,.int .i64 0,.nils,.nils])),oS 9 11 0 5 38]
def qTY:List qB:=[oU 0 39 11,oX 1 40 11 4,oW 2 41 40,oC 3 42 0]
def qTZ:List qB:=[oU 0 45 11,oX 1 46 11 4,oM 2 47 12,oM 3 48 5,oU 4 49 11,oX 5 50 11 4,oM 6 51 12,oA 7 52 2 50 51,oF 8 53 0 52,oL 9 54 53,oP 10 55 (.look (.int .i64 0) (.t 48) (.t 54) false),oA 11 56 2 46 47,oF 12 57 0 56,oT 13 1 57 55]
def qTS:qL:=sr [oB 0 43 .lss 42 41] (.seq (.cond (.t 43) .skip (.exit 4)) (.seq (.blk 5 (sr [oM 0 44 42,oM 1 12 44] (.reg true qTZ))) (.reg true [oE 0 58 .add 42 1,oM 1 42 58])))
def qT0:List qB:=[oU 0 59 8,oX 1 60 8 0,oY 2 61 11 0 5,oP 3 62 (.bslice 5 (.agg [.int .i64 0,.int .i64 0,.int .i64 0,.nils,.nils]) 1 [(0,.t 61)]),oP 4 63 (.app 5 (.t 60) (.t 62)),oU 5 64 8,oS 6 8 0 1 63]
def qTT:qL:=sr [oA 0 29 1 25 27,oL 1 30 29,oM 2 10 30] (sr qTX (.seq (sr qTY (.blk 4 (.loop qTS))) (.reg true qT0)))
def qTU:qL:=sr [oM 0 25 1,oW 1 26 25,oC 2 27 0] (.blk 2 (.loop (sr [oB 0 28 .lss 27 26] (.seq (.cond (.t 28) .skip (.exit 2)) (.seq (.blk 3 qTT) (.reg true [oE 0 65 .add 27 1,oM 1 27 65]))))))
def qTQ:qL:=.seq (sr [oM 0 14 1,oW 1 15 14,oC 2 16 0] (.blk 0 qTR)) (sr [oP 0 8 (.lalloc (.agg [.nils]))] (.seq qTU (sr [oY 0 66 8 0 1,oS 1 4 0 1 66] .ret)))
def kW:qP:=⟨2,67,[.l 4 (some 1)],sr [oP 0 4 (.lalloc (.agg [.nils]))] (sr [oP 0 13 (.mkmap),oM 1 5 13] qTQ)⟩
def qY9:List qB:=[oM 0 5 0,oK 1 6 5,oF 2 7 0 6,oF 3 8 0 7,oL 4 9 8,oW 5 10 9,oC 6 11 0]
def qZA:List qB:=[oM 0 14 0,oK 1 15 14,oF 2 16 2 15,oL 3 17 16,oM 4 18 4,oP 5 19 (.look (.bool false) (.t 17) (.t 18) false),oJ 6 20 19]
def qZB:List qB:=[oM 0 21 3,oM 1 22 4,oP 2 23 (.bslice 1 (.int .i64 0) 1 [(0,.t 22)]),oP 3 24 (.app 1 (.t 21) (.t 23)),oM 4 3 24]
def qY8:qL:=sr [oB 0 12 .lss 11 10] (.seq (.cond (.t 12) .skip (.exit 0)) (.seq (.blk 1 (sr [oM 0 13 11,oM 1 4 13] (sr qZA (.cond (.t 20) (.reg true qZB) .skip)))) (.reg true [oE 0 25 .add 11 1,oM 1 11 25])))
def qZC:List qB:=[oM 0 26 0,oK 1 27 26,oF 2 28 0 27,oM 3 29 3,oD2 4 30 702 28 29,oS 5 2 0 1 30]
def F985:qP:=⟨1,31,[.l 2 (some 1)],sr [oP 0 2 (.lalloc (.agg [.nils]))] (sr [oP 0 3 (.mov (.c (.nils)))] (.seq (sr qY9 (.blk 0 (.loop qY8))) (sr qZC .ret)))⟩
def qZD:List qB:=[oM 0 2 0,oM 1 3 0,oK 2 4 3,oF 3 5 7 4,oL 4 6 5,oM 5 7 0,oK 6 8 7,oF 7 9 3 8,oL 8 10 9,oM 9 11 0,oK 10 12 11,oF 11 13 4 12,oP 12 14 (.load (some 1) (.t 13)),oM 14 16 0,oK 15 17 16,oF 16 18 5 17,oL 17 19 18,⟨13,some 15,none,.call 798 [.t 14],[⟨4,some 6,none,.load none (.t 5),[]⟩,⟨8,some 10,none,.load none (.t 9),[]⟩,⟨17,some 19,none,.load none (.t 18),[]⟩]⟩,⟨18,some 20,none,.call 799 [.t 19],[⟨4,some 6,none,.load none (.t 5),[]⟩,⟨8,some 10,none,.load none (.t 9),[]⟩]⟩,oP 19 21 (.build (.agg [.int .i64 0,.nils,.nils]) [(0,1,.t 10),(1,1,.t 15),(2,1,.t 20)]),oP 20 22 (.bslice 3 (.agg [.int .i64 0,.nils,.nils]) 1 [(0,.t 21)]),oP 21 23 (.app 3 (.t 6) (.t 22)),oK 22 24 2,oF 23 25 7 24,oT 24 1 25 23]
def F986:qP:=⟨1,26,[],.reg true qZD⟩
def qTM:List qB:=[oM 0 9 0,oK 1 10 9,oF 2 11 0 10,oL 3 12 11,oM 4 13 0,oK 5 14 13,oF 6 15 4 14,oP 7 16 (.load (some 1) (.t 15)),oD2 8 17 982 12 16,oM 9 5 17]
def qTN:List qB:=[oM 0 18 5,oU 1 19 3,oY 2 20 3 0 2,oD2 3 21 983 18 20,oM 4 6 21]
def qTO:List qB:=[oM 0 25 0,oK 1 26 25,oF 2 27 3 26,oL 3 28 27,oE 4 29 .add 28 1,oK 5 30 25,oF 6 31 3 30,oT 7 1 31 29]
def qTP:List qB:=[oM 0 32 5,oK 1 33 32,oF 2 34 0 33,oF 3 35 0 34,oL 4 36 35,oW 5 37 36,oC 6 38 0]
def jd:List qB:=[oM 0 55 5,oK 1 56 55,oF 2 57 2 56,oL 3 58 57,oM 4 59 8,oP 5 60 (.look (.bool false) (.t 58) (.t 59) false),oM 6 54 60]
def je:List qB:=[oM 0 62 8,oM 1 63 0,oK 2 64 63,oF 3 65 5 64,oL 4 66 65,oW 5 67 66,oB 6 68 .lss 62 67,oM 7 61 68]
def jf:List qB:=[oM 0 69 7,oM 1 70 0,oK 2 71 70,oF 3 72 5 71,oL 4 73 72,oM 5 74 8,oA 6 75 3 73 74,oP 7 76 (.load (some 3) (.t 75)),oP 8 77 (.bslice 3 (.agg [.int .i64 0,.int .i64 0,.int .i64 0]) 1 [(0,.t 76)]),oP 9 78 (.app 3 (.t 69) (.t 77)),oM 10 7 78]
def jg:List qB:=[oM 0 41 7,oM 1 42 0,oY 2 43 3 0 6,oM 3 44 8,oM 4 45 0,oK 5 46 45,oF 6 47 5 46,oL 7 48 47,oW 8 49 48,oB 9 50 .sub 44 49,oP 10 51 (.call 984 [.t 42,.t 43,.t 50]),oP 11 52 (.bslice 3 (.agg [.int .i64 0,.int .i64 0,.int .i64 0]) 1 [(0,.t 51)]),oP 12 53 (.app 3 (.t 41) (.t 52)),oM 13 7 53]
def qTL:qL:=.seq (.blk 1 (sr [oM 0 40 38,oM 1 8 40] (.blk 2 (sr jd (.cond (.t 54) .skip (sr je (.cond (.t 61) (.reg true jf) (.reg true jg)))))))) (.reg true [oE 0 79 .add 38 1,oM 1 38 79])
def jh:List qB:=[oM 0 80 0,oM 1 81 0,oM 2 82 5,oD1 3 83 985 82,oM 4 84 7,oK 5 85 80,oF 6 86 4 85,oT 7 1 86 83,oK 8 87 81,oF 9 88 5 87,oT 10 1 88 84]
def jc:List qB:=[oM 0 89 0,oK 1 90 89,oF 2 91 3 90,oL 3 92 91,oM 4 93 0,oK 5 94 93,oF 6 95 2 94,oL 7 96 95,oB 8 97 .rem 92 96,oE 9 98 .eql 97 0,oM 10 99 98,oH 11 100 99 true 0,oG 12 101 99 true (.nilchk (.t 100)),oG 13 102 99 true (.faddr 3 (.t 101)),oG 14 103 99 true (.load none (.t 102)),oH 15 104 99 true 0,oG 16 105 99 true (.nilchk (.t 104)),oG 17 106 99 true (.faddr 2 (.t 105)),oG 18 107 99 true (.load none (.t 106)),oG 19 108 99 true (.bin .quo (.t 103) (.t 107)),oH 20 109 99 true 0,oG 21 110 99 true (.nilchk (.t 109)),oG 22 111 99 true (.faddr 7 (.t 110)),oG 23 112 99 true (.load none (.t 111)),oG 24 113 99 true (.len (.t 112)),oG 25 114 99 true (.bin .geq (.t 108) (.t 113)),oPf 26 115 99 114]
def qTJ:qL:=.seq (sr qTP (.blk 0 (.loop (sr [oB 0 39 .lss 38 37] (.seq (.cond (.t 39) .skip (.exit 0)) qTL))))) (sr jh (.seq (sr jc (.cond (.t 115) (.reg true [oM 0 116 0,oD1 1 117 986 116]) .skip)) (sr [oC 0 4 0] .ret)))
def qTK:qL:=.seq (sr qTN (sr [oM 0 22 6,oE 1 23 .neq 22 0] (.cond (.t 23) (sr [oM 0 24 6,oM 1 4 24] .ret) .skip))) (sr qTO (sr [oP 0 7 (.mov (.c (.nils)))] qTJ))
def kV:qP:=⟨2,118,[.t 4],sr [oP 0 3 (.lbox 6 (.t 1)),oC 1 4 0] (sr qTM qTK)⟩
def qNP:List qB:=[oP 0 2 (.lbox 8 (.t 0)),oP 1 4 (.lalloc (.agg [.nils,.nils,.int .i64 0,.int .i64 0,.nils,.nils,.nils,.nils])),oC 2 5 0,oC 3 6 0]
def qNQ:List qB:=[oY 0 13 2 0 8,oD1 1 14 373 13,oJ 2 15 14,oM 3 12 15]
def qNS:List qB:=[oP 0 16 (.build (.agg [.nils,.nils,.int .i64 0,.int .i64 0,.nils,.nils,.nils,.nils]) []),oS 1 4 0 8 16,oC 2 5 0,oC 3 6 1]
def qNT:List qB:=[oM 0 18 1,oP 1 19 (.bslice 1 (.int .i64 0) 1 [(0,.t 18)]),oP 2 20 (.call 436 [.c (.int .i64 4000),.t 19]),oJ 3 21 20,oM 4 17 21]
def qNU:List qB:=[oP 0 22 (.build (.agg [.nils,.nils,.int .i64 0,.int .i64 0,.nils,.nils,.nils,.nils]) []),oS 1 4 0 8 22,oC 2 5 0,oC 3 6 2]
def qNV:List qB:=[oY 0 23 2 0 8,oD1 1 24 429 23,oP 2 7 (.halloc 8 (.agg [.nils,.nils,.int .i64 0,.int .i64 0,.nils,.nils,.nils,.nils])),oT 3 8 7 24]
def qNW:List qB:=[oM 0 25 8,oM 1 26 1,oB 2 27 .lss 25 26,oM 3 28 27,oH 4 29 28 true 8,oG 5 30 28 true (.bin .eql (.t 29) (.c (.int .i64 0))),oH 6 31 28 true 30,oG 7 32 31 false (.call 394 [.t 7]),oG 8 33 31 false (.bin .lss (.t 32) (.c (.int .i64 0))),oG 9 34 28 true (.pick (.t 31) (.c (.bool true)) (.t 33)),oPf 10 35 28 34]
def qNX:List qB:=[oD1 0 37 374 7,oM 1 36 37,oV 2 38 36 0,oV 3 39 36 1,oP 4 9 (.lalloc (.agg [.int .i64 0,.int .i64 0,.int .i64 0,.int .i64 0,.int .i64 0,.int .i64 0])),oS 5 9 0 6 38,oM 6 10 39]
def qNY:List qB:=[oP 0 45 (.build (.agg [.nils,.nils,.int .i64 0,.int .i64 0,.nils,.nils,.nils,.nils]) []),oS 1 4 0 8 45,oC 2 5 0,oC 3 6 12]
def qNZ:List qB:=[oP 0 50 (.build (.agg [.nils,.nils,.int .i64 0,.int .i64 0,.nils,.nils,.nils,.nils]) []),oM 1 51 11,oS 2 4 0 8 50,oC 3 5 0,oM 4 6 51]
def qNM:qL:=.seq (sr [oY 0 46 9 0 6,oD2 1 47 608 7 46,oM 2 11 47] (sr [oM 0 48 11,oE 1 49 .neq 48 0] (.cond (.t 49) (sr qNZ .ret) .skip))) (.reg true [oM 0 52 8,oE 1 53 .add 52 1,oM 2 8 53])
def qNN:qL:=sr qNX (.seq (sr [oM 0 40 10,oJ 1 41 40] (.cond (.t 41) (.exit 1) .skip)) (.seq (sr [oF 0 42 3 7,oL 1 43 42,oE 2 44 .eql 43 4000] (.cond (.t 44) (sr qNY .ret) .skip)) qNM))
def qNR:List qB:=[oP 0 54 (.load (some 8) (.t 7)),oD1 1 55 429 54,oM 2 56 8,oS 3 4 0 8 55,oM 4 5 56,oC 5 6 0]
def qNO:qL:=.seq (.blk 0 (sr qNQ (.cond (.t 12) (sr qNS .ret) (sr qNT (.cond (.t 17) (sr qNU .ret) .skip))))) (sr qNV (sr [oC 0 8 0] (.seq (.blk 1 (.loop (.seq (sr qNW (.cond (.t 35) .skip (.exit 1))) (.blk 2 qNN)))) (sr qNR .ret))))
def Kj:qP:=⟨2,57,[.l 4 (some 8),.t 5,.t 6],sr qNP qNO⟩
def qP2:List qB:=[oY 0 19 2 0 8,oM 1 20 5,oD2 2 21 104 19 20,oM 3 5 21]
def qP3:List qB:=[oY 0 25 2 0 8,oD1 1 26 106 25,oM 2 27 1,oD2 3 28 250 26 27,oM 4 24 28,oV 5 29 24 0,oV 6 30 24 1,oV 7 31 24 2,oP 8 6 (.lalloc (.agg [.nils,.nils,.int .i64 0,.int .i64 0,.nils,.nils,.nils,.nils])),oS 9 6 0 8 29,oM 10 7 30,oM 11 8 31]
def qP7:List qB:=[oY 0 32 2 0 8,oD1 1 33 106 32,oP 2 9 (.lalloc (.agg [.nils,.nils,.int .i64 0,.int .i64 0,.nils,.nils,.nils,.nils])),oS 3 9 0 8 33]
def qP8:List qB:=[oY 0 35 9 0 8,oM 1 36 1,oD2 2 37 251 35 36,oM 3 34 37,oV 4 38 34 0,oV 5 39 34 1,oV 6 40 34 2,oP 7 10 (.lalloc (.agg [.nils,.nils,.int .i64 0,.int .i64 0,.nils,.nils,.nils,.nils])),oS 8 10 0 8 38,oM 9 11 39,oM 10 12 40]
def qP9:List qB:=[oY 0 41 10 0 8,oY 1 42 6 0 8,oD2 2 43 108 41 42,oJ 3 44 43,oM 4 45 44,oH 5 46 45 false 11,oH 6 47 45 false 7,oG 7 48 45 false (.bin .neq (.t 46) (.t 47)),oPt 8 49 45 48,oM 9 50 49,oH 10 51 50 false 12,oH 11 52 50 false 8,oG 12 53 50 false (.bin .neq (.t 51) (.t 52)),oPt 13 54 50 53]
def qQA:List qB:=[oY 0 55 9 0 8,oY 1 56 2 0 8,oD1 2 57 106 56,oD2 3 58 108 55 57,oJ 4 59 58]
def qQB:List qB:=[oY 0 60 9 0 8,oM 1 61 13,oD2 2 62 136 60 61,oM 3 13 62]
def qQC:List qB:=[oM 0 63 13,oE 1 64 .lss 63 0,oM 2 65 64,oG 3 66 65 false (.lload 10 0 (some 8)),oG 4 67 65 false (.lload 6 0 (some 8)),oG 5 68 65 false (.call 108 [.t 66,.t 67]),oG 6 69 65 false (.not (.t 68)),oPt 7 70 65 69,oM 8 71 70,oH 9 72 71 false 11,oH 10 73 71 false 7,oG 11 74 71 false (.bin .neq (.t 72) (.t 73)),oPt 12 75 71 74,oM 13 76 75,oH 14 77 76 false 12,oH 15 78 76 false 8,oG 16 79 76 false (.bin .neq (.t 77) (.t 78)),oPt 17 80 76 79]
def qQD:List qB:=[oY 0 81 10 0 8,oM 1 82 14,oD2 2 83 136 81 82,oM 3 14 83]
def qQE:List qB:=[oY 0 84 10 0 8,oM 1 85 15,oD2 2 86 137 84 85,oM 3 15 86]
def qP4:List qB:=[oY 0 93 2 0 8,oD1 1 94 106 93,oM 2 95 1,oD2 3 96 251 94 95,oM 4 92 96,oV 5 97 92 0,oV 6 98 92 1,oV 7 99 92 2,oP 8 16 (.lalloc (.agg [.nils,.nils,.int .i64 0,.int .i64 0,.nils,.nils,.nils,.nils])),oS 9 16 0 8 97,oM 10 17 98,oM 11 18 99]
def qP5:List qB:=[oY 0 100 16 0 8,oY 1 101 6 0 8,oD2 2 102 108 100 101,oJ 3 103 102,oM 4 104 103,oH 5 105 104 false 17,oH 6 106 104 false 7,oG 7 107 104 false (.bin .neq (.t 105) (.t 106)),oPt 8 108 104 107,oM 9 109 108,oH 10 110 109 false 18,oH 11 111 109 false 8,oG 12 112 109 false (.bin .neq (.t 110) (.t 111)),oPt 13 113 109 112]
def qP6:List qB:=[oY 0 114 10 0 8,oM 1 115 15,oD2 2 116 137 114 115,oM 3 15 116]
def qPX:qL:=.seq (sr [oM 0 117 15,oE 1 118 .lss 117 0] (.cond (.t 118) (sr [oQ 0 4 false] .ret) .skip)) (.seq (sr [oM 0 119 15,oM 1 120 14,oB 2 121 .neq 119 120] (.cond (.t 121) (sr [oQ 0 4 false] .ret) .skip)) (sr [oQ 0 4 true] .ret))
def qPY:qL:=.seq (sr [oM 0 89 15,oM 1 90 14,oB 2 91 .neq 89 90] (.cond (.t 91) (sr [oQ 0 4 false] .ret) .skip)) (sr qP4 (.seq (sr qP5 (.cond (.t 113) (sr [oQ 0 4 false] .ret) .skip)) (sr [oC 0 15 1] (sr qP6 qPX))))
def qPZ:qL:=sr qQD (sr [oC 0 15 1] (sr qQE (.seq (sr [oM 0 87 15,oE 1 88 .lss 87 0] (.cond (.t 88) (sr [oQ 0 4 false] .ret) .skip)) qPY)))
def qP0:qL:=.seq (sr qQA (.cond (.t 59) (sr [oQ 0 4 false] .ret) .skip)) (sr [oC 0 13 1] (sr qQB (.seq (sr qQC (.cond (.t 80) (sr [oQ 0 4 false] .ret) .skip)) (sr [oC 0 14 1] qPZ))))
def qP1:qL:=.seq (sr [oM 0 22 5,oE 1 23 .lss 22 0] (.cond (.t 23) (sr [oQ 0 4 true] .ret) .skip)) (sr qP3 (sr qP7 (sr qP8 (.seq (sr qP9 (.cond (.t 54) (sr [oQ 0 4 false] .ret) .skip)) qP0))))
def F41:qP:=⟨2,122,[.t 4],sr [oP 0 2 (.lbox 8 (.t 0)),oQ 1 4 false] (sr [oC 0 5 1048576] (sr qP2 qP1))⟩
@[go_sem] theorem rR0:OE qWJ.eq_1/\OE qWK.eq_1/\CE qWI.eq_1/\OE qMZ.eq_1/\CE qMY.eq_1/\OE qUE.eq_1/\OE qUF.eq_1/\CE qUD.eq_1/\OE qDO.eq_1/\OE qDP.eq_1/\OE qDQ.eq_1/\OE qDR.eq_1/\OE qDS.eq_1/\OE qDT.eq_1/\CE qDL.eq_1/\CE qDM.eq_1/\CE qDN.eq_1/\OE qOC.eq_1/\OE qPV.eq_1/\OE qPW.eq_1/\CE qPT.eq_1/\CE qPU.eq_1/\OE qQG.eq_1/\OE qQH.eq_1/\OE qQI.eq_1/\OE qQJ.eq_1/\CE qQF.eq_1/\OE qRZ.eq_1/\CE qJ6.eq_1/\CE qJ7.eq_1/\CE qJ8.eq_1/\CE qJ9.eq_1/\CE qKA.eq_1/\CE qKB.eq_1/\OE qKR.eq_1/\OE qKS.eq_1/\CE qKC.eq_1/\CE qKD.eq_1/\CE qKE.eq_1/\OE qKT.eq_1/\OE qKY.eq_1/\OE qKZ.eq_1/\OE qK1.eq_1/\OE qK2.eq_1/\OE qK3.eq_1/\OE qK4.eq_1/\OE qK5.eq_1/\OE qK6.eq_1/\OE qK7.eq_1/\CE qKX.eq_1/\CE qKU.eq_1/\CE qKV.eq_1/\CE qKW.eq_1/\OE qK0.eq_1/\OE qEG.eq_1/\OE qEH.eq_1/\OE qT2.eq_1/\OE qT3.eq_1/\OE qT4.eq_1/\CE qT1.eq_1:=by and_intros<;>first|exact OEM _|exact CEM _
@[go_sem] theorem rR1:OE qN3.eq_1/\OE qN4.eq_1/\OE qN5.eq_1/\OE qN6.eq_1/\OE qN7.eq_1/\OE qN8.eq_1/\OE qN9.eq_1/\CE qN0.eq_1/\CE qN1.eq_1/\CE qN2.eq_1/\OE qSY.eq_1/\OE qSZ.eq_1/\CE qSW.eq_1/\CE qSX.eq_1/\OE qEX.eq_1/\OE qUH.eq_1/\OE qUI.eq_1/\OE qUJ.eq_1/\CE qUG.eq_1/\OE qOG.eq_1/\OE qOH.eq_1/\OE qOI.eq_1/\CE qOD.eq_1/\OE qOJ.eq_1/\OE qOK.eq_1/\OE qOL.eq_1/\OE qOM.eq_1/\CE qOE.eq_1/\CE qOF.eq_1/\OE qUM.eq_1/\OE qUN.eq_1/\OE qUO.eq_1/\OE qUP.eq_1/\OE qUQ.eq_1/\CE qUK.eq_1/\CE qUL.eq_1/\OE qLF.eq_1/\OE qMQ.eq_1/\OE qMR.eq_1/\OE qMS.eq_1/\CE qMT.eq_1/\CE qMU.eq_1/\OE qLL.eq_1/\OE qLM.eq_1/\OE qLN.eq_1/\CE qLG.eq_1/\CE qLH.eq_1/\CE qLI.eq_1/\CE qLJ.eq_1/\CE qLK.eq_1/\OE qEZ.eq_1/\OE qE0.eq_1/\OE qE1.eq_1/\CE qEY.eq_1/\OE qUR.eq_1/\OE qUS.eq_1/\OE qUT.eq_1/\OE qUU.eq_1/\OE qUV.eq_1/\OE qE3.eq_1:=by and_intros<;>first|exact OEM _|exact CEM _
@[go_sem] theorem rR2:OE qE4.eq_1/\OE qE5.eq_1/\CE qE2.eq_1/\OE qUW.eq_1/\OE qUX.eq_1/\OE qUY.eq_1/\OE qOO.eq_1/\OE qOP.eq_1/\OE qOQ.eq_1/\OE qOR.eq_1/\OE qOS.eq_1/\OE qOT.eq_1/\OE qOU.eq_1/\CE qON.eq_1/\OE qOV.eq_1/\OE qLY.eq_1/\OE qLZ.eq_1/\OE qWN.eq_1/\OE qWO.eq_1/\OE qWP.eq_1/\OE qWQ.eq_1/\OE qWR.eq_1/\CE qWM.eq_1/\OE qM0.eq_1/\OE qUZ.eq_1/\OE qU0.eq_1/\OE qU1.eq_1/\OE qJX.eq_1/\OE qJY.eq_1/\OE qU2.eq_1/\OE qU3.eq_1/\OE qU4.eq_1/\OE qDX.eq_1/\OE qDY.eq_1/\OE qDZ.eq_1/\OE qD0.eq_1/\OE qD1.eq_1/\OE qD2.eq_1/\OE qD3.eq_1/\OE qD4.eq_1/\CE qDW.eq_1/\OE qV2.eq_1/\OE qPS.eq_1/\OE qWG.eq_1/\OE qRY.eq_1/\OE qSR.eq_1/\OE qSS.eq_1/\OE qST.eq_1/\OE qSU.eq_1/\CE qSP.eq_1/\CE qSQ.eq_1/\OE qV4.eq_1/\OE qDU.eq_1/\OE qDV.eq_1/\OE qMO.eq_1/\OE qK9.eq_1/\OE qLA.eq_1/\OE qLB.eq_1/\CE qK8.eq_1/\CE qLC.eq_1:=by and_intros<;>first|exact OEM _|exact CEM _
@[go_sem] theorem rR3:OE qKH.eq_1/\OE qMP.eq_1/\OE qLD.eq_1/\OE qLE.eq_1/\OE qEL.eq_1/\OE qEM.eq_1/\OE qEO.eq_1/\OE qEP.eq_1/\OE qEQ.eq_1/\OE qER.eq_1/\OE qES.eq_1/\OE qET.eq_1/\OE qEU.eq_1/\OE qEV.eq_1/\CE qEI.eq_1/\CE qEJ.eq_1/\CE qEK.eq_1/\OE qEN.eq_1/\OE qT7.eq_1/\OE qT8.eq_1/\OE qT9.eq_1/\CE qT5.eq_1/\CE qT6.eq_1/\OE qSV.eq_1/\OE qUC.eq_1/\OE qUA.eq_1/\OE qUB.eq_1/\OE qOA.eq_1/\OE qOB.eq_1/\OE qWS.eq_1/\OE qR6.eq_1/\OE qE8.eq_1/\OE qE7.eq_1/\OE qU5.eq_1/\OE qQS.eq_1/\OE qQT.eq_1/\OE qQU.eq_1/\CE qQR.eq_1/\OE qU6.eq_1/\OE qOY.eq_1/\OE qOZ.eq_1/\OE qO0.eq_1/\OE qO1.eq_1/\OE qO2.eq_1/\OE qO3.eq_1/\OE qO4.eq_1/\CE qOW.eq_1/\CE qOX.eq_1/\OE qPE.eq_1/\OE qPF.eq_1/\OE qPG.eq_1/\OE qPH.eq_1/\OE qPI.eq_1/\CE qPD.eq_1/\OE qU7.eq_1/\OE qU8.eq_1/\OE qMV.eq_1/\OE qMW.eq_1/\OE qMX.eq_1/\OE qLU.eq_1:=by and_intros<;>first|exact OEM _|exact CEM _
@[go_sem] theorem rR4:OE qLV.eq_1/\OE qLW.eq_1/\CE qLP.eq_1/\CE qLQ.eq_1/\CE qLR.eq_1/\CE qLS.eq_1/\CE qLT.eq_1/\OE qFB.eq_1/\OE qFC.eq_1/\OE qFD.eq_1/\CE qE9.eq_1/\CE qFA.eq_1/\OE qVA.eq_1/\OE qVB.eq_1/\OE qVC.eq_1/\OE qVD.eq_1/\OE qVE.eq_1/\CE qU9.eq_1/\OE qO7.eq_1/\OE qO8.eq_1/\OE qO9.eq_1/\OE qPA.eq_1/\OE qPB.eq_1/\OE qPC.eq_1/\CE qO5.eq_1/\CE qO6.eq_1/\OE qL0.eq_1/\OE qL1.eq_1/\OE qWU.eq_1/\OE qWV.eq_1/\OE qWW.eq_1/\OE qWX.eq_1/\OE qWY.eq_1/\CE qWT.eq_1/\OE qM1.eq_1/\OE qVG.eq_1/\OE qVH.eq_1/\OE qVI.eq_1/\CE qVF.eq_1/\OE qVJ.eq_1/\OE qVK.eq_1/\OE qVM.eq_1/\OE qVN.eq_1/\OE qVO.eq_1/\CE qVL.eq_1/\OE qD8.eq_1/\OE qD9.eq_1/\OE qEA.eq_1/\OE qEB.eq_1/\OE qEC.eq_1/\OE qED.eq_1/\OE qEE.eq_1/\OE qEF.eq_1/\CE qD6.eq_1/\CE qD7.eq_1/\OE qPK.eq_1/\OE qPL.eq_1/\OE qPM.eq_1/\OE qPN.eq_1/\CE qPJ.eq_1:=by and_intros<;>first|exact OEM _|exact CEM _
@[go_sem] theorem rR5:OE qVZ.eq_1/\OE qV0.eq_1/\CE qVY.eq_1/\OE qV1.eq_1/\OE qPO.eq_1/\OE qPP.eq_1/\OE qPR.eq_1/\OE qWH.eq_1/\OE qR1.eq_1/\OE qR2.eq_1/\CE qR0.eq_1/\OE qV3.eq_1/\OE qQM.eq_1/\OE qQN.eq_1/\OE qQO.eq_1/\CE qQK.eq_1/\OE qQP.eq_1/\OE qQQ.eq_1/\CE qQL.eq_1/\OE qPQ.eq_1/\OE qKG.eq_1/\OE qD5.eq_1/\OE qWA.eq_1/\OE qWB.eq_1/\OE qWC.eq_1/\OE qWD.eq_1/\CE qV9.eq_1/\OE qV7.eq_1/\OE qV8.eq_1/\CE qV5.eq_1/\CE qV6.eq_1/\OE qWE.eq_1/\OE qWF.eq_1/\OE qQX.eq_1/\OE qQY.eq_1/\OE qQZ.eq_1/\CE qQV.eq_1/\CE qQW.eq_1/\OE qXA.eq_1/\OE qXB.eq_1/\CE qW9.eq_1/\OE qW1.eq_1/\OE qW2.eq_1/\OE qW3.eq_1/\CE qWZ.eq_1/\CE qW0.eq_1/\OE qR9.eq_1/\OE qSA.eq_1/\OE qSB.eq_1/\OE qSC.eq_1/\OE qSD.eq_1/\OE qSE.eq_1/\CE qR7.eq_1/\CE qR8.eq_1/\OE qM2.eq_1/\OE qM6.eq_1/\OE qM7.eq_1/\CE qM5.eq_1/\OE qQ2.eq_1/\OE qQ3.eq_1:=by and_intros<;>first|exact OEM _|exact CEM _
@[go_sem] theorem rR6:OE qQ4.eq_1/\OE qQ5.eq_1/\CE qQ0.eq_1/\CE qQ1.eq_1/\OE qQ8.eq_1/\OE qQ9.eq_1/\OE qRA.eq_1/\CE qQ6.eq_1/\CE qQ7.eq_1/\OE qRC.eq_1/\OE qRD.eq_1/\OE qRE.eq_1/\OE qRF.eq_1/\CE qRB.eq_1/\OE qJ0.eq_1/\OE qJ1.eq_1/\OE qJ2.eq_1/\OE qJ3.eq_1/\OE qJ4.eq_1/\OE qJ5.eq_1/\CE qJZ.eq_1/\OE qXD.eq_1/\OE qXE.eq_1/\CE qXC.eq_1/\OE qW6.eq_1/\OE qW7.eq_1/\OE qW8.eq_1/\CE qW4.eq_1/\CE qW5.eq_1/\OE qSJ.eq_1/\OE qSK.eq_1/\OE qSL.eq_1/\OE qSM.eq_1/\OE qSN.eq_1/\OE qSO.eq_1/\CE qSF.eq_1/\CE qSG.eq_1/\CE qSH.eq_1/\CE qSI.eq_1/\OE qM4.eq_1/\CE qM3.eq_1/\OE qM9.eq_1/\OE qNA.eq_1/\CE qM8.eq_1/\OE qRJ.eq_1/\OE qRK.eq_1/\OE qRL.eq_1/\OE qRM.eq_1/\CE qRG.eq_1/\CE qRH.eq_1/\CE qRI.eq_1/\OE qRP.eq_1/\OE qRQ.eq_1/\OE qRR.eq_1/\CE qRN.eq_1/\CE qRO.eq_1/\OE qRU.eq_1/\OE qRV.eq_1/\OE qRW.eq_1/\OE qRX.eq_1:=by and_intros<;>first|exact OEM _|exact CEM _
@[go_sem] theorem rR7:CE qRS.eq_1/\CE qRT.eq_1/\OE qKL.eq_1/\OE qKM.eq_1/\OE qKN.eq_1/\OE qKO.eq_1/\OE qKP.eq_1/\OE qKQ.eq_1/\CE qKI.eq_1/\CE qKJ.eq_1/\CE qKK.eq_1/\OE qXG.eq_1/\OE qXH.eq_1/\CE qXF.eq_1/\OE qXI.eq_1/\OE qXJ.eq_1/\OE qXK.eq_1/\CE qWL.eq_1/\OE qFR.eq_1/\OE qFS.eq_1/\CE qFQ.eq_1/\CE qMA.eq_1/\CE qMB.eq_1/\CE qMC.eq_1/\CE qMD.eq_1/\CE qME.eq_1/\OE qMG.eq_1/\CE qMF.eq_1/\OE qF1.eq_1/\OE qF2.eq_1/\OE qF4.eq_1/\OE qF5.eq_1/\OE qF6.eq_1/\OE qF7.eq_1/\OE qF8.eq_1/\OE qF9.eq_1/\CE qFZ.eq_1/\CE qF0.eq_1/\CE qFX.eq_1/\OE qF3.eq_1/\CE qFY.eq_1/\OE qGC.eq_1/\OE qGD.eq_1/\CE qGA.eq_1/\CE qGB.eq_1/\OE qR3.eq_1/\OE qR4.eq_1/\OE qR5.eq_1/\OE qGE.eq_1/\OE qGF.eq_1/\OE qGG.eq_1/\OE qGV.eq_1/\OE qGK.eq_1/\OE qGL.eq_1/\OE qGO.eq_1/\OE qGP.eq_1/\OE qGQ.eq_1/\OE qGR.eq_1/\OE qGS.eq_1/\OE qGT.eq_1:=by and_intros<;>first|exact OEM _|exact CEM _
@[go_sem] theorem rR8:CE qGJ.eq_1/\OE qGU.eq_1/\OE qGM.eq_1/\OE qGN.eq_1/\CE qGH.eq_1/\CE qGI.eq_1/\OE qFO.eq_1/\OE qVS.eq_1/\OE qVT.eq_1/\OE qVU.eq_1/\OE qVV.eq_1/\OE qVW.eq_1/\OE qVX.eq_1/\CE qVP.eq_1/\CE qVQ.eq_1/\CE qVR.eq_1/\OE qGX.eq_1/\OE qGY.eq_1/\OE qGZ.eq_1/\OE qG0.eq_1/\OE qG1.eq_1/\OE qG2.eq_1/\OE qG3.eq_1/\CE qGW.eq_1/\OE qG7.eq_1/\OE qG8.eq_1/\OE qHD.eq_1/\OE qHE.eq_1/\OE qHF.eq_1/\OE qHG.eq_1/\CE qG6.eq_1/\OE qHH.eq_1/\OE qHI.eq_1/\OE qHJ.eq_1/\OE qG9.eq_1/\OE qHA.eq_1/\OE qHB.eq_1/\CE qG4.eq_1/\OE qHC.eq_1/\CE qG5.eq_1/\OE qHM.eq_1/\OE qHN.eq_1/\OE qHQ.eq_1/\OE qHR.eq_1/\OE qHS.eq_1/\OE qHT.eq_1/\OE qHU.eq_1/\CE qHK.eq_1/\OE qHV.eq_1/\CE qHL.eq_1/\OE qHO.eq_1/\OE qHP.eq_1/\OE qHW.eq_1/\OE qXR.eq_1/\OE qXS.eq_1/\OE qXW.eq_1/\OE qXX.eq_1/\OE qXY.eq_1/\OE qXZ.eq_1/\OE qX0.eq_1:=by and_intros<;>first|exact OEM _|exact CEM _
@[go_sem] theorem rR9:OE qX1.eq_1/\OE qX2.eq_1/\CE qXQ.eq_1/\CE qXL.eq_1/\OE qXT.eq_1/\OE qXU.eq_1/\OE qXV.eq_1/\CE qXM.eq_1/\CE qXN.eq_1/\CE qXO.eq_1/\CE qAA.eq_1/\CE qXP.eq_1/\OE qX4.eq_1/\OE qX5.eq_1/\OE qX6.eq_1/\CE qX3.eq_1/\OE qYB.eq_1/\OE qYC.eq_1/\OE qYF.eq_1/\CE qX9.eq_1/\OE qYG.eq_1/\OE qYH.eq_1/\OE qYI.eq_1/\OE qYJ.eq_1/\OE qYK.eq_1/\CE qYA.eq_1/\OE qYD.eq_1/\CE qX7.eq_1/\OE qYE.eq_1/\CE qX8.eq_1/\OE qS4.eq_1/\OE qS5.eq_1/\OE qTB.eq_1/\OE qTC.eq_1/\OE qTD.eq_1/\OE qTE.eq_1/\OE qTF.eq_1/\OE qTG.eq_1/\OE qTH.eq_1/\OE qTI.eq_1/\OE qS6.eq_1/\OE qS7.eq_1/\CE qS0.eq_1/\OE qS8.eq_1/\OE qS9.eq_1/\OE kT.eq_1/\OE kU.eq_1/\OE qTA.eq_1/\CE qS1.eq_1/\CE qS2.eq_1/\CE qS3.eq_1/\OE qNE.eq_1/\OE qNF.eq_1/\OE qNG.eq_1/\OE qNH.eq_1/\OE qNI.eq_1/\OE qNJ.eq_1/\OE qNK.eq_1/\CE qNC.eq_1/\OE qNL.eq_1:=by and_intros<;>first|exact OEM _|exact CEM _
@[go_sem] theorem rR10:CE qND.eq_1/\CE qNB.eq_1/\OE qYL.eq_1/\OE qL4.eq_1/\OE qL5.eq_1/\OE qL6.eq_1/\OE qL7.eq_1/\OE qL8.eq_1/\OE qL9.eq_1/\CE qL2.eq_1/\CE qL3.eq_1/\OE qHZ.eq_1/\OE qH0.eq_1/\OE qH2.eq_1/\OE qH3.eq_1/\OE qH4.eq_1/\OE qH5.eq_1/\OE qH6.eq_1/\OE qH7.eq_1/\OE qH8.eq_1/\OE qH9.eq_1/\CE qHX.eq_1/\OE qH1.eq_1/\CE qHY.eq_1/\OE qIA.eq_1/\CE qMH.eq_1/\CE qMI.eq_1/\CE qMJ.eq_1/\CE qMK.eq_1/\OE qMM.eq_1/\OE qMN.eq_1/\CE qML.eq_1/\OE qID.eq_1/\OE qIE.eq_1/\OE qIF.eq_1/\OE qIG.eq_1/\CE qIB.eq_1/\CE qIC.eq_1/\OE qIH.eq_1/\OE qFV.eq_1/\OE qFW.eq_1/\OE qII.eq_1/\OE qIJ.eq_1/\OE qIZ.eq_1/\OE qI0.eq_1/\OE qI1.eq_1/\OE qIN.eq_1/\OE qIO.eq_1/\OE qIS.eq_1/\OE qIT.eq_1/\OE qIU.eq_1/\OE qIV.eq_1/\OE qIW.eq_1/\OE qIX.eq_1/\CE qIM.eq_1/\OE qIY.eq_1/\OE qIP.eq_1/\OE qIQ.eq_1/\OE qIR.eq_1/\CE qIK.eq_1:=by and_intros<;>first|exact OEM _|exact CEM _
@[go_sem] theorem rR11:CE qIL.eq_1/\OE qLX.eq_1/\OE qFH.eq_1/\OE qFI.eq_1/\OE qFJ.eq_1/\OE qFK.eq_1/\OE qFL.eq_1/\OE qFM.eq_1/\OE qFN.eq_1/\CE qFE.eq_1/\CE qFF.eq_1/\CE qFG.eq_1/\OE qI2.eq_1/\OE qI3.eq_1/\OE qI4.eq_1/\OE qI5.eq_1/\OE qI6.eq_1/\OE qJA.eq_1/\OE qJB.eq_1/\OE qJD.eq_1/\OE qJE.eq_1/\OE qJF.eq_1/\OE qJG.eq_1/\OE qJH.eq_1/\CE qI9.eq_1/\OE qJI.eq_1/\OE qJJ.eq_1/\CE qI7.eq_1/\OE qJC.eq_1/\CE qI8.eq_1/\OE qJM.eq_1/\OE qJN.eq_1/\OE qJP.eq_1/\OE qJQ.eq_1/\OE qJR.eq_1/\OE qJS.eq_1/\OE qJT.eq_1/\CE qJK.eq_1/\OE qJU.eq_1/\CE qJL.eq_1/\OE qJO.eq_1/\OE qJW.eq_1/\CE qJV.eq_1/\OE qYR.eq_1/\OE qYS.eq_1/\OE qYW.eq_1/\OE qYX.eq_1/\OE qYY.eq_1/\OE qYZ.eq_1/\OE qY0.eq_1/\CE qYQ.eq_1/\OE qY1.eq_1/\OE qY2.eq_1/\OE qYT.eq_1/\OE qYU.eq_1/\CE qYM.eq_1/\CE qYN.eq_1/\CE qYO.eq_1/\OE qYV.eq_1/\CE qYP.eq_1:=by and_intros<;>first|exact OEM _|exact CEM _
@[go_sem] theorem rR12:OE qY3.eq_1/\OE qY4.eq_1/\OE qY5.eq_1/\OE qY6.eq_1/\OE qY7.eq_1/\OE qTV.eq_1/\OE qTW.eq_1/\CE qTR.eq_1/\OE qTX.eq_1/\OE qTY.eq_1/\OE qTZ.eq_1/\CE qTS.eq_1/\OE qT0.eq_1/\CE qTT.eq_1/\CE qTU.eq_1/\CE qTQ.eq_1/\OE qY9.eq_1/\OE qZA.eq_1/\OE qZB.eq_1/\CE qY8.eq_1/\OE qZC.eq_1/\OE qZD.eq_1/\OE qTM.eq_1/\OE qTN.eq_1/\OE qTO.eq_1/\OE qTP.eq_1/\OE jd.eq_1/\OE je.eq_1/\OE jf.eq_1/\OE jg.eq_1/\CE qTL.eq_1/\OE jh.eq_1/\OE jc.eq_1/\CE qTJ.eq_1/\CE qTK.eq_1/\OE qNP.eq_1/\OE qNQ.eq_1/\OE qNS.eq_1/\OE qNT.eq_1/\OE qNU.eq_1/\OE qNV.eq_1/\OE qNW.eq_1/\OE qNX.eq_1/\OE qNY.eq_1/\OE qNZ.eq_1/\CE qNM.eq_1/\CE qNN.eq_1/\OE qNR.eq_1/\CE qNO.eq_1/\OE qP2.eq_1/\OE qP3.eq_1/\OE qP7.eq_1/\OE qP8.eq_1/\OE qP9.eq_1/\OE qQA.eq_1/\OE qQB.eq_1/\OE qQC.eq_1/\OE qQD.eq_1/\OE qQE.eq_1/\OE qP4.eq_1:=by and_intros<;>first|exact OEM _|exact CEM _
@[go_sem] theorem rR13:OE qP5.eq_1/\OE qP6.eq_1/\CE qPX.eq_1/\CE qPY.eq_1/\CE qPZ.eq_1/\CE qP0.eq_1/\CE qP1.eq_1:=by and_intros<;>first|exact OEM _|exact CEM _
def tabm:List (Nat×qP):=[(338,F338),(1173,qFP),(852,F852),(501,F501),(182,Kb),(181,F181),(364,F364),(365,F365),(740,kf),(366,F366),(104,UU),(340,Km),(412,Kz),(426,K0),(488,kG),(1371,U8),(1384,KB),(1372,U9),(1489,KU),(1385,KC),(1494,KV),(1386,KD),(1096,UZ),(710,kX),(318,Kk),(598,kR),(1109,Ub),(741,ki),(367,Kn),(742,kj),(1395,KI),(1499,KX),(1500,KY),(1396,KJ),(1110,Uc),(743,kq),(1111,Ud),(744,ku),(368,Ko),(369,Kp),(147,KS),(1419,XW),(1178,Ul),(858,Xe),(504,kL),(185,XX),(184,Kc),(745,Xa),(370,Kq),(134,XV),(371,Kr),(746,Xb),(372,Ks),(106,XT),(774,F774),(397,F397),(775,F775),(406,Ky),(801,F801),(436,kE),(1179,qFT),(859,F859),(554,kP),(796,F796),(1050,UV),(1051,UW),(1487,KT),(1387,KE),(1388,KF),(1375,KA),(1495,KW),(1389,KG),(1390,KH),(1097,Ua),(711,kY),(1098,qEW),(712,F712),(555,Ze),(714,ke),(713,kZ),(319,Kl),(860,F860),(505,kM),(1397,qLO),(1112,qE6),(1114,Uf),(1113,Ue),(747,kw),(771,F771),(748,F748),(428,K3),(749,kz),(373,Kt),(376,Kv),(750,F750),(1501,KZ),(1502,Ka),(1398,KL),(1115,Ug),(751,Xc),(374,Ku),(86,F86),(1422,KO),(1184,qFU),(870,F870),(508,F508),(188,Kd),(187,F187),(752,F752),(377,F377),(753,F753),(378,F378),(754,F754),(379,F379),(108,UX),(393,Kw),(772,F772),(394,Kx),(402,XY),(837,Zf),(489,XZ),(795,Xd),(427,K2),(401,F401),(1373,qKF),(1085,UY),(798,F798),(797,F797),(799,F799),(800,F800),(429,K4),(90,F90),(885,F885),(524,kN),(198,Ke),(225,Kg),(430,K5),(431,K6),(432,K7),(136,U6),(92,F92),(886,F886),(525,kO),(199,Kf),(230,Kh),(433,K8),(434,K9),(435,kD),(137,U7),(949,F949),(952,F952),(856,F856),(1177,Uk),(1460,KQ),(1296,Un),(1297,Uo),(490,kJ),(491,kK),(1298,Up),(1300,Ur),(1299,Uq),(1125,Ui),(1126,Uj),(762,F762),(1301,Us),(1302,Ut),(1303,Uu),(1304,XU),(979,F979),(980,F980),(981,F981),(607,kS),(250,Ki),(982,F982),(1456,KP),(1305,Uv),(1306,Uw),(1461,KR),(1307,Ux),(1196,Um),(1308,Uy),(1310,U0),(1311,U1),(1309,Uz),(566,kQ),(1400,KN),(1118,Uh),(1312,U2),(1313,U3),(1314,U4),(1315,U5),(983,F983),(984,F984),(702,kW),(985,F985),(986,F986),(608,kV),(251,Kj),(41,F41)]
def Gm(g:Nat):Option AFn:=ZM g tabm
theorem gk(g:Nat)(F:qP)(h:Gm g=some (.fn F):=by kernel_rfl):Gm g=some (.fn F):=h
theorem pI{Γ:Nat->Option AFn}{g:Nat}(F:qP){as:List AV}{v:AV}(ht:AV.trees as=true)(hv:v.tree=true)(hR:R ⟨Γ,0,[],[]⟩ [.code F.body] ⟨qQ 0 as,[],[]⟩ (Wg F.res v))(hg:Γ g=some (.fn F):=by kernel_rfl)(hok:F.body.ok=true:=by kernel_rfl)(hn:as.length=F.np:=by rfl):Pure Γ g as v:=Pure.intro [] [] hg hok hn ht hv hR
theorem fI{Γ:Nat->Option AFn}{g:Nat}(F:qP){as:List AV}{t:AV}(ht:AV.trees as=true)(hp:t.pl=true)(hR:R ⟨Γ,0,[],[]⟩ [.code F.body] ⟨qQ 0 as,[],[]⟩ (Wf F.res t))(hg:Γ g=some (.fn F):=by kernel_rfl)(hok:F.body.ok=true:=by kernel_rfl)(hn:as.length=F.np:=by rfl):Fresh Γ g as t:=Fresh.intro [] [] hg hok hn ht hp hR
theorem sI{Γ:Nat->Option AFn}{g:Nat}{vs:List AV}{h:List qD}(F:qP){K:AV->List qD->Prop}(hR:R ⟨Γ,h.length,[],[]⟩ [.code F.body] ⟨qQ 0 vs,[],h⟩ (Qf F.res K))(hg:Γ g=some (.fn F):=by kernel_rfl)(hok:F.body.ok=true:=by kernel_rfl)(hn:vs.length=F.np:=by rfl):SCall Γ g vs h K:=SCall.run [] [] hg hok hn hR
theorem c338(xs:List Int)(hx:xs.length<=140737488355328)(left:Nat)(hl:left<=1048576):Pure Gm 338 [.lst 1 (xs.map qK) false,.int .i64 left] (.int .i64 (jo xs.length left)):=
 UK (gk _ F338) shI.tree xs left hl hx
theorem qfL(xs:List qG)(hx:xs.length<=140737488355328)(left:Nat)(hl:left<=1048576):Pure Gm 1173 [.lst 2 (xs.map qG.enc) false,.int .i64 left] (.int .i64 (jo xs.length left)):=
 UK (gk _ qFP) qG.isSh.tree xs left hl hx
theorem c852(x:qA)(hb:x.bd)(left:Nat)(hl:left<=1048576):Pure Gm 852 [x.enc,.int .i64 left] (.int .i64 (jo x.sz left)):=by
 refine pI F852 (by simp[AV.trees,AV.tree,qA.tr]) rfl ?_;simp only[F852,qQ,go_sem];refine qW rfl ?_;simp only[go_sem];unfold qA.bd at hb;refine qO (c338 _ hb.1 _ (by omega)) ?_;simp only[go_sem];apply qM<;>intro hc<;>simp only[hc,go_sem]
 ·have hq:=odT hc;rw[jJ]at hq;exact qR rfl (by rw[wX (by unfold qA.sz;omega)])
 have hq:=odF hc;rw[jJ]at hq;rw[jp (by omega)];clear hc;refine qO (qfL _ hb.2 _ (by omega)) ?_;simp only[go_sem];apply qM<;>intro hc<;>simp only[hc,go_sem]
 ·have hq:=odT hc;rw[jJ]at hq;exact qR rfl (by rw[wX (by unfold qA.sz;omega)])
 have hq:=odF hc;rw[jJ]at hq;rw[jp (by omega)];clear hc;exact qR rfl (by rw[jp (by unfold qA.sz;omega)];unfold qA.sz;first | rfl | (congr 2;omega))
theorem c501(xs:List qA)(hx:xs.length<=140737488355328/\(∀y∈xs,qA.bd y))(left:Nat)(hl:left<=1048576):Pure Gm 501 [.lst 5 (xs.map qA.enc) false,.int .i64 left] (.int .i64 (jo (xs.length+qH qA.sz xs) left)):=
 qDB qA.isSh (gk _ F501) qA.sz xs (fun x hm lf hlf=>c852 x (hx.2 x hm) lf hlf) left hl hx.1
theorem c182(x:qC)(hb:x.bd)(left:Nat)(hl:left<=1048576):Pure Gm 182 [x.enc,.int .i64 left] (.int .i64 (jo x.sz left)):=by
 refine pI Kb (by simp[AV.trees,AV.tree,qC.tr]) rfl ?_;simp only[Kb,qQ,go_sem];refine qW rfl ?_;simp only[go_sem];unfold qC.bd at hb;refine qO (c501 _ ⟨hb.1,hb.2⟩ _ (by omega)) ?_;simp only[go_sem];apply qM<;>intro hc<;>simp only[hc,go_sem]
 ·have hq:=odT hc;rw[jJ]at hq;exact qR rfl (by rw[wX (by unfold qC.sz;omega)])
 have hq:=odF hc;rw[jJ]at hq;rw[jp (by omega)];clear hc;exact qR rfl (by rw[jp (by unfold qC.sz;omega)];unfold qC.sz;first | rfl | (congr 2;omega))
theorem c181(xs:List qC)(hx:xs.length<=140737488355328/\(∀y∈xs,qC.bd y))(left:Nat)(hl:left<=1048576):Pure Gm 181 [.lst 1 (xs.map qC.enc) false,.int .i64 left] (.int .i64 (jo (xs.length+qH qC.sz xs) left)):=
 qDB qC.isSh (gk _ F181) qC.sz xs (fun x hm lf hlf=>c182 x (hx.2 x hm) lf hlf) left hl hx.1
theorem c364(xs:List qE)(hx:xs.length<=140737488355328)(left:Nat)(hl:left<=1048576):Pure Gm 364 [.lst 3 (xs.map qE.enc) false,.int .i64 left] (.int .i64 (jo xs.length left)):=
 UK (gk _ F364) qE.isSh.tree xs left hl hx
theorem c365(xs:List qI)(hx:xs.length<=140737488355328)(left:Nat)(hl:left<=1048576):Pure Gm 365 [.lst 2 (xs.map qI.enc) false,.int .i64 left] (.int .i64 (jo xs.length left)):=
 UK (gk _ F365) qI.isSh.tree xs left hl hx
theorem c740(x:qF)(hb:x.bd)(left:Nat)(hl:left<=1048576):Pure Gm 740 [x.enc,.int .i64 left] (.int .i64 (jo x.sz left)):=by
 refine pI kf (by simp[AV.trees,AV.tree,qF.tr]) rfl ?_;simp only[kf,qQ,go_sem];refine qW rfl ?_;simp only[go_sem];unfold qF.bd at hb;refine qO (c182 _ hb.1 _ (by omega)) ?_;simp only[go_sem];apply qM<;>intro hc<;>simp only[hc,go_sem]
 ·have hq:=odT hc;rw[jJ]at hq;exact qR rfl (by rw[wX (by unfold qF.sz;omega)])
 have hq:=odF hc;rw[jJ]at hq;rw[jp (by omega)];clear hc;refine qO (c364 _ hb.2 _ (by omega)) ?_;simp only[go_sem];apply qM<;>intro hc<;>simp only[hc,go_sem]
 ·have hq:=odT hc;rw[jJ]at hq;exact qR rfl (by rw[wX (by unfold qF.sz;omega)])
 have hq:=odF hc;rw[jJ]at hq;rw[jp (by omega)];clear hc;exact qR rfl (by rw[jp (by unfold qF.sz;omega)];unfold qF.sz;first | rfl | (congr 2;omega))
theorem c366(xs:List qF)(hx:xs.length<=140737488355328/\(∀y∈xs,qF.bd y))(left:Nat)(hl:left<=1048576):Pure Gm 366 [.lst 3 (xs.map qF.enc) false,.int .i64 left] (.int .i64 (jo (xs.length+qH qF.sz xs) left)):=
 qDB qF.isSh (gk _ F366) qF.sz xs (fun x hm lf hlf=>c740 x (hx.2 x hm) lf hlf) left hl hx.1
theorem c104(x:qJ)(hb:x.bd)(left:Nat)(hl:left<=1048576):Pure Gm 104 [x.enc,.int .i64 left] (.int .i64 (jo x.sz left)):=by
 refine pI UU (by simp[AV.trees,AV.tree,qJ.tr]) rfl ?_;simp only[UU,qQ,go_sem];refine qW rfl ?_;simp only[go_sem];unfold qJ.bd at hb;refine qO (c181 _ ⟨hb.1,hb.2.1⟩ _ (by omega)) ?_;simp only[go_sem];apply qM<;>intro hc<;>simp only[hc,go_sem]
 ·have hq:=odT hc;rw[jJ]at hq;exact qR rfl (by rw[wX (by unfold qJ.sz;omega)])
 have hq:=odF hc;rw[jJ]at hq;rw[jp (by omega)];clear hc;refine qO (c338 _ hb.2.2.1 _ (by omega)) ?_;simp only[go_sem];apply qM<;>intro hc<;>simp only[hc,go_sem]
 ·have hq:=odT hc;rw[jJ]at hq;exact qR rfl (by rw[wX (by unfold qJ.sz;omega)])
 have hq:=odF hc;rw[jJ]at hq;rw[jp (by omega)];clear hc;refine qO (c182 _ hb.2.2.2.1 _ (by omega)) ?_;simp only[go_sem];apply qM<;>intro hc<;>simp only[hc,go_sem]
 ·have hq:=odT hc;rw[jJ]at hq;exact qR rfl (by rw[wX (by unfold qJ.sz;omega)])
 have hq:=odF hc;rw[jJ]at hq;rw[jp (by omega)];clear hc;refine qO (c364 _ hb.2.2.2.2.1 _ (by omega)) ?_;simp only[go_sem];apply qM<;>intro hc<;>simp only[hc,go_sem]
 ·have hq:=odT hc;rw[jJ]at hq;exact qR rfl (by rw[wX (by unfold qJ.sz;omega)])
 have hq:=odF hc;rw[jJ]at hq;rw[jp (by omega)];clear hc;refine qO (c365 _ hb.2.2.2.2.2.1 _ (by omega)) ?_;simp only[go_sem];apply qM<;>intro hc<;>simp only[hc,go_sem]
 ·have hq:=odT hc;rw[jJ]at hq;exact qR rfl (by rw[wX (by unfold qJ.sz;omega)])
 have hq:=odF hc;rw[jJ]at hq;rw[jp (by omega)];clear hc;refine qO (c366 _ ⟨hb.2.2.2.2.2.2.1,hb.2.2.2.2.2.2.2⟩ _ (by omega)) ?_;simp only[go_sem];apply qM<;>intro hc<;>simp only[hc,go_sem]
 ·have hq:=odT hc;rw[jJ]at hq;exact qR rfl (by rw[wX (by unfold qJ.sz;omega)])
 have hq:=odF hc;rw[jJ]at hq;rw[jp (by omega)];clear hc;exact qR rfl (by rw[jp (by unfold qJ.sz;omega)];unfold qJ.sz;first | rfl | (congr 2;omega))
theorem c147(xs:List Int)(hl:xs.length<=1048576):Pure Gm 147 [.lst 1 (xs.map qK) false] (.lst 1 (xs.map qK) false):=qmS (gk _ KS) xs hl
theorem qfY(x:qG):Pure Gm 1419 [x.enc] x.enc:=by
 refine pI XW (by simp[AV.trees,qG.tr]) qG.tr ?_;simp only[XW,qQ,go_sem];refine qW rfl ?_;simp only[go_sem];refine qU rfl rfl ⟨_,rfl⟩ (by decide) ?_;simp only[go_sem];exact qR qG.tr rfl
theorem qfN(xs:List qG)(hl:xs.length<=1048576):Pure Gm 1178 [.lst 2 (xs.map qG.enc) false] (.lst 2 (xs.map qG.enc) false):=
 XN qG.isSh rfl rfl (by simp) (gk _ Ul) xs (fun x hm=>qfY x) (by omega)
theorem c858(x:qA)(hz:x.sz<=1048576):Pure Gm 858 [x.enc] x.enc:=by
 refine pI Xe (by simp[AV.trees,qA.tr]) qA.tr ?_;simp only[Xe,qQ,go_sem];refine qW rfl ?_;simp only[go_sem];unfold qA.sz at hz;refine qO (c147 _ (by omega)) ?_;simp only[go_sem];refine qO (qfN _ (by omega)) ?_;simp only[go_sem];refine qU rfl rfl ⟨_,rfl⟩ (by decide) ?_;simp only[go_sem];exact qR qA.tr rfl
theorem c504(xs:List qA)(hl:xs.length+qH qA.sz xs<=1048576):Pure Gm 504 [.lst 5 (xs.map qA.enc) false] (.lst 5 (xs.map qA.enc) false):=
 XN qA.isSh rfl rfl (by simp) (gk _ kL) xs (fun x hm=>c858 x (by have:=zq (f:=qA.sz) hm;omega)) (by omega)
theorem c185(x:qC)(hz:x.sz<=1048576):Pure Gm 185 [x.enc] x.enc:=by
 refine pI XX (by simp[AV.trees,qC.tr]) qC.tr ?_;simp only[XX,qQ,go_sem];refine qW rfl ?_;simp only[go_sem];unfold qC.sz at hz;refine qO (c504 _ (by omega)) ?_;simp only[go_sem];exact qR qC.tr rfl
theorem c184(xs:List qC)(hl:xs.length+qH qC.sz xs<=1048576):Pure Gm 184 [.lst 1 (xs.map qC.enc) false] (.lst 1 (xs.map qC.enc) false):=
 XN qC.isSh rfl rfl (by simp) (gk _ Kc) xs (fun x hm=>c185 x (by have:=zq (f:=qC.sz) hm;omega)) (by omega)
theorem c745(x:qE):Pure Gm 745 [x.enc] x.enc:=by
 refine pI Xa (by simp[AV.trees,qE.tr]) qE.tr ?_;simp only[Xa,qQ,go_sem];refine qW rfl ?_;simp only[go_sem];refine qU rfl rfl ⟨_,rfl⟩ (by decide) ?_;simp only[go_sem];exact qR qE.tr rfl
theorem c370(xs:List qE)(hl:xs.length<=1048576):Pure Gm 370 [.lst 3 (xs.map qE.enc) false] (.lst 3 (xs.map qE.enc) false):=
 XN qE.isSh rfl rfl (by simp) (gk _ Kq) xs (fun x hm=>c745 x) (by omega)
theorem c134(x:qI):Pure Gm 134 [x.enc] x.enc:=by
 refine pI XV (by simp[AV.trees,qI.tr]) qI.tr ?_;simp only[XV,qQ,go_sem];refine qW rfl ?_;simp only[go_sem];refine qU rfl rfl ⟨_,rfl⟩ (by decide) ?_;simp only[go_sem];exact qR qI.tr rfl
theorem c371(xs:List qI)(hl:xs.length<=1048576):Pure Gm 371 [.lst 2 (xs.map qI.enc) false] (.lst 2 (xs.map qI.enc) false):=
 XN qI.isSh rfl rfl (by simp) (gk _ Kr) xs (fun x hm=>c134 x) (by omega)
theorem c746(x:qF)(hz:x.sz<=1048576):Pure Gm 746 [x.enc] x.enc:=by
 refine pI Xb (by simp[AV.trees,qF.tr]) qF.tr ?_;simp only[Xb,qQ,go_sem];refine qW rfl ?_;simp only[go_sem];unfold qF.sz at hz;refine qO (c185 _ (by omega)) ?_;simp only[go_sem];refine qO (c370 _ (by omega)) ?_;simp only[go_sem];refine qU rfl rfl ⟨_,rfl⟩ (by decide) ?_;simp only[go_sem];exact qR qF.tr rfl
theorem c372(xs:List qF)(hl:xs.length+qH qF.sz xs<=1048576):Pure Gm 372 [.lst 3 (xs.map qF.enc) false] (.lst 3 (xs.map qF.enc) false):=
 XN qF.isSh rfl rfl (by simp) (gk _ Ks) xs (fun x hm=>c746 x (by have:=zq (f:=qF.sz) hm;omega)) (by omega)
theorem c106(x:qJ)(hz:x.sz<=1048576):Pure Gm 106 [x.enc] x.enc:=by
 refine pI XT (by simp[AV.trees,qJ.tr]) qJ.tr ?_;simp only[XT,qQ,go_sem];refine qW rfl ?_;simp only[go_sem];unfold qJ.sz at hz;refine qO (c184 _ (by omega)) ?_;simp only[go_sem];refine qO (c147 _ (by omega)) ?_;simp only[go_sem];refine qO (c185 _ (by omega)) ?_;simp only[go_sem];refine qO (c370 _ (by omega)) ?_;simp only[go_sem];refine qO (c371 _ (by omega)) ?_;simp only[go_sem];refine qO (c372 _ (by omega)) ?_;simp only[go_sem];refine qU rfl rfl ⟨_,rfl⟩ (by decide) ?_;simp only[go_sem];exact qR qJ.tr rfl
theorem c86(xs:List Int)(hl:xs.length<=1073741824):Pure Gm 86 [.lst 1 (xs.map qK) false,.lst 1 (xs.map qK) false] (.bool true):=qhH (gk _ F86) xs hl
theorem qfZ(x:qG):Pure Gm 1422 [x.enc,x.enc] (.bool true):=by
 refine pI KO (by simp[AV.trees,qG.tr]) rfl ?_;simp only[KO,qQ,go_sem];refine qW rfl ?_;simp only[go_sem];refine qW rfl ?_;simp only[go_sem];exact qR rfl rfl
theorem qfO(xs:List qG)(hl:xs.length<=1073741824):Pure Gm 1184 [.lst 2 (xs.map qG.enc) false,.lst 2 (xs.map qG.enc) false] (.bool true):=
 Wc qG.isSh (gk _ qFU) xs (fun x hm=>qfZ x) (by omega)
theorem c870(x:qA)(hz:x.sz<=1073741824):Pure Gm 870 [x.enc,x.enc] (.bool true):=by
 refine pI F870 (by simp[AV.trees,qA.tr]) rfl ?_;simp only[F870,qQ,go_sem];refine qW rfl ?_;simp only[go_sem];refine qW rfl ?_;simp only[go_sem];unfold qA.sz at hz;refine qO (c86 _ (by omega)) ?_;simp only[go_sem];refine qO (qfO _ (by omega)) ?_;simp only[go_sem];exact qR rfl rfl
theorem c508(xs:List qA)(hl:xs.length+qH qA.sz xs<=1073741824):Pure Gm 508 [.lst 5 (xs.map qA.enc) false,.lst 5 (xs.map qA.enc) false] (.bool true):=
 Wc qA.isSh (gk _ F508) xs (fun x hm=>c870 x (by have:=zq (f:=qA.sz) hm;omega)) (by omega)
theorem c188(x:qC)(hz:x.sz<=1073741824):Pure Gm 188 [x.enc,x.enc] (.bool true):=by
 refine pI Kd (by simp[AV.trees,qC.tr]) rfl ?_;simp only[Kd,qQ,go_sem];refine qW rfl ?_;simp only[go_sem];refine qW rfl ?_;simp only[go_sem];unfold qC.sz at hz;refine qO (c508 _ (by omega)) ?_;simp only[go_sem];exact qR rfl rfl
theorem c187(xs:List qC)(hl:xs.length+qH qC.sz xs<=1073741824):Pure Gm 187 [.lst 1 (xs.map qC.enc) false,.lst 1 (xs.map qC.enc) false] (.bool true):=
 Wc qC.isSh (gk _ F187) xs (fun x hm=>c188 x (by have:=zq (f:=qC.sz) hm;omega)) (by omega)
theorem c752(x:qE):Pure Gm 752 [x.enc,x.enc] (.bool true):=by
 refine pI F752 (by simp[AV.trees,qE.tr]) rfl ?_;simp only[F752,qQ,go_sem];refine qW rfl ?_;simp only[go_sem];refine qW rfl ?_;simp only[go_sem];exact qR rfl rfl
theorem c377(xs:List qE)(hl:xs.length<=1073741824):Pure Gm 377 [.lst 3 (xs.map qE.enc) false,.lst 3 (xs.map qE.enc) false] (.bool true):=
 Wc qE.isSh (gk _ F377) xs (fun x hm=>c752 x) (by omega)
theorem c753(x:qI):Pure Gm 753 [x.enc,x.enc] (.bool true):=by
 refine pI F753 (by simp[AV.trees,qI.tr]) rfl ?_;simp only[F753,qQ,go_sem];refine qW rfl ?_;simp only[go_sem];refine qW rfl ?_;simp only[go_sem];exact qR rfl rfl
theorem c378(xs:List qI)(hl:xs.length<=1073741824):Pure Gm 378 [.lst 2 (xs.map qI.enc) false,.lst 2 (xs.map qI.enc) false] (.bool true):=
 Wc qI.isSh (gk _ F378) xs (fun x hm=>c753 x) (by omega)
theorem c754(x:qF)(hz:x.sz<=1073741824):Pure Gm 754 [x.enc,x.enc] (.bool true):=by
 refine pI F754 (by simp[AV.trees,qF.tr]) rfl ?_;simp only[F754,qQ,go_sem];refine qW rfl ?_;simp only[go_sem];refine qW rfl ?_;simp only[go_sem];unfold qF.sz at hz;refine qO (c188 _ (by omega)) ?_;simp only[go_sem];refine qO (c377 _ (by omega)) ?_;simp only[go_sem];exact qR rfl rfl
theorem c379(xs:List qF)(hl:xs.length+qH qF.sz xs<=1073741824):Pure Gm 379 [.lst 3 (xs.map qF.enc) false,.lst 3 (xs.map qF.enc) false] (.bool true):=
 Wc qF.isSh (gk _ F379) xs (fun x hm=>c754 x (by have:=zq (f:=qF.sz) hm;omega)) (by omega)
theorem Yz(x:qJ)(hz:x.sz<=1073741824):Pure Gm 108 [x.enc,x.enc] (.bool true):=by
 refine pI UX (by simp[AV.trees,qJ.tr]) rfl ?_;simp only[UX,qQ,go_sem];refine qW rfl ?_;simp only[go_sem];refine qW rfl ?_;simp only[go_sem];unfold qJ.sz at hz;refine qO (c187 _ (by omega)) ?_;simp only[go_sem];refine qO (c86 _ (by omega)) ?_;simp only[go_sem];refine qO (c188 _ (by omega)) ?_;simp only[go_sem];refine qO (c377 _ (by omega)) ?_;simp only[go_sem];refine qO (c378 _ (by omega)) ?_;simp only[go_sem];refine qO (c379 _ (by omega)) ?_;simp only[go_sem];exact qR rfl rfl
def inI(n lo hi:Int):Bool:=decide (lo<=n)&&decide (n<=hi)
def wL(k f:Int):Int:=
 if k=9 then(if inI f 0 3 then f+1 else 0)else if f≠0 then 0 else
 if k=1\/k=5\/k=6\/k=12 then 1 else if k=8\/k=10\/k=11 then 2 else if k=2\/k=3\/k=4\/k=7 then 3 else 0
def wT(k:Int):Bool:=decide (k=2) || decide (k=3) || decide (k=4) || decide (k=7) || decide (k=8) || decide (k=9) || decide (k=10) || decide (k=11) || decide (k=12)
def ZH(k:Int):Bool:=inI k 1 12
def jq(k l:Int):Bool:=if wT k then inI l 0 8 else ZH k&&decide (l=0)
def w7(b:qI):Bool:=if b.Kind=1 then inI b.Value 1 8 else if b.Kind=2 then inI b.Value 0 23 else if b.Kind=3 then inI b.Value 1 600 else false
def jv(n:Int):Bool:=inI n 0 23
def fieldsOf(x:qA):Int:=if x.Kind=9 then(x.Ports.length:Int)-1 else 0
def zu(x:qA):Bool:=
 if x.Kind=6 then decide ((x.Data.length:Int)=0)&&inI x.Value (-2147483648) 2147483647
 else if x.Kind=7 then decide ((x.Data.length:Int)=0)&&inI x.Value 1 6
 else if x.Kind=8 then decide ((x.Data.length:Int)=1)&&inI x.Value 1 6&&x.Data.all fun d=>inI d (-2147483648) 2147483647
 else if x.Kind=9 then decide ((x.Data.length:Int)=0)&&inI x.Value 0 3
 else if x.Kind=12 then decide ((x.Data.length:Int)=0)&&jv x.Value
 else if x.Kind=10 then decide (x.Value=0)&&inI x.Data.length 1 4&&x.Data.all jv
 else if x.Kind=11 then decide (x.Value=0)&&decide ((x.Data.length:Int)=2)&&x.Data.all jv
 else decide (x.Value=0)&&decide ((x.Data.length:Int)=0)
def qk(x:qA):Bool:=decide (0<wL x.Kind (fieldsOf x))&&decide ((x.Ports.length:Int)=wL x.Kind (fieldsOf x))&&jq x.Kind x.Level&&zu x
def ji:List qA->Nat->Bool
 |[],_=>true
 | x::xs,i=>qk x&&(decide (x.Kind=1)==decide (i=0))&&ji xs (i+1)
def wE(xs:List qA):Bool:=inI xs.length 1 600&&ji xs 0
def Jk(xs:List qA)(a:Int):Nat:=match xs[a.toNat]? with
 | some x=>x.Ports.length
 | none=>0
def we(xs:List qA)(p:qG):Bool:=inI p.Agent 0 ((xs.length:Int)-1)&&inI p.Slot 0 ((Jk xs p.Agent:Int)-1)
theorem jF{α:Type}{xs:List α}{i:Nat}(h:i<xs.length):xs.drop i=xs[i]::xs.drop (i+1):=by simp
theorem wn{n lo hi:Int}:Pure Gm 340 [.int .i64 n,.int .i64 lo,.int .i64 hi] (.bool (inI n lo hi)):=by
 refine pI Km (by simp[AV.trees,AV.tree,go_sem]) rfl ?_;simp only[Km,qQ,go_sem]
 repeat' (first | (refine qW rfl ?_;simp only[go_sem]) | (first | (apply qg<;>intro hc<;>simp only[hc,go_sem]) | (apply qM<;>intro hc<;>simp only[hc,go_sem])) | refine qR rfl ?_)
 all_goals (simp_all[inI]<;>omega)
theorem c426{b:qI}:Pure Gm 426 [.ept b.enc 0] (.bool (w7 b)):=by
 refine pI K0 (by simp[AV.trees,AV.tree,go_sem]) rfl ?_;simp only[K0,qQ,go_sem]
 repeat' (first | (refine qW rfl ?_;simp only[go_sem]) | (first | (apply qg<;>intro hc<;>simp only[hc,go_sem]) | (apply qM<;>intro hc<;>simp only[hc,go_sem])) | (refine qO (wn) ?_;simp only[go_sem]) | refine qR rfl ?_)
 all_goals (simp_all[w7])
theorem qAN{k:Int}:Pure Gm 1372 [.int .i64 k] (.bool (wT k)):=by
 refine pI U9 (by simp[AV.trees,AV.tree,go_sem]) rfl ?_;simp only[U9,qQ,go_sem]
 repeat' (first | (refine qW rfl ?_;simp only[go_sem]) | (first | (apply qg<;>intro hc<;>simp only[hc,go_sem]) | (apply qM<;>intro hc<;>simp only[hc,go_sem])) | refine qR rfl ?_)
 all_goals (simp_all[wT])
theorem qf0{k:Int}:Pure Gm 1489 [.int .i64 k] (.bool (ZH k)):=by
 refine pI KU (by simp[AV.trees,AV.tree,go_sem]) rfl ?_;simp only[KU,qQ,go_sem]
 repeat' (first | (refine qW rfl ?_;simp only[go_sem]) | (first | (apply qg<;>intro hc<;>simp only[hc,go_sem]) | (apply qM<;>intro hc<;>simp only[hc,go_sem])) | (refine qO (wn) ?_;simp only[go_sem]) | refine qR rfl ?_)
 all_goals (simp_all[ZH])
theorem qAQ{k l:Int}:Pure Gm 1385 [.int .i64 k,.int .i64 l] (.bool (jq k l)):=by
 refine pI KC (by simp[AV.trees,AV.tree,go_sem]) rfl ?_;simp only[KC,qQ,go_sem]
 repeat' (first | (refine qW rfl ?_;simp only[go_sem]) | (first | (apply qg<;>intro hc<;>simp only[hc,go_sem]) | (apply qM<;>intro hc<;>simp only[hc,go_sem])) | (refine qO (wn) ?_;simp only[go_sem]) | (refine qO (qAN) ?_;simp only[go_sem]) | (refine qO (qf0) ?_;simp only[go_sem]) | refine qR rfl ?_)
 all_goals (simp_all[jq])
theorem qZ6{k:Int}:Pure Gm 1494 [.int .i64 k] (.bool (jv k)):=by
 refine pI KV (by simp[AV.trees,AV.tree,go_sem]) rfl ?_;simp only[KV,qQ,go_sem]
 repeat' (first | (refine qW rfl ?_;simp only[go_sem]) | (first | (apply qg<;>intro hc<;>simp only[hc,go_sem]) | (apply qM<;>intro hc<;>simp only[hc,go_sem])) | (refine qO (wn) ?_;simp only[go_sem]) | refine qR rfl ?_)
 all_goals (simp_all[jv])
theorem qfR{k f:Int}:Pure Gm 1371 [.int .i64 k,.int .i64 f] (.int .i64 (wL k f)):=by
 refine pI U8 (by simp[AV.trees,AV.tree,go_sem]) rfl ?_;simp only[U8,qQ,go_sem]
 repeat' (first | (refine qW rfl ?_;simp only[go_sem]) | (first | (apply qg<;>intro hc<;>simp only[hc,go_sem]) | (apply qM<;>intro hc<;>simp only[hc,go_sem])) | (refine qO (wn) ?_;simp only[go_sem]) | refine qR rfl ?_)
 all_goals ((try rw[qf (by simp_all[inI];omega) (by simp_all[inI];omega)]);simp_all[wL]<;>omega)
theorem qAP{x:qA}(hx:x.Ports.length<=140737488355328):Pure Gm 1384 [.ept x.enc 0] (.int .i64 (fieldsOf x)):=by
 refine pI KB (by simp[AV.trees,AV.tree,go_sem]) rfl ?_;simp only[KB,qQ,go_sem]
 repeat' (first | (refine qW rfl ?_;simp only[go_sem]) | (first | (apply qg<;>intro hc<;>simp only[hc,go_sem]) | (apply qM<;>intro hc<;>simp only[hc,go_sem])) | refine qR rfl ?_)
 all_goals ((try rw[qf (by omega) (by omega)]);simp_all[fieldsOf]<;>omega)
theorem qfS{x:qA}(hx:x.Data.length<=1048576):Pure Gm 1386 [.ept x.enc 0] (.bool (zu x)):=by
 refine pI KD (by simp[AV.trees,AV.tree,go_sem]) rfl ?_;simp only[KD,qQ,go_sem];have one:(x.Data.length:Int)=1->∃d,x.Data=[d]:=fun h=>List.length_eq_one_iff.1 (by omega);have z0:(x.Data.length:Int)=1->(x.Data.map qK)[0]?=some (.int .i64 (x.Data.headD 0)):=fun h=>by
  obtain⟨d,hd⟩:=one h;rw[hd];rfl
 have z1:(x.Data.length:Int)=1->(x.Data.all fun d=>inI d (-2147483648) 2147483647)=inI (x.Data.headD 0) (-2147483648) 2147483647:=fun h=>by
  obtain⟨d,hd⟩:=one h;rw[hd];simp
 repeat' (first
  | (first | (apply qg<;>intro hc<;>simp only[hc,go_sem]) | (apply qM<;>intro hc<;>simp only[hc,go_sem]))
  | (refine qO (wn) ?_;simp only[go_sem])
  | (refine qO (qZ6) ?_;simp only[go_sem])
  | refine qR rfl ?_
  | (rw[z0 (odT (by assumption))];simp only[oMs];simp only[go_sem])
  | (refine Sem.loop (fun i:Nat=>i<=x.Data.length/\zu x=(x.Data.drop i).all jv) (fun i=>(⟨[(0,.ept x.enc 0),(3,.int .i64 (i:Nat))],[],[]⟩:VSt)) (fun i=>x.Data.length-i) 0 (by kernel_rfl) ⟨nZl _, ?_⟩ (Can.sub (by simp[go_sem]) (by simp[go_sem])) ?_))
 all_goals try (simp_all[zu];done)
 all_goals
  clear z0 z1 one;rintro i ⟨hi,hI⟩;simp only[go_sem];apply qM<;>intro hc<;>simp only[hc,go_sem]
  ·have hlt:i<x.Data.length:=by have:=odT hc;omega
   simp only[gMp,gEg hlt,oMs,go_sem];simp only[qK];simp only[go_sem];refine qO qZ6 ?_;simp only[go_sem];apply qM<;>intro hc<;>simp only[hc,go_sem]
   ·refine qR rfl ?_;have hd:jv x.Data[i]=false:=by simpa using hc
    rw[hI,jF hlt,lAc,hd,Bool.false_and]
   ·simp only[qc (show i<4611686018427387904 by omega)];refine qd (i+1) ⟨by omega, ?_⟩ (by omega) (Can.sub (by simp[go_sem]) (by simp[go_sem]));have hd:jv x.Data[i]=true:=by simpa using hc
    rw[hI,jF hlt,lAc,hd,Bool.true_and]
  ·have hge:i=x.Data.length:=by have:=odF hc;omega
   subst hge;refine qR rfl ?_;rw[hI];simp
def ZV(o:qE)(a:Int):Bool:=inI o.Step 0 a&&inI o.Def (-1) 23&&inI o.Source (-1) 599&&(decide (0<=o.Source) || decide (o.Def<0))
theorem qfC{x:qA}(hz:x.sz<=1048576):Pure Gm 1096 [.ept x.enc 0] (.bool (qk x)):=by
 refine pI UZ (by simp[AV.trees,AV.tree,go_sem]) rfl ?_;simp only[UZ,qQ,go_sem]
 repeat' (first | (refine qW rfl ?_;simp only[go_sem]) | (first | (apply qg<;>intro hc<;>simp only[hc,go_sem]) | (apply qM<;>intro hc<;>simp only[hc,go_sem])) | (refine qO (qAP (by unfold qA.sz at hz;omega)) ?_;simp only[go_sem]) | (refine qO (qfR) ?_;simp only[go_sem]) | (refine qO (qAQ) ?_;simp only[go_sem]) | (refine qO (qfS (by unfold qA.sz at hz;omega)) ?_;simp only[go_sem]) | refine qR rfl ?_)
 all_goals (simp_all[qk]<;>omega)
theorem c710{xs:List qA}(hl:xs.length+qH qA.sz xs<=1048576):Pure Gm 710 [.lst 5 (xs.map qA.enc) false] (.bool (wE xs)):=by
 refine pI kX (by simp[AV.trees,AV.tree,qV qA.isSh.tree]) rfl ?_;simp only[kX,qQ,go_sem];refine qO wn ?_;simp only[go_sem];apply qM<;>intro hc<;>simp only[hc,go_sem]
 ·refine qR rfl ?_;simp_all[wE]
 refine Sem.loop (fun i:Nat=>i<=xs.length/\wE xs=ji (xs.drop i) i) (fun i=>(⟨[(0,.lst 5 (xs.map qA.enc) false),(3,.int .i64 (i:Nat))],[],[]⟩:VSt)) (fun i=>xs.length-i) 0 (by kernel_rfl) ⟨nZl _,by simp_all[wE]⟩ (Can.sub (by simp[go_sem]) (by simp[go_sem])) ?_;rintro i ⟨hi,hI⟩;simp only[go_sem];apply qM<;>intro hc<;>simp only[hc,go_sem]
 ·have hlt:i<xs.length:=by have:=odT hc;omega
  simp only[gMp,gEg hlt,oMs,go_sem];have hs:=zq (f:=qA.sz) (gMm hlt);refine qO (qfC (by omega)) ?_;simp only[go_sem];apply qg<;>intro hc<;>simp only[hc,go_sem]
  ·simp only[gMp,gEg hlt,oMs,go_sem];apply qM<;>intro hc<;>simp only[hc,go_sem]
   ·refine qR rfl ?_;rw[hI,jF hlt];simp_all[ji]
   ·simp only[qc (show i<4611686018427387904 by omega)];refine qd (i+1) ⟨by omega, ?_⟩ (by omega) (Can.sub (by simp[go_sem]) (by simp[go_sem]));rw[hI,jF hlt];simp_all[ji]
  ·refine qR rfl ?_;rw[hI,jF hlt];simp_all[ji]
 ·obtain rfl:i=xs.length:=by have:=odF hc;omega
  refine qR rfl ?_;rw[hI];simp[ji]
theorem qfE{o:qE}{a:Int}:Pure Gm 1109 [.ept o.enc 0,.int .i64 a] (.bool (ZV o a)):=by
 refine pI Ub (by simp[AV.trees,AV.tree,go_sem]) rfl ?_;simp only[Ub,qQ,go_sem]
 repeat' (first | (refine qW rfl ?_;simp only[go_sem]) | (first | (apply qg<;>intro hc<;>simp only[hc,go_sem]) | (apply qM<;>intro hc<;>simp only[hc,go_sem])) | (refine qO (wn) ?_;simp only[go_sem]) | refine qR rfl ?_)
 all_goals (simp_all[ZV]<;>omega)
theorem zK{n lo hi:Int}:inI n lo hi=true↔lo<=n/\n<=hi:=by simp[inI]
def Qs(xs:List qA)(q:qG):Option qG:=match xs[q.Agent.toNat]? with
 | some y=>y.Ports[q.Slot.toNat]?
 | none=>none
def wh(xs:List qA)(me q:qG):Bool:= !(decide (q=me))&&we xs q&&decide (Qs xs q=some me)
def JW(xs:List qA)(i:Nat):List qG->Nat->Bool
 |[],_=>true
 | q::qs,k=>wh xs ⟨i,k⟩ q&&JW xs i qs (k+1)
def J3(xs:List qA):List qA->Nat->Bool
 |[],_=>true
 | x::r,i=>JW xs i x.Ports 0&&J3 xs r (i+1)
def qq(n:qC):Bool:=wE n.Agents&&J3 n.Agents n.Agents 0
def wM(xs:List Int):Bool:=decide (xs.length<=200)&&xs.all fun n=>inI n 0 600
def j7(xs:List qC):Bool:=decide (xs.length<=24)&&xs.all qq
theorem c488{xs:List qA}{p:qG}(hl:xs.length+qH qA.sz xs<=1048576):Pure Gm 488 [.lst 5 (xs.map qA.enc) false,p.enc] (.bool (we xs p)):=by
 refine pI kG (by simp[AV.trees,AV.tree,qV qA.isSh.tree,qG.tr]) rfl ?_;simp only[kG,qQ,go_sem];refine qW rfl ?_;simp only[go_sem];rw[qf (by omega) (by omega)];refine qO wn ?_;simp only[go_sem];apply qg<;>intro hc<;>simp only[hc,go_sem]
 ·have h:=zK.1 hc;have hlt:p.Agent.toNat<xs.length:=by omega
  rw[Jx h.1];simp only[gMp,gEg hlt,oMs,go_sem];have hs:xs[p.Agent.toNat].Data.length+xs[p.Agent.toNat].Ports.length<=qH qA.sz xs:=zq (f:=qA.sz) (gMm hlt);rw[qf (by omega) (by omega)];refine qO wn ?_;simp only[go_sem];refine qR rfl ?_;simp[we,hc,Jk,gEg hlt]
 ·refine qR rfl ?_;simp_all[we]
theorem c412{xs:List Int}(hl:xs.length<=1048576):Pure Gm 412 [.lst 1 (xs.map qK) false] (.bool (wM xs)):=by
 refine pI Kz (by simp[AV.trees,AV.tree,qV shI.tree]) rfl ?_;simp only[Kz,qQ,go_sem];apply qM<;>intro hc<;>simp only[hc,go_sem]
 ·refine qR rfl ?_;have:=odT hc;have h2:¬xs.length<=200:=by omega
  simp[wM,h2]
 have h0:xs.length<=200:=by have:=odF hc;omega
 refine Sem.loop (fun i:Nat=>i<=xs.length/\wM xs=(xs.drop i).all fun n=>inI n 0 600) (fun i=>(⟨[(0,.lst 1 (xs.map qK) false),(3,.int .i64 (i:Nat))],[],[]⟩:VSt)) (fun i=>xs.length-i) 0 (by kernel_rfl) ⟨nZl _,by simp[wM,h0]⟩ (Can.sub (by simp[go_sem]) (by simp[go_sem])) ?_;rintro i ⟨hi,hI⟩;simp only[go_sem];apply qM<;>intro hc<;>simp only[hc,go_sem]
 ·have hlt:i<xs.length:=by have:=odT hc;omega
  simp only[gMp,gEg hlt,oMs,go_sem];simp only[qK];simp only[go_sem];refine qO wn ?_;simp only[go_sem];apply qM<;>intro hc<;>simp only[hc,go_sem]
  ·refine qR rfl ?_;rw[hI,jF hlt,lAc];simp_all
  ·simp only[qc (show i<4611686018427387904 by omega)];refine qd (i+1) ⟨by omega, ?_⟩ (by omega) (Can.sub (by simp[go_sem]) (by simp[go_sem]));rw[hI,jF hlt,lAc];simp_all
 ·obtain rfl:i=xs.length:=by have:=odF hc;omega
  refine qR rfl ?_;rw[hI];simp
theorem c318{n:qC}(hz:n.sz<=1048576):Pure Gm 318 [.ept n.enc 0] (.bool (qq n)):=by
 refine pI Kk (by simp[AV.trees,AV.tree,go_sem]) rfl ?_;simp only[Kk,qQ,go_sem];have hz':n.Agents.length+qH qA.sz n.Agents<=1048576:=hz;refine qO (c710 hz') ?_;simp only[go_sem];apply qM<;>intro hc<;>simp only[hc,go_sem]
 ·refine qR rfl ?_;simp_all[qq]
 refine Sem.loop (fun i:Nat=>i<=n.Agents.length/\qq n=J3 n.Agents (n.Agents.drop i) i) (fun i=>(⟨[(0,.ept n.enc 0),(3,.int .i64 (i:Nat))],[],[]⟩:VSt)) (fun i=>n.Agents.length-i) 0 (by kernel_rfl) ⟨nZl _,by simp_all[qq]⟩ (Can.sub (by simp[go_sem]) (by simp[go_sem])) ?_;rintro i ⟨hi,hI⟩;simp only[go_sem];apply qM<;>intro hc<;>simp only[hc,go_sem]
 ·have hlt:i<n.Agents.length:=by have:=odT hc;omega
  simp only[gMp,gEg hlt,oMs,go_sem];have hs:n.Agents[i].Data.length+n.Agents[i].Ports.length<=qH qA.sz n.Agents:=zq (f:=qA.sz) (gMm hlt);refine Sem.loop (fun k:Nat=>k<=n.Agents[i].Ports.length/\qq n=(JW n.Agents i (n.Agents[i].Ports.drop k) k&&J3 n.Agents (n.Agents.drop (i+1)) (i+1))) (fun k=>(⟨[(0,.ept n.enc 0),(3,.int .i64 (i:Nat)),(4,.ept n.Agents[i].enc 0),(5,.int .i64 (k:Nat))],[],[]⟩:VSt)) (fun k=>n.Agents[i].Ports.length-k) 0 (by kernel_rfl) ⟨nZl _,by rw[hI,jF hlt];rfl⟩ (Can.sub (by simp[go_sem]) (by simp[go_sem])) ?_;rintro k ⟨hk,hK⟩;simp only[go_sem];apply qM<;>intro hc<;>simp only[hc,go_sem]
  ·have hkl:k<n.Agents[i].Ports.length:=by have:=odT hc;omega
   rw[show AV.agg [AV.int IntKind.i64 (i:Nat),AV.int IntKind.i64 (k:Nat)]=qG.enc ⟨i,k⟩from rfl];refine qU rfl rfl ⟨_,rfl⟩ (by decide) ?_;simp only[gMp,gEg hkl,oMs,go_sem];refine qU rfl rfl ⟨_,rfl⟩ (by decide) ?_;simp only[go_sem];have stop:wh n.Agents ⟨i,k⟩ n.Agents[i].Ports[k]=false->qq n=false:=fun h=>by rw[hK,jF hkl];simp[JW,h]
   have go:wh n.Agents ⟨i,k⟩ n.Agents[i].Ports[k]=true->qq n=(JW n.Agents i (n.Agents[i].Ports.drop (k+1)) (k+1)&&J3 n.Agents (n.Agents.drop (i+1)) (i+1)):=fun h=>by rw[hK,jF hkl];simp[JW,h]
   apply qg<;>intro hc<;>simp only[hc,go_sem]
   ·have hne:¬n.Agents[i].Ports[k]=⟨i,k⟩:=odF hc;refine qO (c488 hz') ?_;simp only[go_sem];apply qg<;>intro hc<;>simp only[hc,go_sem]
    ·have hp:we n.Agents n.Agents[i].Ports[k]=true:=by simpa using hc
     have hp2:=hp;simp only[we,bAt,zK]at hp2;have hlt2:n.Agents[i].Ports[k].Agent.toNat<n.Agents.length:=by omega
     have hpl:Jk n.Agents n.Agents[i].Ports[k].Agent=n.Agents[n.Agents[i].Ports[k].Agent.toNat].Ports.length:=by simp[Jk,gEg hlt2]
     rw[hpl]at hp2;have hlt3:n.Agents[i].Ports[k].Slot.toNat<n.Agents[n.Agents[i].Ports[k].Agent.toNat].Ports.length:=by omega
     have hpe:Qs n.Agents n.Agents[i].Ports[k]=some n.Agents[n.Agents[i].Ports[k].Agent.toNat].Ports[n.Agents[i].Ports[k].Slot.toNat]:=by simp[Qs,gEg hlt2,gEg hlt3]
     rw[Jx (by omega)];simp only[gMp,gEg hlt2,oMs,go_sem];rw[Jx (by omega)];simp only[gMp,gEg hlt3,oMs,go_sem];apply qM<;>intro hc<;>simp only[hc,go_sem]
     ·refine qR rfl ?_;rw[stop (by simp[wh,hpe];intro _ _;simpa using hc)]
     ·simp only[qc (show k<4611686018427387904 by omega)];refine qd (k+1) ⟨by omega, ?_⟩ (by omega) (Can.sub (by simp[go_sem]) (by simp[go_sem]));exact go (by simp[wh,hpe,hp,hne];simpa using hc)
    ·refine qR rfl ?_;have hp:we n.Agents n.Agents[i].Ports[k]=false:=by simpa using hc
     rw[stop (by simp[wh,hp])]
   ·refine qR rfl ?_;have he:n.Agents[i].Ports[k]=⟨i,k⟩:=odT hc;rw[stop (by simp[wh,he])]
  ·obtain rfl:k=n.Agents[i].Ports.length:=by have:=odF hc;omega
   simp only[qc (show i<4611686018427387904 by omega)];refine qd (i+1) ⟨by omega, ?_⟩ (by omega) (Can.sub (by simp[go_sem]) (by simp[go_sem]));rw[hK];simp[JW]
 ·obtain rfl:i=n.Agents.length:=by have:=odF hc;omega
  refine qR rfl ?_;rw[hI];simp[J3]
theorem c598{xs:List qC}(hl:xs.length+qH qC.sz xs<=1048576):Pure Gm 598 [.lst 1 (xs.map qC.enc) false] (.bool (j7 xs)):=by
 refine pI kR (by simp[AV.trees,AV.tree,qV qC.isSh.tree]) rfl ?_;simp only[kR,qQ,go_sem];apply qM<;>intro hc<;>simp only[hc,go_sem]
 ·refine qR rfl ?_;have:=odT hc;have h2:¬xs.length<=24:=by omega
  simp[j7,h2]
 have h0:xs.length<=24:=by have:=odF hc;omega
 refine Sem.loop (fun i:Nat=>i<=xs.length/\j7 xs=(xs.drop i).all qq) (fun i=>(⟨[(0,.lst 1 (xs.map qC.enc) false),(3,.int .i64 (i:Nat))],[],[]⟩:VSt)) (fun i=>xs.length-i) 0 (by kernel_rfl) ⟨nZl _,by simp[j7,h0]⟩ (Can.sub (by simp[go_sem]) (by simp[go_sem])) ?_;rintro i ⟨hi,hI⟩;simp only[go_sem];apply qM<;>intro hc<;>simp only[hc,go_sem]
 ·have hlt:i<xs.length:=by have:=odT hc;omega
  simp only[gMp,gEg hlt,oMs,go_sem];have hs:=zq (f:=qC.sz) (gMm hlt);refine qO (c318 (by omega)) ?_;simp only[go_sem];apply qM<;>intro hc<;>simp only[hc,go_sem]
  ·refine qR rfl ?_;rw[hI,jF hlt,lAc];simp_all
  ·simp only[qc (show i<4611686018427387904 by omega)];refine qd (i+1) ⟨by omega, ?_⟩ (by omega) (Can.sub (by simp[go_sem]) (by simp[go_sem]));rw[hI,jF hlt,lAc];simp_all
 ·obtain rfl:i=xs.length:=by have:=odF hc;omega
  refine qR rfl ?_;rw[hI];simp
def wa(n:qC)(os:List qE)(a:Int):Bool:=qq n&&decide ((os.length:Int)=n.Agents.length)&&os.all fun o=>ZV o a
def wC(every:Int):List qF->Nat->Bool
 |[],_=>true
 | p::ps,i=>decide (p.At=(i:Int)*every)&&wa p.Net p.Origins p.At&&wC every ps (i+1)
def jN(d:qJ):Bool:=j7 d.Book&&wM d.Schedule&&inI d.Every 1 50&&inI d.At 0 4000&&wa d.Net d.Origins d.At&& !(decide ((8:Int)<d.Breaks.length))&&d.Breaks.all w7&&
 inI d.Points.length (d.At.tdiv d.Every+1) ((4000:Int).tdiv d.Every+1)&&wC d.Every d.Points 0
theorem QR{a b:Int}(ha:0<=a)(hb:0<b):0<=a.tdiv b/\a.tdiv b<=a:=by
 rw[Int.tdiv_eq_ediv_of_nonneg ha];exact⟨Int.ediv_nonneg ha (by omega),Int.ediv_le_self b ha⟩
theorem c741{n:qC}{os:List qE}{a:Int}(hz:n.sz<=1048576)(hl:os.length<=1048576):Pure Gm 741 [.ept n.enc 0,.lst 3 (os.map qE.enc) false,.int .i64 a] (.bool (wa n os a)):=by
 refine pI ki (by simp[AV.trees,AV.tree,qV qE.isSh.tree,qC.tr]) rfl ?_;simp only[ki,qQ,go_sem];refine qO (c318 hz) ?_;simp only[go_sem];apply qg<;>intro hc<;>simp only[hc,go_sem]
 ·apply qM<;>intro hc<;>simp only[hc,go_sem]
  ·refine qR rfl ?_;have h2:¬((os.length:Int)=n.Agents.length):=by simpa using hc
   simp[wa];omega
  have h1:qq n=true:=by simp_all
  have h2:(os.length:Int)=n.Agents.length:=by simpa using hc
  refine Sem.loop (fun i:Nat=>i<=os.length/\wa n os a=(os.drop i).all fun o=>ZV o a) (fun i=>(⟨[(1,.lst 3 (os.map qE.enc) false),(2,.int .i64 a),(7,.int .i64 (i:Nat))],[],[]⟩:VSt)) (fun i=>os.length-i) 0 (by kernel_rfl) ⟨nZl _,by simp[wa,h1,h2]⟩ (Can.sub (by simp[go_sem]) (by simp[go_sem])) ?_;rintro i ⟨hi,hI⟩;simp only[go_sem];apply qM<;>intro hc<;>simp only[hc,go_sem]
  ·have hlt:i<os.length:=by have:=odT hc;omega
   simp only[gMp,gEg hlt,oMs,go_sem];refine qO qfE ?_;simp only[go_sem];apply qM<;>intro hc<;>simp only[hc,go_sem]
   ·refine qR rfl ?_;rw[hI,jF hlt,lAc];simp_all
   ·simp only[qc (show i<4611686018427387904 by omega)];refine qd (i+1) ⟨by omega, ?_⟩ (by omega) (Can.sub (by simp[go_sem]) (by simp[go_sem]));rw[hI,jF hlt,lAc];simp_all
  ·obtain rfl:i=os.length:=by have:=odF hc;omega
   refine qR rfl ?_;rw[hI];simp
 ·refine qR rfl ?_;simp_all[wa]
theorem c367{d:qJ}(hz:d.sz<=1048576):Pure Gm 367 [.ept d.enc 0] (.bool (jN d)):=by
 refine pI Kn (by simp[AV.trees,AV.tree,go_sem]) rfl ?_;simp only[Kn,qQ,go_sem];unfold qJ.sz at hz;have hzn:d.Net.sz<=1048576:=by omega
 have conv:Cvs (only [] []) [.ept d.enc 4,.lst 3 (d.Origins.map qE.enc) false,.int .i64 d.At] [.ept d.Net.enc 0,.lst 3 (d.Origins.map qE.enc) false,.int .i64 d.At]:=
  Cvs.cons (.sub qJ.tr (qJ.q4_1) (by rw[qC.ln];decide)) (Cvs.cons (.refl (by simp[AV.tree,qV qE.isSh.tree])) (Cvs.cons (.refl rfl) Cvs.nil))
 repeat' (first
  | (first | (apply qg<;>intro hc<;>simp only[hc,go_sem]) | (apply qM<;>intro hc<;>simp only[hc,go_sem]))
  | (refine qO (c598 (by omega)) ?_;simp only[go_sem])
  | (refine qO (c412 (by omega)) ?_;simp only[go_sem])
  | (refine qO wn ?_;simp only[go_sem])
  | (refine Q7 conv (c741 hzn (by omega)) ?_;simp only[go_sem])
  | refine qR rfl ?_)
 all_goals try (simp_all[jN];done)
 have f1:j7 d.Book=true:=by simp_all
 have f2:wM d.Schedule=true:=by simp_all
 have f3:inI d.Every 1 50=true:=by simp_all
 have f4:inI d.At 0 4000=true:=by simp_all
 have f5:wa d.Net d.Origins d.At=true:=by simp_all
 have f6:decide ((8:Int)<d.Breaks.length)=false:=by simp_all
 have key:jN d=(d.Breaks.all w7&&inI d.Points.length (d.At.tdiv d.Every+1) ((4000:Int).tdiv d.Every+1)&&wC d.Every d.Points 0):=by simp[jN,f1,f2,f3,f4,f5,f6]
 have e1:=zK.1 f3;have e2:=zK.1 f4;have b1:=QR e2.1 (show 0<d.Every by omega);have b2:=QR (show (0:Int)<=4000 by omega) (show 0<d.Every by omega);clear f1 f2 f3 f4 f5 f6 conv
 rename_i t1 t2 t3 t4 t5;clear t1 t2 t3 t4 t5 hc;obtain⟨X,hX⟩:∃X,X=(inI d.Points.length (d.At.tdiv d.Every+1) ((4000:Int).tdiv d.Every+1)&&wC d.Every d.Points 0):=⟨_,rfl⟩;rw[Bool.and_assoc,<-hX]at key;refine Sem.loop (fun i:Nat=>i<=d.Breaks.length/\jN d=((d.Breaks.drop i).all w7&&X)) (fun i=>(⟨[(0,.ept d.enc 0),(3,.int .i64 (i:Nat))],[],[]⟩:VSt)) (fun i=>d.Breaks.length-i) 0 (by kernel_rfl) ⟨nZl _,by rw[key];simp⟩ (Can.sub (by simp[go_sem]) (by simp[go_sem])) ?_;rintro i ⟨hi,hI⟩;simp only[go_sem];apply qM<;>intro hc<;>simp only[hc,go_sem]
 ·have hlt:i<d.Breaks.length:=by have:=odT hc;omega
  simp only[gMp,gEg hlt,oMs,go_sem];refine qO c426 ?_;simp only[go_sem];apply qM<;>intro hc<;>simp only[hc,go_sem]
  ·refine qR rfl ?_;rw[hI,jF hlt,lAc];simp_all
  ·simp only[qc (show i<4611686018427387904 by omega)];refine qd (i+1) ⟨by omega, ?_⟩ (by omega) (Can.sub (by simp[go_sem]) (by simp[go_sem]));rw[hI,jF hlt,lAc];simp_all
 have hX2:jN d=X:=by
  obtain rfl:i=d.Breaks.length:=by have:=odF hc;omega
  rw[hI];simp
 clear hI key hi hc;rw[if_neg (show ¬d.Every=0 by omega)];simp only[go_sem];rw[if_neg (show ¬d.Every=0 by omega)];simp only[go_sem];rw[qf (n:=d.At.tdiv d.Every) (by omega) (by omega),qf (n:=(4000:Int).tdiv d.Every) (by omega) (by omega),qf (n:=d.At.tdiv d.Every+1) (by omega) (by omega),qf (n:=(4000:Int).tdiv d.Every+1) (by omega) (by omega)];refine qO wn ?_;simp only[go_sem];apply qM<;>intro hc<;>simp only[hc,go_sem]
 ·refine qR rfl ?_;rw[hX2,hX];simp_all
 have hq:inI d.Points.length (d.At.tdiv d.Every+1) ((4000:Int).tdiv d.Every+1)=true:=by simpa using hc
 rw[hq,Bool.true_and]at hX;refine Sem.loop (fun i:Nat=>i<=d.Points.length/\jN d=wC d.Every (d.Points.drop i) i) (fun i=>(⟨[(0,.ept d.enc 0),(4,.int .i64 (i:Nat))],[],[]⟩:VSt)) (fun i=>d.Points.length-i) 0 (by kernel_rfl) ⟨nZl _,by rw[hX2,hX];simp⟩ (Can.sub (by simp[go_sem]) (by simp[go_sem])) ?_;rintro i ⟨hi,hI⟩;simp only[go_sem];apply qM<;>intro hc<;>simp only[hc,go_sem]
 ·have hlt:i<d.Points.length:=by have:=odT hc;omega
  simp only[gMp,gEg hlt,oMs,go_sem];have hs:(d.Points[i].Net.sz+d.Points[i].Origins.length)<=qH qF.sz d.Points:=zq (f:=qF.sz) (gMm hlt);have m1:(0:Int)<=(i:Int)*d.Every:=Int.mul_nonneg (by omega) (by omega);have m2:(i:Int)*d.Every<=1048576*50:=Int.mul_le_mul (by omega) (by omega) (by omega) (by omega);rw[qf (n:=(i:Int)*d.Every) (by omega) (by omega)];have conv:Cvs (only [] []) [.ept d.Points[i].enc 1,.lst 3 (d.Points[i].Origins.map qE.enc) false,.int .i64 d.Points[i].At] [.ept d.Points[i].Net.enc 0,.lst 3 (d.Points[i].Origins.map qE.enc) false,.int .i64 d.Points[i].At]:=
   Cvs.cons (.sub qF.tr (qF.q1_1) (by rw[qC.ln];decide)) (Cvs.cons (.refl (by simp[AV.tree,qV qE.isSh.tree])) (Cvs.cons (.refl rfl) Cvs.nil))
  apply qg<;>intro hc<;>simp only[hc,go_sem]
  ·refine Q7 conv (c741 (by omega) (by omega)) ?_
   simp only[go_sem];apply qM<;>intro hc<;>simp only[hc,go_sem]
   ·refine qR rfl ?_;rw[hI,jF hlt];simp_all[wC]
   ·simp only[qc (show i<4611686018427387904 by omega)];refine qd (i+1) ⟨by omega, ?_⟩ (by omega) (Can.sub (by simp[go_sem]) (by simp[go_sem]));rw[hI,jF hlt];simp_all[wC]
  ·refine qR rfl ?_;rw[hI,jF hlt];simp_all[wC]
 ·obtain rfl:i=d.Points.length:=by have:=odF hc;omega
  refine qR rfl ?_;rw[hI];simp[wC]
def wc(ka la kb lb:Int):Bool:=jq ka la&&jq kb lb&& !decide (ka=1)&& !decide (kb=1)
def Xw(l k m:Int):Bool:=inI l 0 8&&jq k m&&(decide (k=6) || decide (k=12) || wT k&&decide (l<m))
def Zr(k:Int):Bool:=decide (k=3) || decide (k=7) || decide (k=8) || decide (k=10) || decide (k=11)
def zC(ka la kb lb:Int):Int:=
 if ka=5 then 4 else if ka=4 then(if kb=4/\la=lb then 2 else if Xw la kb lb then 3 else 0)
 else if ka=2 then(if kb=3/\la=lb then 1 else 0)
 else if ka=6 then(if kb=7\/kb=8 then 5 else if kb=11 then 6 else 0)
 else if ka=9 then(if kb=10 then 6 else 0)
 else if ka=12 then(if Zr kb then 7 else 0)else 0
def zX(ka la kb lb:Int):Int:=if wc ka la kb lb then(if zC ka la kb lb≠0 then 1 else if zC kb lb ka la≠0 then 2 else 0)else 0
def za(ka la kb lb:Int):Int:=if wc ka la kb lb then(if zC ka la kb lb≠0 then zC ka la kb lb else if zC kb lb ka la≠0 then zC kb lb ka la else 8)else 0
def qS(x y:qA):Int:=
 if x.Kind=9/\y.Kind=10/\(y.Data.length:Int)<=x.Value then 8 else if x.Kind=10/\y.Kind=9/\(x.Data.length:Int)<=y.Value then 8
 else za x.Kind x.Level y.Kind y.Level
theorem qZ4{ka la kb lb:Int}:Pure Gm 1395 [.int .i64 ka,.int .i64 la,.int .i64 kb,.int .i64 lb] (.bool (wc ka la kb lb)):=by
 refine pI KI (by simp[AV.trees,AV.tree,go_sem]) rfl ?_;simp only[KI,qQ,go_sem]
 repeat' (first | (refine qW rfl ?_;simp only[go_sem]) | (first | (apply qg<;>intro hc<;>simp only[hc,go_sem]) | (apply qM<;>intro hc<;>simp only[hc,go_sem])) | (refine qO (qAQ) ?_;simp only[go_sem]) | refine qR rfl ?_)
 all_goals (simp_all[wc])
theorem qf1{l k m:Int}:Pure Gm 1499 [.int .i64 l,.int .i64 k,.int .i64 m] (.bool (Xw l k m)):=by
 refine pI KX (by simp[AV.trees,AV.tree,go_sem]) rfl ?_;simp only[KX,qQ,go_sem]
 repeat' (first | (refine qW rfl ?_;simp only[go_sem]) | (first | (apply qg<;>intro hc<;>simp only[hc,go_sem]) | (apply qM<;>intro hc<;>simp only[hc,go_sem])) | (refine qO (wn) ?_;simp only[go_sem]) | (refine qO (qAQ) ?_;simp only[go_sem]) | (refine qO (qAN) ?_;simp only[go_sem]) | refine qR rfl ?_)
 all_goals (simp_all[Xw])
theorem qf2{k:Int}:Pure Gm 1500 [.int .i64 k] (.bool (Zr k)):=by
 refine pI KY (by simp[AV.trees,AV.tree,go_sem]) rfl ?_;simp only[KY,qQ,go_sem]
 repeat' (first | (refine qW rfl ?_;simp only[go_sem]) | (first | (apply qg<;>intro hc<;>simp only[hc,go_sem]) | (apply qM<;>intro hc<;>simp only[hc,go_sem])) | refine qR rfl ?_)
 all_goals (simp_all[Zr])
theorem qZ5{ka la kb lb:Int}:Pure Gm 1396 [.int .i64 ka,.int .i64 la,.int .i64 kb,.int .i64 lb] (.int .i64 (zC ka la kb lb)):=by
 refine pI KJ (by simp[AV.trees,AV.tree,go_sem]) rfl ?_;simp only[KJ,qQ,go_sem]
 repeat' (first | (refine qW rfl ?_;simp only[go_sem]) | (first | (apply qg<;>intro hc<;>simp only[hc,go_sem]) | (apply qM<;>intro hc<;>simp only[hc,go_sem])) | (refine qO (qf1) ?_;simp only[go_sem]) | (refine qO (qf2) ?_;simp only[go_sem]) | refine qR rfl ?_)
 all_goals (simp_all[zC])
theorem qfF{ka la kb lb:Int}:Pure Gm 1110 [.int .i64 ka,.int .i64 la,.int .i64 kb,.int .i64 lb] (.int .i64 (zX ka la kb lb)):=by
 refine pI Uc (by simp[AV.trees,AV.tree,go_sem]) rfl ?_;simp only[Uc,qQ,go_sem]
 repeat' (first | (refine qW rfl ?_;simp only[go_sem]) | (first | (apply qg<;>intro hc<;>simp only[hc,go_sem]) | (apply qM<;>intro hc<;>simp only[hc,go_sem])) | (refine qO (qZ4) ?_;simp only[go_sem]) | (refine qO (qZ5) ?_;simp only[go_sem]) | refine qR rfl ?_)
 all_goals (simp_all[zX])
theorem qfG{ka la kb lb:Int}:Pure Gm 1111 [.int .i64 ka,.int .i64 la,.int .i64 kb,.int .i64 lb] (.int .i64 (za ka la kb lb)):=by
 refine pI Ud (by simp[AV.trees,AV.tree,go_sem]) rfl ?_;simp only[Ud,qQ,go_sem]
 repeat' (first | (refine qW rfl ?_;simp only[go_sem]) | (first | (apply qg<;>intro hc<;>simp only[hc,go_sem]) | (apply qM<;>intro hc<;>simp only[hc,go_sem])) | (refine qO (qZ4) ?_;simp only[go_sem]) | (refine qO (qZ5) ?_;simp only[go_sem]) | refine qR rfl ?_)
 all_goals (simp_all[za])
theorem Y1{x y:qA}:Pure Gm 744 [.ept x.enc 0,.ept y.enc 0] (.int .i64 (qS x y)):=by
 refine pI ku (by simp[AV.trees,AV.tree,go_sem]) rfl ?_;simp only[ku,qQ,go_sem]
 repeat' (first | (refine qW rfl ?_;simp only[go_sem]) | (first | (apply qg<;>intro hc<;>simp only[hc,go_sem]) | (apply qM<;>intro hc<;>simp only[hc,go_sem])) | (refine qO (qfG) ?_;simp only[go_sem]) | refine qR rfl ?_)
 all_goals (simp_all[qS]<;>(intro h;omega))
def fil(e:Env)(w:Nat)(el:List AV)(i:Nat)(v:Option AV)(r:List (Nat×Ao)):Option (List AV):=match v with
 | some v=>if v.cells.length=w/\i<el.length then z6 e w (el.set i v) r else none
 | none=>none
section
variable {e:Env} {w i:Nat} {el:List AV} {v:AV} {x:Ao} {r:List (Nat×Ao)}
@[go_sem] theorem qn7:z6 e w el []=some el:=nr (by unfold z6;rfl)
@[go_sem] theorem qn6:z6 e w el ((i,x)::r)=fil e w el i (ev e x) r:=nr (by unfold z6;rfl)
@[go_sem] theorem qn8{el0:AV}(h:v.cells.length=w):fil e w [el0] 0 (some v) r=z6 e w [v] r:=by
 show (if v.cells.length=w/\0<1 then _ else _)=_;rw[if_pos ⟨h,by omega⟩];rfl
@[go_sem] theorem rep0{v:AV}:List.replicate 0 v=[]:=nr rfl
@[go_sem] theorem rep1{v:AV}:List.replicate 1 v=[v]:=nr rfl
end
structure qj where
 A:Int
 B:Int
deriving DecidableEq
def qj.enc(x:qj):AV:=.agg [.int .i64 x.A,.int .i64 x.B]
theorem qj.isSh:Sh qj.enc 2 (some 2):=⟨fun x=>by simp[qj.enc,AV.tree,AV.trees],fun _=>rfl,fun _=>rfl,by decide,fun x=>by simp[qj.enc]⟩
section
variable {x:qj}
@[go_sem] theorem qj.tr:x.enc.tree=true:=qj.isSh.tree x
@[go_sem] theorem qj.ln:x.enc.cells.length=2:=nr rfl
@[go_sem] theorem qj.all:x.enc.part 0 (some 2)=some x.enc:=nr rfl
@[go_sem] theorem qj.cs:x.enc.cells=[.int .i64 x.A,.int .i64 x.B]:=nr rfl
@[go_sem] theorem qj.p0:x.enc.part 0 none=some (.int .i64 x.A):=nr rfl
@[go_sem] theorem qj.p1:x.enc.part 1 none=some (.int .i64 x.B):=nr rfl
@[go_sem] theorem qj.eqf{y:qj}:JC false [1,1] (some x.enc) (some y.enc)=some (.bool (decide (x=y))):=by
 obtain⟨a0,a1⟩:=x;obtain⟨b0,b1⟩:=y;simp only[JC,qj.enc,lMc,List.map_nil,dig,and_self,if_true,JG,QN,qj.mk.injEq]
 repeat' (split<;>simp_all)
end
def zM(x y:qA):Bool:=decide (zX x.Kind x.Level y.Kind y.Level=2)
def Jj(xs:List qA)(k:Nat):List qj:=match xs[k]? with
 | some x=>if x.Kind=0 then []else match x.Ports[0]? with
  | some p=>if p.Slot=0/\(k:Int)<p.Agent then [⟨k,p.Agent⟩]else []
  | none=>[]
 | none=>[]
def zT(xs:List qA):Nat->List qj
 | 0=>[]
 | i+1=>zT xs i++Jj xs (i+1)
theorem qkL(xs:List qA)(k:Nat):(Jj xs k).length<=1:=by
 unfold Jj;repeat' (split<;>try simp)
theorem Vy(xs:List qA):∀i,(zT xs i).length<=i
 | 0=>nLr _
 | i+1=>by have:=Vy xs i;have:=qkL xs (i+1);simp[zT];omega
theorem c743{n:qC}{a b:Nat}(ha:a<n.Agents.length)(hb:b<n.Agents.length):Pure Gm 743 [.ept n.enc 0,.int .i64 (a:Int),.int .i64 (b:Int)] (if zM n.Agents[a] n.Agents[b]then .tup [.int .i64 (b:Int),.int .i64 (a:Int)]else .tup [.int .i64 (a:Int),.int .i64 (b:Int)]):=by
 refine pI kq (by simp[AV.trees,AV.tree,go_sem]) (by split<;>rfl) ?_;simp only[kq,qQ,go_sem];simp only[gMp,gEg ha,oMs,go_sem];simp only[gEg hb,oMs,go_sem];refine qO qfF ?_;simp only[go_sem];apply qM<;>intro hc<;>simp only[hc,go_sem]
 ·refine jV (by split<;>rfl) ?_;simp_all[zM]
 ·refine jV (by split<;>rfl) ?_;simp_all[zM]
theorem c742{n:qC}(hz:n.sz<=1048576)(hp:∀x∈n.Agents,x.Kind≠0->0<x.Ports.length):Pure Gm 742 [.ept n.enc 0] (.lst 2 ((zT n.Agents (n.Agents.length-1)).map qj.enc) false):=by
 refine pI kj (by simp[AV.trees,AV.tree,go_sem]) (by simp[AV.tree,qV qj.isSh.tree]) ?_;simp only[kj,qQ,go_sem];unfold qC.sz at hz;refine Sem.loop (fun i:Nat=>i<=n.Agents.length-1) (fun i=>(⟨[(0,.ept n.enc 0),(4,.int .i64 ((i+1:Nat):Int)),(3,.slice 2 0 0 (zT n.Agents i).length false)],[],[.row 2 ((zT n.Agents i).map qj.enc) true]⟩:VSt)) (fun i=>n.Agents.length-1-i) 0 (by kernel_rfl) (nZl _) (Can.renum [none] rfl ⟨.ph,trivial⟩ ⟨⟨_,rfl,.tree (by simp only[AV.tree,qC.tr])⟩,⟨_,rfl,.tree rfl⟩,⟨_,rfl,.ph2 rfl⟩,trivial⟩ trivial) ?_;rintro i hi;simp only[go_sem];apply qM<;>intro hc<;>simp only[hc,go_sem]
 ·have hlt:i+1<n.Agents.length:=by have:=odT hc;omega
  simp only[gMp,gEg hlt,oMs,go_sem];have hx:=hp _ (gMm hlt);apply qM<;>intro hc<;>simp only[hc,go_sem]
  ·have e:zT n.Agents (i+1)=zT n.Agents i:=by simp_all[zT,Jj]
   simp only[qc (show i+1<4611686018427387904 by omega)];refine qd (i+1) (by omega) (by omega) ?_;rw[e];exact Can.sub (by simp[go_sem]) (by simp[go_sem])
  ·have hp0:=hx (by simpa using hc);simp only[gMp,gEg hlt,oMs,go_sem];simp only[gEg hp0,oMs,go_sem];refine qU (k:=2) (by rfl) (by rfl) (by exact⟨_,rfl⟩) (by decide) ?_;simp only[go_sem];have same (hn:¬(n.Agents[i+1].Ports[0].Slot=0/\((i+1:Nat):Int)<n.Agents[i+1].Ports[0].Agent)):zT n.Agents (i+1)=zT n.Agents i:=by
    have hk:¬n.Agents[i+1].Kind=0:=by simpa using hc
    simp only[zT,Jj,gEg hlt,gEg hp0,if_neg hk,if_neg hn,lAn]
   first | (apply qg<;>intro hc<;>simp only[hc,go_sem]) | (apply qM<;>intro hc<;>simp only[hc,go_sem])
   ·first | (apply qg<;>intro hc<;>simp only[hc,go_sem]) | (apply qM<;>intro hc<;>simp only[hc,go_sem])
    ·refine zy (el:=(zT n.Agents i).map qj.enc) rfl rfl (by simp) (by have:=Vy n.Agents i;omega) ?_;simp only[go_sem];simp only[qc (show i+1<4611686018427387904 by omega)];have e:zT n.Agents (i+1)=zT n.Agents i++[⟨((i+1:Nat):Int),n.Agents[i+1].Ports[0].Agent⟩]:=by
      have hk:¬n.Agents[i+1].Kind=0:=by simp_all
      have hn:n.Agents[i+1].Ports[0].Slot=0/\((i+1:Nat):Int)<n.Agents[i+1].Ports[0].Agent:=⟨by simp_all,by simp_all⟩;simp only[zT,Jj,gEg hlt,gEg hp0,if_neg hk,if_pos hn]
     refine qd (i+1) (by omega) (by omega) ?_;simp only[e,lAp,lCo,lNi,nZa];refine Can.renum [some 2] rfl ⟨.row rfl ?_,trivial⟩ ⟨⟨_,rfl,.tree (by simp only[AV.tree,qC.tr])⟩,⟨_,rfl,.tree rfl⟩,⟨_,rfl,.slice rfl⟩,trivial⟩ trivial;rw[lMa];have t:=qV qj.isSh.tree (zT n.Agents i++[⟨((i+1:Nat):Int),n.Agents[i+1].Ports[0].Agent⟩]);rw[lMa]at t;exact VR2s.trees t
    ·simp only[qc (show i+1<4611686018427387904 by omega)];refine qd (i+1) (by omega) (by omega) ?_;rw[same (by simp_all)];exact Can.sub (by simp[go_sem]) (by simp[go_sem])
   ·simp only[qc (show i+1<4611686018427387904 by omega)];refine qd (i+1) (by omega) (by omega) ?_;rw[same (by simp_all)];exact Can.sub (by simp[go_sem]) (by simp[go_sem])
 ·obtain rfl:i=n.Agents.length-1:=by have:=odF hc;omega
  refine QJ (Cv.row rfl (by simp) (qV qj.isSh.tree _) (by omega))
theorem UR{xs:List qA}{i:Nat}:∀{qs:List qG}{j:Nat},JW xs i qs j=true->∀(m:Nat)(hm:m<qs.length),wh xs ⟨i,(j+m:Nat)⟩ qs[m]=true
 |[],_,_,m,hm=>by simp at hm
 | q::qs,j,h,m,hm=>by
  simp only[JW,bAt]at h;cases m with
  | zero=>exact h.1
  | succ m=>
   have:=UR h.2 m (by simpa using hm);rw[show j+(m+1)=j+1+m by omega];simpa using this
theorem Vo{xs:List qA}:∀{l:List qA}{i:Nat},J3 xs l i=true->∀(k:Nat)(hk:k<l.length),JW xs (i+k) l[k].Ports 0=true
 |[],_,_,k,hk=>by simp at hk
 | x::l,i,h,k,hk=>by
  simp only[J3,bAt]at h;cases k with
  | zero=>exact h.1
  | succ k=>
   have:=Vo h.2 k (by simpa using hk);rw[show i+(k+1)=i+1+k by omega];simpa using this
theorem wF:∀{l:List qA}{i:Nat},ji l i=true->∀x∈l,qk x=true
 |[],_,_,x,hx=>by cases hx
 | y::l,i,h,x,hx=>by
  simp only[ji,bAt]at h;rcases List.mem_cons.1 hx with rfl | hx
  ·exact h.1.1
  ·exact wF h.2 x hx
theorem qcI{n:qC}(h:qq n=true):∀x∈n.Agents,0<x.Ports.length:=by
 simp only[qq,wE,bAt]at h;intro x hx;have:=wF h.1.2 x hx;simp only[qk,bAt,dTe]at this;omega
theorem qkM{n:qC}(h:qq n=true){k:Nat}{p:qj}(hp:p∈Jj n.Agents k):∃a b:Nat,p=⟨a,b⟩/\a<n.Agents.length/\b<n.Agents.length:=by
 simp only[qq,bAt]at h;unfold Jj at hp;split at hp
 next x hx=>
  obtain⟨hk,rfl⟩:=gSi.1 hx;split at hp
  ·cases hp
  split at hp
  next q hq=>
   obtain⟨hm,rfl⟩:=gSi.1 hq;split at hp
   next hc=>
    have:=UR (Vo h.2 k hk) 0 hm;simp only[wh,we,bAt]at this;have e:=zK.1 this.1.2.1;simp only[lMg]at hp;subst hp;refine⟨k,n.Agents[k].Ports[0].Agent.toNat, ?_,hk,by omega⟩;rw[Int.toNat_of_nonneg (by omega)]
   ·cases hp
  ·cases hp
 ·cases hp
theorem YS{n:qC}(h:qq n=true):∀{i:Nat}{p:qj},p∈zT n.Agents i->∃a b:Nat,p=⟨a,b⟩/\a<n.Agents.length/\b<n.Agents.length
 | 0,p,hp=>by cases hp
 | i+1,p,hp=>by
  simp only[zT,wV]at hp;rcases hp with hp | hp
  ·exact YS h hp
  ·exact qkM h hp
def qi(n:qC):List qj:=zT n.Agents (n.Agents.length-1)
theorem qjI(n:qC):(qi n).length<=n.Agents.length:=by have:=Vy n.Agents (n.Agents.length-1);unfold qi;omega
def zA(n:qC)(a:Int):qA:=(n.Agents[a.toNat]?).getD ⟨0,0,0,[],[]⟩
def zk(n:qC)(p:qj):qj:=if zM (zA n p.A) (zA n p.B)then⟨p.B,p.A⟩else p
def Jl(d:qJ)(m:Nat):Nat:=if d.Schedule=[]then 0 else((d.Schedule[d.At.toNat%d.Schedule.length]?).getD 0).toNat%m
def ZS(d:qJ):Option (Nat×qj×Int):=match (qi d.Net)[Jl d (qi d.Net).length]? with
 | none=>none
 | some p=>some (Jl d (qi d.Net).length,zk d.Net p,qS (zA d.Net (zk d.Net p).A) (zA d.Net (zk d.Net p).B))
def j4(d:qJ):AV:=match ZS d with
 | none=>.tup [.int .i64 0,.agg [.int .i64 0,.int .i64 0],.int .i64 0,.bool false]
 | some (k,p,c)=>.tup [.int .i64 (k:Int),p.enc,.int .i64 c,.bool true]
theorem qgU{d:qJ}(h:jN d=true):qq d.Net=true:=by
 simp only[jN,wa,bAt]at h;simp_all
theorem c369{d:qJ}{p:qj}{c:Int}(h:p.A.toNat<d.Net.Agents.length)(h0:0<=p.A):Pure Gm 369 [.ept d.enc 0,p.enc,.int .i64 c] (.int .i64 (if c=7 then(zA d.Net p.A).Value else-1)):=by
 refine pI Kp (by simp[AV.trees,AV.tree,go_sem]) rfl ?_;simp only[Kp,qQ,go_sem];refine qW rfl ?_;simp only[go_sem];apply qM<;>intro hc<;>simp only[hc,go_sem]
 ·rw[Jx h0];simp only[gMp,gEg h,oMs,go_sem];refine qR rfl ?_;simp_all[zA]
 ·refine qR rfl ?_;simp_all
theorem qZ8{n:qC}{p:qj}(h:∃a b:Nat,p=⟨a,b⟩/\a<n.Agents.length/\b<n.Agents.length):Pure Gm 743 [.ept n.enc 0,.int .i64 p.A,.int .i64 p.B] (.tup [.int .i64 (zk n p).A,.int .i64 (zk n p).B]):=by
 obtain⟨a,b,rfl,ha,hb⟩:=h;have c:=c743 ha hb;have e1:zA n (a:Int)=n.Agents[a]:=by simp[zA,gEg ha]
 have e2:zA n (b:Int)=n.Agents[b]:=by simp[zA,gEg hb]
 unfold zk;rw[e1,e2];split
 ·rename_i h;rw[if_pos h]at c;exact c
 ·rename_i h;rw[if_neg h]at c;exact c
theorem qCO{n:qC}{p:qj}(h:∃a b:Nat,p=⟨a,b⟩/\a<n.Agents.length/\b<n.Agents.length):∃a b:Nat,zk n p=⟨a,b⟩/\a<n.Agents.length/\b<n.Agents.length:=by
 obtain⟨a,b,rfl,ha,hb⟩:=h;unfold zk;split
 ·exact⟨b,a,rfl,hb,ha⟩
 ·exact⟨a,b,rfl,ha,hb⟩
theorem UM{a:Int}{m:Nat}(h:0<=a):a.tmod m=((a.toNat%m:Nat):Int):=by
 conv=>lhs;rw[<-Int.toNat_of_nonneg h]
 exact(Int.ofNat_tmod _ _).symm
theorem qd0{xs:List Int}(h:wM xs=true){i:Nat}(hi:i<xs.length):0<=xs[i]:=by
 simp only[wM,bAt,lAt]at h;exact(zK.1 (h.2 _ (gMm hi))).1
def fzp(n id:Nat)(o:Option qD)(st:VSt):VSt:=match o with
 | some (.row w [v] true)=>if w=0 then st else{s:=(n,.ept v 0)::st.s,l:=st.l,h:=st.h.set id .dead}
 | _=>st
def fzo(n:Nat)(v:Option AV)(st:VSt):VSt:=match v with
 | none=>st
 | some (.ept _ _)=>st
 | some (.lst _ _ _)=>st
 | some (.int _ _)=>st
 | some (.bool _)=>st
 | some .nils=>st
 | some (.agg _)=>st
 | some (.ptr id 0 0)=>fzp n id st.h[id]? st
 | _=>Qh n st
section
variable {n id:Nat} {s m:qo} {h:List qD} {v x:AV} {st:VSt}
@[go_sem] theorem qoP:Qh n ⟨s,m,h⟩=fzo n (get s n) ⟨s,m,h⟩:=by
 unfold fzo;split<;>rename_i e<;>try (simp only[Qh,e];done)
 ·simp only[Qh,e,fzp];split<;>rename_i e2<;>simp only[e2]
  ·split<;>split<;>first | rfl | omega
@[go_sem] theorem qoY:get [] n=none:=nr rfl
@[go_sem] theorem qoU:fzo n none st=st:=nr rfl
@[go_sem] theorem qoQ{j:Nat}:fzo n (some (.ept v j)) st=st:=nr rfl
@[go_sem] theorem qoS{w:Nat}{xs:List AV}{c:Bool}:fzo n (some (.lst w xs c)) st=st:=nr rfl
@[go_sem] theorem qoT:fzo n (some .nils) st=st:=nr rfl
@[go_sem] theorem qoR{k:IntKind}{i:Int}:fzo n (some (.int k i)) st=st:=nr rfl
@[go_sem] theorem qoV:fzo n (some (.ptr id 0 0)) ⟨s,m,h⟩=fzp n id h[id]? ⟨s,m,h⟩:=nr rfl
@[go_sem] theorem qoW{w:Nat}:fzp n id (some (.row w [v] true)) ⟨s,m,h⟩=if w=0 then⟨s,m,h⟩else⟨(n,.ept v 0)::s,m,h.set id .dead⟩:=nr rfl
end
theorem c397{f:AV}(p:Int->Bool)(hft:f.tree=true)(xs:List Int)(hf:∀x∈xs,Q3 Gm f [qK x] (.bool (p x)))(hl:xs.length<=1048576):Pure Gm 397 [.lst 1 (xs.map qK) false,f] (.bool (xs.any p)):=
 Xt shI (gc:=774) (gk _ F397) (gk _ F774) f p hft xs hf hl
theorem c859{f:AV}(p:qC->Bool)(hft:f.tree=true)(xs:List qC)(hf:∀x∈xs,Q3 Gm f [x.enc] (.bool (p x)))(hl:xs.length<=1048576):Pure Gm 859 [.lst 1 (xs.map qC.enc) false,f] (.bool (xs.any p)):=
 Xt qC.isSh (gc:=1179) (gk _ F859) (gk _ qFT) f p hft xs hf hl
theorem c712{f:AV}(p:qG->Bool)(hft:f.tree=true)(xs:List qG)(hf:∀x∈xs,Q3 Gm f [x.enc] (.bool (p x)))(hl:xs.length<=1048576):Pure Gm 712 [.lst 2 (xs.map qG.enc) false,f] (.bool (xs.any p)):=
 Xt qG.isSh (gc:=1098) (gk _ F712) (gk _ qEW) f p hft xs hf hl
theorem qfH{f:AV}(p:qE->Bool)(hft:f.tree=true)(xs:List qE)(hf:∀x∈xs,Q3 Gm f [x.enc] (.bool (p x)))(hl:xs.length<=1048576):Pure Gm 1112 [.lst 3 (xs.map qE.enc) false,f] (.bool (xs.any p)):=
 Xt qE.isSh (gc:=1397) (gk _ qE6) (gk _ qLO) f p hft xs hf hl
theorem c748{f:AV}(p:qI->Bool)(hft:f.tree=true)(xs:List qI)(hf:∀x∈xs,Q3 Gm f [x.enc] (.bool (p x)))(hl:xs.length<=1048576):Pure Gm 748 [.lst 2 (xs.map qI.enc) false,f] (.bool (xs.any p)):=
 Xt qI.isSh (gc:=771) (gk _ F748) (gk _ F771) f p hft xs hf hl
theorem Q5{α:Type}(p:α->Bool)(xs:List α):(!xs.any fun x=> !p x)=xs.all p:=by
 induction xs with
 | nil=>rfl
 | cons x xs ih=>simp only[List.any_cons,lAc,Bool.not_or,Bool.not_not,ih]
theorem c775{n:Int}:Pure Gm 775 [.int .i64 n] (.bool (!inI n 0 600)):=by
 refine pI F775 (by simp[AV.trees,AV.tree,go_sem]) rfl ?_;simp only[F775,qQ,go_sem]
 repeat' (first | (refine qW rfl ?_;simp only[go_sem]) | (first | (apply qg<;>intro hc<;>simp only[hc,go_sem]) | (apply qM<;>intro hc<;>simp only[hc,go_sem])) | refine qR rfl ?_)
 all_goals ((simp only[inI,AV.bool.injEq];rw[Bool.eq_iff_iff];simp at*;try omega))
theorem c406{xs:List Int}(hl:xs.length<=1048576):Pure Gm 406 [.lst 1 (xs.map qK) false] (.bool (wM xs)):=by
 refine pI Ky (by simp[AV.trees,AV.tree,qV shI.tree]) rfl ?_;simp only[Ky,qQ,go_sem]
 first | (apply qg<;>intro hc<;>simp only[hc,go_sem]) | (apply qM<;>intro hc<;>simp only[hc,go_sem])
 ·refine qO (c397 (f:=.fn 775 []) (fun n=> !inI n 0 600) rfl xs (fun x _=>⟨775,[],rfl,c775⟩) hl) ?_;simp only[go_sem];refine qR rfl ?_;rw[Q5];simp_all[wM]<;>omega
 ·refine qR rfl ?_;simp_all[wM]<;>omega
theorem qAS{k:Int}:Pure Gm 1487 [.int .i64 k] (.bool (ZH k)):=by
 refine pI KT (by simp[AV.trees,AV.tree,go_sem]) rfl ?_;simp only[KT,qQ,go_sem]
 repeat' (first | (refine qW rfl ?_;simp only[go_sem]) | (first | (apply qg<;>intro hc<;>simp only[hc,go_sem]) | (apply qM<;>intro hc<;>simp only[hc,go_sem])) | refine qR rfl ?_)
 all_goals ((simp only[ZH,inI,AV.bool.injEq];rw[Bool.eq_iff_iff];simp at*;try omega))
theorem qAO{k:Int}:Pure Gm 1375 [.int .i64 k] (.bool (wT k)):=by
 refine pI KA (by simp[AV.trees,AV.tree,go_sem]) rfl ?_;simp only[KA,qQ,go_sem]
 repeat' (first | (refine qW rfl ?_;simp only[go_sem]) | (first | (apply qg<;>intro hc<;>simp only[hc,go_sem]) | (apply qM<;>intro hc<;>simp only[hc,go_sem])) | (refine qO (qAS) ?_;simp only[go_sem]) | refine qR rfl ?_)
 all_goals ((simp only[wT,ZH,inI,AV.bool.injEq]at*;rw[Bool.eq_iff_iff];simp at*;try omega))
theorem qZ7{l:Int}:Pure Gm 1495 [.int .i64 l] (.bool (inI l 0 8)):=by
 refine pI KW (by simp[AV.trees,AV.tree,go_sem]) rfl ?_;simp only[KW,qQ,go_sem]
 repeat' (first | (refine qW rfl ?_;simp only[go_sem]) | (first | (apply qg<;>intro hc<;>simp only[hc,go_sem]) | (apply qM<;>intro hc<;>simp only[hc,go_sem])) | refine qR rfl ?_)
 all_goals ((simp only[inI,AV.bool.injEq];rw[Bool.eq_iff_iff];simp at*;try omega))
theorem qAR{k l:Int}:Pure Gm 1389 [.int .i64 k,.int .i64 l] (.bool (jq k l)):=by
 refine pI KG (by simp[AV.trees,AV.tree,go_sem]) rfl ?_;simp only[KG,qQ,go_sem]
 repeat' (first | (refine qW rfl ?_;simp only[go_sem]) | (first | (apply qg<;>intro hc<;>simp only[hc,go_sem]) | (apply qM<;>intro hc<;>simp only[hc,go_sem])) | (refine qO (qAS) ?_;simp only[go_sem]) | (refine qO (qAO) ?_;simp only[go_sem]) | (refine qO (qZ7) ?_;simp only[go_sem]) | refine qR rfl ?_)
 all_goals ((unfold jq;split<;>(simp only[wT,ZH,inI,AV.bool.injEq]at* <;>(rw[Bool.eq_iff_iff];simp at* <;>try omega))))
theorem c796{n:Int}:Pure Gm 796 [.int .i64 n] (.bool (jv n)):=by
 refine pI F796 (by simp[AV.trees,AV.tree,go_sem]) rfl ?_;simp only[F796,qQ,go_sem]
 repeat' (first | (refine qW rfl ?_;simp only[go_sem]) | (first | (apply qg<;>intro hc<;>simp only[hc,go_sem]) | (apply qM<;>intro hc<;>simp only[hc,go_sem])) | refine qR rfl ?_)
 all_goals (simp_all[jv,inI]<;>omega)
theorem qfB{n:Int}:Pure Gm 1050 [.int .i64 n] (.bool (inI n 1 6)):=by
 refine pI UV (by simp[AV.trees,AV.tree,go_sem]) rfl ?_;simp only[UV,qQ,go_sem]
 repeat' (first | (refine qW rfl ?_;simp only[go_sem]) | (first | (apply qg<;>intro hc<;>simp only[hc,go_sem]) | (apply qM<;>intro hc<;>simp only[hc,go_sem])) | refine qR rfl ?_)
 all_goals ((simp only[inI,AV.bool.injEq];rw[Bool.eq_iff_iff];simp at*;try omega))
theorem qZ1{n:Int}:Pure Gm 1051 [.int .i64 n] (.bool (inI n (-2147483648) 2147483647)):=by
 refine pI UW (by simp[AV.trees,AV.tree,go_sem]) rfl ?_;simp only[UW,qQ,go_sem]
 repeat' (first | (refine qW rfl ?_;simp only[go_sem]) | (first | (apply qg<;>intro hc<;>simp only[hc,go_sem]) | (apply qM<;>intro hc<;>simp only[hc,go_sem])) | refine qR rfl ?_)
 all_goals ((simp only[inI,AV.bool.injEq];rw[Bool.eq_iff_iff];simp at*;try omega))
theorem qfW{n:Int}:Pure Gm 1390 [.int .i64 n] (.bool (!jv n)):=by
 refine pI KH (by simp[AV.trees,AV.tree,go_sem]) rfl ?_;simp only[KH,qQ,go_sem]
 repeat' (first | (refine qW rfl ?_;simp only[go_sem]) | (first | (apply qg<;>intro hc<;>simp only[hc,go_sem]) | (apply qM<;>intro hc<;>simp only[hc,go_sem])) | (refine qO (c796) ?_;simp only[go_sem]) | refine qR rfl ?_)
 all_goals (simp_all)
theorem qCT{E:Ev}{o:Option AV}{v:AV}{k:Nat}{l:List qB}{ks:List Fr1}{s m:qo}{h:List qD}{Q:qh->VSt->Prop}(ho:o=some v)(hr:R E (.ops l::ks) ⟨(k,v)::s,m,h⟩ Q):Put E o (some k) l ks ⟨s,m,h⟩ Q:=by
 subst ho;rw[qdE];exact hr
theorem qfU{k:Int}{n:Nat}(hn:n<=1048576):Pure Gm 1388 [.int .i64 k,.int .i64 (n:Int)] (.int .i64 (if k=9 then(n:Int)-1 else 0)):=by
 refine pI KF (by simp[AV.trees,AV.tree,go_sem]) rfl ?_;simp only[KF,qQ,go_sem];apply qM<;>intro hc<;>simp only[hc,go_sem]
 ·rw[qf (by omega) (by omega)];refine qR rfl ?_;simp_all
 ·refine qR rfl ?_;simp_all
theorem qfT{k f:Int}:Pure Gm 1387 [.int .i64 k,.int .i64 f] (.int .i64 (wL k f)):=by
 refine pI KE (by simp[AV.trees,AV.tree,go_sem]) rfl ?_;simp only[KE,qQ,go_sem]
 repeat' (first
  | (first | (refine qg ?_ ?_<;>intro hc<;>simp only[hc,go_sem]) | (refine qM ?_ ?_<;>intro hc<;>simp only[hc,go_sem]))
  | (refine qO qAS ?_;simp only[go_sem])
  | refine qR rfl ?_)
 all_goals simp only[Bool.not_eq_false',bNt,Bool.not_true,Bool.not_false,dTe,decide_eq_false_iff_not,ZH,inI,bAt,Bool.and_eq_false_iff]at*
 case refine_2.refine_1.refine_1.refine_2=>
  subst hc;have:k=1\/k=2\/k=3\/k=4\/k=5\/k=6\/k=7\/k=8\/k=10\/k=11\/k=12:=by omega
  rcases this with rfl | rfl | rfl | rfl | rfl | rfl | rfl | rfl | rfl | rfl | rfl
  all_goals
   first | refine qCT (v:=.int .i64 1) rfl ?_ | refine qCT (v:=.int .i64 2) rfl ?_ | refine qCT (v:=.int .i64 3) rfl ?_
   simp only[go_sem];refine qR rfl rfl
 all_goals try rw[qf (by omega) (by omega)]
 all_goals (simp only[wL,inI,AV.int.injEq,true_and,bAt,dTe];repeat' split)
 all_goals try omega
theorem c801{n m:Int}:Pure Gm 801 [.int .i64 n,.ept (.int .i64 m) 0] (.bool (!inI n 0 m)):=by
 refine pI F801 (by simp[AV.trees,AV.tree,go_sem]) rfl ?_;simp only[F801,qQ,go_sem]
 repeat' (first | (refine qW rfl ?_;simp only[go_sem]) | (first | (apply qg<;>intro hc<;>simp only[hc,go_sem]) | (apply qM<;>intro hc<;>simp only[hc,go_sem])) | refine qR rfl ?_)
 all_goals ((simp only[inI,AV.bool.injEq];rw[Bool.eq_iff_iff];simp at*;try omega))
theorem c436{m:Int}{xs:List Int}(hl:xs.length<=1048576):Pure Gm 436 [.int .i64 m,.lst 1 (xs.map qK) false] (.bool (xs.all fun n=>inI n 0 m)):=by
 refine Pure.intro [2] [] (gk _ kE) (by kernel_rfl) rfl (by simp[AV.trees,AV.tree,qV shI.tree]) rfl ?_;simp only[kE,qQ,go_sem];refine Wh rfl ?_;simp only[go_sem,lNa,lSz];refine qO (c397 (f:=.fn 801 [.ept (.int .i64 m) 0]) (fun n=> !inI n 0 m) rfl xs (fun x _=>⟨801,_,rfl,c801⟩) hl) ?_;simp only[go_sem];refine qR rfl ?_;rw[Q5]
end Go.Ab
