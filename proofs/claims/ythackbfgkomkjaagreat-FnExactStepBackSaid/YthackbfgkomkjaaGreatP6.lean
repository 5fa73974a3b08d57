/- Texts Dbg0 .. Dbg14: the abstract machine, its laws and contracts of functions: lemmas for the statement. No condition. -/
import Derived.Test.YthackbfgkomkjaaGreatP4
set_option linter.unusedSimpArgs false
set_option linter.unusedVariables false
namespace Go.Ab
open Go
structure qG where
 Agent:Int
 Slot:Int
deriving DecidableEq
def qG.enc(x:qG):AV:=.agg [.int .i64 x.Agent,.int .i64 x.Slot]
theorem qG.isSh:Sh qG.enc 2 (some 2):=⟨fun x=>by simp[qG.enc,AV.tree,AV.trees],fun _=>rfl,fun _=>rfl,by decide,fun x=>by simp[qG.enc]⟩
section
variable {x:qG}
@[go_sem] theorem qG.tr:x.enc.tree=true:=qG.isSh.tree x
@[go_sem] theorem qG.ln:x.enc.cells.length=2:=nr rfl
@[go_sem] theorem qG.all:x.enc.part 0 (some 2)=some x.enc:=nr rfl
@[go_sem] theorem qG.cs:x.enc.cells=[.int .i64 x.Agent,.int .i64 x.Slot]:=nr rfl
@[go_sem] theorem qG.p0:x.enc.part 0 none=some (.int .i64 x.Agent):=nr rfl
@[go_sem] theorem qG.p1:x.enc.part 1 none=some (.int .i64 x.Slot):=nr rfl
@[go_sem] theorem qG.eqf{y:qG}:JE false [1,1] (some x.enc) (some y.enc)=some (.bool (decide (x=y))):=by
 obtain⟨a0,a1⟩:=x;obtain⟨b0,b1⟩:=y;simp only[JE,qG.enc,lMc,List.map_nil,dig,and_self,if_true,JI,QS,qG.mk.injEq]
 repeat' (split<;>simp_all)
@[go_sem] theorem qG.eqt{y:qG}:JE true [1,1] (some x.enc) (some y.enc)=some (.bool (!decide (x=y))):=by
 have h:=qG.eqf (x:=x) (y:=y);unfold JE at h|-;split<;>simp_all
end
structure qA where
 Kind:Int
 Level:Int
 Value:Int
 Data:List Int
 Ports:List qG
def qA.enc(x:qA):AV:=.agg [.int .i64 x.Kind,.int .i64 x.Level,.int .i64 x.Value,.lst 1 (x.Data.map qK) false,.lst 2 (x.Ports.map qG.enc) false]
theorem qA.isSh:Sh qA.enc 5 (some 5):=⟨fun x=>by simp[qA.enc,AV.tree,AV.trees,qU qG.isSh.tree,qU shI.tree],fun _=>rfl,fun _=>rfl,by decide,fun x=>by simp[qA.enc]⟩
section
variable {x:qA}
@[go_sem] theorem qA.tr:x.enc.tree=true:=qA.isSh.tree x
@[go_sem] theorem qA.ln:x.enc.cells.length=5:=nr rfl
@[go_sem] theorem qA.all:x.enc.part 0 (some 5)=some x.enc:=nr rfl
@[go_sem] theorem qA.cs:x.enc.cells=[.int .i64 x.Kind,.int .i64 x.Level,.int .i64 x.Value,.lst 1 (x.Data.map qK) false,.lst 2 (x.Ports.map qG.enc) false]:=nr rfl
@[go_sem] theorem qA.p0:x.enc.part 0 none=some (.int .i64 x.Kind):=nr rfl
@[go_sem] theorem qA.p1:x.enc.part 1 none=some (.int .i64 x.Level):=nr rfl
@[go_sem] theorem qA.p2:x.enc.part 2 none=some (.int .i64 x.Value):=nr rfl
@[go_sem] theorem qA.p3:x.enc.part 3 none=some (.lst 1 (x.Data.map qK) false):=nr rfl
@[go_sem] theorem qA.p4:x.enc.part 4 none=some (.lst 2 (x.Ports.map qG.enc) false):=nr rfl
end
def qA.sz(x:qA):Nat:=x.Data.length+x.Ports.length
def qA.bd(x:qA):Prop:=x.Data.length<=140737488355328/\x.Ports.length<=140737488355328
structure qC where
 Agents:List qA
def qC.enc(x:qC):AV:=.agg [.lst 5 (x.Agents.map qA.enc) false]
theorem qC.isSh:Sh qC.enc 1 (some 1):=⟨fun x=>by simp[qC.enc,AV.tree,AV.trees,qU qA.isSh.tree],fun _=>rfl,fun _=>rfl,by decide,fun x=>by simp[qC.enc]⟩
section
variable {x:qC}
@[go_sem] theorem qC.tr:x.enc.tree=true:=qC.isSh.tree x
@[go_sem] theorem qC.ln:x.enc.cells.length=1:=nr rfl
@[go_sem] theorem qC.all:x.enc.part 0 (some 1)=some x.enc:=nr rfl
@[go_sem] theorem qC.cs:x.enc.cells=[.lst 5 (x.Agents.map qA.enc) false]:=nr rfl
@[go_sem] theorem qC.p0:x.enc.part 0 none=some (.lst 5 (x.Agents.map qA.enc) false):=nr rfl
@[go_sem] theorem qC.lst1{E:Ev}{t off:Nat}{cs:List AV}{l:List qB}{ks:List Fr1}{s m:qn}{h:List qD}{Q:qg->VSt->Prop}:Lst E t off 1 (some (.agg cs)) (some x.enc) l ks ⟨s,m,h⟩ Q=wR E t (jN cs off (.lst 5 (x.Agents.map qA.enc) false)) l ks ⟨s,m,h⟩ Q:=JU rfl
end
def qC.sz(x:qC):Nat:=(x.Agents.length+qH qA.sz x.Agents)
def qC.bd(x:qC):Prop:=x.Agents.length<=140737488355328/\(∀y∈x.Agents,qA.bd y)
structure qE where
 Step:Int
 Def:Int
 Source:Int
deriving DecidableEq
def qE.enc(x:qE):AV:=.agg [.int .i64 x.Step,.int .i64 x.Def,.int .i64 x.Source]
theorem qE.isSh:Sh qE.enc 3 (some 3):=⟨fun x=>by simp[qE.enc,AV.tree,AV.trees],fun _=>rfl,fun _=>rfl,by decide,fun x=>by simp[qE.enc]⟩
section
variable {x:qE}
@[go_sem] theorem qE.tr:x.enc.tree=true:=qE.isSh.tree x
@[go_sem] theorem qE.ln:x.enc.cells.length=3:=nr rfl
@[go_sem] theorem qE.all:x.enc.part 0 (some 3)=some x.enc:=nr rfl
@[go_sem] theorem qE.cs:x.enc.cells=[.int .i64 x.Step,.int .i64 x.Def,.int .i64 x.Source]:=nr rfl
@[go_sem] theorem qE.p0:x.enc.part 0 none=some (.int .i64 x.Step):=nr rfl
@[go_sem] theorem qE.p1:x.enc.part 1 none=some (.int .i64 x.Def):=nr rfl
@[go_sem] theorem qE.p2:x.enc.part 2 none=some (.int .i64 x.Source):=nr rfl
@[go_sem] theorem qE.eqf{y:qE}:JE false [1,1,1] (some x.enc) (some y.enc)=some (.bool (decide (x=y))):=by
 obtain⟨a0,a1,a2⟩:=x;obtain⟨b0,b1,b2⟩:=y;simp only[JE,qE.enc,lMc,List.map_nil,dig,and_self,if_true,JI,QS,qE.mk.injEq]
 repeat' (split<;>simp_all)
@[go_sem] theorem qE.eqt{y:qE}:JE true [1,1,1] (some x.enc) (some y.enc)=some (.bool (!decide (x=y))):=by
 have h:=qE.eqf (x:=x) (y:=y);unfold JE at h|-;split<;>simp_all
end
structure qI where
 Kind:Int
 Value:Int
deriving DecidableEq
def qI.enc(x:qI):AV:=.agg [.int .i64 x.Kind,.int .i64 x.Value]
theorem qI.isSh:Sh qI.enc 2 (some 2):=⟨fun x=>by simp[qI.enc,AV.tree,AV.trees],fun _=>rfl,fun _=>rfl,by decide,fun x=>by simp[qI.enc]⟩
section
variable {x:qI}
@[go_sem] theorem qI.tr:x.enc.tree=true:=qI.isSh.tree x
@[go_sem] theorem qI.ln:x.enc.cells.length=2:=nr rfl
@[go_sem] theorem qI.all:x.enc.part 0 (some 2)=some x.enc:=nr rfl
@[go_sem] theorem qI.cs:x.enc.cells=[.int .i64 x.Kind,.int .i64 x.Value]:=nr rfl
@[go_sem] theorem qI.p0:x.enc.part 0 none=some (.int .i64 x.Kind):=nr rfl
@[go_sem] theorem qI.p1:x.enc.part 1 none=some (.int .i64 x.Value):=nr rfl
@[go_sem] theorem qI.eqf{y:qI}:JE false [1,1] (some x.enc) (some y.enc)=some (.bool (decide (x=y))):=by
 obtain⟨a0,a1⟩:=x;obtain⟨b0,b1⟩:=y;simp only[JE,qI.enc,lMc,List.map_nil,dig,and_self,if_true,JI,QS,qI.mk.injEq]
 repeat' (split<;>simp_all)
@[go_sem] theorem qI.eqt{y:qI}:JE true [1,1] (some x.enc) (some y.enc)=some (.bool (!decide (x=y))):=by
 have h:=qI.eqf (x:=x) (y:=y);unfold JE at h|-;split<;>simp_all
end
structure qF where
 At:Int
 Net:qC
 Origins:List qE
def qF.enc(x:qF):AV:=.agg [.int .i64 x.At,.lst 5 (x.Net.Agents.map qA.enc) false,.lst 3 (x.Origins.map qE.enc) false]
theorem qF.isSh:Sh qF.enc 3 (some 3):=⟨fun x=>by simp[qF.enc,AV.tree,AV.trees,qU qA.isSh.tree,qU qE.isSh.tree],fun _=>rfl,fun _=>rfl,by decide,fun x=>by simp[qF.enc]⟩
section
variable {x:qF}
@[go_sem] theorem qF.tr:x.enc.tree=true:=qF.isSh.tree x
@[go_sem] theorem qF.ln:x.enc.cells.length=3:=nr rfl
@[go_sem] theorem qF.all:x.enc.part 0 (some 3)=some x.enc:=nr rfl
@[go_sem] theorem qF.cs:x.enc.cells=[.int .i64 x.At,.lst 5 (x.Net.Agents.map qA.enc) false,.lst 3 (x.Origins.map qE.enc) false]:=nr rfl
@[go_sem] theorem qF.p0:x.enc.part 0 none=some (.int .i64 x.At):=nr rfl
@[go_sem] theorem qF.p1:x.enc.part 1 none=some (.lst 5 (x.Net.Agents.map qA.enc) false):=nr rfl
@[go_sem] theorem qF.p2:x.enc.part 2 none=some (.lst 3 (x.Origins.map qE.enc) false):=nr rfl
@[go_sem] theorem qF.q1_1:x.enc.part 1 (some 1)=some (qC.enc x.Net):=nr rfl
end
def qF.sz(x:qF):Nat:=qC.sz x.Net+x.Origins.length
def qF.bd(x:qF):Prop:=qC.bd x.Net/\x.Origins.length<=140737488355328
structure qJ where
 Book:List qC
 Schedule:List Int
 Every:Int
 At:Int
 Net:qC
 Origins:List qE
 Breaks:List qI
 Points:List qF
def qJ.enc(x:qJ):AV:=.agg [.lst 1 (x.Book.map qC.enc) false,.lst 1 (x.Schedule.map qK) false,.int .i64 x.Every,.int .i64 x.At,.lst 5 (x.Net.Agents.map qA.enc) false,.lst 3 (x.Origins.map qE.enc) false,.lst 2 (x.Breaks.map qI.enc) false,.lst 3 (x.Points.map qF.enc) false]
theorem qJ.isSh:Sh qJ.enc 8 (some 8):=⟨fun x=>by simp[qJ.enc,AV.tree,AV.trees,qU qA.isSh.tree,qU qI.isSh.tree,qU qF.isSh.tree,qU qC.isSh.tree,qU qE.isSh.tree,qU shI.tree],fun _=>rfl,fun _=>rfl,by decide,fun x=>by simp[qJ.enc]⟩
section
variable {x:qJ}
@[go_sem] theorem qJ.tr:x.enc.tree=true:=qJ.isSh.tree x
@[go_sem] theorem qJ.ln:x.enc.cells.length=8:=nr rfl
@[go_sem] theorem qJ.all:x.enc.part 0 (some 8)=some x.enc:=nr rfl
@[go_sem] theorem qJ.cs:x.enc.cells=[.lst 1 (x.Book.map qC.enc) false,.lst 1 (x.Schedule.map qK) false,.int .i64 x.Every,.int .i64 x.At,.lst 5 (x.Net.Agents.map qA.enc) false,.lst 3 (x.Origins.map qE.enc) false,.lst 2 (x.Breaks.map qI.enc) false,.lst 3 (x.Points.map qF.enc) false]:=nr rfl
@[go_sem] theorem qJ.p0:x.enc.part 0 none=some (.lst 1 (x.Book.map qC.enc) false):=nr rfl
@[go_sem] theorem qJ.p1:x.enc.part 1 none=some (.lst 1 (x.Schedule.map qK) false):=nr rfl
@[go_sem] theorem qJ.p2:x.enc.part 2 none=some (.int .i64 x.Every):=nr rfl
@[go_sem] theorem qJ.p3:x.enc.part 3 none=some (.int .i64 x.At):=nr rfl
@[go_sem] theorem qJ.p4:x.enc.part 4 none=some (.lst 5 (x.Net.Agents.map qA.enc) false):=nr rfl
@[go_sem] theorem qJ.p5:x.enc.part 5 none=some (.lst 3 (x.Origins.map qE.enc) false):=nr rfl
@[go_sem] theorem qJ.p6:x.enc.part 6 none=some (.lst 2 (x.Breaks.map qI.enc) false):=nr rfl
@[go_sem] theorem qJ.p7:x.enc.part 7 none=some (.lst 3 (x.Points.map qF.enc) false):=nr rfl
@[go_sem] theorem qJ.q4_1:x.enc.part 4 (some 1)=some (qC.enc x.Net):=nr rfl
end
def qJ.sz(x:qJ):Nat:=(x.Book.length+qH qC.sz x.Book)+x.Schedule.length+qC.sz x.Net+x.Origins.length+x.Breaks.length+(x.Points.length+qH qF.sz x.Points)
def qJ.bd(x:qJ):Prop:=x.Book.length<=140737488355328/\(∀y∈x.Book,qC.bd y)/\x.Schedule.length<=140737488355328/\qC.bd x.Net/\x.Origins.length<=140737488355328/\x.Breaks.length<=140737488355328/\x.Points.length<=140737488355328/\(∀y∈x.Points,qF.bd y)
set_option maxRecDepth 10000
def sr(l:List qB)(c:qL):qL:=.seq (.reg true l) c
@[go_sem] theorem qtZ{l:List qB}{c:qL}:sr l c=.seq (.reg true l) c:=nr rfl
def oL(i d t:Nat):qB:=.mk i (some d) none (.load none (.t t)) []
@[go_sem] theorem qrW{i d t:Nat}:oL i d t=.mk i (some d) none (.load none (.t t)) []:=nr rfl
def oC(i d:Nat)(n:Int):qB:=.mk i (some d) none (.mov (.c (.int .i64 n))) []
@[go_sem] theorem qrN{i d:Nat}{n:Int}:oC i d n=.mk i (some d) none (.mov (.c (.int .i64 n))) []:=nr rfl
def oQ(i d:Nat)(b:Bool):qB:=.mk i (some d) none (.mov (.c (.bool b))) []
@[go_sem] theorem qr2{i d:Nat}{b:Bool}:oQ i d b=.mk i (some d) none (.mov (.c (.bool b))) []:=nr rfl
def oE(i d:Nat)(op:BinOp)(a:Nat)(n:Int):qB:=.mk i (some d) none (.bin op (.t a) (.c (.int .i64 n))) []
@[go_sem] theorem qrQ{i d:Nat}{op:BinOp}{a:Nat}{n:Int}:oE i d op a n=.mk i (some d) none (.bin op (.t a) (.c (.int .i64 n))) []:=nr rfl
def oB(i d:Nat)(op:BinOp)(a b:Nat):qB:=.mk i (some d) none (.bin op (.t a) (.t b)) []
@[go_sem] theorem qrM{i d:Nat}{op:BinOp}{a b:Nat}:oB i d op a b=.mk i (some d) none (.bin op (.t a) (.t b)) []:=nr rfl
def oA(i d w a b:Nat):qB:=.mk i (some d) none (.iaddr w (.t a) (.t b)) []
@[go_sem] theorem qrL{i d w a b:Nat}:oA i d w a b=.mk i (some d) none (.iaddr w (.t a) (.t b)) []:=nr rfl
def oX(i d t k:Nat):qB:=.mk i (some d) none (.lload t k none) []
@[go_sem] theorem qr8{i d t k:Nat}:oX i d t k=.mk i (some d) none (.lload t k none) []:=nr rfl
def oY(i d t k w:Nat):qB:=.mk i (some d) none (.lload t k (some w)) []
@[go_sem] theorem qr9{i d t k w:Nat}:oY i d t k w=.mk i (some d) none (.lload t k (some w)) []:=nr rfl
def oS(i t k w x:Nat):qB:=.mk i none none (.lstore t k w (.t x)) []
@[go_sem] theorem qr3{i t k w x:Nat}:oS i t k w x=.mk i none none (.lstore t k w (.t x)) []:=nr rfl
def oT(i w a b:Nat):qB:=.mk i none none (.store w (.t a) (.t b)) []
@[go_sem] theorem qr4{i w a b:Nat}:oT i w a b=.mk i none none (.store w (.t a) (.t b)) []:=nr rfl
def oF(i d k a:Nat):qB:=.mk i (some d) none (.faddr k (.t a)) []
@[go_sem] theorem qrR{i d k a:Nat}:oF i d k a=.mk i (some d) none (.faddr k (.t a)) []:=nr rfl
def oK(i d a:Nat):qB:=.mk i (some d) none (.nilchk (.t a)) []
@[go_sem] theorem qrV{i d a:Nat}:oK i d a=.mk i (some d) none (.nilchk (.t a)) []:=nr rfl
def oV(i d a k:Nat):qB:=.mk i (some d) none (.ext (.t a) k) []
@[go_sem] theorem qr6{i d a k:Nat}:oV i d a k=.mk i (some d) none (.ext (.t a) k) []:=nr rfl
def oU(i d a:Nat):qB:=.mk i (some d) none (.nop a) []
@[go_sem] theorem qr5{i d a:Nat}:oU i d a=.mk i (some d) none (.nop a) []:=nr rfl
def oJ(i d a:Nat):qB:=.mk i (some d) none (.not (.t a)) []
@[go_sem] theorem qrU{i d a:Nat}:oJ i d a=.mk i (some d) none (.not (.t a)) []:=nr rfl
def oW(i d a:Nat):qB:=.mk i (some d) none (.len (.t a)) []
@[go_sem] theorem qr7{i d a:Nat}:oW i d a=.mk i (some d) none (.len (.t a)) []:=nr rfl
def oH(i d k:Nat)(b:Bool)(a:Nat):qB:=.mk i (some d) (some (k,b)) (.mov (.t a)) []
@[go_sem] theorem qrT{i d k:Nat}{b:Bool}{a:Nat}:oH i d k b a=.mk i (some d) (some (k,b)) (.mov (.t a)) []:=nr rfl
def oD1(i d g a:Nat):qB:=.mk i (some d) none (.call g [.t a]) []
@[go_sem] theorem qrO{i d g a:Nat}:oD1 i d g a=.mk i (some d) none (.call g [.t a]) []:=nr rfl
def oD2(i d g a b:Nat):qB:=.mk i (some d) none (.call g [.t a,.t b]) []
@[go_sem] theorem qrP{i d g a b:Nat}:oD2 i d g a b=.mk i (some d) none (.call g [.t a,.t b]) []:=nr rfl
def oPf(i d a b:Nat):qB:=.mk i (some d) none (.pick (.t a) (.t b) (.c (.bool false))) []
@[go_sem] theorem qr0{i d a b:Nat}:oPf i d a b=.mk i (some d) none (.pick (.t a) (.t b) (.c (.bool false))) []:=nr rfl
def oPt(i d a b:Nat):qB:=.mk i (some d) none (.pick (.t a) (.c (.bool true)) (.t b)) []
@[go_sem] theorem qr1{i d a b:Nat}:oPt i d a b=.mk i (some d) none (.pick (.t a) (.c (.bool true)) (.t b)) []:=nr rfl
def F338:qP:=XK
def qFQ:qP:=XK
def qV5:List qB:=[oU 0 5 2,oX 1 6 2 3,oM 2 7 1,oD2 3 8 338 6 7,oM 4 1 8]
def qV6:List qB:=[oU 0 11 2,oX 1 12 2 4,oM 2 13 1,oD2 3 14 1173 12 13,oM 4 1 14]
def qV4:qL:=sr qV6 (.seq (sr [oM 0 15 1,oE 1 16 .lss 15 0] (.cond (.t 16) (sr [oP 0 4 (.mov (.c (.int .i64 (-1))))] .ret) .skip)) (sr [oM 0 17 1,oM 1 4 17] .ret))
def F852:qP:=⟨2,18,[.t 4],sr [oP 0 2 (.lbox 5 (.t 0)),oC 1 4 0] (sr qV5 (.seq (sr [oM 0 9 1,oE 1 10 .lss 9 0] (.cond (.t 10) (sr [oP 0 4 (.mov (.c (.int .i64 (-1))))] .ret) .skip)) qV4))⟩
def F501:qP:=szS 5 (some 5) 852
def qM0:List qB:=[oU 0 5 2,oX 1 6 2 0,oM 2 7 1,oD2 3 8 501 6 7,oM 4 1 8]
def qMZ:qL:=sr qM0 (.seq (sr [oM 0 9 1,oE 1 10 .lss 9 0] (.cond (.t 10) (sr [oP 0 4 (.mov (.c (.int .i64 (-1))))] .ret) .skip)) (sr [oM 0 11 1,oM 1 4 11] .ret))
def Kc:qP:=⟨2,12,[.t 4],sr [oP 0 2 (.lbox 1 (.t 0)),oC 1 4 0] qMZ⟩
def F181:qP:=szS 1 (some 1) 182
def F364:qP:=XK
def F365:qP:=XK
def qT4:List qB:=[oU 0 5 2,oY 1 6 2 1 1,oM 2 7 1,oD2 3 8 182 6 7,oM 4 1 8]
def qT5:List qB:=[oU 0 11 2,oX 1 12 2 2,oM 2 13 1,oD2 3 14 364 12 13,oM 4 1 14]
def qT3:qL:=sr qT5 (.seq (sr [oM 0 15 1,oE 1 16 .lss 15 0] (.cond (.t 16) (sr [oP 0 4 (.mov (.c (.int .i64 (-1))))] .ret) .skip)) (sr [oM 0 17 1,oM 1 4 17] .ret))
def ki:qP:=⟨2,18,[.t 4],sr [oP 0 2 (.lbox 3 (.t 0)),oC 1 4 0] (sr qT4 (.seq (sr [oM 0 9 1,oE 1 10 .lss 9 0] (.cond (.t 10) (sr [oP 0 4 (.mov (.c (.int .i64 (-1))))] .ret) .skip)) qT3))⟩
def F366:qP:=szS 3 (some 3) 740
def qDP:List qB:=[oU 0 5 2,oX 1 6 2 0,oM 2 7 1,oD2 3 8 181 6 7,oM 4 1 8]
def qDQ:List qB:=[oU 0 11 2,oX 1 12 2 1,oM 2 13 1,oD2 3 14 338 12 13,oM 4 1 14]
def qDR:List qB:=[oU 0 17 2,oY 1 18 2 4 1,oM 2 19 1,oD2 3 20 182 18 19,oM 4 1 20]
def qDS:List qB:=[oU 0 23 2,oX 1 24 2 5,oM 2 25 1,oD2 3 26 364 24 25,oM 4 1 26]
def qDT:List qB:=[oU 0 29 2,oX 1 30 2 6,oM 2 31 1,oD2 3 32 365 30 31,oM 4 1 32]
def qDU:List qB:=[oU 0 35 2,oX 1 36 2 7,oM 2 37 1,oD2 3 38 366 36 37,oM 4 1 38]
def qDM:qL:=sr qDU (.seq (sr [oM 0 39 1,oE 1 40 .lss 39 0] (.cond (.t 40) (sr [oP 0 4 (.mov (.c (.int .i64 (-1))))] .ret) .skip)) (sr [oM 0 41 1,oM 1 4 41] .ret))
def qDN:qL:=.seq (sr [oM 0 27 1,oE 1 28 .lss 27 0] (.cond (.t 28) (sr [oP 0 4 (.mov (.c (.int .i64 (-1))))] .ret) .skip)) (sr qDT (.seq (sr [oM 0 33 1,oE 1 34 .lss 33 0] (.cond (.t 34) (sr [oP 0 4 (.mov (.c (.int .i64 (-1))))] .ret) .skip)) qDM))
def qDO:qL:=.seq (sr [oM 0 15 1,oE 1 16 .lss 15 0] (.cond (.t 16) (sr [oP 0 4 (.mov (.c (.int .i64 (-1))))] .ret) .skip)) (sr qDR (.seq (sr [oM 0 21 1,oE 1 22 .lss 21 0] (.cond (.t 22) (sr [oP 0 4 (.mov (.c (.int .i64 (-1))))] .ret) .skip)) (sr qDS qDN)))
def UV:qP:=⟨2,42,[.t 4],sr [oP 0 2 (.lbox 8 (.t 0)),oC 1 4 0] (sr qDP (.seq (sr [oM 0 9 1,oE 1 10 .lss 9 0] (.cond (.t 10) (sr [oP 0 4 (.mov (.c (.int .i64 (-1))))] .ret) .skip)) (sr qDQ qDO)))⟩
def qNX:List qB:=[oM 0 7 0,oM 1 8 1,oB 2 9 .geq 7 8,oM 3 10 9,oH 4 11 10 true 0,oH 5 12 10 true 2,oG 6 13 10 true (.bin .leq (.t 11) (.t 12)),oPf 7 14 10 13,oM 8 6 14]
def Kn:qP:=⟨3,15,[.t 6],sr [oQ 0 6 false] (sr qNX .ret)⟩
def qPR:List qB:=[oM 0 7 3,oM 1 8 0,oW 2 9 8,oB 3 10 .lss 7 9]
def qPS:List qB:=[oM 0 13 0,oM 1 14 3,oA 2 15 1 13 14,oL 3 16 15,oP 4 17 (.call 340 [.t 16,.c (.int .i64 0),.c (.int .i64 600)]),oJ 5 18 17]
def qPP:qL:=.loop (.seq (sr qPR (.cond (.t 10) .skip (.exit 0))) (.seq (.blk 1 (sr qPS (.cond (.t 18) (sr [oQ 0 2 false] .ret) .skip))) (.reg true [oM 0 11 3,oE 1 12 .add 11 1,oM 2 3 12])))
def qPQ:qL:=.seq (sr [oM 0 4 0,oW 1 5 4,oE 2 6 .gtr 5 200] (.cond (.t 6) (sr [oQ 0 2 false] .ret) .skip)) (.seq (sr [oC 0 3 0] (.blk 0 qPP)) (sr [oQ 0 2 true] .ret))
def Ky:qP:=⟨1,19,[.t 2],sr [oQ 0 2 false] qPQ⟩
def qPU:List qB:=[oM 0 3 0,oK 1 4 3,oF 2 5 0 4,oL 3 6 5]
def qPV:List qB:=[oM 0 9 0,oK 1 10 9,oF 2 11 1 10,oL 3 12 11,oP 4 13 (.call 340 [.t 12,.c (.int .i64 1),.c (.int .i64 8)]),oM 5 2 13]
def qPW:List qB:=[oM 0 16 0,oK 1 17 16,oF 2 18 1 17,oL 3 19 18,oP 4 20 (.call 340 [.t 19,.c (.int .i64 0),.c (.int .i64 23)]),oM 5 2 20]
def qPX:List qB:=[oM 0 23 0,oK 1 24 23,oF 2 25 1 24,oL 3 26 25,oP 4 27 (.call 340 [.t 26,.c (.int .i64 1),.c (.int .i64 600)]),oM 5 2 27]
def qPT:qL:=.cond (.t 7) (sr qPV .ret) (sr [oE 0 15 .eql 6 2,oM 1 14 15] (.cond (.t 14) (sr qPW .ret) (sr [oE 0 22 .eql 6 3,oM 1 21 22] (.cond (.t 21) (sr qPX .ret) .skip))))
def Kz:qP:=⟨1,28,[.t 2],sr [oQ 0 2 false] (.seq (sr qPU (.blk 0 (sr [oE 0 8 .eql 6 1,oM 1 7 8] qPT))) (sr [oQ 0 2 false] .ret))⟩
def qRD:List qB:=[oU 0 5 3,oX 1 6 3 0,oM 2 7 0,oW 3 8 7,oE 4 9 .sub 8 1,oP 5 10 (.call 340 [.t 6,.c (.int .i64 0),.t 9]),oM 6 11 10,oG 7 12 11 true (.nop 3),oG 8 13 11 true (.lload 3 1 none),oH 9 14 11 true 0,oG 10 15 11 true (.nop 3),oG 11 16 11 true (.lload 3 0 none),oG 12 17 11 true (.iaddr 5 (.t 14) (.t 16)),oG 13 18 11 true (.faddr 4 (.t 17)),oG 14 19 11 true (.load none (.t 18)),oG 15 20 11 true (.len (.t 19)),oG 16 21 11 true (.bin .sub (.t 20) (.c (.int .i64 1))),oG 17 22 11 true (.call 340 [.t 13,.c (.int .i64 0),.t 21]),oPf 18 23 11 22,oM 19 4 23]
def kE:qP:=⟨2,24,[.t 4],sr [oP 0 3 (.lbox 2 (.t 1)),oQ 1 4 false] (sr qRD .ret)⟩
def qJ7:qL:=.seq (sr [oM 0 7 1,oP 1 8 (.call 340 [.t 7,.c (.int .i64 0),.c (.int .i64 3)])] (.cond (.t 8) (sr [oM 0 9 1,oP 1 10 (.bin .add (.c (.int .i64 1)) (.t 9)),oM 2 4 10] .ret) .skip)) (sr [oC 0 4 0] .ret)
def qJ8:qL:=sr [oE 0 16 .eql 13 5,oM 1 14 16] (.cond (.t 14) .skip (sr [oE 0 17 .eql 13 6,oM 1 14 17] (.cond (.t 14) .skip (.reg true [oE 0 18 .eql 13 12,oM 1 14 18]))))
def qJ9:qL:=sr [oE 0 20 .eql 13 8,oM 1 19 20] (.cond (.t 19) .skip (sr [oE 0 21 .eql 13 10,oM 1 19 21] (.cond (.t 19) .skip (.reg true [oE 0 22 .eql 13 11,oM 1 19 22]))))
def qKA:qL:=sr [oE 0 25 .eql 13 3,oM 1 23 25] (.cond (.t 23) .skip (sr [oE 0 26 .eql 13 4,oM 1 23 26] (.cond (.t 23) .skip (.reg true [oE 0 27 .eql 13 7,oM 1 23 27]))))
def qKB:qL:=.cond (.t 14) (sr [oC 0 4 1] .ret) (.seq qJ9 (.cond (.t 19) (sr [oC 0 4 2] .ret) (.seq (sr [oE 0 24 .eql 13 2,oM 1 23 24] (.cond (.t 23) .skip qKA)) (.cond (.t 23) (sr [oC 0 4 3] .ret) .skip))))
def qKC:qL:=.seq (sr [oM 0 11 1,oE 1 12 .neq 11 0] (.cond (.t 12) (sr [oC 0 4 0] .ret) .skip)) (.seq (sr [oM 0 13 0] (.blk 0 (.seq (sr [oE 0 15 .eql 13 1,oM 1 14 15] (.cond (.t 14) .skip qJ8)) qKB))) (sr [oC 0 4 0] .ret))
def U9:qP:=⟨2,28,[.t 4],sr [oC 0 4 0] (.seq (sr [oM 0 5 0,oE 1 6 .eql 5 9] (.cond (.t 6) qJ7 .skip)) qKC)⟩
def qKS:List qB:=[oM 0 3 0,oK 1 4 3,oF 2 5 0 4,oL 3 6 5,oE 4 7 .eql 6 9]
def qKT:List qB:=[oM 0 8 0,oK 1 9 8,oF 2 10 4 9,oL 3 11 10,oW 4 12 11,oE 5 13 .sub 12 1,oM 6 2 13]
def KC:qP:=⟨1,14,[.t 2],sr [oC 0 2 0] (.seq (sr qKS (.cond (.t 7) (sr qKT .ret) .skip)) (sr [oC 0 2 0] .ret))⟩
def qKD:qL:=sr [oE 0 11 .eql 3 10,oM 1 4 11] (.cond (.t 4) .skip (sr [oE 0 12 .eql 3 11,oM 1 4 12] (.cond (.t 4) .skip (.reg true [oE 0 13 .eql 3 12,oM 1 4 13]))))
def qKE:qL:=sr [oE 0 8 .eql 3 7,oM 1 4 8] (.cond (.t 4) .skip (sr [oE 0 9 .eql 3 8,oM 1 4 9] (.cond (.t 4) .skip (sr [oE 0 10 .eql 3 9,oM 1 4 10] (.cond (.t 4) .skip qKD)))))
def qKF:qL:=sr [oE 0 5 .eql 3 2,oM 1 4 5] (.cond (.t 4) .skip (sr [oE 0 6 .eql 3 3,oM 1 4 6] (.cond (.t 4) .skip (sr [oE 0 7 .eql 3 4,oM 1 4 7] (.cond (.t 4) .skip qKE)))))
def KA:qP:=⟨1,14,[.t 2],sr [oQ 0 2 false] (.seq (sr [oM 0 3 0] (.blk 0 (.seq qKF (.cond (.t 4) (sr [oQ 0 2 true] .ret) .skip)))) (sr [oQ 0 2 false] .ret))⟩
def KV:qP:=⟨1,5,[.t 2],sr [oQ 0 2 false] (sr [oM 0 3 0,oP 1 4 (.call 340 [.t 3,.c (.int .i64 1),.c (.int .i64 12)]),oM 2 2 4] .ret)⟩
def qKU:List qB:=[oM 0 9 0,oD1 1 10 1489 9,oM 2 11 10,oH 3 12 11 true 1,oG 4 13 11 true (.bin .eql (.t 12) (.c (.int .i64 0))),oPf 5 14 11 13,oM 6 4 14]
def KD:qP:=⟨2,15,[.t 4],sr [oQ 0 4 false] (.seq (sr [oM 0 5 0,oD1 1 6 1372 5] (.cond (.t 6) (sr [oM 0 7 1,oP 1 8 (.call 340 [.t 7,.c (.int .i64 0),.c (.int .i64 8)]),oM 2 4 8] .ret) .skip)) (sr qKU .ret))⟩
def KW:qP:=⟨1,5,[.t 2],sr [oQ 0 2 false] (sr [oM 0 3 0,oP 1 4 (.call 340 [.t 3,.c (.int .i64 0),.c (.int .i64 23)]),oM 2 2 4] .ret)⟩
def qKZ:List qB:=[oM 0 4 0,oK 1 5 4,oF 2 6 0 5,oL 3 7 6]
def qK0:List qB:=[oM 0 10 0,oK 1 11 10,oF 2 12 3 11,oL 3 13 12,oW 4 14 13,oE 5 15 .eql 14 0,oM 6 16 15,oH 7 17 16 true 0,oG 8 18 16 true (.nilchk (.t 17)),oG 9 19 16 true (.faddr 2 (.t 18)),oG 10 20 16 true (.load none (.t 19)),oG 11 21 16 true (.call 340 [.t 20,.c (.int .i64 (-2147483648)),.c (.int .i64 2147483647)]),oPf 12 22 16 21,oM 13 2 22]
def qK2:List qB:=[oM 0 25 0,oK 1 26 25,oF 2 27 3 26,oL 3 28 27,oW 4 29 28,oE 5 30 .eql 29 0,oM 6 31 30,oH 7 32 31 true 0,oG 8 33 31 true (.nilchk (.t 32)),oG 9 34 31 true (.faddr 2 (.t 33)),oG 10 35 31 true (.load none (.t 34)),oG 11 36 31 true (.call 340 [.t 35,.c (.int .i64 1),.c (.int .i64 6)]),oPf 12 37 31 36,oM 13 2 37]
def qK3:List qB:=[oM 0 40 0,oK 1 41 40,oF 2 42 3 41,oL 3 43 42,oW 4 44 43,oE 5 45 .eql 44 1,oM 6 46 45,oH 7 47 46 true 0,oG 8 48 46 true (.nilchk (.t 47)),oG 9 49 46 true (.faddr 2 (.t 48)),oG 10 50 46 true (.load none (.t 49)),oG 11 51 46 true (.call 340 [.t 50,.c (.int .i64 1),.c (.int .i64 6)]),oPf 12 52 46 51,oM 13 53 52,oH 14 54 53 true 0,oG 15 55 53 true (.nilchk (.t 54)),oG 16 56 53 true (.faddr 3 (.t 55)),oG 17 57 53 true (.load none (.t 56)),oG 18 58 53 true (.iaddr 1 (.t 57) (.c (.int .i64 0))),oG 19 59 53 true (.load none (.t 58)),oG 20 60 53 true (.call 340 [.t 59,.c (.int .i64 (-2147483648)),.c (.int .i64 2147483647)]),oPf 21 61 53 60,oM 22 2 61]
def qK4:List qB:=[oM 0 64 0,oK 1 65 64,oF 2 66 3 65,oL 3 67 66,oW 4 68 67,oE 5 69 .eql 68 0,oM 6 70 69,oH 7 71 70 true 0,oG 8 72 70 true (.nilchk (.t 71)),oG 9 73 70 true (.faddr 2 (.t 72)),oG 10 74 70 true (.load none (.t 73)),oG 11 75 70 true (.call 340 [.t 74,.c (.int .i64 0),.c (.int .i64 3)]),oPf 12 76 70 75,oM 13 2 76]
def qK5:List qB:=[oM 0 79 0,oK 1 80 79,oF 2 81 3 80,oL 3 82 81,oW 4 83 82,oE 5 84 .eql 83 0,oM 6 85 84,oH 7 86 85 true 0,oG 8 87 85 true (.nilchk (.t 86)),oG 9 88 85 true (.faddr 2 (.t 87)),oG 10 89 85 true (.load none (.t 88)),oG 11 90 85 true (.call 1494 [.t 89]),oPf 12 91 85 90,oM 13 2 91]
def qK6:List qB:=[oM 0 95 0,oK 1 96 95,oF 2 97 2 96,oL 3 98 97,oE 4 99 .neq 98 0,oM 5 100 99,oH 6 101 100 false 0,oG 7 102 100 false (.nilchk (.t 101)),oG 8 103 100 false (.faddr 0 (.t 102)),oG 9 104 100 false (.load none (.t 103)),oG 10 105 100 false (.bin .eql (.t 104) (.c (.int .i64 11))),oH 11 106 100 false 105,oH 12 107 106 true 0,oG 13 108 106 true (.nilchk (.t 107)),oG 14 109 106 true (.faddr 3 (.t 108)),oG 15 110 106 true (.load none (.t 109)),oG 16 111 106 true (.len (.t 110)),oG 17 112 106 true (.bin .neq (.t 111) (.c (.int .i64 2))),oG 18 113 100 false (.pick (.t 106) (.t 112) (.c (.bool false))),oPt 19 114 100 113,oM 20 115 114,oH 21 116 115 false 0,oG 22 117 115 false (.nilchk (.t 116)),oG 23 118 115 false (.faddr 0 (.t 117)),oG 24 119 115 false (.load none (.t 118)),oG 25 120 115 false (.bin .eql (.t 119) (.c (.int .i64 10))),oH 26 121 115 false 120,oH 27 122 121 true 0,oG 28 123 121 true (.nilchk (.t 122)),oG 29 124 121 true (.faddr 3 (.t 123)),oG 30 125 121 true (.load none (.t 124)),oG 31 126 121 true (.len (.t 125)),oG 32 127 121 true (.call 340 [.t 126,.c (.int .i64 1),.c (.int .i64 4)]),oG 33 128 121 true (.not (.t 127)),oG 34 129 115 false (.pick (.t 121) (.t 128) (.c (.bool false))),oPt 35 130 115 129]
def qK7:List qB:=[oM 0 131 3,oM 1 132 0,oK 2 133 132,oF 3 134 3 133,oL 4 135 134,oW 5 136 135,oB 6 137 .lss 131 136]
def qK8:List qB:=[oM 0 140 0,oK 1 141 140,oF 2 142 3 141,oL 3 143 142,oM 4 144 3,oA 5 145 1 143 144,oL 6 146 145,oD1 7 147 1494 146,oJ 8 148 147]
def qKY:qL:=.loop (.seq (sr qK7 (.cond (.t 137) .skip (.exit 1))) (.seq (.blk 2 (sr qK8 (.cond (.t 148) (sr [oQ 0 2 false] .ret) .skip))) (.reg true [oM 0 138 3,oE 1 139 .add 138 1,oM 2 3 139])))
def qKV:qL:=.seq (sr [oE 0 93 .eql 7 10,oM 1 92 93] (.cond (.t 92) .skip (.reg true [oE 0 94 .eql 7 11,oM 1 92 94]))) (.cond (.t 92) (.seq (sr qK6 (.cond (.t 130) (sr [oQ 0 2 false] .ret) .skip)) (.seq (sr [oC 0 3 0] (.blk 1 qKY)) (sr [oQ 0 2 true] .ret))) .skip)
def qKW:qL:=.cond (.t 38) (sr qK3 .ret) (sr [oE 0 63 .eql 7 9,oM 1 62 63] (.cond (.t 62) (sr qK4 .ret) (sr [oE 0 78 .eql 7 12,oM 1 77 78] (.cond (.t 77) (sr qK5 .ret) qKV))))
def qKX:qL:=sr [oE 0 9 .eql 7 6,oM 1 8 9] (.cond (.t 8) (sr qK0 .ret) (sr [oE 0 24 .eql 7 7,oM 1 23 24] (.cond (.t 23) (sr qK2 .ret) (sr [oE 0 39 .eql 7 8,oM 1 38 39] qKW))))
def qK1:List qB:=[oM 0 149 0,oK 1 150 149,oF 2 151 2 150,oL 3 152 151,oE 4 153 .eql 152 0,oM 5 154 153,oH 6 155 154 true 0,oG 7 156 154 true (.nilchk (.t 155)),oG 8 157 154 true (.faddr 3 (.t 156)),oG 9 158 154 true (.load none (.t 157)),oG 10 159 154 true (.len (.t 158)),oG 11 160 154 true (.bin .eql (.t 159) (.c (.int .i64 0))),oPf 12 161 154 160,oM 13 2 161]
def KE:qP:=⟨1,162,[.t 2],sr [oQ 0 2 false] (.seq (sr qKZ (.blk 0 qKX)) (sr qK1 .ret))⟩
def qEH:List qB:=[oM 0 4 0,oK 1 5 4,oF 2 6 0 5,oL 3 7 6,oM 4 8 0,⟨5,some 9,none,.call 1384 [.t 8],[⟨3,some 7,none,.load none (.t 6),[]⟩]⟩,oD2 6 10 1371 7 9,oM 7 3 10]
def qEI:List qB:=[oM 0 11 3,oE 1 12 .gtr 11 0,oM 2 13 12,oH 3 14 13 true 0,oG 4 15 13 true (.nilchk (.t 14)),oG 5 16 13 true (.faddr 4 (.t 15)),oG 6 17 13 true (.load none (.t 16)),oG 7 18 13 true (.len (.t 17)),oH 8 19 13 true 3,oG 9 20 13 true (.bin .eql (.t 18) (.t 19)),oPf 10 21 13 20,oM 11 22 21,oH 12 23 22 true 0,oG 13 24 22 true (.nilchk (.t 23)),oG 14 25 22 true (.faddr 0 (.t 24)),oG 15 26 22 true (.load none (.t 25)),oH 16 27 22 true 0,oG 17 28 22 true (.nilchk (.t 27)),oG 18 29 22 true (.faddr 1 (.t 28)),oG 19 30 22 true (.load none (.t 29)),oG 20 31 22 true (.call 1385 [.t 26,.t 30]),oPf 21 32 22 31,oM 22 33 32,oH 23 34 33 true 0,oG 24 35 33 true (.call 1386 [.t 34]),oPf 25 36 33 35,oM 26 2 36]
def Ua:qP:=⟨1,37,[.t 2],sr [oQ 0 2 false] (sr qEH (sr qEI .ret))⟩
def qTS:List qB:=[oM 0 4 0,oW 1 5 4,oP 2 6 (.call 340 [.t 5,.c (.int .i64 1),.c (.int .i64 600)]),oJ 3 7 6]
def qTT:List qB:=[oM 0 8 3,oM 1 9 0,oW 2 10 9,oB 3 11 .lss 8 10]
def qTU:List qB:=[oM 0 14 0,oM 1 15 3,oA 2 16 5 14 15,oD1 3 17 1096 16,oJ 4 18 17,oM 5 19 18,oH 6 20 19 false 0,oH 7 21 19 false 3,oG 8 22 19 false (.iaddr 5 (.t 20) (.t 21)),oG 9 23 19 false (.faddr 0 (.t 22)),oG 10 24 19 false (.load none (.t 23)),oG 11 25 19 false (.bin .eql (.t 24) (.c (.int .i64 1))),oH 12 26 19 false 3,oG 13 27 19 false (.bin .eql (.t 26) (.c (.int .i64 0))),oG 14 28 19 false (.beq true (.t 25) (.t 27)),oPt 15 29 19 28]
def qTR:qL:=.loop (.seq (sr qTT (.cond (.t 11) .skip (.exit 0))) (.seq (.blk 1 (sr qTU (.cond (.t 29) (sr [oQ 0 2 false] .ret) .skip))) (.reg true [oM 0 12 3,oE 1 13 .add 12 1,oM 2 3 13])))
def kY:qP:=⟨1,30,[.t 2],sr [oQ 0 2 false] (.seq (sr qTS (.cond (.t 7) (sr [oQ 0 2 false] .ret) .skip)) (.seq (sr [oC 0 3 0] (.blk 0 qTR)) (sr [oQ 0 2 true] .ret)))⟩
def qNO:List qB:=[oM 0 8 0,oK 1 9 8,oF 2 10 0 9,oL 3 11 10,oD1 4 12 710 11,oJ 5 13 12]
def qNP:List qB:=[oM 0 14 3,oM 1 15 0,oK 2 16 15,oF 3 17 0 16,oL 4 18 17,oW 5 19 18,oB 6 20 .lss 14 19]
def qNQ:List qB:=[oM 0 23 0,oK 1 24 23,oF 2 25 0 24,oL 3 26 25,oM 4 27 3,oA 5 28 5 26 27,oM 6 4 28]
def qNR:List qB:=[oM 0 29 5,oM 1 30 4,oK 2 31 30,oF 3 32 4 31,oL 4 33 32,oW 5 34 33,oB 6 35 .lss 29 34]
def qNS:List qB:=[oM 0 38 3,oM 1 39 5,oP 2 40 (.build (.agg [.int .i64 0,.int .i64 0]) [(0,1,.t 38),(1,1,.t 39)]),oP 3 6 (.lalloc (.agg [.int .i64 0,.int .i64 0])),oS 4 6 0 2 40]
def qNT:List qB:=[oM 0 41 4,oK 1 42 41,oF 2 43 4 42,oL 3 44 43,oM 4 45 5,oA 5 46 2 44 45,oP 6 47 (.load (some 2) (.t 46)),oP 7 7 (.lalloc (.agg [.int .i64 0,.int .i64 0])),oS 8 7 0 2 47]
def qNU:List qB:=[oY 0 48 7 0 2,oY 1 49 6 0 2,oP 2 50 (.seq false [1,1] (.t 48) (.t 49)),oM 3 51 50,oH 4 52 51 false 0,oG 5 53 51 false (.nilchk (.t 52)),oG 6 54 51 false (.faddr 0 (.t 53)),oG 7 55 51 false (.load none (.t 54)),oG 8 56 51 false (.lload 7 0 (some 2)),oG 9 57 51 false (.call 488 [.t 55,.t 56]),oG 10 58 51 false (.not (.t 57)),oPt 11 59 51 58,oM 12 60 59,oH 13 61 60 false 0,oG 14 62 60 false (.nilchk (.t 61)),oG 15 63 60 false (.faddr 0 (.t 62)),oG 16 64 60 false (.load none (.t 63)),oG 17 65 60 false (.nop 7),oG 18 66 60 false (.lload 7 0 none),oG 19 67 60 false (.iaddr 5 (.t 64) (.t 66)),oG 20 68 60 false (.faddr 4 (.t 67)),oG 21 69 60 false (.load none (.t 68)),oG 22 70 60 false (.nop 7),oG 23 71 60 false (.lload 7 1 none),oG 24 72 60 false (.iaddr 2 (.t 69) (.t 71)),oG 25 73 60 false (.load (some 2) (.t 72)),oG 26 74 60 false (.lload 6 0 (some 2)),oG 27 75 60 false (.seq true [1,1] (.t 73) (.t 74)),oPt 28 76 60 75]
def qNL:qL:=.seq (.blk 3 (sr qNS (sr qNT (sr qNU (.cond (.t 76) (sr [oQ 0 2 false] .ret) .skip))))) (.reg true [oM 0 36 5,oE 1 37 .add 36 1,oM 2 5 37])
def qNM:qL:=.seq (.blk 1 (sr qNQ (sr [oC 0 5 0] (.blk 2 (.loop (.seq (sr qNR (.cond (.t 35) .skip (.exit 2))) qNL)))))) (.reg true [oM 0 21 3,oE 1 22 .add 21 1,oM 2 3 22])
def qNN:qL:=.seq (sr qNO (.cond (.t 13) (sr [oQ 0 2 false] .ret) .skip)) (.seq (sr [oC 0 3 0] (.blk 0 (.loop (.seq (sr qNP (.cond (.t 20) .skip (.exit 0))) qNM)))) (sr [oQ 0 2 true] .ret))
def Kl:qP:=⟨1,77,[.t 2],sr [oQ 0 2 false] qNN⟩
def qSC:List qB:=[oM 0 7 3,oM 1 8 0,oW 2 9 8,oB 3 10 .lss 7 9]
def qSD:List qB:=[oM 0 13 0,oM 1 14 3,oA 2 15 1 13 14,oD1 3 16 318 15,oJ 4 17 16]
def qSA:qL:=.loop (.seq (sr qSC (.cond (.t 10) .skip (.exit 0))) (.seq (.blk 1 (sr qSD (.cond (.t 17) (sr [oQ 0 2 false] .ret) .skip))) (.reg true [oM 0 11 3,oE 1 12 .add 11 1,oM 2 3 12])))
def qSB:qL:=.seq (sr [oM 0 4 0,oW 1 5 4,oE 2 6 .gtr 5 24] (.cond (.t 6) (sr [oQ 0 2 false] .ret) .skip)) (.seq (sr [oC 0 3 0] (.blk 0 qSA)) (sr [oQ 0 2 true] .ret))
def kQ:qP:=⟨1,18,[.t 2],sr [oQ 0 2 false] qSB⟩
def qEY:List qB:=[oM 0 5 0,oK 1 6 5,oF 2 7 0 6,oL 3 8 7,oM 4 9 1,oP 5 10 (.call 340 [.t 8,.c (.int .i64 0),.t 9]),oM 6 11 10,oH 7 12 11 true 0,oG 8 13 11 true (.nilchk (.t 12)),oG 9 14 11 true (.faddr 1 (.t 13)),oG 10 15 11 true (.load none (.t 14)),oG 11 16 11 true (.call 340 [.t 15,.c (.int .i64 (-1)),.c (.int .i64 23)]),oPf 12 17 11 16,oM 13 18 17,oH 14 19 18 true 0,oG 15 20 18 true (.nilchk (.t 19)),oG 16 21 18 true (.faddr 2 (.t 20)),oG 17 22 18 true (.load none (.t 21)),oG 18 23 18 true (.call 340 [.t 22,.c (.int .i64 (-1)),.c (.int .i64 599)]),oPf 19 24 18 23,oM 20 25 24,oH 21 26 25 true 0,oG 22 27 25 true (.nilchk (.t 26)),oG 23 28 25 true (.faddr 2 (.t 27)),oG 24 29 25 true (.load none (.t 28)),oG 25 30 25 true (.bin .geq (.t 29) (.c (.int .i64 0))),oH 26 31 25 true 30,oH 27 32 31 false 0,oG 28 33 31 false (.nilchk (.t 32)),oG 29 34 31 false (.faddr 1 (.t 33)),oG 30 35 31 false (.load none (.t 34)),oG 31 36 31 false (.bin .lss (.t 35) (.c (.int .i64 0))),oG 32 37 25 true (.pick (.t 31) (.c (.bool true)) (.t 36)),oPf 33 38 25 37,oM 34 4 38]
def Uc:qP:=⟨2,39,[.t 4],sr [oQ 0 4 false] (sr qEY .ret)⟩
def qT7:List qB:=[oM 0 8 0,oD1 1 9 318 8,oJ 2 10 9,oM 3 11 10,oH 4 12 11 false 1,oG 5 13 11 false (.len (.t 12)),oH 6 14 11 false 0,oG 7 15 11 false (.nilchk (.t 14)),oG 8 16 11 false (.faddr 0 (.t 15)),oG 9 17 11 false (.load none (.t 16)),oG 10 18 11 false (.len (.t 17)),oG 11 19 11 false (.bin .neq (.t 13) (.t 18)),oPt 12 20 11 19]
def qT8:List qB:=[oM 0 21 7,oM 1 22 1,oW 2 23 22,oB 3 24 .lss 21 23]
def qT9:List qB:=[oM 0 27 1,oM 1 28 7,oA 2 29 3 27 28,oM 3 30 2,oD2 4 31 1109 29 30,oJ 5 32 31]
def qT6:qL:=.loop (.seq (sr qT8 (.cond (.t 24) .skip (.exit 0))) (.seq (.blk 1 (sr qT9 (.cond (.t 32) (sr [oQ 0 6 false] .ret) .skip))) (.reg true [oM 0 25 7,oE 1 26 .add 25 1,oM 2 7 26])))
def kj:qP:=⟨3,33,[.t 6],sr [oQ 0 6 false] (.seq (sr qT7 (.cond (.t 20) (sr [oQ 0 6 false] .ret) .skip)) (.seq (sr [oC 0 7 0] (.blk 0 qT6)) (sr [oQ 0 6 true] .ret)))⟩
def qN1:List qB:=[oM 0 6 0,oK 1 7 6,oF 2 8 0 7,oL 3 9 8,oD1 4 10 598 9,oJ 5 11 10,oM 6 12 11,oH 7 13 12 false 0,oG 8 14 12 false (.nilchk (.t 13)),oG 9 15 12 false (.faddr 1 (.t 14)),oG 10 16 12 false (.load none (.t 15)),oG 11 17 12 false (.call 412 [.t 16]),oG 12 18 12 false (.not (.t 17)),oPt 13 19 12 18,oM 14 20 19,oH 15 21 20 false 0,oG 16 22 20 false (.nilchk (.t 21)),oG 17 23 20 false (.faddr 2 (.t 22)),oG 18 24 20 false (.load none (.t 23)),oG 19 25 20 false (.call 340 [.t 24,.c (.int .i64 1),.c (.int .i64 50)]),oG 20 26 20 false (.not (.t 25)),oPt 21 27 20 26,oM 22 28 27,oH 23 29 28 false 0,oG 24 30 28 false (.nilchk (.t 29)),oG 25 31 28 false (.faddr 3 (.t 30)),oG 26 32 28 false (.load none (.t 31)),oG 27 33 28 false (.call 340 [.t 32,.c (.int .i64 0),.c (.int .i64 4000)]),oG 28 34 28 false (.not (.t 33)),oPt 29 35 28 34,oM 30 36 35,oH 31 37 36 false 0,oG 32 38 36 false (.nilchk (.t 37)),oG 33 39 36 false (.faddr 4 (.t 38)),oH 34 40 36 false 0,oG 35 41 36 false (.nilchk (.t 40)),oG 36 42 36 false (.faddr 5 (.t 41)),oG 37 43 36 false (.load none (.t 42)),oH 38 44 36 false 0,oG 39 45 36 false (.nilchk (.t 44)),oG 40 46 36 false (.faddr 3 (.t 45)),oG 41 47 36 false (.load none (.t 46)),oG 42 48 36 false (.call 741 [.t 39,.t 43,.t 47]),oG 43 49 36 false (.not (.t 48)),oPt 44 50 36 49,oM 45 51 50,oH 46 52 51 false 0,oG 47 53 51 false (.nilchk (.t 52)),oG 48 54 51 false (.faddr 6 (.t 53)),oG 49 55 51 false (.load none (.t 54)),oG 50 56 51 false (.len (.t 55)),oG 51 57 51 false (.bin .gtr (.t 56) (.c (.int .i64 8))),oPt 52 58 51 57]
def qN2:List qB:=[oM 0 59 3,oM 1 60 0,oK 2 61 60,oF 3 62 6 61,oL 4 63 62,oW 5 64 63,oB 6 65 .lss 59 64]
def qN3:List qB:=[oM 0 68 0,oK 1 69 68,oF 2 70 6 69,oL 3 71 70,oM 4 72 3,oA 5 73 2 71 72,oD1 6 74 426 73,oJ 7 75 74]
def qNY:qL:=.loop (.seq (sr qN2 (.cond (.t 65) .skip (.exit 0))) (.seq (.blk 1 (sr qN3 (.cond (.t 75) (sr [oQ 0 2 false] .ret) .skip))) (.reg true [oM 0 66 3,oE 1 67 .add 66 1,oM 2 3 67])))
def qN4:List qB:=[oM 0 76 0,oK 1 77 76,oF 2 78 7 77,oL 3 79 78,oW 4 80 79,oM 5 81 0,oK 6 82 81,oF 7 83 3 82,oL 8 84 83,oM 9 85 0,oK 10 86 85,oF 11 87 2 86,oL 12 88 87,oB 13 89 .quo 84 88,oE 14 90 .add 89 1,oM 15 91 0,oK 16 92 91,oF 17 93 2 92,oL 18 94 93,oP 19 95 (.bin .quo (.c (.int .i64 4000)) (.t 94)),oE 20 96 .add 95 1,oP 21 97 (.call 340 [.t 80,.t 90,.t 96]),oJ 22 98 97]
def qN5:List qB:=[oM 0 99 4,oM 1 100 0,oK 2 101 100,oF 3 102 7 101,oL 4 103 102,oW 5 104 103,oB 6 105 .lss 99 104]
def qN6:List qB:=[oM 0 108 0,oK 1 109 108,oF 2 110 7 109,oL 3 111 110,oM 4 112 4,oA 5 113 3 111 112,oM 6 5 113]
def qN7:List qB:=[oM 0 114 5,oK 1 115 114,oF 2 116 0 115,oL 3 117 116,oM 4 118 4,oM 5 119 0,oK 6 120 119,oF 7 121 2 120,oL 8 122 121,oB 9 123 .mul 118 122,oB 10 124 .neq 117 123,oM 11 125 124,oH 12 126 125 false 5,oG 13 127 125 false (.nilchk (.t 126)),oG 14 128 125 false (.faddr 1 (.t 127)),oH 15 129 125 false 5,oG 16 130 125 false (.nilchk (.t 129)),oG 17 131 125 false (.faddr 2 (.t 130)),oG 18 132 125 false (.load none (.t 131)),oH 19 133 125 false 5,oG 20 134 125 false (.nilchk (.t 133)),oG 21 135 125 false (.faddr 0 (.t 134)),oG 22 136 125 false (.load none (.t 135)),oG 23 137 125 false (.call 741 [.t 128,.t 132,.t 136]),oG 24 138 125 false (.not (.t 137)),oPt 25 139 125 138]
def qNZ:qL:=.seq (sr qN5 (.cond (.t 105) .skip (.exit 2))) (.seq (.blk 3 (sr qN6 (sr qN7 (.cond (.t 139) (sr [oQ 0 2 false] .ret) .skip)))) (.reg true [oM 0 106 4,oE 1 107 .add 106 1,oM 2 4 107]))
def qN0:qL:=.seq (sr qN4 (.cond (.t 98) (sr [oQ 0 2 false] .ret) .skip)) (.seq (sr [oC 0 4 0] (.blk 2 (.loop qNZ))) (sr [oQ 0 2 true] .ret))
def Ko:qP:=⟨1,140,[.t 2],sr [oQ 0 2 false] (.seq (sr qN1 (.cond (.t 58) (sr [oQ 0 2 false] .ret) .skip)) (.seq (sr [oC 0 3 0] (.blk 0 qNY)) qN0))⟩
def qUC:List qB:=[oM 0 7 4,oM 1 8 0,oK 2 9 8,oF 3 10 0 9,oL 4 11 10,oW 5 12 11,oB 6 13 .lss 7 12]
def qUD:List qB:=[oM 0 16 0,oK 1 17 16,oF 2 18 0 17,oL 3 19 18,oM 4 20 4,oA 5 21 5 19 20,oF 6 22 0 21,oL 7 23 22,oE 8 24 .eql 23 0]
def qUE:List qB:=[oM 0 25 0,oK 1 26 25,oF 2 27 0 26,oL 3 28 27,oM 4 29 4,oA 5 30 5 28 29,oF 6 31 4 30,oL 7 32 31,oP 8 33 (.iaddr 2 (.t 32) (.c (.int .i64 0))),oP 9 34 (.load (some 2) (.t 33)),oP 10 5 (.lalloc (.agg [.int .i64 0,.int .i64 0])),oS 11 5 0 2 34]
def qUF:List qB:=[oU 0 35 5,oX 1 36 5 1,oE 2 37 .eql 36 0,oM 3 38 37,oG 4 39 38 true (.nop 5),oG 5 40 38 true (.lload 5 0 none),oH 6 41 38 true 4,oG 7 42 38 true (.bin .gtr (.t 40) (.t 41)),oPf 8 43 38 42]
def qUG:List qB:=[oM 0 44 3,oM 1 45 4,oU 2 46 5,oX 3 47 5 0,oP 4 48 (.build (.agg [.int .i64 0,.int .i64 0]) [(0,1,.t 45),(1,1,.t 47)]),oP 5 49 (.bslice 2 (.agg [.int .i64 0,.int .i64 0]) 1 [(0,.t 48)]),oP 6 50 (.app 2 (.t 44) (.t 49)),oM 7 3 50]
def qUA:qL:=.seq (sr qUC (.cond (.t 13) .skip (.exit 0))) (.seq (.blk 1 (.seq (sr qUD (.cond (.t 24) (.exit 1) .skip)) (sr qUE (sr qUF (.cond (.t 43) (.reg true qUG) .skip))))) (.reg true [oM 0 14 4,oE 1 15 .add 14 1,oM 2 4 15]))
def qUB:qL:=sr [oP 0 6 (.mov (.c (.lst 2 [] true))),oM 1 3 6] (.seq (sr [oC 0 4 1] (.blk 0 (.loop qUA))) (sr [oM 0 51 3,oM 1 2 51] .ret))
def kq:qP:=⟨1,52,[.t 2],sr [oP 0 2 (.mov (.c (.nils)))] qUB⟩
def qLG:List qB:=[oM 0 9 0,oM 1 10 1,oD2 2 11 1385 9 10,oM 3 12 11,oH 4 13 12 true 2,oH 5 14 12 true 3,oG 6 15 12 true (.call 1385 [.t 13,.t 14]),oPf 7 16 12 15,oM 8 17 16,oH 9 18 17 true 0,oG 10 19 17 true (.bin .neq (.t 18) (.c (.int .i64 1))),oPf 11 20 17 19,oM 12 21 20,oH 13 22 21 true 2,oG 14 23 21 true (.bin .neq (.t 22) (.c (.int .i64 1))),oPf 15 24 21 23,oM 16 8 24]
def KJ:qP:=⟨4,25,[.t 8],sr [oQ 0 8 false] (sr qLG .ret)⟩
def qMR:List qB:=[oM 0 7 0,oP 1 8 (.call 340 [.t 7,.c (.int .i64 0),.c (.int .i64 8)]),oJ 2 9 8,oM 3 10 9,oH 4 11 10 false 1,oH 5 12 10 false 2,oG 6 13 10 false (.call 1385 [.t 11,.t 12]),oG 7 14 10 false (.not (.t 13)),oPt 8 15 10 14]
def qMS:List qB:=[oM 0 16 1,oE 1 17 .eql 16 6,oM 2 18 17,oH 3 19 18 false 1,oG 4 20 18 false (.bin .eql (.t 19) (.c (.int .i64 12))),oPt 5 21 18 20]
def qMT:List qB:=[oM 0 22 1,oD1 1 23 1372 22,oM 2 24 23,oH 3 25 24 true 2,oH 4 26 24 true 0,oG 5 27 24 true (.bin .gtr (.t 25) (.t 26)),oPf 6 28 24 27,oM 7 6 28]
def KY:qP:=⟨3,29,[.t 6],sr [oQ 0 6 false] (.seq (sr qMR (.cond (.t 15) (sr [oQ 0 6 false] .ret) .skip)) (.seq (sr qMS (.cond (.t 21) (sr [oQ 0 6 true] .ret) .skip)) (sr qMT .ret)))⟩
def qMU:qL:=sr [oE 0 7 .eql 3 8,oM 1 4 7] (.cond (.t 4) .skip (sr [oE 0 8 .eql 3 10,oM 1 4 8] (.cond (.t 4) .skip (.reg true [oE 0 9 .eql 3 11,oM 1 4 9]))))
def qMV:qL:=sr [oM 0 3 0] (.blk 0 (.seq (sr [oE 0 5 .eql 3 3,oM 1 4 5] (.cond (.t 4) .skip (sr [oE 0 6 .eql 3 7,oM 1 4 6] (.cond (.t 4) .skip qMU)))) (.cond (.t 4) (sr [oQ 0 2 true] .ret) .skip)))
def KZ:qP:=⟨1,10,[.t 2],sr [oQ 0 2 false] (.seq qMV (sr [oQ 0 2 false] .ret))⟩
def qLM:List qB:=[oM 0 14 2,oE 1 15 .eql 14 4,oM 2 16 15,oH 3 17 16 true 1,oH 4 18 16 true 3,oG 5 19 16 true (.bin .eql (.t 17) (.t 18)),oPf 6 20 16 19]
def qLN:List qB:=[oM 0 21 1,oM 1 22 2,oM 2 23 3,oP 3 24 (.call 1499 [.t 21,.t 22,.t 23])]
def qLO:List qB:=[oM 0 27 2,oE 1 28 .eql 27 3,oM 2 29 28,oH 3 30 29 true 1,oH 4 31 29 true 3,oG 5 32 29 true (.bin .eql (.t 30) (.t 31)),oPf 6 33 29 32]
def qLH:qL:=.seq (sr [oE 0 38 .eql 36 7,oM 1 37 38] (.cond (.t 37) .skip (.reg true [oE 0 39 .eql 36 8,oM 1 37 39]))) (.cond (.t 37) (sr [oC 0 8 5] .ret) (sr [oE 0 41 .eql 36 11,oM 1 40 41] (.cond (.t 40) (sr [oC 0 8 6] .ret) .skip)))
def qLI:qL:=.cond (.t 42) (sr [oM 0 44 2,oE 1 45 .eql 44 10] (.cond (.t 45) (sr [oC 0 8 6] .ret) .skip)) (sr [oE 0 47 .eql 9 12,oM 1 46 47] (.cond (.t 46) (sr [oM 0 48 2,oD1 1 49 1500 48] (.cond (.t 49) (sr [oC 0 8 7] .ret) .skip)) .skip))
def qLJ:qL:=.cond (.t 25) (sr qLO (.cond (.t 33) (sr [oC 0 8 1] .ret) .skip)) (sr [oE 0 35 .eql 9 6,oM 1 34 35] (.cond (.t 34) (sr [oM 0 36 2] (.blk 1 qLH)) (sr [oE 0 43 .eql 9 9,oM 1 42 43] qLI)))
def qLK:qL:=.cond (.t 12) (.seq (sr qLM (.cond (.t 20) (sr [oC 0 8 2] .ret) .skip)) (sr qLN (.cond (.t 24) (sr [oC 0 8 3] .ret) .skip))) (sr [oE 0 26 .eql 9 2,oM 1 25 26] qLJ)
def qLL:qL:=sr [oM 0 9 0] (.blk 0 (sr [oE 0 11 .eql 9 5,oM 1 10 11] (.cond (.t 10) (sr [oC 0 8 4] .ret) (sr [oE 0 13 .eql 9 4,oM 1 12 13] qLK))))
def KL:qP:=⟨4,50,[.t 8],sr [oC 0 8 0] (.seq qLL (sr [oC 0 8 0] .ret))⟩
def qE0:List qB:=[oM 0 9 0,oM 1 10 1,oM 2 11 2,oM 3 12 3,oP 4 13 (.call 1395 [.t 9,.t 10,.t 11,.t 12]),oJ 5 14 13]
def qE1:List qB:=[oM 0 15 0,oM 1 16 1,oM 2 17 2,oM 3 18 3,oP 4 19 (.call 1396 [.t 15,.t 16,.t 17,.t 18]),oE 5 20 .neq 19 0]
def qE2:List qB:=[oM 0 21 2,oM 1 22 3,oM 2 23 0,oM 3 24 1,oP 4 25 (.call 1396 [.t 21,.t 22,.t 23,.t 24]),oE 5 26 .neq 25 0]
def qEZ:qL:=.seq (sr qE0 (.cond (.t 14) (sr [oC 0 8 0] .ret) .skip)) (.seq (sr qE1 (.cond (.t 20) (sr [oC 0 8 1] .ret) .skip)) (.seq (sr qE2 (.cond (.t 26) (sr [oC 0 8 2] .ret) .skip)) (sr [oC 0 8 0] .ret)))
def Ud:qP:=⟨4,27,[.t 8],sr [oC 0 8 0] qEZ⟩
def qUH:List qB:=[oM 0 10 0,oK 1 11 10,oF 2 12 0 11,oL 3 13 12,oM 4 14 1,oA 5 15 5 13 14,oM 6 8 15]
def qUI:List qB:=[oM 0 16 0,oK 1 17 16,oF 2 18 0 17,oL 3 19 18,oM 4 20 2,oA 5 21 5 19 20,oM 6 9 21]
def qUJ:List qB:=[oM 0 22 8,oK 1 23 22,oF 2 24 0 23,oL 3 25 24,oM 4 26 8,oK 5 27 26,oF 6 28 1 27,oL 7 29 28,oM 8 30 9,oK 9 31 30,oF 10 32 0 31,oL 11 33 32,oM 12 34 9,oK 13 35 34,oF 14 36 1 35,oL 15 37 36,oP 16 38 (.call 1110 [.t 25,.t 29,.t 33,.t 37]),oE 17 39 .eql 38 2]
def qUK:List qB:=[oM 0 40 2,oM 1 41 1,oM 2 6 40,oM 3 7 41]
def qUL:List qB:=[oM 0 42 1,oM 1 43 2,oM 2 6 42,oM 3 7 43]
def ku:qP:=⟨3,44,[.t 6,.t 7],sr [oC 0 6 0,oC 1 7 0] (sr qUH (sr qUI (.seq (sr qUJ (.cond (.t 39) (sr qUK .ret) .skip)) (sr qUL .ret))))⟩
def qE4:List qB:=[oM 0 10 0,oM 1 11 1,oM 2 12 2,oM 3 13 3,oP 4 14 (.call 1395 [.t 10,.t 11,.t 12,.t 13]),oJ 5 15 14]
def qE5:List qB:=[oM 0 16 0,oM 1 17 1,oM 2 18 2,oM 3 19 3,oP 4 20 (.call 1396 [.t 16,.t 17,.t 18,.t 19]),oM 5 9 20]
def qE6:List qB:=[oM 0 23 2,oM 1 24 3,oM 2 25 0,oM 3 26 1,oP 4 27 (.call 1396 [.t 23,.t 24,.t 25,.t 26]),oM 5 9 27]
def qE3:qL:=.seq (sr [oM 0 21 9,oE 1 22 .eql 21 0] (.cond (.t 22) (.reg true qE6) .skip)) (.seq (sr [oM 0 28 9,oE 1 29 .eql 28 0] (.cond (.t 29) (sr [oC 0 8 8] .ret) .skip)) (sr [oM 0 30 9,oM 1 8 30] .ret))
def Ue:qP:=⟨4,31,[.t 8],sr [oC 0 8 0] (.seq (sr qE4 (.cond (.t 15) (sr [oC 0 8 0] .ret) .skip)) (sr qE5 qE3))⟩
def qUM:List qB:=[oM 0 5 0,oK 1 6 5,oF 2 7 0 6,oL 3 8 7,oE 4 9 .eql 8 9,oM 5 10 9,oH 6 11 10 true 1,oG 7 12 10 true (.nilchk (.t 11)),oG 8 13 10 true (.faddr 0 (.t 12)),oG 9 14 10 true (.load none (.t 13)),oG 10 15 10 true (.bin .eql (.t 14) (.c (.int .i64 10))),oPf 11 16 10 15,oM 12 17 16,oH 13 18 17 true 0,oG 14 19 17 true (.nilchk (.t 18)),oG 15 20 17 true (.faddr 2 (.t 19)),oG 16 21 17 true (.load none (.t 20)),oH 17 22 17 true 1,oG 18 23 17 true (.nilchk (.t 22)),oG 19 24 17 true (.faddr 3 (.t 23)),oG 20 25 17 true (.load none (.t 24)),oG 21 26 17 true (.len (.t 25)),oG 22 27 17 true (.bin .geq (.t 21) (.t 26)),oPf 23 28 17 27]
def qUN:List qB:=[oM 0 29 0,oK 1 30 29,oF 2 31 0 30,oL 3 32 31,oE 4 33 .eql 32 10,oM 5 34 33,oH 6 35 34 true 1,oG 7 36 34 true (.nilchk (.t 35)),oG 8 37 34 true (.faddr 0 (.t 36)),oG 9 38 34 true (.load none (.t 37)),oG 10 39 34 true (.bin .eql (.t 38) (.c (.int .i64 9))),oPf 11 40 34 39,oM 12 41 40,oH 13 42 41 true 1,oG 14 43 41 true (.nilchk (.t 42)),oG 15 44 41 true (.faddr 2 (.t 43)),oG 16 45 41 true (.load none (.t 44)),oH 17 46 41 true 0,oG 18 47 41 true (.nilchk (.t 46)),oG 19 48 41 true (.faddr 3 (.t 47)),oG 20 49 41 true (.load none (.t 48)),oG 21 50 41 true (.len (.t 49)),oG 22 51 41 true (.bin .geq (.t 45) (.t 50)),oPf 23 52 41 51]
def qUO:List qB:=[oM 0 53 0,oK 1 54 53,oF 2 55 0 54,oL 3 56 55,oM 4 57 0,oK 5 58 57,oF 6 59 1 58,oL 7 60 59,oM 8 61 1,oK 9 62 61,oF 10 63 0 62,oL 11 64 63,oM 12 65 1,oK 13 66 65,oF 14 67 1 66,oL 15 68 67,oP 16 69 (.call 1111 [.t 56,.t 60,.t 64,.t 68]),oM 17 4 69]
def kw:qP:=⟨2,70,[.t 4],sr [oC 0 4 0] (.seq (sr qUM (.cond (.t 28) (sr [oC 0 4 8] .ret) .skip)) (.seq (sr qUN (.cond (.t 52) (sr [oC 0 4 8] .ret) .skip)) (sr qUO .ret)))⟩
def qN9:List qB:=[oC 0 2 0,oP 1 3 (.lalloc (.agg [.int .i64 0,.int .i64 0])),oC 2 4 0,oQ 3 5 false]
def qOA:List qB:=[oM 0 10 0,oK 1 11 10,oF 2 12 4 11,oD1 3 13 742 12,oM 4 6 13]
def qOB:List qB:=[oP 0 17 (.build (.agg [.int .i64 0,.int .i64 0]) []),oC 1 2 0,oS 2 3 0 2 17,oC 3 4 0,oQ 4 5 false]
def qOC:List qB:=[oM 0 18 0,oK 1 19 18,oF 2 20 1 19,oL 3 21 20,oW 4 22 21,oE 5 23 .gtr 22 0]
def qOD:List qB:=[oM 0 24 0,oK 1 25 24,oF 2 26 1 25,oL 3 27 26,oM 4 28 0,oK 5 29 28,oF 6 30 3 29,oL 7 31 30,oM 8 32 0,oK 9 33 32,oF 10 34 1 33,oL 11 35 34,oW 12 36 35,oB 13 37 .rem 31 36,oA 14 38 1 27 37,oL 15 39 38,oM 16 40 6,oW 17 41 40,oB 18 42 .rem 39 41,oM 19 7 42]
def qOE:List qB:=[oM 0 44 0,oK 1 45 44,oF 2 46 4 45,oM 3 47 6,oM 4 48 7,oA 5 49 2 47 48,oF 6 50 0 49,oL 7 51 50,oM 8 52 6,oM 9 53 7,oA 10 54 2 52 53,oF 11 55 1 54,oL 12 56 55,oP 13 57 (.call 743 [.t 46,.t 51,.t 56]),oM 14 43 57,oV 15 58 43 0,oV 16 59 43 1,oM 17 8 58,oM 18 9 59]
def qOF:List qB:=[oM 0 60 7,oM 1 61 8,oM 2 62 9,oP 3 63 (.build (.agg [.int .i64 0,.int .i64 0]) [(0,1,.t 61),(1,1,.t 62)]),oM 4 64 0,oK 5 65 64,oF 6 66 4 65,oF 7 67 0 66,oL 8 68 67,oM 9 69 8,oA 10 70 5 68 69,oM 11 71 0,oK 12 72 71,oF 13 73 4 72,oF 14 74 0 73,oL 15 75 74,oM 16 76 9,oA 17 77 5 75 76,oD2 18 78 744 70 77,oM 19 2 60,oS 20 3 0 2 63,oM 21 4 78,oQ 22 5 true]
def qN8:qL:=.seq (sr [oM 0 14 6,oW 1 15 14,oE 2 16 .eql 15 0] (.cond (.t 16) (sr qOB .ret) .skip)) (sr [oC 0 7 0] (.seq (sr qOC (.cond (.t 23) (.reg true qOD) .skip)) (sr qOE (sr qOF .ret))))
def Kp:qP:=⟨1,79,[.t 2,.l 3 (some 2),.t 4,.t 5],sr qN9 (sr qOA qN8)⟩
def qOG:List qB:=[oM 0 9 0,oK 1 10 9,oF 2 11 4 10,oF 3 12 0 11,oL 4 13 12,oU 5 14 4,oX 6 15 4 0,oA 7 16 5 13 15,oF 8 17 2 16,oL 9 18 17,oM 10 6 18]
def Kq:qP:=⟨3,19,[.t 6],sr [oP 0 4 (.lbox 2 (.t 1)),oC 1 6 0] (.seq (sr [oM 0 7 2,oE 1 8 .eql 7 7] (.cond (.t 8) (sr qOG .ret) .skip)) (sr [oP 0 6 (.mov (.c (.int .i64 (-1))))] .ret))⟩
def KT:qP:=Yc
def qLZ:List qB:=[oU 0 4 1,oX 1 5 1 0,oU 2 6 3,oS 3 3 0 1 5]
def qL0:List qB:=[oU 0 7 1,oX 1 8 1 1,oU 2 9 3,oS 3 3 1 1 8]
def XU:qP:=⟨1,11,[.l 2 (some 2)],sr [oP 0 1 (.lbox 2 (.t 0)),oP 1 2 (.lalloc (.agg [.int .i64 0,.int .i64 0]))] (sr [oP 0 3 (.lalloc (.agg [.int .i64 0,.int .i64 0]))] (sr qLZ (sr qL0 (sr [oY 0 10 3 0 2,oS 1 2 0 2 10] .ret))))⟩
def Um:qP:=toS 2 (some 2) (.agg [.int .i64 0,.int .i64 0]) 1419
def qV9:List qB:=[oU 0 4 1,oX 1 5 1 0,oU 2 6 3,oS 3 3 0 1 5]
def qWA:List qB:=[oU 0 7 1,oX 1 8 1 1,oU 2 9 3,oS 3 3 1 1 8]
def qWB:List qB:=[oU 0 10 1,oX 1 11 1 2,oU 2 12 3,oS 3 3 2 1 11]
def qWC:List qB:=[oU 0 13 1,oX 1 14 1 3,oD1 2 15 147 14,oU 3 16 3,oS 4 3 3 1 15]
def qWD:List qB:=[oU 0 17 1,oX 1 18 1 4,oD1 2 19 1178 18,oU 3 20 3,oS 4 3 4 1 19]
def qV8:qL:=sr [oP 0 3 (.lalloc (.agg [.int .i64 0,.int .i64 0,.int .i64 0,.nils,.nils]))] (sr qV9 (sr qWA (sr qWB (sr qWC (sr qWD (sr [oY 0 21 3 0 5,oS 1 2 0 5 21] .ret))))))
def Xc:qP:=⟨1,22,[.l 2 (some 5)],sr [oP 0 1 (.lbox 5 (.t 0)),oP 1 2 (.lalloc (.agg [.int .i64 0,.int .i64 0,.int .i64 0,.nils,.nils]))] qV8⟩
def kK:qP:=toS 5 (some 5) (.agg [.int .i64 0,.int .i64 0,.int .i64 0,.nils,.nils]) 858
def qM1:List qB:=[oU 0 4 1,oX 1 5 1 0,oD1 2 6 504 5,oU 3 7 3,oS 4 3 0 1 6]
def XV:qP:=⟨1,9,[.l 2 (some 1)],sr [oP 0 1 (.lbox 1 (.t 0)),oP 1 2 (.lalloc (.agg [.nils]))] (sr [oP 0 3 (.lalloc (.agg [.nils]))] (sr qM1 (sr [oY 0 8 3 0 1,oS 1 2 0 1 8] .ret)))⟩
def Kd:qP:=toS 1 (some 1) (.agg [.nils]) 185
def qUP:List qB:=[oU 0 4 1,oX 1 5 1 0,oU 2 6 3,oS 3 3 0 1 5]
def qUQ:List qB:=[oU 0 7 1,oX 1 8 1 1,oU 2 9 3,oS 3 3 1 1 8]
def qUR:List qB:=[oU 0 10 1,oX 1 11 1 2,oU 2 12 3,oS 3 3 2 1 11]
def XY:qP:=⟨1,14,[.l 2 (some 3)],sr [oP 0 1 (.lbox 3 (.t 0)),oP 1 2 (.lalloc (.agg [.int .i64 0,.int .i64 0,.int .i64 0]))] (sr [oP 0 3 (.lalloc (.agg [.int .i64 0,.int .i64 0,.int .i64 0]))] (sr qUP (sr qUQ (sr qUR (sr [oY 0 13 3 0 3,oS 1 2 0 3 13] .ret)))))⟩
def Kr:qP:=toS 3 (some 3) (.agg [.int .i64 0,.int .i64 0,.int .i64 0]) 745
def qJY:List qB:=[oU 0 4 1,oX 1 5 1 0,oU 2 6 3,oS 3 3 0 1 5]
def qJZ:List qB:=[oU 0 7 1,oX 1 8 1 1,oU 2 9 3,oS 3 3 1 1 8]
def XT:qP:=⟨1,11,[.l 2 (some 2)],sr [oP 0 1 (.lbox 2 (.t 0)),oP 1 2 (.lalloc (.agg [.int .i64 0,.int .i64 0]))] (sr [oP 0 3 (.lalloc (.agg [.int .i64 0,.int .i64 0]))] (sr qJY (sr qJZ (sr [oY 0 10 3 0 2,oS 1 2 0 2 10] .ret))))⟩
def Ks:qP:=toS 2 (some 2) (.agg [.int .i64 0,.int .i64 0]) 134
def qUS:List qB:=[oU 0 4 1,oX 1 5 1 0,oU 2 6 3,oS 3 3 0 1 5]
def qUT:List qB:=[oU 0 7 1,oY 1 8 1 1 1,oD1 2 9 185 8,oU 3 10 3,oS 4 3 1 1 9]
def qUU:List qB:=[oU 0 11 1,oX 1 12 1 2,oD1 2 13 370 12,oU 3 14 3,oS 4 3 2 1 13]
def XZ:qP:=⟨1,16,[.l 2 (some 3)],sr [oP 0 1 (.lbox 3 (.t 0)),oP 1 2 (.lalloc (.agg [.int .i64 0,.nils,.nils]))] (sr [oP 0 3 (.lalloc (.agg [.int .i64 0,.nils,.nils]))] (sr qUS (sr qUT (sr qUU (sr [oY 0 15 3 0 3,oS 1 2 0 3 15] .ret)))))⟩
def Kt:qP:=toS 3 (some 3) (.agg [.int .i64 0,.nils,.nils]) 746
def qDY:List qB:=[oU 0 4 1,oX 1 5 1 0,oD1 2 6 184 5,oU 3 7 3,oS 4 3 0 1 6]
def qDZ:List qB:=[oU 0 8 1,oX 1 9 1 1,oD1 2 10 147 9,oU 3 11 3,oS 4 3 1 1 10]
def qD0:List qB:=[oU 0 12 1,oX 1 13 1 2,oU 2 14 3,oS 3 3 2 1 13]
def qD1:List qB:=[oU 0 15 1,oX 1 16 1 3,oU 2 17 3,oS 3 3 3 1 16]
def qD2:List qB:=[oU 0 18 1,oY 1 19 1 4 1,oD1 2 20 185 19,oU 3 21 3,oS 4 3 4 1 20]
def qD3:List qB:=[oU 0 22 1,oX 1 23 1 5,oD1 2 24 370 23,oU 3 25 3,oS 4 3 5 1 24]
def qD4:List qB:=[oU 0 26 1,oX 1 27 1 6,oD1 2 28 371 27,oU 3 29 3,oS 4 3 6 1 28]
def qD5:List qB:=[oU 0 30 1,oX 1 31 1 7,oD1 2 32 372 31,oU 3 33 3,oS 4 3 7 1 32]
def qDX:qL:=sr qD0 (sr qD1 (sr qD2 (sr qD3 (sr qD4 (sr qD5 (sr [oY 0 34 3 0 8,oS 1 2 0 8 34] .ret))))))
def XR:qP:=⟨1,35,[.l 2 (some 8)],sr [oP 0 1 (.lbox 8 (.t 0)),oP 1 2 (.lalloc (.agg [.nils,.nils,.int .i64 0,.int .i64 0,.nils,.nils,.nils,.nils]))] (sr [oP 0 3 (.lalloc (.agg [.nils,.nils,.int .i64 0,.int .i64 0,.nils,.nils,.nils,.nils]))] (sr qDY (sr qDZ qDX)))⟩
def F774:qP:=ZG 1 none
def F397:qP:=Zk 774
def qVO:List qB:=[oM 0 3 0,oE 1 4 .lss 3 0,oM 2 5 4,oH 3 6 5 false 0,oG 4 7 5 false (.bin .gtr (.t 6) (.c (.int .i64 600))),oPt 5 8 5 7,oM 6 2 8]
def F775:qP:=⟨1,9,[.t 2],sr [oQ 0 2 false] (sr qVO .ret)⟩
def qO6:List qB:=[oM 0 3 0,oW 1 4 3,oE 2 5 .leq 4 200,oM 3 6 5,oH 4 7 6 true 0,oG 5 8 6 true (.call 397 [.t 7,.f 775]),oG 6 9 6 true (.not (.t 8)),oPf 7 10 6 9,oM 8 2 10]
def Kx:qP:=⟨1,11,[.t 2],sr [oQ 0 2 false] (sr qO6 .ret)⟩
def qV2:List qB:=[oM 0 4 0,oE 1 5 .lss 4 0,oM 2 6 5,oH 3 7 6 false 0,oG 4 8 6 false (.load none (.t 1)),oG 5 9 6 false (.bin .gtr (.t 7) (.t 8)),oPt 6 10 6 9,oM 7 3 10]
def F801:qP:=⟨2,11,[.t 3],sr [oQ 0 3 false] (sr qV2 .ret)⟩
def qRC:List qB:=[oM 0 5 1,oP 1 6 (.mkfn 801 [.t 2]),oD2 2 7 397 5 6,oJ 3 8 7,oM 4 4 8]
def kD:qP:=⟨2,9,[.t 4],sr [oP 0 2 (.hbox 1 (.t 0)),oQ 1 4 false] (sr qRC .ret)⟩
def qFU:qP:=ZG 1 (some 1)
def F859:qP:=Zk 1179
def qR5:List qB:=[oM 0 7 0,oK 1 8 7,oF 2 9 0 8,oL 3 10 9,oW 4 11 10,oC 5 12 0]
def qR6:List qB:=[oM 0 14 12,oA 1 15 5 10 12,oP 2 16 (.load (some 5) (.t 15)),oP 3 5 (.lalloc (.agg [.int .i64 0,.int .i64 0,.int .i64 0,.nils,.nils])),oM 4 4 14,oS 5 5 0 5 16]
def qR7:List qB:=[oU 0 17 5,oX 1 18 5 4,oW 2 19 18,oC 3 20 0]
def qR8:List qB:=[oM 0 23 3,oM 1 24 4,oM 2 25 6,oP 3 26 (.build (.agg [.int .i64 0,.int .i64 0]) [(0,1,.t 24),(1,1,.t 25)]),oP 4 27 (.bslice 2 (.agg [.int .i64 0,.int .i64 0]) 1 [(0,.t 26)]),oP 5 28 (.app 2 (.t 23) (.t 27)),oM 6 3 28]
def qR3:qL:=sr [oB 0 21 .lss 20 19] (.seq (.cond (.t 21) .skip (.exit 2)) (.seq (.blk 3 (sr [oM 0 22 20,oM 1 6 22] (.reg true qR8))) (.reg true [oE 0 29 .add 20 1,oM 1 20 29])))
def qR4:qL:=sr [oB 0 13 .lss 12 11] (.seq (.cond (.t 13) .skip (.exit 0)) (.seq (.blk 1 (sr qR6 (sr qR7 (.blk 2 (.loop qR3))))) (.reg true [oE 0 30 .add 12 1,oM 1 12 30])))
def kO:qP:=⟨1,32,[.t 2],sr [oP 0 2 (.mov (.c (.nils)))] (sr [oP 0 3 (.mov (.c (.nils)))] (.seq (sr qR5 (.blk 0 (.loop qR4))) (sr [oM 0 31 3,oM 1 2 31] .ret)))⟩
def qVQ:List qB:=[oM 0 3 0,oE 1 4 .geq 3 0,oM 2 5 4,oH 3 6 5 true 0,oG 4 7 5 true (.bin .lss (.t 6) (.c (.int .i64 24))),oPf 5 8 5 7,oM 6 2 8]
def F796:qP:=⟨1,9,[.t 2],sr [oQ 0 2 false] (sr qVQ .ret)⟩
def qDV:List qB:=[oM 0 3 0,oE 1 4 .geq 3 1,oM 2 5 4,oH 3 6 5 true 0,oG 4 7 5 true (.bin .leq (.t 6) (.c (.int .i64 6))),oPf 5 8 5 7,oM 6 2 8]
def UW:qP:=⟨1,9,[.t 2],sr [oQ 0 2 false] (sr qDV .ret)⟩
def qDW:List qB:=[oM 0 3 0,oP 1 4 (.bin .geq (.t 3) (.c (.int .i64 (-2147483648)))),oM 2 5 4,oH 3 6 5 true 0,oG 4 7 5 true (.bin .leq (.t 6) (.c (.int .i64 2147483647))),oPf 5 8 5 7,oM 6 2 8]
def UX:qP:=⟨1,9,[.t 2],sr [oQ 0 2 false] (sr qDW .ret)⟩
def qMP:List qB:=[oM 0 3 0,oE 1 4 .geq 3 1,oM 2 5 4,oH 3 6 5 true 0,oG 4 7 5 true (.bin .leq (.t 6) (.c (.int .i64 12))),oPf 5 8 5 7,oM 6 2 8]
def KU:qP:=⟨1,9,[.t 2],sr [oQ 0 2 false] (sr qMP .ret)⟩
def qLA:List qB:=[oM 0 6 0,oE 1 7 .eql 6 9,oM 2 8 7,oH 3 9 8 true 1,oG 4 10 8 true (.bin .geq (.t 9) (.c (.int .i64 0))),oPf 5 11 8 10,oM 6 12 11,oH 7 13 12 true 1,oG 8 14 12 true (.bin .leq (.t 13) (.c (.int .i64 3))),oPf 9 15 12 14,oM 10 5 15]
def qLB:List qB:=[oM 0 19 0,oD1 1 20 1487 19,oJ 2 21 20,oM 3 22 21,oH 4 23 22 false 0,oG 5 24 22 false (.bin .eql (.t 23) (.c (.int .i64 9))),oPt 6 25 22 24,oM 7 26 25,oH 8 27 26 false 1,oG 9 28 26 false (.bin .neq (.t 27) (.c (.int .i64 0))),oPt 10 29 26 28,oM 11 18 29]
def qLC:List qB:=[oP 0 30 (.build (.agg [.int .i64 0,.int .i64 0,.int .i64 0,.int .i64 0,.int .i64 0,.int .i64 0,.int .i64 0,.int .i64 0,.int .i64 0,.int .i64 0,.int .i64 0,.int .i64 0,.int .i64 0]) [(1,1,.c (.int .i64 1)),(2,1,.c (.int .i64 3)),(3,1,.c (.int .i64 3)),(4,1,.c (.int .i64 3)),(5,1,.c (.int .i64 1)),(6,1,.c (.int .i64 1)),(7,1,.c (.int .i64 3)),(8,1,.c (.int .i64 2)),(10,1,.c (.int .i64 2)),(11,1,.c (.int .i64 2)),(12,1,.c (.int .i64 1))]),oM 1 31 0,oP 2 32 (.aidx 13 1 none (.t 30) (.t 31)),oM 3 4 32]
def qK9:qL:=.seq (.blk 0 (sr qLA (.cond (.t 5) (sr [oM 0 16 1,oE 1 17 .add 16 1,oM 2 4 17] .ret) (sr qLB (.cond (.t 18) (sr [oC 0 4 0] .ret) .skip))))) (sr qLC .ret)
def KF:qP:=⟨2,33,[.t 4],sr [oC 0 4 0] qK9⟩
def qLD:qL:=.seq (sr [oM 0 5 0,oE 1 6 .eql 5 9] (.cond (.t 6) (sr [oM 0 7 1,oE 1 8 .sub 7 1,oM 2 4 8] .ret) .skip)) (sr [oC 0 4 0] .ret)
def KG:qP:=⟨2,9,[.t 4],sr [oC 0 4 0] qLD⟩
def qKI:List qB:=[oM 0 3 0,oD1 1 4 1487 3,oM 2 5 4,oH 3 6 5 true 0,oG 4 7 5 true (.bin .neq (.t 6) (.c (.int .i64 1))),oPf 5 8 5 7,oM 6 9 8,oH 7 10 9 true 0,oG 8 11 9 true (.bin .neq (.t 10) (.c (.int .i64 5))),oPf 9 12 9 11,oM 10 13 12,oH 11 14 13 true 0,oG 12 15 13 true (.bin .neq (.t 14) (.c (.int .i64 6))),oPf 13 16 13 15,oM 14 2 16]
def KB:qP:=⟨1,17,[.t 2],sr [oQ 0 2 false] (sr qKI .ret)⟩
def qMQ:List qB:=[oM 0 3 0,oE 1 4 .geq 3 0,oM 2 5 4,oH 3 6 5 true 0,oG 4 7 5 true (.bin .leq (.t 6) (.c (.int .i64 8))),oPf 5 8 5 7,oM 6 2 8]
def KX:qP:=⟨1,9,[.t 2],sr [oQ 0 2 false] (sr qMQ .ret)⟩
def qLE:List qB:=[oM 0 5 0,oD1 1 6 1487 5,oM 2 7 6,oH 3 8 7 true 1,oG 4 9 7 true (.bin .eql (.t 8) (.c (.int .i64 0))),oH 5 10 7 true 9,oH 6 11 10 false 0,oG 7 12 10 false (.call 1375 [.t 11]),oH 8 13 10 false 12,oH 9 14 13 true 1,oG 10 15 13 true (.call 1495 [.t 14]),oG 11 16 10 false (.pick (.t 13) (.t 15) (.c (.bool false))),oG 12 17 7 true (.pick (.t 10) (.c (.bool true)) (.t 16)),oPf 13 18 7 17,oM 14 4 18]
def KH:qP:=⟨2,19,[.t 4],sr [oQ 0 4 false] (sr qLE .ret)⟩
def qLF:List qB:=[oM 0 3 0,oD1 1 4 796 3,oJ 2 5 4,oM 3 2 5]
def KI:qP:=⟨1,6,[.t 2],sr [oQ 0 2 false] (sr qLF .ret)⟩
def qEM:List qB:=[oU 0 6 1,oX 1 7 1 4,oW 2 8 7,oE 3 9 .eql 8 0,oM 4 10 9,oG 5 11 10 false (.nop 1),oG 6 12 10 false (.lload 1 0 none),oG 7 13 10 false (.nop 1),oG 8 14 10 false (.lload 1 0 none),oG 9 15 10 false (.nop 1),oG 10 16 10 false (.lload 1 4 none),oG 11 17 10 false (.len (.t 16)),oG 14 20 10 false (.nop 1),oG 15 21 10 false (.lload 1 4 none),oG 16 22 10 false (.len (.t 21)),oG 12 18 10 false (.call 1388 [.t 14,.t 17]),oG 13 19 10 false (.call 1387 [.t 12,.t 18]),oG 17 23 10 false (.bin .neq (.t 19) (.t 22)),oPt 18 24 10 23,oM 19 25 24,oG 20 26 25 false (.nop 1),oG 21 27 25 false (.lload 1 0 none),oG 22 28 25 false (.nop 1),oG 23 29 25 false (.lload 1 1 none),oG 24 30 25 false (.call 1389 [.t 27,.t 29]),oG 25 31 25 false (.not (.t 30)),oPt 26 32 25 31]
def qEN:List qB:=[oU 0 33 1,oX 1 34 1 2,oE 2 35 .eql 34 0,oU 3 36 1,oX 4 37 1 3,oW 5 38 37,oE 6 39 .eql 38 0,oM 7 3 35,oM 8 4 39]
def qEP:List qB:=[oU 0 40 1,oX 1 41 1 3,oP 2 42 (.call 397 [.t 41,.f 1390]),oJ 3 43 42,oM 4 5 43]
def qEQ:List qB:=[oU 0 48 1,oX 1 49 1 2,oD1 2 50 1051 49,oM 3 3 50]
def qER:List qB:=[oU 0 53 1,oX 1 54 1 2,oD1 2 55 1050 54,oM 3 3 55]
def qES:List qB:=[oU 0 58 1,oX 1 59 1 2,oD1 2 60 1050 59,oM 3 61 60,oG 4 62 61 true (.nop 1),oG 5 63 61 true (.lload 1 3 none),oG 6 64 61 true (.len (.t 63)),oG 7 65 61 true (.bin .eql (.t 64) (.c (.int .i64 1))),oPf 8 66 61 65,oM 9 67 66,oG 10 68 67 true (.nop 1),oG 11 69 67 true (.lload 1 3 none),oG 12 70 67 true (.iaddr 1 (.t 69) (.c (.int .i64 0))),oG 13 71 67 true (.load none (.t 70)),oG 14 72 67 true (.call 1051 [.t 71]),oPf 15 73 67 72,oM 16 2 73]
def qET:List qB:=[oU 0 76 1,oX 1 77 1 2,oE 2 78 .geq 77 0,oM 3 79 78,oG 4 80 79 true (.nop 1),oG 5 81 79 true (.lload 1 2 none),oG 6 82 79 true (.bin .lss (.t 81) (.c (.int .i64 4))),oPf 7 83 79 82,oM 8 3 83]
def qEU:List qB:=[oU 0 86 1,oX 1 87 1 3,oW 2 88 87,oE 3 89 .geq 88 1,oM 4 90 89,oG 5 91 90 true (.nop 1),oG 6 92 90 true (.lload 1 3 none),oG 7 93 90 true (.len (.t 92)),oG 8 94 90 true (.bin .leq (.t 93) (.c (.int .i64 4))),oPf 9 95 90 94,oM 10 96 95,oH 11 97 96 true 5,oPf 12 98 96 97,oM 13 4 98]
def qEV:List qB:=[oU 0 101 1,oX 1 102 1 3,oW 2 103 102,oE 3 104 .eql 103 2,oM 4 105 104,oH 5 106 105 true 5,oPf 6 107 105 106,oM 7 4 107]
def qEW:List qB:=[oU 0 110 1,oX 1 111 1 2,oD1 2 112 796 111,oM 3 3 112]
def qEJ:qL:=.cond (.t 84) (.reg true qEU) (sr [oE 0 100 .eql 45 11,oM 1 99 100] (.cond (.t 99) (.reg true qEV) (sr [oE 0 109 .eql 45 12,oM 1 108 109] (.cond (.t 108) (.reg true qEW) .skip))))
def qEK:qL:=sr [oE 0 57 .eql 45 8,oM 1 56 57] (.cond (.t 56) (sr qES .ret) (sr [oE 0 75 .eql 45 9,oM 1 74 75] (.cond (.t 74) (.reg true qET) (sr [oE 0 85 .eql 45 10,oM 1 84 85] qEJ))))
def qEL:qL:=sr [oU 0 44 1,oX 1 45 1 0] (.blk 0 (sr [oE 0 47 .eql 45 6,oM 1 46 47] (.cond (.t 46) (.reg true qEQ) (sr [oE 0 52 .eql 45 7,oM 1 51 52] (.cond (.t 51) (.reg true qER) qEK)))))
def qEO:List qB:=[oM 0 113 3,oM 1 114 113,oH 2 115 114 true 4,oPf 3 116 114 115,oM 4 2 116]
def Ub:qP:=⟨1,117,[.t 2],sr [oP 0 1 (.lbox 5 (.t 0)),oQ 1 2 false] (.seq (sr qEM (.cond (.t 32) (sr [oQ 0 2 false] .ret) .skip)) (sr qEN (sr qEP (.seq qEL (sr qEO .ret)))))⟩
def qTX:List qB:=[oM 0 5 0,oW 1 6 5,oE 2 7 .lss 6 1,oM 3 8 7,oH 4 9 8 false 0,oG 5 10 8 false (.len (.t 9)),oG 6 11 8 false (.bin .gtr (.t 10) (.c (.int .i64 600))),oPt 7 12 8 11]
def qTY:List qB:=[oM 0 17 15,oA 1 18 5 13 15,oP 2 19 (.load (some 5) (.t 18)),oP 3 4 (.lalloc (.agg [.int .i64 0,.int .i64 0,.int .i64 0,.nils,.nils])),oM 4 3 17,oS 5 4 0 5 19]
def qTZ:List qB:=[oY 0 20 4 0 5,oD1 1 21 1097 20,oJ 2 22 21,oM 3 23 22,oG 4 24 23 false (.nop 4),oG 5 25 23 false (.lload 4 0 none),oG 6 26 23 false (.bin .eql (.t 25) (.c (.int .i64 1))),oH 7 27 23 false 3,oG 8 28 23 false (.bin .eql (.t 27) (.c (.int .i64 0))),oG 9 29 23 false (.beq true (.t 26) (.t 28)),oPt 10 30 23 29]
def qTV:qL:=sr [oB 0 16 .lss 15 14] (.seq (.cond (.t 16) .skip (.exit 0)) (.seq (.blk 1 (sr qTY (sr qTZ (.cond (.t 30) (sr [oQ 0 2 false] .ret) .skip)))) (.reg true [oE 0 31 .add 15 1,oM 1 15 31])))
def qTW:qL:=.seq (sr qTX (.cond (.t 12) (sr [oQ 0 2 false] .ret) .skip)) (.seq (sr [oM 0 13 0,oW 1 14 13,oC 2 15 0] (.blk 0 (.loop qTV))) (sr [oQ 0 2 true] .ret))
def kZ:qP:=⟨1,32,[.t 2],sr [oQ 0 2 false] qTW⟩
def qEX:qP:=ZG 2 (some 2)
def F712:qP:=Zk 1098
def qR9:List qB:=[oM 0 5 0,oK 1 6 5,oF 2 7 0 6,oL 3 8 7,oU 4 9 3,oX 5 10 3 0,oA 6 11 5 8 10,oF 7 12 4 11,oL 8 13 12,oU 9 14 3,oX 10 15 3 1,oA 11 16 2 13 15,oP 12 17 (.load (some 2) (.t 16)),oS 13 4 0 2 17]
def Zd:qP:=⟨2,18,[.l 4 (some 2)],sr [oP 0 3 (.lbox 2 (.t 1)),oP 1 4 (.lalloc (.agg [.int .i64 0,.int .i64 0]))] (sr qR9 .ret)⟩
def qT2:List qB:=[oU 0 5 3,oX 1 6 3 0,oE 2 7 .geq 6 0,oM 3 8 7,oG 4 9 8 true (.nop 3),oG 5 10 8 true (.lload 3 0 none),oH 6 11 8 true 0,oG 7 12 8 true (.len (.t 11)),oG 8 13 8 true (.bin .lss (.t 10) (.t 12)),oPf 9 14 8 13,oM 10 15 14,oG 11 16 15 true (.nop 3),oG 12 17 15 true (.lload 3 1 none),oG 13 18 15 true (.bin .geq (.t 17) (.c (.int .i64 0))),oPf 14 19 15 18,oM 15 20 19,oG 16 21 20 true (.nop 3),oG 17 22 20 true (.lload 3 1 none),oH 18 23 20 true 0,oG 19 24 20 true (.nop 3),oG 20 25 20 true (.lload 3 0 none),oG 21 26 20 true (.iaddr 5 (.t 23) (.t 25)),oG 22 27 20 true (.faddr 4 (.t 26)),oG 23 28 20 true (.load none (.t 27)),oG 24 29 20 true (.len (.t 28)),oG 25 30 20 true (.bin .lss (.t 22) (.t 29)),oPf 26 31 20 30,oM 27 4 31]
def kf:qP:=⟨2,32,[.t 4],sr [oP 0 3 (.lbox 2 (.t 1)),oQ 1 4 false] (sr qT2 .ret)⟩
def qT0:List qB:=[oY 0 5 2 0 2,oD2 1 6 555 1 5,oP 2 4 (.lalloc (.agg [.int .i64 0,.int .i64 0])),oS 3 4 0 2 6]
def qT1:List qB:=[oY 0 7 4 0 2,oY 1 8 2 0 2,oP 2 9 (.seq false [1,1] (.t 7) (.t 8)),oM 3 10 9,oG 4 11 10 false (.faddr 0 (.t 1)),oG 5 12 10 false (.load none (.t 11)),oG 6 13 10 false (.lload 4 0 (some 2)),oG 7 14 10 false (.call 714 [.t 12,.t 13]),oG 8 15 10 false (.not (.t 14)),oPt 9 16 10 15,oM 10 17 16,oG 11 18 17 false (.lload 4 0 (some 2)),oG 13 20 17 false (.lload 2 0 (some 2)),oG 12 19 17 false (.call 555 [.t 1,.t 18]),oG 14 21 17 false (.seq true [1,1] (.t 19) (.t 20)),oPt 15 22 17 21,oM 16 3 22]
def ke:qP:=⟨2,23,[.t 3],sr [oP 0 2 (.lbox 2 (.t 0)),oQ 1 3 false] (sr qT0 (sr qT1 .ret))⟩
def qNV:List qB:=[oF 0 3 0 1,oL 1 4 3,oD1 2 5 711 4,oJ 3 6 5]
def qNW:List qB:=[oD1 0 7 554 1,oP 1 8 (.mkfn 713 [.t 1]),oD2 2 9 712 7 8,oJ 3 10 9,oM 4 2 10]
def Km:qP:=⟨1,11,[.t 2],sr [oP 0 1 (.hbox 1 (.t 0)),oQ 1 2 false] (.seq (sr qNV (.cond (.t 6) (sr [oQ 0 2 false] .ret) .skip)) (sr qNW .ret))⟩
def qWE:List qB:=[oY 0 3 1 0 1,oD1 1 4 319 3,oJ 2 5 4,oM 3 2 5]
def F860:qP:=⟨1,6,[.t 2],sr [oP 0 1 (.lbox 1 (.t 0)),oQ 1 2 false] (sr qWE .ret)⟩
def qRK:List qB:=[oM 0 3 0,oW 1 4 3,oE 2 5 .leq 4 24,oM 3 6 5,oH 4 7 6 true 0,oG 5 8 6 true (.call 859 [.t 7,.f 860]),oG 6 9 6 true (.not (.t 8)),oPf 7 10 6 9,oM 8 2 10]
def kL:qP:=⟨1,11,[.t 2],sr [oQ 0 2 false] (sr qRK .ret)⟩
def qLP:qP:=ZG 3 (some 3)
def qE7:qP:=Zk 1397
def qE9:List qB:=[oM 0 5 1,oU 1 6 2,oX 2 7 2 0,oP 3 8 (.bslice 1 (.int .i64 0) 1 [(0,.t 7)]),oD2 4 9 436 5 8,oM 5 10 9,oG 6 11 10 true (.nop 2),oG 7 12 10 true (.lload 2 1 none),oG 8 13 10 true (.bin .geq (.t 12) (.c (.int .i64 (-1)))),oPf 9 14 10 13,oM 10 15 14,oG 11 16 15 true (.nop 2),oG 12 17 15 true (.lload 2 1 none),oG 13 18 15 true (.bin .lss (.t 17) (.c (.int .i64 24))),oPf 14 19 15 18,oM 15 20 19,oG 16 21 20 true (.nop 2),oG 17 22 20 true (.lload 2 2 none),oG 18 23 20 true (.bin .geq (.t 22) (.c (.int .i64 (-1)))),oPf 19 24 20 23,oM 20 25 24,oG 21 26 25 true (.nop 2),oG 22 27 25 true (.lload 2 2 none),oG 23 28 25 true (.bin .lss (.t 27) (.c (.int .i64 600))),oPf 24 29 25 28,oM 25 30 29,oG 26 31 30 true (.nop 2),oG 27 32 30 true (.lload 2 2 none),oG 28 33 30 true (.bin .neq (.t 32) (.c (.int .i64 (-1)))),oH 29 34 30 true 33,oG 30 35 34 false (.nop 2),oG 31 36 34 false (.lload 2 1 none),oG 32 37 34 false (.bin .eql (.t 36) (.c (.int .i64 (-1)))),oG 33 38 30 true (.pick (.t 34) (.c (.bool true)) (.t 37)),oPf 34 39 30 38,oM 35 4 39]
def Ug:qP:=⟨2,40,[.t 4],sr [oP 0 2 (.lbox 3 (.t 0)),oQ 1 4 false] (sr qE9 .ret)⟩
def qE8:List qB:=[oY 0 4 2 0 3,oL 1 5 1,oD2 2 6 1114 4 5,oJ 3 7 6,oM 4 3 7]
def Uf:qP:=⟨2,8,[.t 3],sr [oP 0 2 (.lbox 3 (.t 0)),oQ 1 3 false] (sr qE8 .ret)⟩
def qUV:List qB:=[oY 0 7 3 0 1,oD1 1 8 319 7,oM 2 9 8,oH 3 10 9 true 1,oG 4 11 9 true (.len (.t 10)),oG 5 12 9 true (.nop 3),oG 6 13 9 true (.lload 3 0 none),oG 7 14 9 true (.len (.t 13)),oG 8 15 9 true (.bin .eql (.t 11) (.t 14)),oPf 9 16 9 15,oM 10 17 16,oH 11 18 17 true 1,oG 12 19 17 true (.mkfn 1113 [.t 5]),oG 13 20 17 true (.call 1112 [.t 18,.t 19]),oG 14 21 17 true (.not (.t 20)),oPf 15 22 17 21,oM 16 6 22]
def kz:qP:=⟨3,23,[.t 6],sr [oP 0 3 (.lbox 1 (.t 0)),oP 1 5 (.hbox 1 (.t 2)),oQ 2 6 false] (sr qUV .ret)⟩
def F771:qP:=ZG 2 (some 2)
def F748:qP:=Zk 771
def qP6:List qB:=[oU 0 7 1,oX 1 8 1 1,oE 2 9 .geq 8 1,oM 3 10 9,oG 4 11 10 true (.nop 1),oG 5 12 10 true (.lload 1 1 none),oG 6 13 10 true (.bin .leq (.t 12) (.c (.int .i64 8))),oPf 7 14 10 13,oM 8 2 14]
def qP7:List qB:=[oU 0 17 1,oX 1 18 1 1,oD1 2 19 796 18,oM 3 2 19]
def qP8:List qB:=[oU 0 22 1,oX 1 23 1 1,oE 2 24 .geq 23 1,oM 3 25 24,oG 4 26 25 true (.nop 1),oG 5 27 25 true (.lload 1 1 none),oG 6 28 25 true (.bin .leq (.t 27) (.c (.int .i64 600))),oPf 7 29 25 28,oM 8 2 29]
def qP5:qL:=.cond (.t 5) (sr qP6 .ret) (sr [oE 0 16 .eql 4 2,oM 1 15 16] (.cond (.t 15) (sr qP7 .ret) (sr [oE 0 21 .eql 4 3,oM 1 20 21] (.cond (.t 20) (sr qP8 .ret) .skip))))
def K2:qP:=⟨1,30,[.t 2],sr [oP 0 1 (.lbox 2 (.t 0)),oQ 1 2 false] (.seq (sr [oU 0 3 1,oX 1 4 1 0] (.blk 0 (sr [oE 0 6 .eql 4 1,oM 1 5 6] qP5))) (sr [oQ 0 2 false] .ret))⟩
def qUW:List qB:=[oY 0 3 1 0 2,oD1 1 4 428 3,oJ 2 5 4,oM 3 2 5]
def F749:qP:=⟨1,6,[.t 2],sr [oP 0 1 (.lbox 2 (.t 0)),oQ 1 2 false] (sr qUW .ret)⟩
def qOJ:List qB:=[oU 0 6 1,oX 1 7 1 0,oD1 2 8 505 7,oJ 3 9 8,oM 4 10 9,oG 5 11 10 false (.nop 1),oG 6 12 10 false (.lload 1 1 none),oG 7 13 10 false (.call 406 [.t 12]),oG 8 14 10 false (.not (.t 13)),oPt 9 15 10 14,oM 10 16 15,oG 11 17 16 false (.nop 1),oG 12 18 16 false (.lload 1 2 none),oG 13 19 16 false (.bin .lss (.t 18) (.c (.int .i64 1))),oPt 14 20 16 19,oM 15 21 20,oG 16 22 21 false (.nop 1),oG 17 23 21 false (.lload 1 2 none),oG 18 24 21 false (.bin .gtr (.t 23) (.c (.int .i64 50))),oPt 19 25 21 24,oM 20 26 25,oG 21 27 26 false (.nop 1),oG 22 28 26 false (.lload 1 3 none),oG 23 29 26 false (.bslice 1 (.int .i64 0) 1 [(0,.t 28)]),oG 24 30 26 false (.call 436 [.c (.int .i64 4000),.t 29]),oG 25 31 26 false (.not (.t 30)),oPt 26 32 26 31,oM 27 33 32,oG 28 34 33 false (.nop 1),oG 29 35 33 false (.lload 1 4 (some 1)),oG 30 36 33 false (.nop 1),oG 31 37 33 false (.lload 1 5 none),oG 32 38 33 false (.nop 1),oG 33 39 33 false (.lload 1 3 none),oG 34 40 33 false (.call 747 [.t 35,.t 37,.t 39]),oG 35 41 33 false (.not (.t 40)),oPt 36 42 33 41]
def qOK:List qB:=[oU 0 43 1,oX 1 44 1 6,oW 2 45 44,oE 3 46 .gtr 45 8,oM 4 47 46,oG 5 48 47 false (.nop 1),oG 6 49 47 false (.lload 1 6 none),oG 7 50 47 false (.call 748 [.t 49,.f 749]),oPt 8 51 47 50]
def qOL:List qB:=[oU 0 52 1,oX 1 53 1 7,oW 2 54 53,oM 3 3 54]
def qOM:List qB:=[oM 0 55 3,oU 1 56 1,oX 2 57 1 3,oU 3 58 1,oX 4 59 1 2,oB 5 60 .quo 57 59,oE 6 61 .add 60 1,oB 7 62 .lss 55 61,oM 8 63 62,oH 9 64 63 false 3,oG 10 65 63 false (.nop 1),oG 11 66 63 false (.lload 1 2 none),oG 12 67 63 false (.bin .quo (.c (.int .i64 4000)) (.t 66)),oG 13 68 63 false (.bin .add (.t 67) (.c (.int .i64 1))),oG 14 69 63 false (.bin .gtr (.t 64) (.t 68)),oPt 15 70 63 69]
def qON:List qB:=[oU 0 71 1,oX 1 72 1 7,oW 2 73 72,oC 3 74 0]
def qOO:List qB:=[oM 0 76 74,oA 1 77 3 72 74,oP 2 78 (.load (some 3) (.t 77)),oP 3 5 (.lalloc (.agg [.int .i64 0,.nils,.nils])),oM 4 4 76,oS 5 5 0 3 78]
def qOP:List qB:=[oU 0 79 5,oX 1 80 5 0,oM 2 81 4,oU 3 82 1,oX 4 83 1 2,oB 5 84 .mul 81 83,oB 6 85 .neq 80 84,oM 7 86 85,oG 8 87 86 false (.nop 5),oG 9 88 86 false (.lload 5 1 (some 1)),oG 10 89 86 false (.nop 5),oG 11 90 86 false (.lload 5 2 none),oG 12 91 86 false (.nop 5),oG 13 92 86 false (.lload 5 0 none),oG 14 93 86 false (.call 747 [.t 88,.t 90,.t 92]),oG 15 94 86 false (.not (.t 93)),oPt 16 95 86 94]
def qOH:qL:=sr [oB 0 75 .lss 74 73] (.seq (.cond (.t 75) .skip (.exit 0)) (.seq (.blk 1 (sr qOO (sr qOP (.cond (.t 95) (sr [oQ 0 2 false] .ret) .skip)))) (.reg true [oE 0 96 .add 74 1,oM 1 74 96])))
def qOI:qL:=sr qOL (.seq (sr qOM (.cond (.t 70) (sr [oQ 0 2 false] .ret) .skip)) (.seq (sr qON (.blk 0 (.loop qOH))) (sr [oQ 0 2 true] .ret)))
def Ku:qP:=⟨1,97,[.t 2],sr [oP 0 1 (.lbox 8 (.t 0)),oQ 1 2 false] (.seq (sr qOJ (.cond (.t 42) (sr [oQ 0 2 false] .ret) .skip)) (.seq (sr qOK (.cond (.t 51) (sr [oQ 0 2 false] .ret) .skip)) qOI))⟩
def qOZ:List qB:=[oM 0 7 0,oK 1 8 7,oF 2 9 0 8,oL 3 10 9,oW 4 11 10,oC 5 12 0]
def qO0:List qB:=[oM 0 14 12,oA 1 15 5 10 12,oP 2 16 (.load (some 5) (.t 15)),oP 3 5 (.lalloc (.agg [.int .i64 0,.int .i64 0,.int .i64 0,.nils,.nils])),oM 4 4 14,oS 5 5 0 5 16]
def qO1:List qB:=[oU 0 17 5,oX 1 18 5 4,oP 2 19 (.iaddr 2 (.t 18) (.c (.int .i64 0))),oP 3 20 (.load (some 2) (.t 19)),oP 4 6 (.lalloc (.agg [.int .i64 0,.int .i64 0])),oS 5 6 0 2 20]
def qO2:List qB:=[oU 0 21 6,oX 1 22 6 1,oE 2 23 .eql 22 0,oM 3 24 23,oG 4 25 24 true (.nop 6),oG 5 26 24 true (.lload 6 0 none),oH 6 27 24 true 4,oG 7 28 24 true (.bin .gtr (.t 26) (.t 27)),oPf 8 29 24 28,oM 9 30 29,oG 10 31 30 true (.nop 5),oG 11 32 30 true (.lload 5 0 none),oG 12 33 30 true (.bin .neq (.t 32) (.c (.int .i64 1))),oPf 13 34 30 33]
def qO3:List qB:=[oM 0 35 3,oM 1 36 4,oU 2 37 6,oX 3 38 6 0,oP 4 39 (.build (.agg [.int .i64 0,.int .i64 0]) [(0,1,.t 36),(1,1,.t 38)]),oP 5 40 (.bslice 2 (.agg [.int .i64 0,.int .i64 0]) 1 [(0,.t 39)]),oP 6 41 (.app 2 (.t 35) (.t 40)),oM 7 3 41]
def qOY:qL:=sr [oB 0 13 .lss 12 11] (.seq (.cond (.t 13) .skip (.exit 0)) (.seq (.blk 1 (sr qO0 (sr qO1 (sr qO2 (.cond (.t 34) (.reg true qO3) .skip))))) (.reg true [oE 0 42 .add 12 1,oM 1 12 42])))
def Kw:qP:=⟨1,44,[.t 2],sr [oP 0 2 (.mov (.c (.nils)))] (sr [oP 0 3 (.mov (.c (.nils)))] (.seq (sr qOZ (.blk 0 (.loop qOY))) (sr [oM 0 43 3,oM 1 2 43] .ret)))⟩
def qUX:List qB:=[oM 0 11 0,oM 1 12 2,oM 2 13 0,oW 3 14 13,oB 4 15 .rem 12 14,oA 5 16 1 11 15,oL 6 17 16,oM 7 7 17]
def qUY:List qB:=[oM 0 18 1,oM 1 19 7,oM 2 20 1,oW 3 21 20,oB 4 22 .rem 19 21,oA 5 23 2 18 22,oP 6 24 (.load (some 2) (.t 23)),oS 7 6 0 2 24]
def F750:qP:=⟨3,25,[.l 6 (some 2)],sr [oP 0 6 (.lalloc (.agg [.int .i64 0,.int .i64 0]))] (sr [oC 0 7 0] (.seq (sr [oM 0 8 0,oW 1 9 8,oE 2 10 .gtr 9 0] (.cond (.t 10) (.reg true qUX) .skip)) (sr qUY .ret)))⟩
def qMW:List qB:=[oM 0 7 0,oD1 1 8 1495 7,oJ 2 9 8,oM 3 10 9,oH 4 11 10 false 1,oH 5 12 10 false 2,oG 6 13 10 false (.call 1389 [.t 11,.t 12]),oG 7 14 10 false (.not (.t 13)),oPt 8 15 10 14]
def qMX:List qB:=[oM 0 16 1,oE 1 17 .eql 16 6,oM 2 18 17,oH 3 19 18 false 1,oG 4 20 18 false (.bin .eql (.t 19) (.c (.int .i64 12))),oPt 5 21 18 20,oM 6 22 21,oH 7 23 22 false 1,oG 8 24 22 false (.call 1375 [.t 23]),oH 9 25 22 false 24,oH 10 26 25 true 2,oH 11 27 25 true 0,oG 12 28 25 true (.bin .gtr (.t 26) (.t 27)),oG 13 29 22 false (.pick (.t 25) (.t 28) (.c (.bool false))),oPt 14 30 22 29,oM 15 6 30]
def Ka:qP:=⟨3,31,[.t 6],sr [oQ 0 6 false] (.seq (sr qMW (.cond (.t 15) (sr [oQ 0 6 false] .ret) .skip)) (sr qMX .ret))⟩
def qMY:List qB:=[oM 0 3 0,oE 1 4 .eql 3 3,oM 2 5 4,oH 3 6 5 false 0,oG 4 7 5 false (.bin .eql (.t 6) (.c (.int .i64 7))),oPt 5 8 5 7,oM 6 9 8,oH 7 10 9 false 0,oG 8 11 9 false (.bin .eql (.t 10) (.c (.int .i64 8))),oPt 9 12 9 11,oM 10 13 12,oH 11 14 13 false 0,oG 12 15 13 false (.bin .eql (.t 14) (.c (.int .i64 10))),oPt 13 16 13 15,oM 14 17 16,oH 15 18 17 false 0,oG 16 19 17 false (.bin .eql (.t 18) (.c (.int .i64 11))),oPt 17 20 17 19,oM 18 2 20]
def Kb:qP:=⟨1,21,[.t 2],sr [oQ 0 2 false] (sr qMY .ret)⟩
def qLV:List qB:=[oM 0 15 2,oE 1 16 .eql 15 4,oM 2 17 16,oH 3 18 17 true 1,oH 4 19 17 true 3,oG 5 20 17 true (.bin .eql (.t 18) (.t 19)),oPf 6 21 17 20,oM 7 14 21]
def qLW:List qB:=[oM 0 23 1,oM 1 24 2,oM 2 25 3,oP 3 26 (.call 1501 [.t 23,.t 24,.t 25]),oM 4 22 26]
def qLX:List qB:=[oM 0 29 2,oE 1 30 .eql 29 3,oM 2 31 30,oH 3 32 31 true 1,oH 4 33 31 true 3,oG 5 34 31 true (.bin .eql (.t 32) (.t 33)),oPf 6 35 31 34]
def qLQ:qL:=.seq (sr [oE 0 40 .eql 38 7,oM 1 39 40] (.cond (.t 39) .skip (.reg true [oE 0 41 .eql 38 8,oM 1 39 41]))) (.cond (.t 39) (sr [oC 0 8 5] .ret) (sr [oE 0 43 .eql 38 11,oM 1 42 43] (.cond (.t 42) (sr [oC 0 8 6] .ret) .skip)))
def qLR:qL:=.cond (.t 44) (sr [oM 0 46 2,oE 1 47 .eql 46 10] (.cond (.t 47) (sr [oC 0 8 6] .ret) .skip)) (sr [oE 0 49 .eql 9 12,oM 1 48 49] (.cond (.t 48) (sr [oM 0 50 2,oD1 1 51 1502 50] (.cond (.t 51) (sr [oC 0 8 7] .ret) .skip)) .skip))
def qLS:qL:=.cond (.t 27) (sr qLX (.cond (.t 35) (sr [oC 0 8 1] .ret) .skip)) (sr [oE 0 37 .eql 9 6,oM 1 36 37] (.cond (.t 36) (sr [oM 0 38 2] (.blk 2 qLQ)) (sr [oE 0 45 .eql 9 9,oM 1 44 45] qLR)))
def qLT:qL:=.cond (.t 12) (.blk 1 (sr qLV (.cond (.t 14) (sr [oC 0 8 2] .ret) (sr qLW (.cond (.t 22) (sr [oC 0 8 3] .ret) .skip))))) (sr [oE 0 28 .eql 9 2,oM 1 27 28] qLS)
def qLU:qL:=sr [oM 0 9 0] (.blk 0 (sr [oE 0 11 .eql 9 5,oM 1 10 11] (.cond (.t 10) (sr [oC 0 8 4] .ret) (sr [oE 0 13 .eql 9 4,oM 1 12 13] qLT))))
def KN:qP:=⟨4,52,[.t 8],sr [oC 0 8 0] (.seq qLU (sr [oC 0 8 0] .ret))⟩
def qFC:List qB:=[oM 0 12 0,oE 1 13 .eql 12 1,oM 2 14 13,oH 3 15 14 false 2,oG 4 16 14 false (.bin .eql (.t 15) (.c (.int .i64 1))),oPt 5 17 14 16,oM 6 18 17,oH 7 19 18 false 0,oH 8 20 18 false 1,oG 9 21 18 false (.call 1389 [.t 19,.t 20]),oG 10 22 18 false (.not (.t 21)),oPt 11 23 18 22,oM 12 24 23,oH 13 25 24 false 2,oH 14 26 24 false 3,oG 15 27 24 false (.call 1389 [.t 25,.t 26]),oG 16 28 24 false (.not (.t 27)),oPt 17 29 24 28]
def qFD:List qB:=[oM 0 30 0,oM 1 31 1,oM 2 32 2,oM 3 33 3,oP 4 34 (.call 1398 [.t 30,.t 31,.t 32,.t 33]),oM 5 10 34]
def qFE:List qB:=[oM 0 38 2,oM 1 39 3,oM 2 40 0,oM 3 41 1,oP 4 42 (.call 1398 [.t 38,.t 39,.t 40,.t 41]),oM 5 11 42]
def qFA:qL:=.seq (sr qFE (sr [oM 0 43 11,oE 1 44 .neq 43 0] (.cond (.t 44) (sr [oM 0 45 11,oM 1 8 45,oC 2 9 2] .ret) .skip))) (sr [oC 0 8 8,oC 1 9 0] .ret)
def qFB:qL:=.seq (sr qFC (.cond (.t 29) (sr [oC 0 8 0,oC 1 9 0] .ret) .skip)) (.seq (sr qFD (sr [oM 0 35 10,oE 1 36 .neq 35 0] (.cond (.t 36) (sr [oM 0 37 10,oM 1 8 37,oC 2 9 1] .ret) .skip))) qFA)
def Uh:qP:=⟨4,46,[.t 8,.t 9],sr [oC 0 8 0,oC 1 9 0] qFB⟩
def qU0:List qB:=[oM 0 10 0,oK 1 11 10,oF 2 12 0 11,oL 3 13 12,oU 4 14 3,oX 5 15 3 0,oA 6 16 5 13 15,oP 7 17 (.load (some 5) (.t 16)),oM 8 18 0,oK 9 19 18,oF 10 20 0 19,oL 11 21 20,oU 12 22 3,oX 13 23 3 1,oA 14 24 5 21 23,oP 15 25 (.load (some 5) (.t 24)),oP 16 6 (.lalloc (.agg [.int .i64 0,.int .i64 0,.int .i64 0,.nils,.nils])),oP 17 7 (.lalloc (.agg [.int .i64 0,.int .i64 0,.int .i64 0,.nils,.nils])),oS 18 6 0 5 17,oS 19 7 0 5 25]
def qU1:List qB:=[oU 0 27 6,oX 1 28 6 0,oU 2 29 6,oX 3 30 6 1,oU 4 31 7,oX 5 32 7 0,oU 6 33 7,oX 7 34 7 1,oP 8 35 (.call 1115 [.t 28,.t 30,.t 32,.t 34]),oM 9 26 35,oV 10 36 26 0,oV 11 37 26 1,oM 12 8 36,oM 13 9 37]
def qU2:List qB:=[oY 0 40 7 0 5,oY 1 41 6 0 5,oS 2 6 0 5 40,oS 3 7 0 5 41]
def qU3:List qB:=[oM 0 42 8,oE 1 43 .eql 42 6,oM 2 44 43,oG 3 45 44 true (.nop 7),oG 4 46 44 true (.lload 7 0 none),oG 5 47 44 true (.bin .eql (.t 46) (.c (.int .i64 10))),oPf 6 48 44 47,oM 7 49 48,oG 8 50 49 true (.nop 6),oG 9 51 49 true (.lload 6 2 none),oG 10 52 49 true (.nop 7),oG 11 53 49 true (.lload 7 3 none),oG 12 54 49 true (.len (.t 53)),oG 13 55 49 true (.bin .geq (.t 51) (.t 54)),oPf 14 56 49 55]
def qU4:List qB:=[oM 0 57 8,oM 1 58 9,oE 2 59 .eql 58 2,oM 3 4 57,oM 4 5 59]
def qUZ:qL:=.seq (sr [oM 0 38 9,oE 1 39 .eql 38 2] (.cond (.t 39) (.reg true qU2) .skip)) (.seq (sr qU3 (.cond (.t 56) (sr [oC 0 4 8,oQ 1 5 false] .ret) .skip)) (sr qU4 .ret))
def Xa:qP:=⟨2,60,[.t 4,.t 5],sr [oP 0 3 (.lbox 2 (.t 1)),oC 1 4 0,oQ 2 5 false] (sr qU0 (sr qU1 qUZ))⟩
def qOS:List qB:=[oM 0 9 0,oK 1 10 9,oF 2 11 4 10,oD1 3 12 376 11,oM 4 4 12]
def qOT:List qB:=[oM 0 17 0,oK 1 18 17,oF 2 19 1 18,oL 3 20 19,oM 4 21 4,oM 5 22 0,oK 6 23 22,oF 7 24 3 23,oL 8 25 24,oP 10 5 (.lalloc (.agg [.int .i64 0,.int .i64 0])),oP 9 26 (.call 750 [.t 20,.t 21,.t 25]),oS 11 5 0 2 26]
def qOU:List qB:=[oM 0 28 0,oK 1 29 28,oF 2 30 4 29,oY 3 31 5 0 2,oD2 4 32 751 30 31,oM 5 27 32,oV 6 33 27 0,oV 7 34 27 1,oM 8 6 33,oM 9 7 34]
def qOV:List qB:=[oY 0 35 5 0 2,oM 1 36 6,oU 2 37 5,oX 3 38 5 0,oU 4 39 5,oX 5 40 5 1,oP 6 41 (.build (.agg [.int .i64 0,.int .i64 0,.int .i64 0,.int .i64 0,.int .i64 0,.int .i64 0]) [(0,2,.t 35),(2,1,.t 36),(3,1,.t 38),(4,1,.t 40),(5,1,.c (.int .i64 (-1)))]),oP 7 8 (.lalloc (.agg [.int .i64 0,.int .i64 0,.int .i64 0,.int .i64 0,.int .i64 0,.int .i64 0])),oS 8 8 0 6 41]
def qOW:List qB:=[oU 0 43 5,oX 1 44 5 1,oU 2 45 5,oX 3 46 5 0,oU 4 47 8,oS 5 8 3 1 44,oU 6 48 8,oS 7 8 4 1 46]
def qOX:List qB:=[oM 0 51 0,oK 1 52 51,oF 2 53 4 52,oF 3 54 0 53,oL 4 55 54,oU 5 56 8,oX 6 57 8 3,oA 7 58 5 55 57,oF 8 59 2 58,oL 9 60 59,oU 10 61 8,oS 11 8 5 1 60]
def qOQ:qL:=.seq (sr [oM 0 42 7] (.cond (.t 42) (.reg true qOW) .skip)) (.seq (sr [oM 0 49 6,oE 1 50 .eql 49 7] (.cond (.t 50) (.reg true qOX) .skip)) (sr [oY 0 62 8 0 6,oS 1 2 0 6 62,oQ 2 3 true] .ret))
def qOR:qL:=.seq (sr [oM 0 13 4,oW 1 14 13,oE 2 15 .eql 14 0] (.cond (.t 15) (sr [oP 0 16 (.build (.agg [.int .i64 0,.int .i64 0,.int .i64 0,.int .i64 0,.int .i64 0,.int .i64 0]) []),oS 1 2 0 6 16,oQ 2 3 false] .ret) .skip)) (sr qOT (sr qOU (sr qOV qOQ)))
def Kv:qP:=⟨1,63,[.l 2 (some 6),.t 3],sr [oP 0 2 (.lalloc (.agg [.int .i64 0,.int .i64 0,.int .i64 0,.int .i64 0,.int .i64 0,.int .i64 0])),oQ 1 3 false] (sr qOS qOR)⟩
def F86:qP:=eqS0
def qL1:List qB:=[oU 0 5 2,oX 1 6 2 0,oU 2 7 3,oX 3 8 3 0,oB 4 9 .neq 6 8]
def qL2:List qB:=[oU 0 10 2,oX 1 11 2 1,oU 2 12 3,oX 3 13 3 1,oB 4 14 .neq 11 13]
def KP:qP:=⟨2,15,[.t 4],sr [oP 0 2 (.lbox 2 (.t 0)),oP 1 3 (.lbox 2 (.t 1)),oQ 2 4 false] (.seq (sr qL1 (.cond (.t 9) (sr [oQ 0 4 false] .ret) .skip)) (.seq (sr qL2 (.cond (.t 14) (sr [oQ 0 4 false] .ret) .skip)) (sr [oQ 0 4 true] .ret)))⟩
def qFV:qP:=eqS 2 (some 2) 1422
def qWG:List qB:=[oU 0 5 2,oX 1 6 2 0,oU 2 7 3,oX 3 8 3 0,oB 4 9 .neq 6 8]
def qWH:List qB:=[oU 0 10 2,oX 1 11 2 1,oU 2 12 3,oX 3 13 3 1,oB 4 14 .neq 11 13]
def qWI:List qB:=[oU 0 15 2,oX 1 16 2 2,oU 2 17 3,oX 3 18 3 2,oB 4 19 .neq 16 18]
def qWJ:List qB:=[oU 0 20 2,oX 1 21 2 3,oU 2 22 3,oX 3 23 3 3,oD2 4 24 86 21 23,oJ 5 25 24]
def qWK:List qB:=[oU 0 26 2,oX 1 27 2 4,oU 2 28 3,oX 3 29 3 4,oD2 4 30 1184 27 29,oJ 5 31 30]
def qWF:qL:=.seq (sr qWI (.cond (.t 19) (sr [oQ 0 4 false] .ret) .skip)) (.seq (sr qWJ (.cond (.t 25) (sr [oQ 0 4 false] .ret) .skip)) (.seq (sr qWK (.cond (.t 31) (sr [oQ 0 4 false] .ret) .skip)) (sr [oQ 0 4 true] .ret)))
def F870:qP:=⟨2,32,[.t 4],sr [oP 0 2 (.lbox 5 (.t 0)),oP 1 3 (.lbox 5 (.t 1)),oQ 2 4 false] (.seq (sr qWG (.cond (.t 9) (sr [oQ 0 4 false] .ret) .skip)) (.seq (sr qWH (.cond (.t 14) (sr [oQ 0 4 false] .ret) .skip)) qWF))⟩
def F508:qP:=eqS 5 (some 5) 870
def qM2:List qB:=[oU 0 5 2,oX 1 6 2 0,oU 2 7 3,oX 3 8 3 0,oD2 4 9 508 6 8,oJ 5 10 9]
def Ke:qP:=⟨2,11,[.t 4],sr [oP 0 2 (.lbox 1 (.t 0)),oP 1 3 (.lbox 1 (.t 1)),oQ 2 4 false] (.seq (sr qM2 (.cond (.t 10) (sr [oQ 0 4 false] .ret) .skip)) (sr [oQ 0 4 true] .ret))⟩
def F187:qP:=eqS 1 (some 1) 188
def qU6:List qB:=[oU 0 5 2,oX 1 6 2 0,oU 2 7 3,oX 3 8 3 0,oB 4 9 .neq 6 8]
def qU7:List qB:=[oU 0 10 2,oX 1 11 2 1,oU 2 12 3,oX 3 13 3 1,oB 4 14 .neq 11 13]
def qU8:List qB:=[oU 0 15 2,oX 1 16 2 2,oU 2 17 3,oX 3 18 3 2,oB 4 19 .neq 16 18]
def qU5:qL:=.seq (sr qU6 (.cond (.t 9) (sr [oQ 0 4 false] .ret) .skip)) (.seq (sr qU7 (.cond (.t 14) (sr [oQ 0 4 false] .ret) .skip)) (.seq (sr qU8 (.cond (.t 19) (sr [oQ 0 4 false] .ret) .skip)) (sr [oQ 0 4 true] .ret)))
def F752:qP:=⟨2,20,[.t 4],sr [oP 0 2 (.lbox 3 (.t 0)),oP 1 3 (.lbox 3 (.t 1)),oQ 2 4 false] qU5⟩
def F377:qP:=eqS 3 (some 3) 752
def qU9:List qB:=[oU 0 5 2,oX 1 6 2 0,oU 2 7 3,oX 3 8 3 0,oB 4 9 .neq 6 8]
def qVA:List qB:=[oU 0 10 2,oX 1 11 2 1,oU 2 12 3,oX 3 13 3 1,oB 4 14 .neq 11 13]
def F753:qP:=⟨2,15,[.t 4],sr [oP 0 2 (.lbox 2 (.t 0)),oP 1 3 (.lbox 2 (.t 1)),oQ 2 4 false] (.seq (sr qU9 (.cond (.t 9) (sr [oQ 0 4 false] .ret) .skip)) (.seq (sr qVA (.cond (.t 14) (sr [oQ 0 4 false] .ret) .skip)) (sr [oQ 0 4 true] .ret)))⟩
def F378:qP:=eqS 2 (some 2) 753
def qVC:List qB:=[oU 0 5 2,oX 1 6 2 0,oU 2 7 3,oX 3 8 3 0,oB 4 9 .neq 6 8]
def qVD:List qB:=[oU 0 10 2,oY 1 11 2 1 1,oU 2 12 3,oY 3 13 3 1 1,oD2 4 14 188 11 13,oJ 5 15 14]
def qVE:List qB:=[oU 0 16 2,oX 1 17 2 2,oU 2 18 3,oX 3 19 3 2,oD2 4 20 377 17 19,oJ 5 21 20]
def qVB:qL:=.seq (sr qVC (.cond (.t 9) (sr [oQ 0 4 false] .ret) .skip)) (.seq (sr qVD (.cond (.t 15) (sr [oQ 0 4 false] .ret) .skip)) (.seq (sr qVE (.cond (.t 21) (sr [oQ 0 4 false] .ret) .skip)) (sr [oQ 0 4 true] .ret)))
def F754:qP:=⟨2,22,[.t 4],sr [oP 0 2 (.lbox 3 (.t 0)),oP 1 3 (.lbox 3 (.t 1)),oQ 2 4 false] qVB⟩
def F379:qP:=eqS 3 (some 3) 754
def qD9:List qB:=[oU 0 5 2,oX 1 6 2 0,oU 2 7 3,oX 3 8 3 0,oD2 4 9 187 6 8,oJ 5 10 9]
def qEA:List qB:=[oU 0 11 2,oX 1 12 2 1,oU 2 13 3,oX 3 14 3 1,oD2 4 15 86 12 14,oJ 5 16 15]
def qEB:List qB:=[oU 0 17 2,oX 1 18 2 2,oU 2 19 3,oX 3 20 3 2,oB 4 21 .neq 18 20]
def qEC:List qB:=[oU 0 22 2,oX 1 23 2 3,oU 2 24 3,oX 3 25 3 3,oB 4 26 .neq 23 25]
def qED:List qB:=[oU 0 27 2,oY 1 28 2 4 1,oU 2 29 3,oY 3 30 3 4 1,oD2 4 31 188 28 30,oJ 5 32 31]
def qEE:List qB:=[oU 0 33 2,oX 1 34 2 5,oU 2 35 3,oX 3 36 3 5,oD2 4 37 377 34 36,oJ 5 38 37]
def qEF:List qB:=[oU 0 39 2,oX 1 40 2 6,oU 2 41 3,oX 3 42 3 6,oD2 4 43 378 40 42,oJ 5 44 43]
def qEG:List qB:=[oU 0 45 2,oX 1 46 2 7,oU 2 47 3,oX 3 48 3 7,oD2 4 49 379 46 48,oJ 5 50 49]
def qD7:qL:=.seq (sr qEE (.cond (.t 38) (sr [oQ 0 4 false] .ret) .skip)) (.seq (sr qEF (.cond (.t 44) (sr [oQ 0 4 false] .ret) .skip)) (.seq (sr qEG (.cond (.t 50) (sr [oQ 0 4 false] .ret) .skip)) (sr [oQ 0 4 true] .ret)))
def qD8:qL:=.seq (sr qEB (.cond (.t 21) (sr [oQ 0 4 false] .ret) .skip)) (.seq (sr qEC (.cond (.t 26) (sr [oQ 0 4 false] .ret) .skip)) (.seq (sr qED (.cond (.t 32) (sr [oQ 0 4 false] .ret) .skip)) qD7))
def UY:qP:=⟨2,51,[.t 4],sr [oP 0 2 (.lbox 8 (.t 0)),oP 1 3 (.lbox 8 (.t 1)),oQ 2 4 false] (.seq (sr qD9 (.cond (.t 10) (sr [oQ 0 4 false] .ret) .skip)) (.seq (sr qEA (.cond (.t 16) (sr [oQ 0 4 false] .ret) .skip)) qD8))⟩
def qO5:List qB:=[oP 0 3 (.mov (.c (.lst 1 [] true))),oM 1 4 0,oP 2 5 (.app 1 (.t 3) (.t 4)),oM 3 2 5]
def XW:qP:=⟨1,6,[.t 2],sr [oP 0 2 (.mov (.c (.nils)))] (sr qO5 .ret)⟩
def qV3:List qB:=[oM 0 3 0,oK 1 4 3,oF 2 5 0 4,oL 3 6 5,oM 4 7 0,oK 5 8 7,oF 6 9 1 8,oL 7 10 9,oM 8 11 0,oK 9 12 11,oF 10 13 2 12,oL 11 14 13,oM 12 15 0,oK 13 16 15,oF 14 17 3 16,oL 15 18 17,oP 17 20 (.mov (.c (.lst 2 [] true))),oM 18 21 0,oK 19 22 21,oF 20 23 4 22,oL 21 24 23,⟨16,some 19,none,.call 402 [.t 18],[⟨3,some 6,none,.load none (.t 5),[]⟩,⟨7,some 10,none,.load none (.t 9),[]⟩,⟨11,some 14,none,.load none (.t 13),[]⟩,⟨21,some 24,none,.load none (.t 23),[]⟩]⟩,⟨22,some 25,none,.app 2 (.t 20) (.t 24),[⟨3,some 6,none,.load none (.t 5),[]⟩,⟨7,some 10,none,.load none (.t 9),[]⟩,⟨11,some 14,none,.load none (.t 13),[]⟩]⟩,oP 23 26 (.build (.agg [.int .i64 0,.int .i64 0,.int .i64 0,.nils,.nils]) [(0,1,.t 6),(1,1,.t 10),(2,1,.t 14),(3,1,.t 19),(4,1,.t 25)]),oS 24 2 0 5 26]
def Ze:qP:=⟨1,27,[.l 2 (some 5)],sr [oP 0 2 (.lalloc (.agg [.int .i64 0,.int .i64 0,.int .i64 0,.nils,.nils]))] (sr qV3 .ret)⟩
def qRF:List qB:=[oM 0 6 4,oM 1 7 0,oK 2 8 7,oF 3 9 0 8,oL 4 10 9,oW 5 11 10,oB 6 12 .lss 6 11]
def qRG:List qB:=[oU 0 15 3,oX 1 16 3 0,oM 2 17 0,oK 3 18 17,oF 4 19 0 18,oL 5 20 19,oM 6 21 4,oA 7 22 5 20 21,oD1 8 23 837 22,oP 9 24 (.bslice 5 (.agg [.int .i64 0,.int .i64 0,.int .i64 0,.nils,.nils]) 1 [(0,.t 23)]),oP 10 25 (.app 5 (.t 16) (.t 24)),oU 11 26 3,oS 12 3 0 1 25]
def qRE:qL:=sr [oC 0 4 0] (.blk 0 (.loop (.seq (sr qRF (.cond (.t 12) .skip (.exit 0))) (.seq (.blk 1 (.reg true qRG)) (.reg true [oM 0 13 4,oE 1 14 .add 13 1,oM 2 4 14])))))
def XX:qP:=⟨1,28,[.l 2 (some 1)],sr [oP 0 2 (.lalloc (.agg [.nils]))] (sr [oP 0 5 (.build (.agg [.nils]) []),oP 1 3 (.lalloc (.agg [.nils])),oS 2 3 0 1 5] (.seq qRE (sr [oY 0 27 3 0 1,oS 1 2 0 1 27] .ret)))⟩
def qVP:List qB:=[oM 0 3 0,oK 1 4 3,oF 2 5 0 4,oL 3 6 5,oM 4 7 0,oK 5 8 7,oF 6 9 1 8,oP 8 11 (.mov (.c (.lst 3 [] true))),oM 9 12 0,oK 10 13 12,oF 11 14 2 13,oL 12 15 14,⟨7,some 10,none,.call 489 [.t 9],[⟨3,some 6,none,.load none (.t 5),[]⟩,⟨12,some 15,none,.load none (.t 14),[]⟩]⟩,⟨13,some 16,none,.app 3 (.t 11) (.t 15),[⟨3,some 6,none,.load none (.t 5),[]⟩]⟩,oP 14 17 (.build (.agg [.int .i64 0,.nils,.nils]) [(0,1,.t 6),(1,1,.t 10),(2,1,.t 16)]),oS 15 2 0 3 17]
def Xb:qP:=⟨1,18,[.l 2 (some 3)],sr [oP 0 2 (.lalloc (.agg [.int .i64 0,.nils,.nils]))] (sr qVP .ret)⟩
def qP0:List qB:=[oM 0 6 0,oK 1 7 6,oF 2 8 1 7,oL 3 9 8,oM 5 11 0,oK 6 12 11,oF 7 13 2 12,oL 8 14 13,oM 9 15 0,oK 10 16 15,oF 11 17 3 16,oL 12 18 17,oM 13 19 0,oK 14 20 19,oF 15 21 4 20,oP 17 23 (.mov (.c (.lst 3 [] true))),oM 18 24 0,oK 19 25 24,oF 20 26 5 25,oL 21 27 26,oP 23 29 (.mov (.c (.lst 2 [] true))),oM 24 30 0,oK 25 31 30,oF 26 32 6 31,oL 27 33 32,oP 30 3 (.lalloc (.agg [.nils,.nils,.int .i64 0,.int .i64 0,.nils,.nils,.nils,.nils])),⟨4,some 10,none,.call 402 [.t 9],[⟨8,some 14,none,.load none (.t 13),[]⟩,⟨12,some 18,none,.load none (.t 17),[]⟩,⟨21,some 27,none,.load none (.t 26),[]⟩,⟨27,some 33,none,.load none (.t 32),[]⟩]⟩,⟨16,some 22,none,.call 489 [.t 21],[⟨8,some 14,none,.load none (.t 13),[]⟩,⟨12,some 18,none,.load none (.t 17),[]⟩,⟨21,some 27,none,.load none (.t 26),[]⟩,⟨27,some 33,none,.load none (.t 32),[]⟩]⟩,⟨22,some 28,none,.app 3 (.t 23) (.t 27),[⟨8,some 14,none,.load none (.t 13),[]⟩,⟨12,some 18,none,.load none (.t 17),[]⟩,⟨27,some 33,none,.load none (.t 32),[]⟩]⟩,⟨28,some 34,none,.app 2 (.t 29) (.t 33),[⟨8,some 14,none,.load none (.t 13),[]⟩,⟨12,some 18,none,.load none (.t 17),[]⟩]⟩,oP 29 35 (.build (.agg [.nils,.nils,.int .i64 0,.int .i64 0,.nils,.nils,.nils,.nils]) [(1,1,.t 10),(2,1,.t 14),(3,1,.t 18),(4,1,.t 22),(5,1,.t 28),(6,1,.t 34)]),oS 31 3 0 8 35]
def qP1:List qB:=[oM 0 36 4,oM 1 37 0,oK 2 38 37,oF 3 39 0 38,oL 4 40 39,oW 5 41 40,oB 6 42 .lss 36 41]
def qP2:List qB:=[oU 0 45 3,oX 1 46 3 0,oM 2 47 0,oK 3 48 47,oF 4 49 0 48,oL 5 50 49,oM 6 51 4,oA 7 52 1 50 51,oD1 8 53 489 52,oP 9 54 (.bslice 1 (.agg [.nils]) 1 [(0,.t 53)]),oP 10 55 (.app 1 (.t 46) (.t 54)),oU 11 56 3,oS 12 3 0 1 55]
def qPY:qL:=sr [oC 0 4 0] (.blk 0 (.loop (.seq (sr qP1 (.cond (.t 42) .skip (.exit 0))) (.seq (.blk 1 (.reg true qP2)) (.reg true [oM 0 43 4,oE 1 44 .add 43 1,oM 2 4 44])))))
def qP3:List qB:=[oM 0 57 5,oM 1 58 0,oK 2 59 58,oF 3 60 7 59,oL 4 61 60,oW 5 62 61,oB 6 63 .lss 57 62]
def qP4:List qB:=[oU 0 66 3,oX 1 67 3 7,oM 2 68 0,oK 3 69 68,oF 4 70 7 69,oL 5 71 70,oM 6 72 5,oA 7 73 3 71 72,oD1 8 74 795 73,oP 9 75 (.bslice 3 (.agg [.int .i64 0,.nils,.nils]) 1 [(0,.t 74)]),oP 10 76 (.app 3 (.t 67) (.t 75)),oU 11 77 3,oS 12 3 7 1 76]
def qPZ:qL:=sr [oC 0 5 0] (.blk 2 (.loop (.seq (sr qP3 (.cond (.t 63) .skip (.exit 2))) (.seq (.blk 3 (.reg true qP4)) (.reg true [oM 0 64 5,oE 1 65 .add 64 1,oM 2 5 65])))))
def K0:qP:=⟨1,79,[.l 2 (some 8)],sr [oP 0 2 (.lalloc (.agg [.nils,.nils,.int .i64 0,.int .i64 0,.nils,.nils,.nils,.nils]))] (sr qP0 (.seq qPY (.seq qPZ (sr [oY 0 78 3 0 8,oS 1 2 0 8 78] .ret))))⟩
def qO4:List qB:=[oP 0 5 (.mov (.c (.lst 1 [] true))),oM 1 6 0,oP 2 7 (.app 1 (.t 5) (.t 6)),oM 3 2 7]
def F401:qP:=⟨1,8,[.t 2],sr [oP 0 2 (.mov (.c (.nils)))] (.seq (sr [oM 0 3 0,oP 1 4 (.isnil 1 false (.t 3))] (.cond (.t 4) (sr [oP 0 2 (.mov (.c (.nils)))] .ret) .skip)) (sr qO4 .ret))⟩
def qKH:List qB:=[oP 0 5 (.mov (.c (.lst 2 [] true))),oM 1 6 0,oP 2 7 (.app 2 (.t 5) (.t 6)),oM 3 2 7]
def qKG:qP:=⟨1,8,[.t 2],sr [oP 0 2 (.mov (.c (.nils)))] (.seq (sr [oM 0 3 0,oP 1 4 (.isnil 1 false (.t 3))] (.cond (.t 4) (sr [oP 0 2 (.mov (.c (.nils)))] .ret) .skip)) (sr qKH .ret))⟩
def qD6:List qB:=[oU 0 3 1,oX 1 4 1 3,oU 3 6 1,oX 4 7 1 4,oD1 2 5 401 4,oU 6 9 1,oD1 5 8 1373 7,oS 7 1 3 1 5,oU 8 10 1,oS 9 1 4 1 8]
def UZ:qP:=⟨1,12,[.l 2 (some 5)],sr [oP 0 1 (.lbox 5 (.t 0)),oP 1 2 (.lalloc (.agg [.int .i64 0,.int .i64 0,.int .i64 0,.nils,.nils]))] (sr qD6 (sr [oY 0 11 1 0 5,oS 1 2 0 5 11] .ret))⟩
def qVW:List qB:=[oU 0 6 1,oX 1 7 1 0,oW 2 8 7,oP 3 9 (.mksl 5 (.agg [.int .i64 0,.int .i64 0,.int .i64 0,.nils,.nils]) (.c (.int .i64 0)) (.t 8)),oP 4 10 (.build (.agg [.nils]) [(0,1,.t 9)]),oP 5 3 (.lalloc (.agg [.nils])),oS 6 3 0 1 10]
def qVX:List qB:=[oU 0 11 1,oX 1 12 1 0,oW 2 13 12,oC 3 14 0]
def qVY:List qB:=[oA 0 16 5 12 14,oP 1 17 (.load (some 5) (.t 16)),oP 2 5 (.lalloc (.agg [.int .i64 0,.int .i64 0,.int .i64 0,.nils,.nils])),oS 3 5 0 5 17]
def qVZ:List qB:=[oU 0 18 3,oX 1 19 3 0,oY 2 20 5 0 5,oD1 3 21 1085 20,oP 4 22 (.bslice 5 (.agg [.int .i64 0,.int .i64 0,.int .i64 0,.nils,.nils]) 1 [(0,.t 21)]),oP 5 23 (.app 5 (.t 19) (.t 22)),oU 6 24 3,oS 7 3 0 1 23]
def qVV:qL:=.loop (sr [oB 0 15 .lss 14 13] (.seq (.cond (.t 15) .skip (.exit 0)) (.seq (.blk 1 (sr qVY (.reg true qVZ))) (.reg true [oE 0 25 .add 14 1,oM 1 14 25]))))
def F798:qP:=⟨1,27,[.l 2 (some 1)],sr [oP 0 1 (.lbox 1 (.t 0)),oP 1 2 (.lalloc (.agg [.nils]))] (sr qVW (.seq (sr qVX (.blk 0 qVV)) (sr [oY 0 26 3 0 1,oS 1 2 0 1 26] .ret)))⟩
def qVT:List qB:=[oA 0 10 1 6 8,oP 1 11 (.load (some 1) (.t 10)),oP 2 5 (.lalloc (.agg [.nils])),oS 3 5 0 1 11]
def qVU:List qB:=[oM 0 12 3,oY 1 13 5 0 1,oD1 2 14 798 13,oP 3 15 (.bslice 1 (.agg [.nils]) 1 [(0,.t 14)]),oP 4 16 (.app 1 (.t 12) (.t 15)),oM 5 3 16]
def qVR:qL:=.loop (sr [oB 0 9 .lss 8 7] (.seq (.cond (.t 9) .skip (.exit 0)) (.seq (.blk 1 (sr qVT (.reg true qVU))) (.reg true [oE 0 17 .add 8 1,oM 1 8 17]))))
def qVS:qL:=sr [oP 0 3 (.mov (.c (.nils)))] (.seq (sr [oM 0 6 0,oW 1 7 6,oC 2 8 0] (.blk 0 qVR)) (sr [oM 0 18 3,oM 1 2 18] .ret))
def F797:qP:=⟨1,19,[.t 2],sr [oP 0 2 (.mov (.c (.nils)))] qVS⟩
def qV0:List qB:=[oP 0 5 (.mov (.c (.lst 3 [] true))),oM 1 6 0,oP 2 7 (.app 3 (.t 5) (.t 6)),oM 3 2 7]
def F799:qP:=⟨1,8,[.t 2],sr [oP 0 2 (.mov (.c (.nils)))] (.seq (sr [oM 0 3 0,oP 1 4 (.isnil 1 false (.t 3))] (.cond (.t 4) (sr [oP 0 2 (.mov (.c (.nils)))] .ret) .skip)) (sr qV0 .ret))⟩
def qV1:List qB:=[oP 0 5 (.mov (.c (.lst 2 [] true))),oM 1 6 0,oP 2 7 (.app 2 (.t 5) (.t 6)),oM 3 2 7]
def F800:qP:=⟨1,8,[.t 2],sr [oP 0 2 (.mov (.c (.nils)))] (.seq (sr [oM 0 3 0,oP 1 4 (.isnil 1 false (.t 3))] (.cond (.t 4) (sr [oP 0 2 (.mov (.c (.nils)))] .ret) .skip)) (sr qV1 .ret))⟩
def qQB:List qB:=[oU 0 8 1,oX 1 9 1 0,oU 3 11 1,oX 4 12 1 1,oU 6 14 1,oY 7 15 1 4 1,oU 9 17 1,oX 10 18 1 5,oU 12 20 1,oX 13 21 1 6,oD1 2 10 797 9,oU 15 23 1,oD1 5 13 401 12,oD1 8 16 798 15,oD1 11 19 799 18,oD1 14 22 800 21,oS 16 1 0 1 10,oU 17 24 1,oS 18 1 1 1 13,oU 19 25 1,oS 20 1 4 1 16,oU 21 26 1,oS 22 1 5 1 19,oU 23 27 1,oS 24 1 6 1 22,oU 25 28 1,oN 26 (.lstore 1 7 1 (.c (.nils)))]
def qQC:List qB:=[oA 0 33 3 29 31,oP 1 34 (.load (some 3) (.t 33)),oP 2 5 (.lalloc (.agg [.int .i64 0,.nils,.nils])),oS 3 5 0 3 34]
def qQD:List qB:=[oU 0 35 1,oX 1 36 1 7,oU 2 37 5,oX 3 38 5 0,oU 4 39 5,oY 5 40 5 1 1,oU 7 42 5,oX 8 43 5 2,oD1 6 41 798 40,oD1 9 44 799 43,oP 10 45 (.build (.agg [.int .i64 0,.nils,.nils]) [(0,1,.t 38),(1,1,.t 41),(2,1,.t 44)]),oP 11 46 (.bslice 3 (.agg [.int .i64 0,.nils,.nils]) 1 [(0,.t 45)]),oP 12 47 (.app 3 (.t 36) (.t 46)),oU 13 48 1,oS 14 1 7 1 47]
def qP9:qL:=.loop (sr [oB 0 32 .lss 31 30] (.seq (.cond (.t 32) .skip (.exit 0)) (.seq (.blk 1 (sr qQC (.reg true qQD))) (.reg true [oE 0 49 .add 31 1,oM 1 31 49]))))
def qQA:qL:=sr [oU 0 6 1,oX 1 7 1 7,oM 2 3 7] (sr qQB (.seq (sr [oM 0 29 3,oW 1 30 29,oC 2 31 0] (.blk 0 qP9)) (sr [oY 0 50 1 0 8,oS 1 2 0 8 50] .ret)))
def K3:qP:=⟨1,51,[.l 2 (some 8)],sr [oP 0 1 (.lbox 8 (.t 0)),oP 1 2 (.lalloc (.agg [.nils,.nils,.int .i64 0,.int .i64 0,.nils,.nils,.nils,.nils]))] qQA⟩
def qWW:List qB:=[oM 0 6 5,oM 1 7 0,oW 2 8 7,oB 3 9 .lss 6 8]
def qWX:List qB:=[oM 0 12 0,oM 1 13 5,oM 2 14 1,oA 3 15 1 12 13,oT 4 1 15 14]
def qWV:qL:=.seq (.blk 1 (sr qWX (.reg true [oM 0 16 1,oE 1 17 .add 16 1,oM 2 1 17]))) (.reg true [oM 0 10 5,oE 1 11 .add 10 1,oM 2 5 11])
def F90:qP:=⟨2,19,[.t 4],sr [oC 0 4 0] (.seq (sr [oC 0 5 0] (.blk 0 (.loop (.seq (sr qWW (.cond (.t 9) .skip (.exit 0))) qWV)))) (sr [oM 0 18 1,oM 1 4 18] .ret))⟩
def qWN:List qB:=[oM 0 6 5,oM 1 7 0,oW 2 8 7,oB 3 9 .lss 6 8]
def qWO:List qB:=[oM 0 12 0,oM 1 13 5,oM 2 14 1,oA 3 15 2 12 13,oF 4 16 0 15,oT 5 1 16 14]
def qWP:List qB:=[oM 0 19 0,oM 1 20 5,oM 2 21 1,oA 3 22 2 19 20,oF 4 23 1 22,oT 5 1 23 21]
def qWL:qL:=sr [oM 0 17 1,oE 1 18 .add 17 1,oM 2 1 18] (sr qWP (.reg true [oM 0 24 1,oE 1 25 .add 24 1,oM 2 1 25]))
def qWM:qL:=sr [oC 0 5 0] (.blk 0 (.loop (.seq (sr qWN (.cond (.t 9) .skip (.exit 0))) (.seq (.blk 1 (sr qWO qWL)) (.reg true [oM 0 10 5,oE 1 11 .add 10 1,oM 2 5 11])))))
def F885:qP:=⟨2,27,[.t 4],sr [oC 0 4 0] (.seq qWM (sr [oM 0 26 1,oM 1 4 26] .ret))⟩
def qRN:List qB:=[oM 0 6 5,oM 1 7 0,oW 2 8 7,oB 3 9 .lss 6 8]
def qRO:List qB:=[oM 0 12 0,oM 1 13 5,oM 2 14 1,oA 3 15 5 12 13,oF 4 16 0 15,oT 5 1 16 14]
def qRP:List qB:=[oM 0 19 0,oM 1 20 5,oM 2 21 1,oA 3 22 5 19 20,oF 4 23 1 22,oT 5 1 23 21]
def qRQ:List qB:=[oM 0 26 0,oM 1 27 5,oM 2 28 1,oA 3 29 5 26 27,oF 4 30 2 29,oT 5 1 30 28]
def qRR:List qB:=[oM 0 33 0,oM 1 34 5,oA 2 35 5 33 34,oF 3 36 3 35,oL 4 37 36,oM 5 38 1,oD2 6 39 90 37 38,oM 7 1 39]
def qRS:List qB:=[oM 0 40 0,oM 1 41 5,oA 2 42 5 40 41,oF 3 43 4 42,oL 4 44 43,oM 5 45 1,oD2 6 46 885 44 45,oM 7 1 46]
def qRL:qL:=sr [oM 0 24 1,oE 1 25 .add 24 1,oM 2 1 25] (sr qRQ (sr [oM 0 31 1,oE 1 32 .add 31 1,oM 2 1 32] (sr qRR (.reg true qRS))))
def qRM:qL:=.seq (.blk 1 (sr qRO (sr [oM 0 17 1,oE 1 18 .add 17 1,oM 2 1 18] (sr qRP qRL)))) (.reg true [oM 0 10 5,oE 1 11 .add 10 1,oM 2 5 11])
def kM:qP:=⟨2,48,[.t 4],sr [oC 0 4 0] (.seq (sr [oC 0 5 0] (.blk 0 (.loop (.seq (sr qRN (.cond (.t 9) .skip (.exit 0))) qRM)))) (sr [oM 0 47 1,oM 1 4 47] .ret))⟩
def qM3:List qB:=[oU 0 5 2,oX 1 6 2 0,oM 2 7 1,oD2 3 8 524 6 7,oM 4 1 8]
def Kf:qP:=⟨2,10,[.t 4],sr [oP 0 2 (.lbox 1 (.t 0)),oC 1 4 0] (sr qM3 (sr [oM 0 9 1,oM 1 4 9] .ret))⟩
def qM7:List qB:=[oM 0 6 5,oM 1 7 0,oW 2 8 7,oB 3 9 .lss 6 8]
def qM8:List qB:=[oM 0 12 0,oM 1 13 5,oA 2 14 1 12 13,oF 3 15 0 14,oL 4 16 15,oM 5 17 1,oD2 6 18 524 16 17,oM 7 1 18]
def qM6:qL:=sr [oC 0 5 0] (.blk 0 (.loop (.seq (sr qM7 (.cond (.t 9) .skip (.exit 0))) (.seq (.blk 1 (.reg true qM8)) (.reg true [oM 0 10 5,oE 1 11 .add 10 1,oM 2 5 11])))))
def Kh:qP:=⟨2,20,[.t 4],sr [oC 0 4 0] (.seq qM6 (sr [oM 0 19 1,oM 1 4 19] .ret))⟩
def qQG:List qB:=[oM 0 6 5,oM 1 7 0,oW 2 8 7,oB 3 9 .lss 6 8]
def qQH:List qB:=[oM 0 12 0,oM 1 13 5,oM 2 14 1,oA 3 15 3 12 13,oF 4 16 0 15,oT 5 1 16 14]
def qQI:List qB:=[oM 0 19 0,oM 1 20 5,oM 2 21 1,oA 3 22 3 19 20,oF 4 23 1 22,oT 5 1 23 21]
def qQJ:List qB:=[oM 0 26 0,oM 1 27 5,oM 2 28 1,oA 3 29 3 26 27,oF 4 30 2 29,oT 5 1 30 28]
def qQE:qL:=sr [oM 0 24 1,oE 1 25 .add 24 1,oM 2 1 25] (sr qQJ (.reg true [oM 0 31 1,oE 1 32 .add 31 1,oM 2 1 32]))
def qQF:qL:=.seq (.blk 1 (sr qQH (sr [oM 0 17 1,oE 1 18 .add 17 1,oM 2 1 18] (sr qQI qQE)))) (.reg true [oM 0 10 5,oE 1 11 .add 10 1,oM 2 5 11])
def K4:qP:=⟨2,34,[.t 4],sr [oC 0 4 0] (.seq (sr [oC 0 5 0] (.blk 0 (.loop (.seq (sr qQG (.cond (.t 9) .skip (.exit 0))) qQF)))) (sr [oM 0 33 1,oM 1 4 33] .ret))⟩
def qQM:List qB:=[oM 0 6 5,oM 1 7 0,oW 2 8 7,oB 3 9 .lss 6 8]
def qQN:List qB:=[oM 0 12 0,oM 1 13 5,oM 2 14 1,oA 3 15 2 12 13,oF 4 16 0 15,oT 5 1 16 14]
def qQO:List qB:=[oM 0 19 0,oM 1 20 5,oM 2 21 1,oA 3 22 2 19 20,oF 4 23 1 22,oT 5 1 23 21]
def qQK:qL:=sr [oM 0 17 1,oE 1 18 .add 17 1,oM 2 1 18] (sr qQO (.reg true [oM 0 24 1,oE 1 25 .add 24 1,oM 2 1 25]))
def qQL:qL:=sr [oC 0 5 0] (.blk 0 (.loop (.seq (sr qQM (.cond (.t 9) .skip (.exit 0))) (.seq (.blk 1 (sr qQN qQK)) (.reg true [oM 0 10 5,oE 1 11 .add 10 1,oM 2 5 11])))))
def K5:qP:=⟨2,27,[.t 4],sr [oC 0 4 0] (.seq qQL (sr [oM 0 26 1,oM 1 4 26] .ret))⟩
def qQQ:List qB:=[oM 0 6 5,oM 1 7 0,oW 2 8 7,oB 3 9 .lss 6 8]
def qQR:List qB:=[oM 0 12 0,oM 1 13 5,oM 2 14 1,oA 3 15 3 12 13,oF 4 16 0 15,oT 5 1 16 14]
def qQS:List qB:=[oM 0 19 0,oM 1 20 5,oA 2 21 3 19 20,oF 3 22 1 21,oF 4 23 0 22,oL 5 24 23,oM 6 25 1,oD2 7 26 524 24 25,oM 8 1 26]
def qQT:List qB:=[oM 0 27 0,oM 1 28 5,oA 2 29 3 27 28,oF 3 30 2 29,oL 4 31 30,oM 5 32 1,oD2 6 33 430 31 32,oM 7 1 33]
def qQP:qL:=.seq (.blk 1 (sr qQR (sr [oM 0 17 1,oE 1 18 .add 17 1,oM 2 1 18] (sr qQS (.reg true qQT))))) (.reg true [oM 0 10 5,oE 1 11 .add 10 1,oM 2 5 11])
def K6:qP:=⟨2,35,[.t 4],sr [oC 0 4 0] (.seq (sr [oC 0 5 0] (.blk 0 (.loop (.seq (sr qQQ (.cond (.t 9) .skip (.exit 0))) qQP)))) (sr [oM 0 34 1,oM 1 4 34] .ret))⟩
def qJ1:List qB:=[oU 0 5 2,oX 1 6 2 0,oM 2 7 1,oD2 3 8 225 6 7,oM 4 1 8]
def qJ2:List qB:=[oU 0 9 2,oX 1 10 2 1,oM 2 11 1,oD2 3 12 90 10 11,oM 4 1 12]
def qJ3:List qB:=[oU 0 13 2,oY 1 14 2 4 1,oM 2 15 1,oD2 3 16 198 14 15,oM 4 1 16]
def qJ4:List qB:=[oU 0 17 2,oX 1 18 2 5,oM 2 19 1,oD2 3 20 430 18 19,oM 4 1 20]
def qJ5:List qB:=[oU 0 21 2,oX 1 22 2 6,oM 2 23 1,oD2 3 24 431 22 23,oM 4 1 24]
def qJ6:List qB:=[oU 0 25 2,oX 1 26 2 7,oM 2 27 1,oD2 3 28 432 26 27,oM 4 1 28]
def qJ0:qL:=sr qJ1 (sr qJ2 (sr qJ3 (sr qJ4 (sr qJ5 (sr qJ6 (sr [oM 0 29 1,oM 1 4 29] .ret))))))
def U7:qP:=⟨2,30,[.t 4],sr [oP 0 2 (.lbox 8 (.t 0)),oC 1 4 0] qJ0⟩
def qWZ:List qB:=[oM 0 6 5,oM 1 7 0,oW 2 8 7,oB 3 9 .lss 6 8]
def qW0:List qB:=[oM 0 12 0,oM 1 13 5,oA 2 14 1 12 13,oL 3 15 14,oM 4 16 1,oB 5 17 .neq 15 16]
def qWY:qL:=.seq (.blk 1 (.seq (sr qW0 (.cond (.t 17) (sr [oP 0 4 (.mov (.c (.int .i64 (-1))))] .ret) .skip)) (.reg true [oM 0 18 1,oE 1 19 .add 18 1,oM 2 1 19]))) (.reg true [oM 0 10 5,oE 1 11 .add 10 1,oM 2 5 11])
def F92:qP:=⟨2,21,[.t 4],sr [oC 0 4 0] (.seq (sr [oC 0 5 0] (.blk 0 (.loop (.seq (sr qWZ (.cond (.t 9) .skip (.exit 0))) qWY)))) (sr [oM 0 20 1,oM 1 4 20] .ret))⟩
def qWS:List qB:=[oM 0 6 5,oM 1 7 0,oW 2 8 7,oB 3 9 .lss 6 8]
def qWT:List qB:=[oM 0 12 0,oM 1 13 5,oA 2 14 2 12 13,oF 3 15 0 14,oL 4 16 15,oM 5 17 1,oB 6 18 .neq 16 17]
def qWU:List qB:=[oM 0 21 0,oM 1 22 5,oA 2 23 2 21 22,oF 3 24 1 23,oL 4 25 24,oM 5 26 1,oB 6 27 .neq 25 26]
def qWQ:qL:=sr [oM 0 19 1,oE 1 20 .add 19 1,oM 2 1 20] (.seq (sr qWU (.cond (.t 27) (sr [oP 0 4 (.mov (.c (.int .i64 (-1))))] .ret) .skip)) (.reg true [oM 0 28 1,oE 1 29 .add 28 1,oM 2 1 29]))
def qWR:qL:=.loop (.seq (sr qWS (.cond (.t 9) .skip (.exit 0))) (.seq (.blk 1 (.seq (sr qWT (.cond (.t 18) (sr [oP 0 4 (.mov (.c (.int .i64 (-1))))] .ret) .skip)) qWQ)) (.reg true [oM 0 10 5,oE 1 11 .add 10 1,oM 2 5 11])))
def F886:qP:=⟨2,31,[.t 4],sr [oC 0 4 0] (.seq (sr [oC 0 5 0] (.blk 0 qWR)) (sr [oM 0 30 1,oM 1 4 30] .ret))⟩
def qRX:List qB:=[oM 0 6 5,oM 1 7 0,oW 2 8 7,oB 3 9 .lss 6 8]
def qRY:List qB:=[oM 0 12 0,oM 1 13 5,oA 2 14 5 12 13,oF 3 15 0 14,oL 4 16 15,oM 5 17 1,oB 6 18 .neq 16 17]
def qRZ:List qB:=[oM 0 21 0,oM 1 22 5,oA 2 23 5 21 22,oF 3 24 1 23,oL 4 25 24,oM 5 26 1,oB 6 27 .neq 25 26]
def qR0:List qB:=[oM 0 30 0,oM 1 31 5,oA 2 32 5 30 31,oF 3 33 2 32,oL 4 34 33,oM 5 35 1,oB 6 36 .neq 34 35]
def qR1:List qB:=[oM 0 39 0,oM 1 40 5,oA 2 41 5 39 40,oF 3 42 3 41,oL 4 43 42,oM 5 44 1,oD2 6 45 92 43 44,oM 7 1 45]
def qR2:List qB:=[oM 0 48 0,oM 1 49 5,oA 2 50 5 48 49,oF 3 51 4 50,oL 4 52 51,oM 5 53 1,oD2 6 54 886 52 53,oM 7 1 54]
def qRT:qL:=.seq (sr [oM 0 46 1,oE 1 47 .lss 46 0] (.cond (.t 47) (sr [oP 0 4 (.mov (.c (.int .i64 (-1))))] .ret) .skip)) (sr qR2 (sr [oM 0 55 1,oE 1 56 .lss 55 0] (.cond (.t 56) (sr [oP 0 4 (.mov (.c (.int .i64 (-1))))] .ret) .skip)))
def qRU:qL:=sr [oM 0 28 1,oE 1 29 .add 28 1,oM 2 1 29] (.seq (sr qR0 (.cond (.t 36) (sr [oP 0 4 (.mov (.c (.int .i64 (-1))))] .ret) .skip)) (sr [oM 0 37 1,oE 1 38 .add 37 1,oM 2 1 38] (sr qR1 qRT)))
def qRV:qL:=.seq (sr qRY (.cond (.t 18) (sr [oP 0 4 (.mov (.c (.int .i64 (-1))))] .ret) .skip)) (sr [oM 0 19 1,oE 1 20 .add 19 1,oM 2 1 20] (.seq (sr qRZ (.cond (.t 27) (sr [oP 0 4 (.mov (.c (.int .i64 (-1))))] .ret) .skip)) qRU))
def qRW:qL:=sr [oC 0 5 0] (.blk 0 (.loop (.seq (sr qRX (.cond (.t 9) .skip (.exit 0))) (.seq (.blk 1 qRV) (.reg true [oM 0 10 5,oE 1 11 .add 10 1,oM 2 5 11])))))
def kN:qP:=⟨2,58,[.t 4],sr [oC 0 4 0] (.seq qRW (sr [oM 0 57 1,oM 1 4 57] .ret))⟩
def qM5:List qB:=[oU 0 5 2,oX 1 6 2 0,oM 2 7 1,oD2 3 8 525 6 7,oM 4 1 8]
def qM4:qL:=sr qM5 (.seq (sr [oM 0 9 1,oE 1 10 .lss 9 0] (.cond (.t 10) (sr [oP 0 4 (.mov (.c (.int .i64 (-1))))] .ret) .skip)) (sr [oM 0 11 1,oM 1 4 11] .ret))
def Kg:qP:=⟨2,12,[.t 4],sr [oP 0 2 (.lbox 1 (.t 0)),oC 1 4 0] qM4⟩
def qNA:List qB:=[oM 0 6 5,oM 1 7 0,oW 2 8 7,oB 3 9 .lss 6 8]
def qNB:List qB:=[oM 0 12 0,oM 1 13 5,oA 2 14 1 12 13,oF 3 15 0 14,oL 4 16 15,oM 5 17 1,oD2 6 18 525 16 17,oM 7 1 18]
def qM9:qL:=.seq (.blk 1 (sr qNB (sr [oM 0 19 1,oE 1 20 .lss 19 0] (.cond (.t 20) (sr [oP 0 4 (.mov (.c (.int .i64 (-1))))] .ret) .skip)))) (.reg true [oM 0 10 5,oE 1 11 .add 10 1,oM 2 5 11])
def Ki:qP:=⟨2,22,[.t 4],sr [oC 0 4 0] (.seq (sr [oC 0 5 0] (.blk 0 (.loop (.seq (sr qNA (.cond (.t 9) .skip (.exit 0))) qM9)))) (sr [oM 0 21 1,oM 1 4 21] .ret))⟩
def qQX:List qB:=[oM 0 6 5,oM 1 7 0,oW 2 8 7,oB 3 9 .lss 6 8]
def qQY:List qB:=[oM 0 12 0,oM 1 13 5,oA 2 14 3 12 13,oF 3 15 0 14,oL 4 16 15,oM 5 17 1,oB 6 18 .neq 16 17]
def qQZ:List qB:=[oM 0 21 0,oM 1 22 5,oA 2 23 3 21 22,oF 3 24 1 23,oL 4 25 24,oM 5 26 1,oB 6 27 .neq 25 26]
def qQ0:List qB:=[oM 0 30 0,oM 1 31 5,oA 2 32 3 30 31,oF 3 33 2 32,oL 4 34 33,oM 5 35 1,oB 6 36 .neq 34 35]
def qQU:qL:=sr [oM 0 28 1,oE 1 29 .add 28 1,oM 2 1 29] (.seq (sr qQ0 (.cond (.t 36) (sr [oP 0 4 (.mov (.c (.int .i64 (-1))))] .ret) .skip)) (.reg true [oM 0 37 1,oE 1 38 .add 37 1,oM 2 1 38]))
def qQV:qL:=.seq (sr qQY (.cond (.t 18) (sr [oP 0 4 (.mov (.c (.int .i64 (-1))))] .ret) .skip)) (sr [oM 0 19 1,oE 1 20 .add 19 1,oM 2 1 20] (.seq (sr qQZ (.cond (.t 27) (sr [oP 0 4 (.mov (.c (.int .i64 (-1))))] .ret) .skip)) qQU))
def qQW:qL:=sr [oC 0 5 0] (.blk 0 (.loop (.seq (sr qQX (.cond (.t 9) .skip (.exit 0))) (.seq (.blk 1 qQV) (.reg true [oM 0 10 5,oE 1 11 .add 10 1,oM 2 5 11])))))
def K7:qP:=⟨2,40,[.t 4],sr [oC 0 4 0] (.seq qQW (sr [oM 0 39 1,oM 1 4 39] .ret))⟩
def qQ3:List qB:=[oM 0 6 5,oM 1 7 0,oW 2 8 7,oB 3 9 .lss 6 8]
def qQ4:List qB:=[oM 0 12 0,oM 1 13 5,oA 2 14 2 12 13,oF 3 15 0 14,oL 4 16 15,oM 5 17 1,oB 6 18 .neq 16 17]
def qQ5:List qB:=[oM 0 21 0,oM 1 22 5,oA 2 23 2 21 22,oF 3 24 1 23,oL 4 25 24,oM 5 26 1,oB 6 27 .neq 25 26]
def qQ1:qL:=sr [oM 0 19 1,oE 1 20 .add 19 1,oM 2 1 20] (.seq (sr qQ5 (.cond (.t 27) (sr [oP 0 4 (.mov (.c (.int .i64 (-1))))] .ret) .skip)) (.reg true [oM 0 28 1,oE 1 29 .add 28 1,oM 2 1 29]))
def qQ2:qL:=.loop (.seq (sr qQ3 (.cond (.t 9) .skip (.exit 0))) (.seq (.blk 1 (.seq (sr qQ4 (.cond (.t 18) (sr [oP 0 4 (.mov (.c (.int .i64 (-1))))] .ret) .skip)) qQ1)) (.reg true [oM 0 10 5,oE 1 11 .add 10 1,oM 2 5 11])))
def K8:qP:=⟨2,31,[.t 4],sr [oC 0 4 0] (.seq (sr [oC 0 5 0] (.blk 0 qQ2)) (sr [oM 0 30 1,oM 1 4 30] .ret))⟩
def qQ8:List qB:=[oM 0 6 5,oM 1 7 0,oW 2 8 7,oB 3 9 .lss 6 8]
def qQ9:List qB:=[oM 0 12 0,oM 1 13 5,oA 2 14 3 12 13,oF 3 15 0 14,oL 4 16 15,oM 5 17 1,oB 6 18 .neq 16 17]
def qRA:List qB:=[oM 0 21 0,oM 1 22 5,oA 2 23 3 21 22,oF 3 24 1 23,oF 4 25 0 24,oL 5 26 25,oM 6 27 1,oD2 7 28 525 26 27,oM 8 1 28]
def qRB:List qB:=[oM 0 31 0,oM 1 32 5,oA 2 33 3 31 32,oF 3 34 2 33,oL 4 35 34,oM 5 36 1,oD2 6 37 433 35 36,oM 7 1 37]
def qQ6:qL:=.seq (sr [oM 0 29 1,oE 1 30 .lss 29 0] (.cond (.t 30) (sr [oP 0 4 (.mov (.c (.int .i64 (-1))))] .ret) .skip)) (sr qRB (sr [oM 0 38 1,oE 1 39 .lss 38 0] (.cond (.t 39) (sr [oP 0 4 (.mov (.c (.int .i64 (-1))))] .ret) .skip)))
def qQ7:qL:=.seq (.blk 1 (.seq (sr qQ9 (.cond (.t 18) (sr [oP 0 4 (.mov (.c (.int .i64 (-1))))] .ret) .skip)) (sr [oM 0 19 1,oE 1 20 .add 19 1,oM 2 1 20] (sr qRA qQ6)))) (.reg true [oM 0 10 5,oE 1 11 .add 10 1,oM 2 5 11])
def K9:qP:=⟨2,41,[.t 4],sr [oC 0 4 0] (.seq (sr [oC 0 5 0] (.blk 0 (.loop (.seq (sr qQ8 (.cond (.t 9) .skip (.exit 0))) qQ7)))) (sr [oM 0 40 1,oM 1 4 40] .ret))⟩
def qKM:List qB:=[oU 0 5 2,oX 1 6 2 0,oM 2 7 1,oD2 3 8 230 6 7,oM 4 1 8]
def qKN:List qB:=[oU 0 11 2,oX 1 12 2 1,oM 2 13 1,oD2 3 14 92 12 13,oM 4 1 14]
def qKO:List qB:=[oU 0 17 2,oY 1 18 2 4 1,oM 2 19 1,oD2 3 20 199 18 19,oM 4 1 20]
def qKP:List qB:=[oU 0 23 2,oX 1 24 2 5,oM 2 25 1,oD2 3 26 433 24 25,oM 4 1 26]
def qKQ:List qB:=[oU 0 29 2,oX 1 30 2 6,oM 2 31 1,oD2 3 32 434 30 31,oM 4 1 32]
def qKR:List qB:=[oU 0 35 2,oX 1 36 2 7,oM 2 37 1,oD2 3 38 435 36 37,oM 4 1 38]
def qKJ:qL:=sr qKR (.seq (sr [oM 0 39 1,oE 1 40 .lss 39 0] (.cond (.t 40) (sr [oP 0 4 (.mov (.c (.int .i64 (-1))))] .ret) .skip)) (sr [oM 0 41 1,oM 1 4 41] .ret))
def qKK:qL:=.seq (sr [oM 0 27 1,oE 1 28 .lss 27 0] (.cond (.t 28) (sr [oP 0 4 (.mov (.c (.int .i64 (-1))))] .ret) .skip)) (sr qKQ (.seq (sr [oM 0 33 1,oE 1 34 .lss 33 0] (.cond (.t 34) (sr [oP 0 4 (.mov (.c (.int .i64 (-1))))] .ret) .skip)) qKJ))
def qKL:qL:=.seq (sr [oM 0 15 1,oE 1 16 .lss 15 0] (.cond (.t 16) (sr [oP 0 4 (.mov (.c (.int .i64 (-1))))] .ret) .skip)) (sr qKO (.seq (sr [oM 0 21 1,oE 1 22 .lss 21 0] (.cond (.t 22) (sr [oP 0 4 (.mov (.c (.int .i64 (-1))))] .ret) .skip)) (sr qKP qKK)))
def U8:qP:=⟨2,42,[.t 4],sr [oP 0 2 (.lbox 8 (.t 0)),oC 1 4 0] (sr qKM (.seq (sr [oM 0 9 1,oE 1 10 .lss 9 0] (.cond (.t 10) (sr [oP 0 4 (.mov (.c (.int .i64 (-1))))] .ret) .skip)) (sr qKN qKL)))⟩
def qW2:List qB:=[oM 0 15 1,oM 1 16 2,oM 2 17 3,oM 3 18 4,oD1 4 19 402 18,oP 5 20 (.build (.agg [.int .i64 0,.int .i64 0,.int .i64 0,.nils,.nils]) [(0,1,.t 15),(1,1,.t 16),(2,1,.t 17),(3,1,.t 19)]),oP 6 13 (.lalloc (.agg [.int .i64 0,.int .i64 0,.int .i64 0,.nils,.nils])),oS 7 13 0 5 20]
def qW3:List qB:=[oU 0 26 13,oX 1 27 13 4,oP 2 28 (.build (.agg [.int .i64 0,.int .i64 0]) []),oP 3 29 (.bslice 2 (.agg [.int .i64 0,.int .i64 0]) 1 [(0,.t 28)]),oP 4 30 (.app 2 (.t 27) (.t 29)),oU 5 31 13,oS 6 13 4 1 30]
def qW1:qL:=.loop (.seq (sr [oM 0 22 14,oE 1 23 .gtr 22 0] (.cond (.t 23) .skip (.exit 0))) (.seq (.blk 1 (.reg true qW3)) (.reg true [oM 0 24 14,oE 1 25 .sub 24 1,oM 2 14 25])))
def qW4:List qB:=[oM 0 32 0,oM 1 33 0,oK 2 34 33,oF 3 35 0 34,oL 4 36 35,oY 5 37 13 0 5,oP 6 38 (.bslice 5 (.agg [.int .i64 0,.int .i64 0,.int .i64 0,.nils,.nils]) 1 [(0,.t 37)]),oP 7 39 (.app 5 (.t 36) (.t 38)),oK 8 40 32,oF 9 41 0 40,oT 10 1 41 39]
def qW5:List qB:=[oM 0 42 0,oK 1 43 42,oF 2 44 0 43,oL 3 45 44,oW 4 46 45,oE 5 47 .sub 46 1,oM 6 12 47]
def F949:qP:=⟨6,48,[.t 12],sr [oC 0 12 0] (sr qW2 (.seq (sr [oM 0 21 5,oM 1 14 21] (.blk 0 qW1)) (sr qW4 (sr qW5 .ret))))⟩
def qW6:List qB:=[oM 0 5 0,oM 1 6 1,oP 2 7 (.build (.agg [.int .i64 0,.int .i64 0]) [(0,1,.t 5),(1,1,.t 6)]),oS 3 4 0 2 7]
def F952:qP:=⟨2,8,[.l 4 (some 2)],sr [oP 0 4 (.lalloc (.agg [.int .i64 0,.int .i64 0]))] (sr qW6 .ret)⟩
def qV7:qL:=.seq (sr [oM 0 5 0,oM 1 6 1,oB 2 7 .gtr 5 6] (.cond (.t 7) (sr [oM 0 8 0,oM 1 4 8] .ret) .skip)) (sr [oM 0 9 1,oM 1 4 9] .ret)
def F856:qP:=⟨2,10,[.t 4],sr [oC 0 4 0] qV7⟩
def qFS:List qB:=[oM 0 5 4,oM 1 6 0,oK 2 7 6,oF 3 8 0 7,oL 4 9 8,oW 5 10 9,oB 6 11 .lss 5 10]
def qFT:List qB:=[oM 0 14 3,oM 1 15 0,oK 2 16 15,oF 3 17 0 16,oL 4 18 17,oM 5 19 4,oA 6 20 5 18 19,oF 7 21 1 20,oL 8 22 21,oD2 9 23 856 14 22,oM 10 3 23]
def qFR:qL:=sr [oC 0 4 0] (.blk 0 (.loop (.seq (sr qFS (.cond (.t 11) .skip (.exit 0))) (.seq (.blk 1 (.reg true qFT)) (.reg true [oM 0 12 4,oE 1 13 .add 12 1,oM 2 4 13])))))
def Ul:qP:=⟨1,25,[.t 2],sr [oC 0 2 0] (sr [oC 0 3 0] (.seq qFR (sr [oM 0 24 3,oM 1 2 24] .ret)))⟩
def qMB:qL:=.cond (.t 26) (sr [oC 0 6 2] (sr [oC 0 7 600] (.reg true [oM 0 28 1,oE 1 29 .sub 28 2,oM 2 8 29]))) (sr [oC 0 4 0,oC 1 5 2] .ret)
def qMC:qL:=.cond (.t 22) (sr [oC 0 7 3] (.reg true [oM 0 24 1,oE 1 25 .sub 24 1,oM 2 8 25])) (sr [oE 0 27 .eql 9 7,oM 1 26 27] qMB)
def qMD:qL:=.cond (.t 16) (sr [oC 0 7 3] (.reg true [oM 0 18 1,oE 1 19 .sub 18 2,oM 2 8 19])) (sr [oE 0 21 .eql 9 5,oM 1 20 21] (.cond (.t 20) (.reg true [oP 0 8 (.mov (.c (.int .i64 (-1))))]) (sr [oE 0 23 .eql 9 6,oM 1 22 23] qMC)))
def qME:qL:=sr [oE 0 14 .eql 9 3,oM 1 13 14] (.cond (.t 13) (sr [oC 0 7 3] (.reg true [oM 0 15 1,oM 1 8 15])) (sr [oE 0 17 .eql 9 4,oM 1 16 17] qMD))
def qMF:qL:=sr [oM 0 9 0] (.blk 0 (.seq (sr [oE 0 11 .eql 9 1,oM 1 10 11] (.cond (.t 10) .skip (.reg true [oE 0 12 .eql 9 2,oM 1 10 12]))) (.cond (.t 10) (.reg true [oP 0 8 (.mov (.c (.int .i64 (-2))))]) qME)))
def qMH:List qB:=[oM 0 30 1,oM 1 31 6,oM 2 32 7,oP 3 33 (.call 340 [.t 30,.t 31,.t 32]),oJ 4 34 33]
def qMG:qL:=sr [oC 0 8 0] (.seq qMF (.seq (sr qMH (.cond (.t 34) (sr [oC 0 4 0,oC 1 5 2] .ret) .skip)) (sr [oM 0 35 8,oM 1 4 35,oC 2 5 0] .ret)))
def KR:qP:=⟨2,36,[.t 4,.t 5],sr [oC 0 4 0,oC 1 5 0] (sr [oC 0 6 0] (sr [oC 0 7 0] qMG))⟩
def qF2:List qB:=[oM 0 17 1,oM 1 18 2,oM 2 19 3,oP 3 20 (.call 743 [.t 17,.t 18,.t 19]),oM 4 16 20,oV 5 21 16 0,oV 6 22 16 1,oM 7 2 21,oM 8 3 22]
def qF3:List qB:=[oM 0 23 1,oK 1 24 23,oF 2 25 0 24,oL 3 26 25,oM 4 27 2,oA 5 28 5 26 27,oM 6 10 28]
def qF5:List qB:=[oM 0 29 1,oK 1 30 29,oF 2 31 0 30,oL 3 32 31,oM 4 33 3,oA 5 34 5 32 33,oM 6 11 34]
def qF6:List qB:=[oM 0 35 10,oM 1 36 11,oD2 2 37 744 35 36,oM 3 12 37]
def qF7:List qB:=[oM 0 44 11,oK 1 45 44,oF 2 46 4 45,oL 3 47 46,oW 4 48 47,oE 5 49 .sub 48 1,oM 6 13 49]
def qF8:List qB:=[oM 0 56 10,oK 1 57 56,oF 2 58 2 57,oL 3 59 58,oM 4 60 0,oW 5 61 60,oB 6 62 .geq 59 61]
def qF9:List qB:=[oM 0 63 0,oM 1 64 10,oK 2 65 64,oF 3 66 2 65,oL 4 67 66,oA 5 68 1 63 67,oF 6 69 0 68,oL 7 70 69,oW 8 71 70,oM 9 13 71]
def qGA:List qB:=[oM 0 72 0,oM 1 73 10,oK 2 74 73,oF 3 75 2 74,oL 4 76 75,oA 5 77 1 72 76,oM 7 79 10,oK 8 80 79,oF 9 81 1 80,oL 10 82 81,⟨6,some 78,none,.call 1177 [.t 77],[⟨10,some 82,none,.load none (.t 81),[]⟩]⟩,oB 11 83 .add 78 82,oE 12 84 .gtr 83 8]
def qF0:qL:=.seq (sr qF8 (.cond (.t 62) (sr [oC 0 8 0,oC 1 9 3] .ret) .skip)) (sr qF9 (sr qGA (.cond (.t 84) (sr [oC 0 8 0,oC 1 9 9] .ret) .skip)))
def qF1:qL:=sr [oE 0 51 .eql 38 6,oM 1 50 51] (.cond (.t 50) (.reg true [oM 0 52 10,oD1 1 53 1384 52,oM 2 13 53]) (sr [oE 0 55 .eql 38 7,oM 1 54 55] (.cond (.t 54) qF0 .skip)))
def qFY:qL:=.cond (.t 39) (sr [oC 0 8 0,oC 1 9 11] .ret) (.seq (sr [oE 0 42 .eql 38 3,oM 1 41 42] (.cond (.t 41) .skip (.reg true [oE 0 43 .eql 38 4,oM 1 41 43]))) (.cond (.t 41) (.reg true qF7) qF1))
def qF4:List qB:=[oM 0 86 12,oM 1 87 13,oD2 2 88 1460 86 87,oM 3 85 88,oV 4 89 85 0,oV 5 90 85 1,oM 6 14 89,oM 7 15 90]
def qFZ:qL:=.seq (sr [oM 0 38 12] (.blk 0 (sr [oE 0 40 .eql 38 8,oM 1 39 40] qFY))) (sr qF4 (sr [oM 0 91 14,oM 1 8 91,oC 2 9 0] .ret))
def Uo:qP:=⟨4,92,[.t 8,.t 9],sr [oC 0 8 0,oC 1 9 0] (sr qF2 (sr qF3 (sr qF5 (sr qF6 (sr [oC 0 13 0] qFZ)))))⟩
def qGD:List qB:=[oM 0 5 4,oM 1 6 0,oK 2 7 6,oF 3 8 0 7,oL 4 9 8,oW 5 10 9,oB 6 11 .lss 5 10]
def qGE:List qB:=[oM 0 14 0,oK 1 15 14,oF 2 16 0 15,oL 3 17 16,oM 4 18 4,oA 5 19 5 17 18,oF 6 20 0 19,oL 7 21 20,oE 8 22 .neq 21 0]
def qGB:qL:=.seq (.blk 1 (sr qGE (.cond (.t 22) (.reg true [oM 0 23 3,oE 1 24 .add 23 1,oM 2 3 24]) .skip))) (.reg true [oM 0 12 4,oE 1 13 .add 12 1,oM 2 4 13])
def qGC:qL:=sr [oC 0 3 0] (.seq (sr [oC 0 4 0] (.blk 0 (.loop (.seq (sr qGD (.cond (.t 11) .skip (.exit 0))) qGB)))) (sr [oM 0 25 3,oM 1 2 25] .ret))
def Up:qP:=⟨1,26,[.t 2],sr [oC 0 2 0] qGC⟩
def qRH:List qB:=[oM 0 5 0,oK 1 6 5,oF 2 7 0 6,oL 3 8 7,oU 4 9 3,oX 5 10 3 0,oA 6 11 5 8 10,oF 7 12 4 11,oL 8 13 12,oU 9 14 3,oX 10 15 3 1,oA 11 16 2 13 15,oP 12 17 (.load (some 2) (.t 16)),oS 13 4 0 2 17]
def kG:qP:=⟨2,18,[.l 4 (some 2)],sr [oP 0 3 (.lbox 2 (.t 1)),oP 1 4 (.lalloc (.agg [.int .i64 0,.int .i64 0]))] (sr qRH .ret)⟩
def qRI:List qB:=[oM 0 6 0,oK 1 7 6,oF 2 8 0 7,oL 3 9 8,oU 4 10 4,oX 5 11 4 0,oA 6 12 5 9 11,oF 7 13 4 12,oL 8 14 13,oU 9 15 4,oX 10 16 4 1,oY 11 17 5 0 2,oA 12 18 2 14 16,oT 13 2 18 17]
def qRJ:List qB:=[oM 0 19 0,oK 1 20 19,oF 2 21 0 20,oL 3 22 21,oU 4 23 5,oX 5 24 5 0,oA 6 25 5 22 24,oF 7 26 4 25,oL 8 27 26,oU 9 28 5,oX 10 29 5 1,oY 11 30 4 0 2,oA 12 31 2 27 29,oT 13 2 31 30]
def kJ:qP:=⟨3,32,[],sr [oP 0 4 (.lbox 2 (.t 1)),oP 1 5 (.lbox 2 (.t 2))] (sr qRI (.reg true qRJ))⟩
def qGF:List qB:=[oM 0 8 0,oY 1 9 4 0 2,oD2 2 10 490 8 9,oP 3 6 (.lalloc (.agg [.int .i64 0,.int .i64 0])),oS 4 6 0 2 10]
def qGG:List qB:=[oM 0 11 0,oY 1 12 5 0 2,oD2 2 13 490 11 12,oP 3 7 (.lalloc (.agg [.int .i64 0,.int .i64 0])),oS 4 7 0 2 13]
def qGH:List qB:=[oM 0 17 0,oY 1 18 6 0 2,oY 2 19 7 0 2,oP 3 20 (.call 491 [.t 17,.t 18,.t 19])]
def Uq:qP:=⟨3,21,[],sr [oP 0 4 (.lbox 2 (.t 1)),oP 1 5 (.lbox 2 (.t 2))] (sr qGF (sr qGG (sr [oY 0 14 6 0 2,oY 1 15 5 0 2,oP 2 16 (.seq true [1,1] (.t 14) (.t 15))] (.cond (.t 16) (.reg true qGH) .skip))))⟩
def qGW:List qB:=[oM 0 6 0,oY 1 7 5 0 2,oM 2 8 0,oY 3 9 4 0 2,oD2 4 10 490 8 9,oP 5 11 (.call 491 [.t 6,.t 7,.t 10])]
def Us:qP:=⟨3,12,[],sr [oP 0 4 (.lbox 2 (.t 1)),oP 1 5 (.lbox 2 (.t 2))] (.reg true qGW)⟩
def qGL:List qB:=[oM 0 14 0,oK 1 15 14,oF 2 16 0 15,oL 3 17 16,oM 4 18 1,oA 5 19 5 17 18,oF 6 20 1 19,oL 7 21 20,oM 8 6 21]
def qGM:List qB:=[oM 0 22 0,oK 1 23 22,oF 2 24 0 23,oL 3 25 24,oM 4 26 2,oA 5 27 5 25 26,oD1 6 28 837 27,oP 7 7 (.lalloc (.agg [.int .i64 0,.int .i64 0,.int .i64 0,.nils,.nils])),oS 8 7 0 5 28]
def qGP:List qB:=[oU 0 29 7,oX 1 30 7 4,oW 2 31 30,oM 3 8 31]
def qGQ:List qB:=[oM 0 32 0,oU 1 33 7,oX 2 34 7 0,oU 3 35 7,oX 4 36 7 1,oU 5 37 7,oX 6 38 7 2,oU 7 39 7,oX 8 40 7 3,oM 9 41 8,oP 10 42 (.call 949 [.t 32,.t 34,.t 36,.t 38,.t 40,.t 41]),oM 11 9 42]
def qGR:List qB:=[oM 0 43 0,oU 1 44 7,oX 2 45 7 0,oU 3 46 7,oX 4 47 7 1,oU 5 48 7,oX 6 49 7 2,oU 7 50 7,oX 8 51 7 3,oM 9 52 8,oP 10 53 (.call 949 [.t 43,.t 45,.t 47,.t 49,.t 51,.t 52]),oM 11 10 53]
def qGS:List qB:=[oM 0 59 0,oM 1 60 6,oP 2 61 (.call 949 [.t 59,.c (.int .i64 4),.t 60,.c (.int .i64 0),.c (.nils),.c (.int .i64 3)]),oM 3 12 61]
def qGT:List qB:=[oM 0 62 0,oM 1 63 12,oP 2 64 (.call 952 [.t 63,.c (.int .i64 1)]),oM 3 65 9,oM 4 66 11,oD2 5 67 952 65 66,oP 6 68 (.call 491 [.t 62,.t 64,.t 67])]
def qGU:List qB:=[oM 0 69 0,oM 1 70 12,oP 2 71 (.call 952 [.t 70,.c (.int .i64 2)]),oM 3 72 10,oM 4 73 11,oD2 5 74 952 72 73,oP 6 75 (.call 491 [.t 69,.t 71,.t 74])]
def qGK:qL:=.seq (sr [oM 0 54 11,oM 1 55 8,oB 2 56 .lss 54 55] (.cond (.t 56) .skip (.exit 0))) (.seq (.blk 1 (sr qGS (sr qGT (.reg true qGU)))) (.reg true [oM 0 57 11,oE 1 58 .add 57 1,oM 2 11 58]))
def qGV:List qB:=[oM 0 76 0,oM 1 77 1,oP 2 78 (.call 952 [.t 77,.c (.int .i64 1)]),oM 3 79 9,oP 4 80 (.call 952 [.t 79,.c (.int .i64 0)]),oP 5 81 (.call 1300 [.t 76,.t 78,.t 80])]
def qGN:List qB:=[oM 0 82 0,oM 1 83 1,oP 2 84 (.call 952 [.t 83,.c (.int .i64 2)]),oM 3 85 10,oP 4 86 (.call 952 [.t 85,.c (.int .i64 0)]),oP 5 87 (.call 1300 [.t 82,.t 84,.t 86])]
def qGO:List qB:=[oM 0 93 0,oM 1 94 2,oM 2 95 13,oD2 3 96 952 94 95,oM 4 97 10,oM 5 98 13,oB 6 99 .add 97 98,oP 7 100 (.call 952 [.t 99,.c (.int .i64 0)]),oP 8 101 (.call 1300 [.t 93,.t 96,.t 100])]
def qGI:qL:=.seq (sr [oM 0 88 13,oM 1 89 8,oB 2 90 .lss 88 89] (.cond (.t 90) .skip (.exit 2))) (.seq (.blk 3 (.reg true qGO)) (.reg true [oM 0 91 13,oE 1 92 .add 91 1,oM 2 13 92]))
def qGJ:qL:=.seq (sr [oC 0 11 1] (.blk 0 (.loop qGK))) (sr qGV (sr qGN (sr [oC 0 13 1] (.blk 2 (.loop qGI)))))
def Ur:qP:=⟨3,102,[],sr qGL (sr qGM (sr qGP (sr qGQ (sr qGR qGJ))))⟩
def qFP:List qB:=[oM 0 3 0,oP 1 4 (.conv .u64 (.t 3)),oP 2 5 (.conv .u32 (.t 4)),oP 3 6 (.conv .i32 (.t 5)),oP 4 7 (.conv .i64 (.t 6)),oM 5 2 7]
def Uj:qP:=⟨1,8,[.t 2],sr [oC 0 2 0] (sr qFP .ret)⟩
def Uk:qP:=⟨1,4,[.t 2],sr [oC 0 2 0] (.seq (sr [oM 0 3 0] (.cond (.t 3) (sr [oC 0 2 1] .ret) .skip)) (sr [oC 0 2 0] .ret))⟩
def qVI:List qB:=[oM 0 16 7,oM 1 17 8,oB 2 18 .add 16 17,oD1 3 19 1125 18,oM 4 6 19]
def qVJ:List qB:=[oM 0 22 7,oM 1 23 8,oB 2 24 .sub 22 23,oD1 3 25 1125 24,oM 4 6 25]
def qVK:List qB:=[oM 0 28 7,oM 1 29 8,oB 2 30 .mul 28 29,oD1 3 31 1125 30,oM 4 6 31]
def qVL:List qB:=[oM 0 36 7,oM 1 37 8,oB 2 38 .quo 36 37,oD1 3 39 1125 38,oM 4 6 39]
def qVM:List qB:=[oM 0 42 7,oM 1 43 8,oB 2 44 .lss 42 43,oD1 3 45 1126 44,oM 4 6 45]
def qVN:List qB:=[oM 0 48 7,oM 1 49 8,oB 2 50 .eql 48 49,oD1 3 51 1126 50,oM 4 6 51]
def qVF:qL:=.cond (.t 32) (.seq (sr [oM 0 34 8,oE 1 35 .eql 34 0] (.cond (.t 35) (sr [oC 0 6 0] .ret) .skip)) (sr qVL .ret)) (sr [oE 0 41 .eql 13 5,oM 1 40 41] (.cond (.t 40) (sr qVM .ret) (sr [oE 0 47 .eql 13 6,oM 1 46 47] (.cond (.t 46) (sr qVN .ret) .skip))))
def qVG:qL:=sr [oE 0 21 .eql 13 2,oM 1 20 21] (.cond (.t 20) (sr qVJ .ret) (sr [oE 0 27 .eql 13 3,oM 1 26 27] (.cond (.t 26) (sr qVK .ret) (sr [oE 0 33 .eql 13 4,oM 1 32 33] qVF))))
def qVH:qL:=sr [oM 0 11 2,oD1 1 12 1125 11,oM 2 8 12] (.seq (sr [oM 0 13 0] (.blk 0 (sr [oE 0 15 .eql 13 1,oM 1 14 15] (.cond (.t 14) (sr qVI .ret) qVG)))) (sr [oC 0 6 0] .ret))
def F762:qP:=⟨3,52,[.t 6],sr [oC 0 6 0] (sr [oM 0 9 1,oD1 1 10 1125 9,oM 2 7 10] qVH)⟩
def qGY:List qB:=[oM 0 10 0,oK 1 11 10,oF 2 12 0 11,oL 3 13 12,oM 4 14 2,oA 5 15 5 13 14,oD1 6 16 837 15,oP 7 6 (.lalloc (.agg [.int .i64 0,.int .i64 0,.int .i64 0,.nils,.nils])),oS 8 6 0 5 16]
def qGZ:List qB:=[oM 0 17 0,oK 1 18 17,oF 2 19 0 18,oL 3 20 19,oM 4 21 1,oA 5 22 5 20 21,oF 6 23 2 22,oL 7 24 23,oM 8 7 24]
def qG0:List qB:=[oM 0 28 0,oU 1 29 6,oX 2 30 6 2,oU 3 31 6,oX 4 32 6 3,oP 5 33 (.iaddr 1 (.t 32) (.c (.int .i64 0))),oL 6 34 33,oM 7 35 7,oP 8 36 (.call 762 [.t 30,.t 34,.t 35]),oP 9 37 (.call 949 [.t 28,.c (.int .i64 6),.c (.int .i64 0),.t 36,.c (.nils),.c (.int .i64 1)]),oM 10 8 37]
def qG1:List qB:=[oM 0 38 0,oM 1 39 2,oP 2 40 (.call 952 [.t 39,.c (.int .i64 1)]),oM 3 41 8,oP 4 42 (.call 952 [.t 41,.c (.int .i64 0)]),oP 5 43 (.call 1300 [.t 38,.t 40,.t 42])]
def qG2:List qB:=[oM 0 44 0,oU 1 45 6,oX 2 46 6 1,oU 3 47 6,oX 4 48 6 2,oM 5 49 7,oP 6 50 (.bslice 1 (.int .i64 0) 1 [(0,.t 49)]),oP 7 51 (.call 949 [.t 44,.c (.int .i64 8),.t 46,.t 48,.t 50,.c (.int .i64 2)]),oM 8 9 51]
def qG3:List qB:=[oM 0 52 0,oM 1 53 2,oP 2 54 (.call 952 [.t 53,.c (.int .i64 1)]),oM 3 55 9,oP 4 56 (.call 952 [.t 55,.c (.int .i64 0)]),oP 5 57 (.call 1300 [.t 52,.t 54,.t 56])]
def qG4:List qB:=[oM 0 58 0,oM 1 59 2,oP 2 60 (.call 952 [.t 59,.c (.int .i64 2)]),oM 3 61 9,oP 4 62 (.call 952 [.t 61,.c (.int .i64 1)]),oP 5 63 (.call 1300 [.t 58,.t 60,.t 62])]
def qGX:qL:=.seq (sr [oU 0 25 6,oX 1 26 6 0,oE 2 27 .eql 26 8] (.cond (.t 27) (sr qG0 (sr qG1 .ret)) .skip)) (sr qG2 (sr qG3 (.reg true qG4)))
def Ut:qP:=⟨3,64,[],sr qGY (sr qGZ qGX)⟩
def qG8:List qB:=[oM 0 14 0,oK 1 15 14,oF 2 16 0 15,oL 3 17 16,oM 4 18 2,oA 5 19 5 17 18,oD1 6 20 837 19,oP 7 6 (.lalloc (.agg [.int .i64 0,.int .i64 0,.int .i64 0,.nils,.nils])),oS 8 6 0 5 20]
def qG9:List qB:=[oU 0 24 6,oX 1 25 6 3,oP 2 26 (.iaddr 1 (.t 25) (.c (.int .i64 1))),oL 3 27 26,oM 4 7 27]
def qHE:List qB:=[oM 0 28 0,oK 1 29 28,oF 2 30 0 29,oL 3 31 30,oM 4 32 1,oA 5 33 5 31 32,oF 6 34 2 33,oL 7 35 34,oE 8 36 .neq 35 0]
def qHF:List qB:=[oU 0 37 6,oX 1 38 6 3,oP 2 39 (.iaddr 1 (.t 38) (.c (.int .i64 0))),oL 3 40 39,oM 4 7 40]
def qHG:List qB:=[oM 0 41 0,oU 1 42 6,oX 2 43 6 1,oM 3 44 7,oP 4 45 (.call 949 [.t 41,.c (.int .i64 12),.t 43,.t 44,.c (.nils),.c (.int .i64 1)]),oM 5 8 45]
def qHH:List qB:=[oM 0 46 0,oM 1 47 2,oP 2 48 (.call 952 [.t 47,.c (.int .i64 1)]),oM 3 49 8,oP 4 50 (.call 952 [.t 49,.c (.int .i64 0)]),oP 5 51 (.call 1300 [.t 46,.t 48,.t 50])]
def qG7:qL:=sr [oU 0 21 6,oX 1 22 6 0,oE 2 23 .eql 22 11] (.cond (.t 23) (sr qG9 (.seq (sr qHE (.cond (.t 36) (.reg true qHF) .skip)) (sr qHG (sr qHH .ret)))) .skip)
def qHI:List qB:=[oM 0 52 0,oK 1 53 52,oF 2 54 0 53,oL 3 55 54,oM 4 56 1,oA 5 57 5 55 56,oD1 6 58 1384 57,oM 7 9 58]
def qHJ:List qB:=[oM 0 59 0,oU 1 60 6,oX 2 61 6 1,oU 3 62 6,oX 4 63 6 3,oM 5 64 0,oK 6 65 64,oF 7 66 0 65,oL 8 67 66,oM 9 68 1,oA 10 69 5 67 68,oF 11 70 2 69,oL 12 71 70,oA 13 72 1 63 71,oL 14 73 72,oP 15 74 (.call 949 [.t 59,.c (.int .i64 12),.t 61,.t 73,.c (.nils),.c (.int .i64 1)]),oM 16 10 74]
def qHK:List qB:=[oM 0 75 10,oP 1 76 (.call 952 [.t 75,.c (.int .i64 0)]),oP 2 11 (.lalloc (.agg [.int .i64 0,.int .i64 0])),oS 3 11 0 2 76]
def qHA:List qB:=[oM 0 82 0,oU 1 83 6,oX 2 84 6 1,oP 3 85 (.call 949 [.t 82,.c (.int .i64 3),.t 84,.c (.int .i64 0),.c (.nils),.c (.int .i64 3)]),oM 4 13 85]
def qHB:List qB:=[oM 0 86 0,oY 1 87 11 0 2,oM 2 88 13,oP 3 89 (.call 952 [.t 88,.c (.int .i64 0)]),oP 4 90 (.call 491 [.t 86,.t 87,.t 89])]
def qHC:List qB:=[oM 0 91 0,oM 1 92 1,oM 2 93 12,oD2 3 94 952 92 93,oM 4 95 13,oP 5 96 (.call 952 [.t 95,.c (.int .i64 1)]),oP 6 97 (.call 1300 [.t 91,.t 94,.t 96])]
def qG5:qL:=.seq (.blk 1 (sr qHA (sr qHB (sr qHC (.reg true [oM 0 98 13,oP 1 99 (.call 952 [.t 98,.c (.int .i64 2)]),oS 2 11 0 2 99]))))) (.reg true [oM 0 80 12,oE 1 81 .add 80 1,oM 2 12 81])
def qHD:List qB:=[oM 0 100 0,oM 1 101 2,oY 3 103 11 0 2,oP 2 102 (.call 952 [.t 101,.c (.int .i64 1)]),oP 4 104 (.call 1300 [.t 100,.t 102,.t 103])]
def qG6:qL:=.seq (sr [oC 0 12 1] (.blk 0 (.loop (.seq (sr [oM 0 77 12,oM 1 78 9,oB 2 79 .leq 77 78] (.cond (.t 79) .skip (.exit 0))) qG5)))) (.reg true qHD)
def Uu:qP:=⟨3,105,[],sr qG8 (.seq qG7 (sr qHI (sr qHJ (sr qHK qG6))))⟩
def qHN:List qB:=[oM 0 14 1,oK 1 15 14,oF 2 16 0 15,oL 3 17 16,oM 4 18 2,oA 5 19 5 17 18,oF 6 20 1 19,oL 7 21 20,oM 8 8 21]
def qHO:List qB:=[oM 0 22 1,oK 1 23 22,oF 2 24 0 23,oL 3 25 24,oW 4 26 25,oE 5 27 .sub 26 1,oM 6 9 27]
def qHR:List qB:=[oM 0 28 10,oM 1 29 0,oK 2 30 29,oF 3 31 0 30,oL 4 32 31,oW 5 33 32,oB 6 34 .lss 28 33]
def qHS:List qB:=[oM 0 37 0,oK 1 38 37,oF 2 39 0 38,oL 3 40 39,oM 4 41 10,oA 5 42 5 40 41,oD1 6 43 837 42,oP 7 11 (.lalloc (.agg [.int .i64 0,.int .i64 0,.int .i64 0,.nils,.nils])),oS 8 11 0 5 43]
def qHT:List qB:=[oU 0 47 11,oX 1 48 11 1,oM 2 49 8,oB 3 50 .add 48 49,oU 4 51 11,oS 5 11 1 1 50]
def qHU:List qB:=[oM 0 52 12,oU 1 53 11,oX 2 54 11 4,oW 3 55 54,oB 4 56 .lss 52 55]
def qHV:List qB:=[oU 0 59 11,oX 1 60 11 4,oM 2 61 12,oA 3 62 2 60 61,oF 4 63 0 62,oL 5 64 63,oM 6 65 9,oB 7 66 .add 64 65,oA 8 67 2 60 61,oF 9 68 0 67,oT 10 1 68 66]
def qHL:qL:=sr [oC 0 12 0] (.blk 2 (.loop (.seq (sr qHU (.cond (.t 56) .skip (.exit 2))) (.seq (.blk 3 (.reg true qHV)) (.reg true [oM 0 57 12,oE 1 58 .add 57 1,oM 2 12 58])))))
def qHW:List qB:=[oM 0 69 1,oM 1 70 1,oK 2 71 70,oF 3 72 0 71,oL 4 73 72,oY 5 74 11 0 5,oP 6 75 (.bslice 5 (.agg [.int .i64 0,.int .i64 0,.int .i64 0,.nils,.nils]) 1 [(0,.t 74)]),oP 7 76 (.app 5 (.t 73) (.t 75)),oK 8 77 69,oF 9 78 0 77,oT 10 1 78 76]
def qHM:qL:=.seq (.blk 1 (sr qHS (.seq (sr [oU 0 44 11,oX 1 45 11 0,oD1 2 46 1372 45] (.cond (.t 46) (.reg true qHT) .skip)) (.seq qHL (.reg true qHW))))) (.reg true [oM 0 35 10,oE 1 36 .add 35 1,oM 2 10 36])
def qHP:List qB:=[oM 0 79 0,oK 1 80 79,oF 2 81 0 80,oL 3 82 81,oP 4 83 (.iaddr 5 (.t 82) (.c (.int .i64 0))),oF 5 84 4 83,oL 6 85 84,oP 7 86 (.iaddr 2 (.t 85) (.c (.int .i64 0))),oP 8 87 (.load (some 2) (.t 86)),oP 9 13 (.lalloc (.agg [.int .i64 0,.int .i64 0])),oS 10 13 0 2 87]
def qHQ:List qB:=[oM 0 88 1,oM 1 89 9,oU 2 90 13,oX 3 91 13 0,oB 4 92 .add 89 91,oU 5 93 13,oX 6 94 13 1,oD2 7 95 952 92 94,oM 8 96 3,oP 9 97 (.call 952 [.t 96,.c (.int .i64 0)]),oP 10 98 (.call 491 [.t 88,.t 95,.t 97])]
def Uv:qP:=⟨4,99,[],sr qHN (sr qHO (.seq (sr [oC 0 10 1] (.blk 0 (.loop (.seq (sr qHR (.cond (.t 34) .skip (.exit 0))) qHM)))) (sr qHP (.reg true qHQ))))⟩
def qHX:List qB:=[oM 0 4 0,oK 1 5 4,oF 2 6 0 5,oL 3 7 6,oM 4 8 1,oP 5 9 (.build (.agg [.int .i64 0,.int .i64 0,.int .i64 0,.nils,.nils]) []),oA 6 10 5 7 8,oT 7 5 10 9]
def XS:qP:=⟨2,11,[],.reg true qHX⟩
def qXE:List qB:=[oM 0 16 0,oM 1 17 1,oM 2 18 2,oM 3 19 3,oP 4 20 (.call 1296 [.t 16,.t 17,.t 18,.t 19]),oM 5 15 20,oV 6 21 15 0,oV 7 22 15 1,oM 8 9 21,oM 9 10 22]
def qXF:List qB:=[oM 0 26 1,oD1 1 27 1297 26,oM 2 28 9,oB 3 29 .add 27 28,oE 4 30 .gtr 29 600]
def qXJ:List qB:=[oM 0 32 1,oM 1 33 2,oM 2 34 3,oP 3 35 (.call 743 [.t 32,.t 33,.t 34]),oM 4 31 35,oV 5 36 31 0,oV 6 37 31 1,oM 7 2 36,oM 8 3 37]
def qXK:List qB:=[oM 0 38 1,oK 1 39 38,oF 2 40 0 39,oL 3 41 40,oM 4 42 2,oA 5 43 5 41 42,oM 6 44 1,oK 7 45 44,oF 8 46 0 45,oL 9 47 46,oM 10 48 3,oA 11 49 5 47 48,oD2 12 50 744 43 49,oM 13 11 50]
def qXL:List qB:=[oM 0 55 1,oM 1 56 2,oP 2 57 (.call 952 [.t 56,.c (.int .i64 1)]),oM 3 58 3,oP 4 59 (.call 952 [.t 58,.c (.int .i64 1)]),oP 5 60 (.call 1298 [.t 55,.t 57,.t 59])]
def qXM:List qB:=[oM 0 61 1,oM 1 62 2,oP 2 63 (.call 952 [.t 62,.c (.int .i64 2)]),oM 3 64 3,oP 4 65 (.call 952 [.t 64,.c (.int .i64 2)]),oP 5 66 (.call 1298 [.t 61,.t 63,.t 65])]
def qXN:List qB:=[oM 0 69 1,oM 1 70 2,oM 2 71 3,oP 3 72 (.call 1299 [.t 69,.t 70,.t 71])]
def qXO:List qB:=[oM 0 75 1,oK 1 76 75,oF 2 77 0 76,oL 3 78 77,oM 4 79 3,oA 5 80 5 78 79,oF 6 81 4 80,oL 7 82 81,oW 8 83 82,oM 9 12 83]
def qXP:List qB:=[oM 0 91 1,oM 1 92 3,oM 2 93 13,oD2 3 94 952 92 93,oM 4 95 14,oP 5 96 (.call 952 [.t 95,.c (.int .i64 0)]),oP 6 97 (.call 1300 [.t 91,.t 94,.t 96])]
def qXD:qL:=.seq (.blk 2 (sr [oM 0 89 1,oP 1 90 (.call 949 [.t 89,.c (.int .i64 5),.c (.int .i64 0),.c (.int .i64 0),.c (.nils),.c (.int .i64 1)]),oM 2 14 90] (.reg true qXP))) (.reg true [oM 0 87 13,oE 1 88 .add 87 1,oM 2 13 88])
def qW8:qL:=sr qXO (sr [oC 0 13 1] (.blk 1 (.loop (.seq (sr [oM 0 84 13,oM 1 85 12,oB 2 86 .lss 84 85] (.cond (.t 86) .skip (.exit 1))) qXD))))
def qXG:List qB:=[oM 0 100 1,oM 1 101 2,oM 2 102 3,oP 3 103 (.call 1301 [.t 100,.t 101,.t 102])]
def qXH:List qB:=[oM 0 106 1,oM 1 107 2,oM 2 108 3,oP 3 109 (.call 1302 [.t 106,.t 107,.t 108])]
def qXI:List qB:=[oM 0 112 0,oM 1 113 1,oK 2 114 113,oF 3 115 0 114,oL 4 116 115,oM 5 117 2,oA 6 118 5 116 117,oF 7 119 2 118,oL 8 120 119,oA 9 121 1 112 120,oM 10 122 1,oM 11 123 2,oM 12 124 3,oP 13 125 (.call 1303 [.t 121,.t 122,.t 123,.t 124])]
def qW9:qL:=.cond (.t 98) (.reg true qXG) (sr [oE 0 105 .eql 51 6,oM 1 104 105] (.cond (.t 104) (.reg true qXH) (sr [oE 0 111 .eql 51 7,oM 1 110 111] (.cond (.t 110) (.reg true qXI) .skip))))
def qXA:qL:=sr [oE 0 68 .eql 51 3,oM 1 67 68] (.cond (.t 67) (.reg true qXN) (sr [oE 0 74 .eql 51 4,oM 1 73 74] (.cond (.t 73) qW8 (sr [oE 0 99 .eql 51 5,oM 1 98 99] qW9))))
def qXB:qL:=sr [oM 0 51 11] (.blk 0 (.seq (sr [oE 0 53 .eql 51 1,oM 1 52 53] (.cond (.t 52) .skip (.reg true [oE 0 54 .eql 51 2,oM 1 52 54]))) (.cond (.t 52) (sr qXL (.reg true qXM)) qXA)))
def qAA:qL:=.seq (sr [oM 0 129 11,oE 1 130 .neq 129 7] (.cond (.t 130) (.reg true [oM 0 131 1,oM 1 132 3,oD2 2 133 1304 131 132]) .skip)) (sr [oC 0 8 0] .ret)
def qXC:qL:=.seq (sr qXF (.cond (.t 30) (sr [oC 0 8 4] .ret) .skip)) (sr qXJ (sr qXK (.seq qXB (sr [oM 0 126 1,oM 1 127 2,oD2 2 128 1304 126 127] qAA))))
def F979:qP:=⟨4,134,[.t 8],sr [oC 0 8 0] (sr qXE (.seq (sr [oM 0 23 10,oE 1 24 .neq 23 0] (.cond (.t 24) (sr [oM 0 25 10,oM 1 8 25] .ret) .skip)) qXC))⟩
def qXR:List qB:=[oM 0 12 0,oE 1 13 .eql 12 3,oM 2 14 13,oH 3 15 14 true 1,oG 4 16 14 true (.bin .lss (.t 15) (.c (.int .i64 2))),oPf 5 17 14 16,oM 6 11 17]
def qXS:List qB:=[oM 0 18 2,oU 1 19 9,oX 2 20 9 1,oU 3 21 9,oX 4 22 9 2,oP 5 23 (.build (.agg [.int .i64 0,.int .i64 0,.int .i64 0]) [(0,1,.t 18),(1,1,.t 20),(2,1,.t 22)]),oS 6 10 0 3 23]
def qXT:List qB:=[oM 0 27 2,oM 1 28 3,oM 2 29 1,oE 3 30 .add 29 1,oP 4 31 (.build (.agg [.int .i64 0,.int .i64 0,.int .i64 0]) [(0,1,.t 27),(1,1,.t 28),(2,1,.t 30)]),oS 5 10 0 3 31]
def qXQ:qL:=.seq (.blk 0 (sr qXR (.cond (.t 11) (sr qXS .ret) (sr [oM 0 25 0,oE 1 26 .eql 25 7,oM 2 24 26] (.cond (.t 24) (sr qXT .ret) .skip))))) (sr [oM 0 32 2,oP 1 33 (.build (.agg [.int .i64 0,.int .i64 0,.int .i64 0]) [(0,1,.t 32),(1,1,.c (.int .i64 (-1))),(2,1,.c (.int .i64 (-1)))]),oS 2 10 0 3 33] .ret)
def F980:qP:=⟨5,34,[.l 10 (some 3)],sr [oP 0 9 (.lbox 3 (.t 4)),oP 1 10 (.lalloc (.agg [.int .i64 0,.int .i64 0,.int .i64 0]))] qXQ⟩
def qXY:List qB:=[oM 0 10 4,oM 1 11 0,oK 2 12 11,oF 3 13 0 12,oL 4 14 13,oW 5 15 14,oB 6 16 .lss 10 15]
def qXZ:List qB:=[oM 0 19 2,oM 1 20 3,oP 2 21 (.bslice 1 (.int .i64 0) 1 [(0,.t 20)]),oP 3 22 (.app 1 (.t 19) (.t 21)),oM 4 2 22]
def qX2:List qB:=[oM 0 23 0,oK 1 24 23,oF 2 25 0 24,oL 3 26 25,oM 4 27 4,oA 5 28 5 26 27,oF 6 29 0 28,oL 7 30 29,oE 8 31 .neq 30 0]
def qXW:qL:=.seq (.blk 1 (sr qXZ (sr qX2 (.cond (.t 31) (.reg true [oM 0 32 3,oE 1 33 .add 32 1,oM 2 3 33]) .skip)))) (.reg true [oM 0 17 4,oE 1 18 .add 17 1,oM 2 4 18])
def qX3:List qB:=[oM 0 35 6,oM 1 36 0,oK 2 37 36,oF 3 38 0 37,oL 4 39 38,oW 5 40 39,oB 6 41 .lss 35 40]
def qX4:List qB:=[oM 0 44 0,oK 1 45 44,oF 2 46 0 45,oL 3 47 46,oM 4 48 6,oA 5 49 5 47 48,oF 6 50 0 49,oL 7 51 50,oE 8 52 .neq 51 0]
def qX5:List qB:=[oM 0 53 0,oK 1 54 53,oF 2 55 0 54,oL 3 56 55,oM 4 57 6,oA 5 58 5 56 57,oD1 6 59 837 58,oP 7 7 (.lalloc (.agg [.int .i64 0,.int .i64 0,.int .i64 0,.nils,.nils])),oS 8 7 0 5 59]
def qX6:List qB:=[oM 0 60 8,oU 1 61 7,oX 2 62 7 4,oW 3 63 62,oB 4 64 .lss 60 63]
def qX7:List qB:=[oU 0 67 7,oX 1 68 7 4,oM 2 69 8,oM 3 70 2,oU 4 71 7,oX 5 72 7 4,oM 6 73 8,oA 7 74 2 72 73,oF 8 75 0 74,oL 9 76 75,oA 10 77 1 70 76,oL 11 78 77,oA 12 79 2 68 69,oF 13 80 0 79,oT 14 1 80 78]
def qXX:qL:=sr [oC 0 8 0] (.blk 4 (.loop (.seq (sr qX6 (.cond (.t 64) .skip (.exit 4))) (.seq (.blk 5 (.reg true qX7)) (.reg true [oM 0 65 8,oE 1 66 .add 65 1,oM 2 8 66])))))
def qX0:List qB:=[oM 0 81 5,oY 1 82 7 0 5,oP 2 83 (.bslice 5 (.agg [.int .i64 0,.int .i64 0,.int .i64 0,.nils,.nils]) 1 [(0,.t 82)]),oP 3 84 (.app 5 (.t 81) (.t 83)),oM 4 5 84]
def qXU:qL:=.loop (.seq (sr qX3 (.cond (.t 41) .skip (.exit 2))) (.seq (.blk 3 (sr qX4 (.cond (.t 52) (sr qX5 (.seq qXX (.reg true qX0))) .skip))) (.reg true [oM 0 42 6,oE 1 43 .add 42 1,oM 2 6 43])))
def qX1:List qB:=[oM 0 85 0,oM 1 86 5,oK 2 87 85,oF 3 88 0 87,oT 4 1 88 86]
def qXV:qL:=.seq (sr [oC 0 4 0] (.blk 0 (.loop (.seq (sr qXY (.cond (.t 16) .skip (.exit 0))) qXW)))) (sr [oP 0 34 (.mov (.c (.lst 5 [] true))),oM 1 5 34] (.seq (sr [oC 0 6 0] (.blk 2 qXU)) (.reg true qX1)))
def F981:qP:=⟨1,89,[],sr [oP 0 9 (.mov (.c (.lst 1 [] true))),oM 1 2 9] (sr [oC 0 3 0] qXV)⟩
def qSU:List qB:=[oM 0 15 0,oD1 1 16 368 15,oM 2 14 16,oV 3 17 14 0,oV 4 18 14 1,oV 5 19 14 2,oV 6 20 14 3,oP 7 4 (.lalloc (.agg [.int .i64 0,.int .i64 0])),oM 8 3 17,oS 9 4 0 2 18,oM 10 5 19,oM 11 6 20]
def qSV:List qB:=[oM 0 23 0,oK 1 24 23,oF 2 25 3 24,oL 3 26 25,oE 4 27 .geq 26 4000]
def qS1:List qB:=[oM 0 28 0,oY 1 29 4 0 2,oM 2 30 5,oP 3 31 (.call 369 [.t 28,.t 29,.t 30]),oM 4 7 31]
def qS2:List qB:=[oM 0 32 0,oK 1 33 32,oF 2 34 5 33,oL 3 35 34,oU 4 36 4,oX 5 37 4 1,oA 6 38 3 35 37,oP 7 39 (.load (some 3) (.t 38)),oP 8 8 (.lalloc (.agg [.int .i64 0,.int .i64 0,.int .i64 0])),oS 9 8 0 3 39]
def qS3:List qB:=[oM 0 40 0,oK 1 41 40,oF 2 42 4 41,oD1 3 43 489 42,oP 4 9 (.halloc 1 (.agg [.nils])),oT 5 1 9 43]
def qS4:List qB:=[oM 0 44 0,oK 1 45 44,oF 2 46 0 45,oL 3 47 46,oU 4 48 4,oX 5 49 4 0,oU 6 50 4,oX 7 51 4 1,oP 8 52 (.call 979 [.t 47,.t 9,.t 49,.t 51]),oM 9 10 52]
def qS5:List qB:=[oM 0 56 0,oK 1 57 56,oF 2 58 3 57,oL 3 59 58,oE 4 60 .add 59 1,oK 5 61 56,oF 6 62 3 61,oT 7 1 62 60]
def qS6:List qB:=[oM 0 64 12,oF 1 65 0 9,oL 2 66 65,oW 3 67 66,oB 4 68 .lss 64 67]
def qS7:List qB:=[oF 0 71 0 9,oL 1 72 71,oM 2 73 12,oA 3 74 5 72 73,oF 4 75 0 74,oL 5 76 75,oE 6 77 .eql 76 0]
def qS8:List qB:=[oM 0 78 12,oM 1 79 0,oK 2 80 79,oF 3 81 5 80,oL 4 82 81,oW 5 83 82,oB 6 84 .lss 78 83]
def qSW:List qB:=[oM 0 85 11,oM 1 86 0,oK 2 87 86,oF 3 88 5 87,oL 4 89 88,oM 5 90 12,oA 6 91 3 89 90,oP 7 92 (.load (some 3) (.t 91)),oP 8 93 (.bslice 3 (.agg [.int .i64 0,.int .i64 0,.int .i64 0]) 1 [(0,.t 92)]),oP 9 94 (.app 3 (.t 85) (.t 93)),oM 10 11 94]
def qSX:List qB:=[oM 0 95 11,oM 1 96 5,oM 2 97 12,oM 3 98 0,oK 4 99 98,oF 5 100 5 99,oL 6 101 100,oW 7 102 101,oB 8 103 .sub 97 102,oM 9 104 0,oK 10 105 104,oF 11 106 3 105,oL 12 107 106,oM 13 108 7,oY 14 109 8 0 3,oP 15 110 (.call 980 [.t 96,.t 103,.t 107,.t 108,.t 109]),oP 16 111 (.bslice 3 (.agg [.int .i64 0,.int .i64 0,.int .i64 0]) 1 [(0,.t 110)]),oP 17 112 (.app 3 (.t 95) (.t 111)),oM 18 11 112]
def qSQ:qL:=.seq (sr qS6 (.cond (.t 68) .skip (.exit 0))) (.seq (.blk 1 (.seq (sr qS7 (.cond (.t 77) (.exit 1) .skip)) (sr qS8 (.cond (.t 84) (.reg true qSW) (.reg true qSX))))) (.reg true [oM 0 69 12,oE 1 70 .add 69 1,oM 2 12 70]))
def qSY:List qB:=[oM 0 114 0,oP 1 115 (.load (some 1) (.t 9)),oK 2 116 114,oF 3 117 4 116,oT 4 1 117 115]
def qSZ:List qB:=[oM 0 118 0,oM 1 119 11,oK 2 120 118,oF 3 121 5 120,oT 4 1 121 119]
def kU:List qB:=[oM 0 122 0,oK 1 123 122,oF 2 124 3 123,oL 3 125 124,oM 4 126 0,oK 5 127 126,oF 6 128 2 127,oL 7 129 128,oB 8 130 .rem 125 129,oE 9 131 .eql 130 0,oM 10 132 131,oH 11 133 132 true 0,oG 12 134 132 true (.nilchk (.t 133)),oG 13 135 132 true (.faddr 7 (.t 134)),oG 14 136 132 true (.load none (.t 135)),oG 15 137 132 true (.len (.t 136)),oH 16 138 132 true 0,oG 17 139 132 true (.nilchk (.t 138)),oG 18 140 132 true (.faddr 3 (.t 139)),oG 19 141 132 true (.load none (.t 140)),oH 20 142 132 true 0,oG 21 143 132 true (.nilchk (.t 142)),oG 22 144 132 true (.faddr 2 (.t 143)),oG 23 145 132 true (.load none (.t 144)),oG 24 146 132 true (.bin .quo (.t 141) (.t 145)),oG 25 147 132 true (.bin .eql (.t 137) (.t 146)),oPf 26 148 132 147]
def kV:List qB:=[oM 0 149 0,oK 1 150 149,oF 2 151 3 150,oL 3 152 151,oP 4 153 (.load (some 1) (.t 9)),oM 5 154 11,oP 6 155 (.build (.agg [.int .i64 0,.nils,.nils]) [(0,1,.t 152),(1,1,.t 153),(2,1,.t 154)]),oP 7 13 (.halloc 3 (.agg [.int .i64 0,.nils,.nils])),oT 8 3 13 155]
def qS0:List qB:=[oM 0 156 0,oM 1 157 0,oK 2 158 157,oF 3 159 7 158,oL 4 160 159,⟨5,some 161,none,.call 795 [.t 13],[⟨4,some 160,none,.load none (.t 159),[]⟩]⟩,oP 6 162 (.bslice 3 (.agg [.int .i64 0,.nils,.nils]) 1 [(0,.t 161)]),oP 7 163 (.app 3 (.t 160) (.t 162)),oK 8 164 156,oF 9 165 7 164,oT 10 1 165 163]
def qSR:qL:=sr [oD1 0 113 981 9] (sr qSY (sr qSZ (.seq (sr kU (.cond (.t 148) (sr kV (.reg true qS0)) .skip)) (sr [oC 0 2 0] .ret))))
def qSS:qL:=.seq (sr [oM 0 53 10,oE 1 54 .neq 53 0] (.cond (.t 54) (sr [oM 0 55 10,oM 1 2 55] .ret) .skip)) (sr qS5 (sr [oP 0 63 (.mov (.c (.lst 3 [] true))),oM 1 11 63] (.seq (sr [oC 0 12 0] (.blk 0 (.loop qSQ))) qSR)))
def qST:qL:=.seq (sr [oM 0 21 6,oJ 1 22 21] (.cond (.t 22) (sr [oC 0 2 3] .ret) .skip)) (.seq (sr qSV (.cond (.t 27) (sr [oC 0 2 12] .ret) .skip)) (sr qS1 (sr qS2 (sr qS3 (sr qS4 qSS)))))
def kT:qP:=⟨1,166,[.t 2],sr [oC 0 2 0] (sr qSU qST)⟩
def qX8:List qB:=[oY 0 5 3 0 1,oD1 1 6 798 5,oM 2 7 0,oP 3 8 (.mkmap),oP 4 9 (.build (.agg [.nils,.nils,.nilm]) [(0,1,.t 6),(1,1,.t 7),(2,1,.t 8)]),oP 5 10 (.hbox 3 (.t 9)),oM 6 4 10]
def F982:qP:=⟨2,11,[.t 4],sr [oP 0 3 (.lbox 1 (.t 1)),oP 1 4 (.mov (.c (.nilp)))] (sr qX8 .ret)⟩
def qL5:List qB:=[oY 0 9 2 0 1,oD1 1 10 798 9,oP 2 6 (.lalloc (.agg [.nils])),oS 3 6 0 1 10]
def qL6:List qB:=[oU 0 11 6,oX 1 12 6 0,oW 2 13 12,oC 3 14 0]
def qL7:List qB:=[oU 0 17 6,oX 1 18 6 0,oM 2 19 7,oA 3 20 5 18 19,oM 4 8 20]
def qL8:List qB:=[oM 0 21 8,oK 1 22 21,oF 2 23 0 22,oL 3 24 23,oD1 4 25 1375 24,oJ 5 26 25]
def qL9:List qB:=[oM 0 27 8,oK 1 28 27,oF 2 29 1 28,oL 3 30 29,oM 4 31 1,oB 5 32 .add 30 31,oK 6 33 27,oF 7 34 1 33,oT 8 1 34 32]
def qMA:List qB:=[oM 0 35 8,oK 1 36 35,oF 2 37 1 36,oL 3 38 37,oE 4 39 .gtr 38 8]
def qL3:qL:=sr [oM 0 16 14,oM 1 7 16] (sr qL7 (.seq (sr qL8 (.cond (.t 26) (.exit 1) .skip)) (sr qL9 (sr qMA (.cond (.t 39) (sr [oP 0 40 (.build (.agg [.nils]) []),oS 1 4 0 1 40,oQ 2 5 false] .ret) .skip)))))
def qL4:qL:=.seq (sr qL6 (.blk 0 (.loop (sr [oB 0 15 .lss 14 13] (.seq (.cond (.t 15) .skip (.exit 0)) (.seq (.blk 1 qL3) (.reg true [oE 0 41 .add 14 1,oM 1 14 41]))))))) (sr [oY 0 42 6 0 1,oS 1 4 0 1 42,oQ 2 5 true] .ret)
def KQ:qP:=⟨2,43,[.l 4 (some 1),.t 5],sr [oP 0 2 (.lbox 1 (.t 0)),oP 1 4 (.lalloc (.agg [.nils])),oQ 2 5 false] (sr qL5 qL4)⟩
def qH0:List qB:=[oP 0 3 (.lbox 2 (.t 1)),oC 1 4 0,oC 2 5 0,oC 3 6 0,oC 4 7 0]
def qH1:List qB:=[oM 0 13 0,oK 1 14 13,oF 2 15 0 14,oY 3 16 3 0 2,oD2 4 17 751 15 16,oM 5 12 17,oV 6 18 12 0,oV 7 19 12 1,oM 8 4 18,oM 9 8 19]
def qH3:List qB:=[oU 0 20 3,oX 1 21 3 0,oU 2 22 3,oX 3 23 3 1,oM 4 5 21,oM 5 6 23]
def qH4:List qB:=[oM 0 25 6,oM 1 26 5,oM 2 5 25,oM 3 6 26]
def qH5:List qB:=[oC 0 4 0,oC 1 5 0,oC 2 6 0,oC 3 7 11]
def qH6:List qB:=[oM 0 32 0,oK 1 33 32,oF 2 34 0 33,oF 3 35 0 34,oL 4 36 35,oM 5 37 5,oA 6 38 5 36 37,oP 7 39 (.load (some 5) (.t 38)),oP 8 9 (.lalloc (.agg [.int .i64 0,.int .i64 0,.int .i64 0,.nils,.nils])),oS 9 9 0 5 39]
def qH7:List qB:=[oU 0 40 9,oX 1 41 9 2,oM 2 42 0,oK 3 43 42,oF 4 44 1 43,oL 5 45 44,oW 6 46 45,oB 7 47 .geq 41 46]
def qH8:List qB:=[oC 0 4 0,oC 1 5 0,oC 2 6 0,oC 3 7 3]
def qH9:List qB:=[oM 0 49 0,oK 1 50 49,oF 2 51 1 50,oL 3 52 51,oU 4 53 9,oX 5 54 9 2,oA 6 55 1 52 54,oP 7 56 (.load (some 1) (.t 55)),oU 8 57 9,oX 9 58 9 1,oP 14 10 (.lalloc (.agg [.nils])),oD2 10 59 1456 56 58,oM 11 48 59,oV 12 60 48 0,oV 13 61 48 1,oS 15 10 0 1 60,oM 16 11 61]
def qIA:List qB:=[oC 0 4 0,oC 1 5 0,oC 2 6 0,oC 3 7 9]
def qHY:qL:=sr [oE 0 31 .eql 27 7,oM 1 30 31] (.cond (.t 30) (sr qH6 (.seq (sr qH7 (.cond (.t 47) (sr qH8 .ret) .skip)) (sr qH9 (sr [oM 0 62 11,oJ 1 63 62] (.cond (.t 63) (sr qIA .ret) .skip))))) .skip)
def qH2:List qB:=[oM 0 64 4,oM 1 65 5,oM 2 66 6,oM 3 4 64,oM 4 5 65,oM 5 6 66,oC 6 7 0]
def qHZ:qL:=.seq (sr [oM 0 24 8] (.cond (.t 24) (.reg true qH4) .skip)) (.seq (sr [oM 0 27 4] (.blk 0 (sr [oE 0 29 .eql 27 8,oM 1 28 29] (.cond (.t 28) (sr qH5 .ret) qHY)))) (sr qH2 .ret))
def Uw:qP:=⟨2,67,[.t 4,.t 5,.t 6,.t 7],sr qH0 (sr qH1 (sr qH3 qHZ))⟩
def qIB:List qB:=[oM 0 3 0,oK 1 4 3,oF 2 5 0 4,oF 3 6 0 5,oL 4 7 6,oW 5 8 7,oM 6 9 0,oK 7 10 9,oF 8 11 2 10,oL 9 12 11,oP 10 13 (.mlen (.t 12)),oB 11 14 .sub 8 13,oM 12 2 14]
def Ux:qP:=⟨1,15,[.t 2],sr [oC 0 2 0] (sr qIB .ret)⟩
def qMI:qL:=sr [oE 0 22 .eql 9 7,oM 1 21 22] (.cond (.t 21) (.reg true [oC 0 6 2,oC 1 7 600,oP 2 8 (.mov (.c (.int .i64 (-2))))]) (sr [oC 0 4 0,oC 1 5 2] .ret))
def qMJ:qL:=sr [oE 0 18 .eql 9 5,oM 1 17 18] (.cond (.t 17) (.reg true [oP 0 8 (.mov (.c (.int .i64 (-1))))]) (sr [oE 0 20 .eql 9 6,oM 1 19 20] (.cond (.t 19) (.reg true [oC 0 7 3,oP 1 8 (.mov (.c (.int .i64 (-1))))]) qMI)))
def qMK:qL:=sr [oE 0 14 .eql 9 3,oM 1 13 14] (.cond (.t 13) (.reg true [oC 0 7 3]) (sr [oE 0 16 .eql 9 4,oM 1 15 16] (.cond (.t 15) (.reg true [oC 0 7 3,oP 1 8 (.mov (.c (.int .i64 (-2))))]) qMJ)))
def qML:qL:=sr [oM 0 9 0] (.blk 0 (.seq (sr [oE 0 11 .eql 9 1,oM 1 10 11] (.cond (.t 10) .skip (.reg true [oE 0 12 .eql 9 2,oM 1 10 12]))) (.cond (.t 10) (.reg true [oP 0 8 (.mov (.c (.int .i64 (-2))))]) qMK)))
def qMN:List qB:=[oM 0 23 1,oM 1 24 6,oB 2 25 .lss 23 24,oM 3 26 25,oH 4 27 26 false 1,oH 5 28 26 false 7,oG 6 29 26 false (.bin .gtr (.t 27) (.t 28)),oPt 7 30 26 29]
def qMO:List qB:=[oM 0 31 1,oM 1 32 8,oB 2 33 .add 31 32,oM 3 4 33,oC 4 5 0]
def qMM:qL:=sr [oC 0 6 0,oC 1 7 0,oC 2 8 0] (.seq qML (.seq (sr qMN (.cond (.t 30) (sr [oC 0 4 0,oC 1 5 2] .ret) .skip)) (sr qMO .ret)))
def KS:qP:=⟨2,34,[.t 4,.t 5],sr [oC 0 4 0,oC 1 5 0] qMM⟩
def qIE:List qB:=[oM 0 16 0,oK 1 17 16,oF 2 18 0 17,oF 3 19 0 18,oL 4 20 19,oM 5 21 3,oA 6 22 5 20 21,oF 7 23 4 22,oL 8 24 23,oW 9 25 24,oE 10 26 .sub 25 1,oM 11 9 26]
def qIF:List qB:=[oM 0 29 0,oK 1 30 29,oF 2 31 0 30,oF 3 32 0 31,oL 4 33 32,oM 5 34 2,oA 6 35 5 33 34,oF 7 36 0 35,oL 8 37 36,oE 9 38 .eql 37 9]
def qIG:List qB:=[oM 0 39 0,oK 1 40 39,oF 2 41 0 40,oF 3 42 0 41,oL 4 43 42,oM 5 44 2,oA 6 45 5 43 44,oF 7 46 4 45,oL 8 47 46,oW 9 48 47,oE 10 49 .sub 48 1,oM 11 9 49]
def qIH:List qB:=[oM 0 52 0,oK 1 53 52,oF 2 54 1 53,oL 3 55 54,oM 4 56 0,oK 5 57 56,oF 6 58 0 57,oF 7 59 0 58,oL 8 60 59,oM 9 61 2,oA 10 62 5 60 61,oF 11 63 2 62,oL 12 64 63,oA 13 65 1 55 64,oF 14 66 0 65,oL 15 67 66,oW 16 68 67,oM 17 9 68]
def qIC:qL:=sr [oE 0 28 .eql 12 6,oM 1 27 28] (.cond (.t 27) (sr qIF (.cond (.t 38) (.reg true qIG) .skip)) (sr [oE 0 51 .eql 12 7,oM 1 50 51] (.cond (.t 50) (.reg true qIH) .skip)))
def qID:qL:=sr [oM 0 12 1] (.blk 0 (.seq (sr [oE 0 14 .eql 12 3,oM 1 13 14] (.cond (.t 13) .skip (.reg true [oE 0 15 .eql 12 4,oM 1 13 15]))) (.cond (.t 13) (.reg true qIE) qIC)))
def qII:List qB:=[oM 0 70 1,oM 1 71 9,oD2 2 72 1461 70 71,oM 3 69 72,oV 4 73 69 0,oV 5 74 69 1,oM 6 10 73,oM 7 11 74]
def Uy:qP:=⟨4,76,[.t 8],sr [oC 0 8 0] (sr [oC 0 9 0] (.seq qID (sr qII (sr [oM 0 75 10,oM 1 8 75] .ret))))⟩
def qFW:List qB:=[oM 0 6 0,oK 1 7 6,oF 2 8 0 7,oL 3 9 8,oU 4 10 4,oX 5 11 4 0,oA 6 12 5 9 11,oF 7 13 4 12,oL 8 14 13,oU 9 15 4,oX 10 16 4 1,oY 11 17 5 0 2,oA 12 18 2 14 16,oT 13 2 18 17]
def qFX:List qB:=[oM 0 19 0,oK 1 20 19,oF 2 21 0 20,oL 3 22 21,oU 4 23 5,oX 5 24 5 0,oA 6 25 5 22 24,oF 7 26 4 25,oL 8 27 26,oU 9 28 5,oX 10 29 5 1,oY 11 30 4 0 2,oA 12 31 2 27 29,oT 13 2 31 30]
def Un:qP:=⟨3,32,[],sr [oP 0 4 (.lbox 2 (.t 1)),oP 1 5 (.lbox 2 (.t 2))] (sr qFW (.reg true qFX))⟩
def qIJ:List qB:=[oM 0 8 0,oK 1 9 8,oF 2 10 0 9,oY 3 11 4 0 2,oM 5 13 0,oK 6 14 13,oF 7 15 0 14,oY 8 16 5 0 2,oP 10 6 (.lalloc (.agg [.int .i64 0,.int .i64 0])),oP 11 7 (.lalloc (.agg [.int .i64 0,.int .i64 0])),oD2 4 12 555 10 11,oD2 9 17 555 15 16,oS 12 6 0 2 12,oS 13 7 0 2 17]
def qIK:List qB:=[oM 0 21 0,oK 1 22 21,oF 2 23 0 22,oY 3 24 6 0 2,oY 4 25 7 0 2,oP 5 26 (.call 1196 [.t 23,.t 24,.t 25])]
def Uz:qP:=⟨3,27,[],sr [oP 0 4 (.lbox 2 (.t 1)),oP 1 5 (.lbox 2 (.t 2))] (sr qIJ (sr [oY 0 18 6 0 2,oY 1 19 5 0 2,oP 2 20 (.seq true [1,1] (.t 18) (.t 19))] (.cond (.t 20) (.reg true qIK) .skip)))⟩
def qI0:List qB:=[oM 0 6 0,oK 1 7 6,oF 2 8 0 7,oM 3 9 0,oK 4 10 9,oF 5 11 0 10,oY 6 12 4 0 2,oY 8 14 5 0 2,oD2 7 13 555 11 12,oP 9 15 (.call 1196 [.t 8,.t 13,.t 14])]
def U1:qP:=⟨3,16,[],sr [oP 0 4 (.lbox 2 (.t 1)),oP 1 5 (.lbox 2 (.t 2))] (.reg true qI0)⟩
def qI1:List qB:=[oM 0 13 0,oM 1 14 0,oK 2 15 14,oF 3 16 0 15,oF 4 17 0 16,oL 5 18 17,oM 6 19 1,oM 7 20 2,oM 8 21 3,oM 9 22 4,oM 11 24 5,⟨10,some 23,none,.call 401 [.t 22],[⟨5,some 18,none,.load none (.t 17),[]⟩]⟩,oP 12 25 (.mksl 2 (.agg [.int .i64 0,.int .i64 0]) (.t 24) (.t 24)),oP 13 26 (.build (.agg [.int .i64 0,.int .i64 0,.int .i64 0,.nils,.nils]) [(0,1,.t 19),(1,1,.t 20),(2,1,.t 21),(3,1,.t 23),(4,1,.t 25)]),oP 14 27 (.bslice 5 (.agg [.int .i64 0,.int .i64 0,.int .i64 0,.nils,.nils]) 1 [(0,.t 26)]),oP 15 28 (.app 5 (.t 18) (.t 27)),oK 16 29 13,oF 17 30 0 29,oF 18 31 0 30,oT 19 1 31 28]
def qI2:List qB:=[oM 0 32 0,oK 1 33 32,oF 2 34 0 33,oF 3 35 0 34,oL 4 36 35,oW 5 37 36,oE 6 38 .sub 37 1,oM 7 12 38]
def U2:qP:=⟨6,39,[.t 12],sr [oC 0 12 0] (.seq (.reg false qI1) (sr qI2 .ret))⟩
def qIO:List qB:=[oM 0 14 0,oK 1 15 14,oF 2 16 0 15,oF 3 17 0 16,oL 4 18 17,oM 5 19 2,oA 6 20 5 18 19,oP 7 21 (.load (some 5) (.t 20)),oP 8 6 (.lalloc (.agg [.int .i64 0,.int .i64 0,.int .i64 0,.nils,.nils])),oS 9 6 0 5 21]
def qIP:List qB:=[oM 0 22 0,oU 1 23 6,oX 2 24 6 0,oU 3 25 6,oX 4 26 6 1,oU 5 27 6,oX 6 28 6 2,oU 7 29 6,oX 8 30 6 3,oU 9 31 6,oX 10 32 6 4,oW 11 33 32,oP 12 34 (.call 1311 [.t 22,.t 24,.t 26,.t 28,.t 30,.t 33]),oM 13 7 34]
def qIT:List qB:=[oM 0 35 0,oU 1 36 6,oX 2 37 6 0,oU 3 38 6,oX 4 39 6 1,oU 5 40 6,oX 6 41 6 2,oU 7 42 6,oX 8 43 6 3,oU 9 44 6,oX 10 45 6 4,oW 11 46 45,oP 12 47 (.call 1311 [.t 35,.t 37,.t 39,.t 41,.t 43,.t 46]),oM 13 8 47]
def qIU:List qB:=[oM 0 48 10,oU 1 49 6,oX 2 50 6 4,oW 3 51 50,oB 4 52 .lss 48 51]
def qIV:List qB:=[oM 0 55 0,oM 1 56 0,oK 2 57 56,oF 3 58 0 57,oF 4 59 0 58,oL 5 60 59,oM 6 61 1,oA 7 62 5 60 61,oF 8 63 1 62,oL 9 64 63,oP 10 65 (.call 1311 [.t 55,.c (.int .i64 4),.t 64,.c (.int .i64 0),.c (.nils),.c (.int .i64 3)]),oM 11 11 65]
def qIW:List qB:=[oM 0 66 0,oK 1 67 66,oF 2 68 0 67,oM 3 69 11,oP 4 70 (.build (.agg [.int .i64 0,.int .i64 0]) [(0,1,.t 69),(1,1,.c (.int .i64 1))]),oM 5 71 7,oM 6 72 10,oP 7 73 (.build (.agg [.int .i64 0,.int .i64 0]) [(0,1,.t 71),(1,1,.t 72)]),oP 8 74 (.call 1196 [.t 68,.t 70,.t 73])]
def qIX:List qB:=[oM 0 75 0,oK 1 76 75,oF 2 77 0 76,oM 3 78 11,oP 4 79 (.build (.agg [.int .i64 0,.int .i64 0]) [(0,1,.t 78),(1,1,.c (.int .i64 2))]),oM 5 80 8,oM 6 81 10,oP 7 82 (.build (.agg [.int .i64 0,.int .i64 0]) [(0,1,.t 80),(1,1,.t 81)]),oP 8 83 (.call 1196 [.t 77,.t 79,.t 82])]
def qIY:List qB:=[oM 0 84 9,oM 1 85 11,oP 2 86 (.bslice 1 (.int .i64 0) 1 [(0,.t 85)]),oP 3 87 (.app 1 (.t 84) (.t 86)),oM 4 9 87]
def qIN:qL:=.seq (sr qIU (.cond (.t 52) .skip (.exit 0))) (.seq (.blk 1 (sr qIV (sr qIW (sr qIX (.reg true qIY))))) (.reg true [oM 0 53 10,oE 1 54 .add 53 1,oM 2 10 54]))
def qIZ:List qB:=[oM 0 88 0,oM 1 89 1,oP 2 90 (.build (.agg [.int .i64 0,.int .i64 0]) [(0,1,.t 89),(1,1,.c (.int .i64 1))]),oM 3 91 7,oP 4 92 (.build (.agg [.int .i64 0,.int .i64 0]) [(0,1,.t 91),(1,1,.c (.int .i64 0))]),oP 5 93 (.call 1310 [.t 88,.t 90,.t 92])]
def qIQ:List qB:=[oM 0 94 0,oM 1 95 1,oP 2 96 (.build (.agg [.int .i64 0,.int .i64 0]) [(0,1,.t 95),(1,1,.c (.int .i64 2))]),oM 3 97 8,oP 4 98 (.build (.agg [.int .i64 0,.int .i64 0]) [(0,1,.t 97),(1,1,.c (.int .i64 0))]),oP 5 99 (.call 1310 [.t 94,.t 96,.t 98])]
def qIR:List qB:=[oM 0 104 102,oA 1 105 1 100 102,oL 2 106 105,oM 3 12 104,oM 4 13 106]
def qIS:List qB:=[oM 0 107 0,oM 1 108 2,oM 2 109 12,oE 3 110 .add 109 1,oP 4 111 (.build (.agg [.int .i64 0,.int .i64 0]) [(0,1,.t 108),(1,1,.t 110)]),oM 5 112 13,oP 6 113 (.build (.agg [.int .i64 0,.int .i64 0]) [(0,1,.t 112),(1,1,.c (.int .i64 0))]),oP 7 114 (.call 1310 [.t 107,.t 111,.t 113])]
def qIL:qL:=.loop (sr [oB 0 103 .lss 102 101] (.seq (.cond (.t 103) .skip (.exit 2)) (.seq (.blk 3 (sr qIR (.reg true qIS))) (.reg true [oE 0 115 .add 102 1,oM 1 102 115]))))
def qIM:qL:=.seq (sr [oC 0 10 1] (.blk 0 (.loop qIN))) (sr qIZ (sr qIQ (sr [oM 0 100 9,oW 1 101 100,oC 2 102 0] (.blk 2 qIL))))
def U0:qP:=⟨3,116,[],sr qIO (sr qIP (sr qIT (sr [oP 0 9 (.mov (.c (.nils)))] qIM)))⟩
def kP:qP:=⟨1,4,[.t 2],sr [oC 0 2 0] (.seq (sr [oM 0 3 0] (.cond (.t 3) (sr [oC 0 2 1] .ret) .skip)) (sr [oC 0 2 0] .ret))⟩
def qLY:List qB:=[oM 0 3 0,oP 1 4 (.conv .i32 (.t 3)),oP 2 5 (.conv .i64 (.t 4)),oM 3 2 5]
def KO:qP:=⟨1,6,[.t 2],sr [oC 0 2 0] (sr qLY .ret)⟩
def qFI:List qB:=[oM 0 9 1,oD1 1 10 1400 9,oM 2 11 2,oD1 3 12 1400 11,oM 4 7 10,oM 5 8 12]
def qFJ:List qB:=[oM 0 16 7,oM 1 17 8,oB 2 18 .add 16 17,oD1 3 19 1400 18,oM 4 6 19]
def qFK:List qB:=[oM 0 22 7,oM 1 23 8,oB 2 24 .sub 22 23,oD1 3 25 1400 24,oM 4 6 25]
def qFL:List qB:=[oM 0 28 7,oM 1 29 8,oB 2 30 .mul 28 29,oD1 3 31 1400 30,oM 4 6 31]
def qFM:List qB:=[oM 0 36 7,oM 1 37 8,oB 2 38 .quo 36 37,oD1 3 39 1400 38,oM 4 6 39]
def qFN:List qB:=[oM 0 42 7,oM 1 43 8,oB 2 44 .lss 42 43,oD1 3 45 566 44,oM 4 6 45]
def qFO:List qB:=[oM 0 48 7,oM 1 49 8,oB 2 50 .eql 48 49,oD1 3 51 566 50,oM 4 6 51]
def qFF:qL:=.cond (.t 32) (.seq (sr [oM 0 34 8,oE 1 35 .eql 34 0] (.cond (.t 35) (sr [oC 0 6 0] .ret) .skip)) (sr qFM .ret)) (sr [oE 0 41 .eql 13 5,oM 1 40 41] (.cond (.t 40) (sr qFN .ret) (sr [oE 0 47 .eql 13 6,oM 1 46 47] (.cond (.t 46) (sr qFO .ret) .skip))))
def qFG:qL:=sr [oE 0 21 .eql 13 2,oM 1 20 21] (.cond (.t 20) (sr qFK .ret) (sr [oE 0 27 .eql 13 3,oM 1 26 27] (.cond (.t 26) (sr qFL .ret) (sr [oE 0 33 .eql 13 4,oM 1 32 33] qFF))))
def qFH:qL:=sr qFI (.seq (sr [oM 0 13 0] (.blk 0 (sr [oE 0 15 .eql 13 1,oM 1 14 15] (.cond (.t 14) (sr qFJ .ret) qFG)))) (sr [oC 0 6 0] .ret))
def Ui:qP:=⟨3,52,[.t 6],sr [oC 0 6 0] qFH⟩
def qI3:List qB:=[oM 0 9 0,oK 1 10 9,oF 2 11 0 10,oF 3 12 0 11,oL 4 13 12,oM 5 14 1,oA 6 15 5 13 14,oF 7 16 2 15,oL 8 17 16,oM 9 18 0,oK 10 19 18,oF 11 20 0 19,oF 12 21 0 20,oL 13 22 21,oM 14 23 2,oA 15 24 5 22 23,oP 16 25 (.load (some 5) (.t 24)),oP 17 7 (.lalloc (.agg [.int .i64 0,.int .i64 0,.int .i64 0,.nils,.nils])),oM 18 6 17,oS 19 7 0 5 25]
def qI4:List qB:=[oM 0 29 0,oU 1 30 7,oX 2 31 7 1,oU 3 32 7,oX 4 33 7 2,oM 5 34 6,oP 6 35 (.bslice 1 (.int .i64 0) 1 [(0,.t 34)]),oP 7 36 (.call 1311 [.t 29,.c (.int .i64 8),.t 31,.t 33,.t 35,.c (.int .i64 2)]),oM 8 8 36]
def qI5:List qB:=[oM 0 37 0,oM 1 38 2,oP 2 39 (.build (.agg [.int .i64 0,.int .i64 0]) [(0,1,.t 38),(1,1,.c (.int .i64 1))]),oM 3 40 8,oP 4 41 (.build (.agg [.int .i64 0,.int .i64 0]) [(0,1,.t 40),(1,1,.c (.int .i64 0))]),oP 5 42 (.call 1310 [.t 37,.t 39,.t 41])]
def qI6:List qB:=[oM 0 43 0,oM 1 44 2,oP 2 45 (.build (.agg [.int .i64 0,.int .i64 0]) [(0,1,.t 44),(1,1,.c (.int .i64 2))]),oM 3 46 8,oP 4 47 (.build (.agg [.int .i64 0,.int .i64 0]) [(0,1,.t 46),(1,1,.c (.int .i64 1))]),oP 5 48 (.call 1310 [.t 43,.t 45,.t 47])]
def qI7:List qB:=[oM 0 49 0,oM 1 50 2,oP 2 51 (.build (.agg [.int .i64 0,.int .i64 0]) [(0,1,.t 50),(1,1,.c (.int .i64 1))]),oM 3 52 0,oU 4 53 7,oX 5 54 7 2,oU 6 55 7,oX 7 56 7 3,oP 8 57 (.iaddr 1 (.t 56) (.c (.int .i64 0))),oL 9 58 57,oM 10 59 6,oP 11 60 (.call 1118 [.t 54,.t 58,.t 59]),oP 12 61 (.call 1311 [.t 52,.c (.int .i64 6),.c (.int .i64 0),.t 60,.c (.nils),.c (.int .i64 1)]),oP 13 62 (.build (.agg [.int .i64 0,.int .i64 0]) [(0,1,.t 61),(1,1,.c (.int .i64 0))]),oP 14 63 (.call 1310 [.t 49,.t 51,.t 62])]
def U3:qP:=⟨3,64,[],sr qI3 (.seq (sr [oU 0 26 7,oX 1 27 7 0,oE 2 28 .eql 27 7] (.cond (.t 28) (sr qI4 (sr qI5 (sr qI6 .ret))) .skip)) (.reg true qI7))⟩
def qJB:List qB:=[oM 0 13 0,oK 1 14 13,oF 2 15 0 14,oF 3 16 0 15,oL 4 17 16,oM 5 18 1,oA 6 19 5 17 18,oP 7 20 (.load (some 5) (.t 19)),oM 8 21 0,oK 9 22 21,oF 10 23 0 22,oF 11 24 0 23,oL 12 25 24,oM 13 26 2,oA 14 27 5 25 26,oP 15 28 (.load (some 5) (.t 27)),oP 16 6 (.lalloc (.agg [.int .i64 0,.int .i64 0,.int .i64 0,.nils,.nils])),oP 17 7 (.lalloc (.agg [.int .i64 0,.int .i64 0,.int .i64 0,.nils,.nils])),oS 18 6 0 5 20,oS 19 7 0 5 28]
def qJC:List qB:=[oM 0 32 0,oM 1 33 2,oP 2 34 (.build (.agg [.int .i64 0,.int .i64 0]) [(0,1,.t 33),(1,1,.c (.int .i64 1))]),oM 3 35 0,oU 4 36 7,oX 5 37 7 1,oU 6 38 7,oX 7 39 7 3,oU 8 40 6,oX 9 41 6 2,oE 10 42 .eql 41 0,oD1 11 43 566 42,oA 12 44 1 39 43,oL 13 45 44,oP 14 46 (.call 1311 [.t 35,.c (.int .i64 12),.t 37,.t 45,.c (.nils),.c (.int .i64 1)]),oP 15 47 (.build (.agg [.int .i64 0,.int .i64 0]) [(0,1,.t 46),(1,1,.c (.int .i64 0))]),oP 16 48 (.call 1310 [.t 32,.t 34,.t 47])]
def qJE:List qB:=[oM 0 49 0,oU 1 50 7,oX 2 51 7 1,oU 3 52 7,oX 4 53 7 3,oU 5 54 6,oX 6 55 6 2,oA 7 56 1 53 55,oL 8 57 56,oP 11 8 (.lalloc (.agg [.int .i64 0,.int .i64 0])),oP 9 58 (.call 1311 [.t 49,.c (.int .i64 12),.t 51,.t 57,.c (.nils),.c (.int .i64 1)]),oP 10 59 (.build (.agg [.int .i64 0,.int .i64 0]) [(0,1,.t 58),(1,1,.c (.int .i64 0))]),oS 12 8 0 2 59]
def qJF:List qB:=[oU 0 60 6,oX 1 61 6 4,oW 2 62 61,oE 3 63 .sub 62 1,oC 4 64 0]
def qJG:List qB:=[oM 0 66 0,oU 1 67 7,oX 2 68 7 1,oP 3 69 (.call 1311 [.t 66,.c (.int .i64 3),.t 68,.c (.int .i64 0),.c (.nils),.c (.int .i64 3)]),oM 4 10 69]
def qJH:List qB:=[oM 0 70 0,oK 1 71 70,oF 2 72 0 71,oM 3 73 10,oP 4 74 (.build (.agg [.int .i64 0,.int .i64 0]) [(0,1,.t 73),(1,1,.c (.int .i64 0))]),oY 5 75 8 0 2,oP 6 76 (.call 1196 [.t 72,.t 74,.t 75])]
def qJI:List qB:=[oM 0 79 9,oM 1 80 10,oP 2 81 (.bslice 1 (.int .i64 0) 1 [(0,.t 80)]),oP 3 82 (.app 1 (.t 79) (.t 81)),oM 4 9 82]
def qJA:qL:=.seq (.blk 1 (sr qJG (sr qJH (sr [oM 0 77 10,oP 1 78 (.build (.agg [.int .i64 0,.int .i64 0]) [(0,1,.t 77),(1,1,.c (.int .i64 2))]),oS 2 8 0 2 78] (.reg true qJI))))) (.reg true [oE 0 83 .add 64 1,oM 1 64 83])
def qJJ:List qB:=[oM 0 88 86,oA 1 89 1 84 86,oL 2 90 89,oM 3 11 88,oM 4 12 90]
def qJK:List qB:=[oM 0 91 0,oM 1 92 1,oM 2 93 11,oE 3 94 .add 93 1,oP 4 95 (.build (.agg [.int .i64 0,.int .i64 0]) [(0,1,.t 92),(1,1,.t 94)]),oM 5 96 12,oP 6 97 (.build (.agg [.int .i64 0,.int .i64 0]) [(0,1,.t 96),(1,1,.c (.int .i64 1))]),oP 7 98 (.call 1310 [.t 91,.t 95,.t 97])]
def qI8:qL:=.loop (sr [oB 0 87 .lss 86 85] (.seq (.cond (.t 87) .skip (.exit 2)) (.seq (.blk 3 (sr qJJ (.reg true qJK))) (.reg true [oE 0 99 .add 86 1,oM 1 86 99]))))
def qJD:List qB:=[oM 0 100 0,oM 1 101 2,oP 2 102 (.build (.agg [.int .i64 0,.int .i64 0]) [(0,1,.t 101),(1,1,.c (.int .i64 1))]),oY 3 103 8 0 2,oP 4 104 (.call 1310 [.t 100,.t 102,.t 103])]
def qI9:qL:=.seq (sr qJF (.blk 0 (.loop (sr [oB 0 65 .lss 64 63] (.seq (.cond (.t 65) .skip (.exit 0)) qJA))))) (.seq (sr [oM 0 84 9,oW 1 85 84,oC 2 86 0] (.blk 2 qI8)) (.reg true qJD))
def U4:qP:=⟨3,105,[],sr qJB (.seq (sr [oU 0 29 6,oX 1 30 6 0,oE 2 31 .eql 30 6] (.cond (.t 31) (sr qJC .ret) .skip)) (sr qJE (sr [oP 0 9 (.mov (.c (.nils)))] qI9)))⟩
def qJN:List qB:=[oM 0 14 0,oK 1 15 14,oF 2 16 1 15,oL 3 17 16,oM 4 18 0,oK 5 19 18,oF 6 20 0 19,oF 7 21 0 20,oL 8 22 21,oM 9 23 1,oA 10 24 5 22 23,oF 11 25 2 24,oL 12 26 25,oA 13 27 1 17 26,oP 14 28 (.load (some 1) (.t 27)),oM 15 29 0,oK 16 30 29,oF 17 31 0 30,oF 18 32 0 31,oL 19 33 32,oM 20 34 1,oA 21 35 5 33 34,oF 22 36 1 35,oL 23 37 36,oD2 24 38 1456 28 37,oM 25 13 38,oV 26 39 13 0,oV 27 40 13 1,oP 28 6 (.halloc 1 (.agg [.nils])),oT 29 1 6 39,oM 30 7 40]
def qJO:List qB:=[oM 0 41 0,oK 1 42 41,oF 2 43 0 42,oF 3 44 0 43,oL 4 45 44,oW 5 46 45,oE 6 47 .sub 46 1,oM 7 8 47]
def qJQ:List qB:=[oP 0 48 (.build (.agg [.int .i64 0,.int .i64 0]) [(0,1,.c (.int .i64 0)),(1,1,.c (.int .i64 0))]),oD2 1 49 555 6 48,oP 2 9 (.lalloc (.agg [.int .i64 0,.int .i64 0])),oS 3 9 0 2 49]
def qJR:List qB:=[oF 0 50 0 6,oL 1 51 50,oP 2 52 (.slc 5 (.t 51) (some (.c (.int .i64 1))) none none),oW 3 53 52,oC 4 54 0]
def qJS:List qB:=[oA 0 56 5 52 54,oP 1 57 (.load (some 5) (.t 56)),oP 2 11 (.lalloc (.agg [.int .i64 0,.int .i64 0,.int .i64 0,.nils,.nils])),oS 3 11 0 5 57]
def qJT:List qB:=[oU 0 58 11,oX 1 59 11 4,oW 2 60 59,oC 3 61 0]
def qJU:List qB:=[oU 0 64 11,oX 1 65 11 4,oM 2 66 12,oA 3 67 2 65 66,oF 4 68 0 67,oL 5 69 68,oM 6 70 8,oB 7 71 .add 69 70,oA 8 72 2 65 66,oF 9 73 0 72,oT 10 1 73 71]
def qJL:qL:=sr [oB 0 62 .lss 61 60] (.seq (.cond (.t 62) .skip (.exit 2)) (.seq (.blk 3 (sr [oM 0 63 61,oM 1 12 63] (.reg true qJU))) (.reg true [oE 0 74 .add 61 1,oM 1 61 74])))
def qJV:List qB:=[oM 0 75 0,oM 1 76 0,oK 2 77 76,oF 3 78 0 77,oF 4 79 0 78,oL 5 80 79,oY 6 81 11 0 5,oP 7 82 (.bslice 5 (.agg [.int .i64 0,.int .i64 0,.int .i64 0,.nils,.nils]) 1 [(0,.t 81)]),oP 8 83 (.app 5 (.t 80) (.t 82)),oK 9 84 75,oF 10 85 0 84,oF 11 86 0 85,oT 12 1 86 83]
def qJM:qL:=sr [oB 0 55 .lss 54 53] (.seq (.cond (.t 55) .skip (.exit 0)) (.seq (.blk 1 (sr qJS (.seq (sr qJT (.blk 2 (.loop qJL))) (.reg true qJV)))) (.reg true [oE 0 87 .add 54 1,oM 1 54 87])))
def qJP:List qB:=[oM 0 88 0,oK 1 89 88,oF 2 90 0 89,oM 3 91 2,oP 4 92 (.build (.agg [.int .i64 0,.int .i64 0]) [(0,1,.t 91),(1,1,.c (.int .i64 0))]),oU 5 93 9,oX 6 94 9 0,oM 7 95 8,oB 8 96 .add 94 95,oU 9 97 9,oX 10 98 9 1,oP 11 99 (.build (.agg [.int .i64 0,.int .i64 0]) [(0,1,.t 96),(1,1,.t 98)]),oP 12 100 (.call 1196 [.t 90,.t 92,.t 99])]
def U5:qP:=⟨3,101,[],.seq (.reg false qJN) (sr qJO (sr qJQ (.seq (sr qJR (.blk 0 (.loop qJM))) (.reg true qJP))))⟩
def qJX:List qB:=[oM 0 12 0,oK 1 13 12,oF 2 14 2 13,oL 3 15 14,oM 4 16 5,oN 5 (.mupd (.t 15) (.t 16) (.c (.bool true)))]
def qJW:qL:=sr [oB 0 9 .lss 8 7] (.seq (.cond (.t 9) .skip (.exit 0)) (.seq (.blk 1 (sr [oA 0 10 1 6 8,oL 1 11 10,oM 2 5 11] (.reg true qJX))) (.reg true [oE 0 17 .add 8 1,oM 1 8 17])))
def U6:qP:=⟨2,18,[],sr [oM 0 6 1,oW 1 7 6,oC 2 8 0] (.blk 0 (.loop qJW))⟩
def qYE:List qB:=[oM 0 11 0,oY 1 12 3 0 2,oD2 2 13 1305 11 12,oM 3 10 13,oV 4 14 10 0,oV 5 15 10 1,oV 6 16 10 2,oV 7 17 10 3,oM 8 5 14,oM 9 6 15,oM 10 7 16,oM 11 8 17]
def qYF:List qB:=[oM 0 21 0,oD1 1 22 1306 21,oM 2 23 0,oM 3 24 5,oM 4 25 6,oM 5 26 7,oP 6 27 (.call 1307 [.t 23,.t 24,.t 25,.t 26]),oB 7 28 .add 22 27,oE 8 29 .gtr 28 600]
def qYJ:List qB:=[oM 0 34 0,oM 1 35 6,oP 2 36 (.build (.agg [.int .i64 0,.int .i64 0]) [(0,1,.t 35),(1,1,.c (.int .i64 1))]),oM 3 37 7,oP 4 38 (.build (.agg [.int .i64 0,.int .i64 0]) [(0,1,.t 37),(1,1,.c (.int .i64 1))]),oP 5 39 (.call 1308 [.t 34,.t 36,.t 38])]
def qYK:List qB:=[oM 0 40 0,oM 1 41 6,oP 2 42 (.build (.agg [.int .i64 0,.int .i64 0]) [(0,1,.t 41),(1,1,.c (.int .i64 2))]),oM 3 43 7,oP 4 44 (.build (.agg [.int .i64 0,.int .i64 0]) [(0,1,.t 43),(1,1,.c (.int .i64 2))]),oP 5 45 (.call 1308 [.t 40,.t 42,.t 44])]
def qYL:List qB:=[oM 0 48 0,oM 1 49 6,oM 2 50 7,oP 3 51 (.call 1309 [.t 48,.t 49,.t 50])]
def qYM:List qB:=[oM 0 54 9,oM 1 55 0,oK 2 56 55,oF 3 57 0 56,oF 4 58 0 57,oL 5 59 58,oM 6 60 7,oA 7 61 5 59 60,oF 8 62 4 61,oL 9 63 62,oW 10 64 63,oB 11 65 .lss 54 64]
def qYN:List qB:=[oM 0 68 0,oM 1 69 7,oM 2 70 9,oP 3 71 (.build (.agg [.int .i64 0,.int .i64 0]) [(0,1,.t 69),(1,1,.t 70)]),oM 4 72 0,oP 5 73 (.call 1311 [.t 72,.c (.int .i64 5),.c (.int .i64 0),.c (.int .i64 0),.c (.nils),.c (.int .i64 1)]),oP 6 74 (.build (.agg [.int .i64 0,.int .i64 0]) [(0,1,.t 73),(1,1,.c (.int .i64 0))]),oP 7 75 (.call 1310 [.t 68,.t 71,.t 74])]
def qYD:qL:=sr [oC 0 9 1] (.blk 1 (.loop (.seq (sr qYM (.cond (.t 65) .skip (.exit 1))) (.seq (.blk 2 (.reg true qYN)) (.reg true [oM 0 66 9,oE 1 67 .add 66 1,oM 2 9 67])))))
def qYO:List qB:=[oM 0 78 0,oM 1 79 6,oM 2 80 7,oP 3 81 (.call 1312 [.t 78,.t 79,.t 80])]
def qYP:List qB:=[oM 0 84 0,oM 1 85 6,oM 2 86 7,oP 3 87 (.call 1313 [.t 84,.t 85,.t 86])]
def qYG:List qB:=[oM 0 90 0,oM 1 91 6,oM 2 92 7,oP 3 93 (.call 1314 [.t 90,.t 91,.t 92])]
def qYH:List qB:=[oM 0 94 0,oM 1 95 6,oP 2 96 (.bslice 1 (.int .i64 0) 1 [(0,.t 95)]),oD2 3 97 1315 94 96]
def qX9:qL:=sr [oE 0 83 .eql 30 6,oM 1 82 83] (.cond (.t 82) (.reg true qYP) (sr [oE 0 89 .eql 30 7,oM 1 88 89] (.cond (.t 88) (sr qYG (sr qYH (sr [oC 0 4 0] .ret))) .skip)))
def qYA:qL:=sr [oE 0 47 .eql 30 3,oM 1 46 47] (.cond (.t 46) (.reg true qYL) (sr [oE 0 53 .eql 30 4,oM 1 52 53] (.cond (.t 52) qYD (sr [oE 0 77 .eql 30 5,oM 1 76 77] (.cond (.t 76) (.reg true qYO) qX9)))))
def qYB:qL:=sr [oM 0 30 5] (.blk 0 (.seq (sr [oE 0 32 .eql 30 1,oM 1 31 32] (.cond (.t 31) .skip (.reg true [oE 0 33 .eql 30 2,oM 1 31 33]))) (.cond (.t 31) (sr qYJ (.reg true qYK)) qYA)))
def qYI:List qB:=[oM 0 98 0,oM 1 99 6,oM 2 100 7,oP 3 101 (.bslice 1 (.int .i64 0) 2 [(0,.t 99),(1,.t 100)]),oD2 4 102 1315 98 101]
def qYC:qL:=.seq (sr [oM 0 18 8,oE 1 19 .neq 18 0] (.cond (.t 19) (sr [oM 0 20 8,oM 1 4 20] .ret) .skip)) (.seq (sr qYF (.cond (.t 29) (sr [oC 0 4 4] .ret) .skip)) (.seq qYB (sr qYI (sr [oC 0 4 0] .ret))))
def F983:qP:=⟨2,103,[.t 4],sr [oP 0 3 (.lbox 2 (.t 1)),oC 1 4 0] (sr qYE qYC)⟩
def qYQ:List qB:=[oM 0 8 0,oK 1 9 8,oF 2 10 3 9,oL 3 11 10,oP 4 12 (.build (.agg [.int .i64 0,.int .i64 0,.int .i64 0]) [(0,1,.t 11),(1,1,.c (.int .i64 (-1))),(2,1,.c (.int .i64 (-1)))]),oP 5 7 (.lalloc (.agg [.int .i64 0,.int .i64 0,.int .i64 0])),oS 6 7 0 3 12]
def qYR:List qB:=[oU 0 14 4,oX 1 15 4 2,oE 2 16 .eql 15 3,oM 3 17 16,oH 4 18 17 true 2,oG 5 19 17 true (.bin .lss (.t 18) (.c (.int .i64 2))),oPf 6 20 17 19,oM 7 13 20]
def qYS:List qB:=[oM 0 21 0,oK 1 22 21,oF 2 23 5 22,oL 3 24 23,oU 4 25 4,oX 5 26 4 4,oA 6 27 3 24 26,oF 7 28 1 27,oL 8 29 28,oM 9 30 0,oK 10 31 30,oF 11 32 5 31,oL 12 33 32,oU 13 34 4,oX 14 35 4 4,oA 15 36 3 33 35,oF 16 37 2 36,oL 17 38 37,oU 18 39 7,oS 19 7 1 1 29,oU 20 40 7,oS 21 7 2 1 38]
def qYT:List qB:=[oU 0 42 4,oX 1 43 4 2,oE 2 44 .eql 43 7,oM 3 41 44]
def qYU:List qB:=[oU 0 45 4,oX 1 46 4 5,oM 2 47 2,oE 3 48 .add 47 1,oU 4 49 7,oS 5 7 1 1 46,oU 6 50 7,oS 7 7 2 1 48]
def F984:qP:=⟨3,52,[.l 6 (some 3)],sr [oP 0 4 (.lbox 6 (.t 1)),oP 1 6 (.lalloc (.agg [.int .i64 0,.int .i64 0,.int .i64 0]))] (sr qYQ (.seq (.blk 0 (sr qYR (.cond (.t 13) (.reg true qYS) (sr qYT (.cond (.t 41) (.reg true qYU) .skip))))) (sr [oY 0 51 7 0 3,oS 1 6 0 3 51] .ret)))⟩
def qTL:List qB:=[oM 0 18 16,oA 1 19 1 14 16,oL 2 20 19,oM 3 6 18,oM 4 7 20]
def qTM:List qB:=[oM 0 21 5,oM 1 22 7,oM 2 23 6,oN 3 (.mupd (.t 21) (.t 22) (.t 23))]
def qTH:qL:=.loop (sr [oB 0 17 .lss 16 15] (.seq (.cond (.t 17) .skip (.exit 0)) (.seq (.blk 1 (sr qTL (.reg true qTM))) (.reg true [oE 0 24 .add 16 1,oM 1 16 24]))))
def qTN:List qB:=[oM 0 31 0,oK 1 32 31,oF 2 33 0 32,oL 3 34 33,oM 4 35 10,oA 5 36 5 34 35,oP 6 37 (.load (some 5) (.t 36)),oD1 7 38 1085 37,oP 8 11 (.lalloc (.agg [.int .i64 0,.int .i64 0,.int .i64 0,.nils,.nils])),oS 9 11 0 5 38]
def qTO:List qB:=[oU 0 39 11,oX 1 40 11 4,oW 2 41 40,oC 3 42 0]
def qTP:List qB:=[oU 0 45 11,oX 1 46 11 4,oM 2 47 12,oM 3 48 5,oU 4 49 11,oX 5 50 11 4,oM 6 51 12,oA 7 52 2 50 51,oF 8 53 0 52,oL 9 54 53,oP 10 55 (.look (.int .i64 0) (.t 48) (.t 54) false),oA 11 56 2 46 47,oF 12 57 0 56,oT 13 1 57 55]
def qTI:qL:=sr [oB 0 43 .lss 42 41] (.seq (.cond (.t 43) .skip (.exit 4)) (.seq (.blk 5 (sr [oM 0 44 42,oM 1 12 44] (.reg true qTP))) (.reg true [oE 0 58 .add 42 1,oM 1 42 58])))
def qTQ:List qB:=[oU 0 59 8,oX 1 60 8 0,oY 2 61 11 0 5,oP 3 62 (.bslice 5 (.agg [.int .i64 0,.int .i64 0,.int .i64 0,.nils,.nils]) 1 [(0,.t 61)]),oP 4 63 (.app 5 (.t 60) (.t 62)),oU 5 64 8,oS 6 8 0 1 63]
def qTJ:qL:=sr [oA 0 29 1 25 27,oL 1 30 29,oM 2 10 30] (sr qTN (.seq (sr qTO (.blk 4 (.loop qTI))) (.reg true qTQ)))
def qTK:qL:=sr [oM 0 25 1,oW 1 26 25,oC 2 27 0] (.blk 2 (.loop (sr [oB 0 28 .lss 27 26] (.seq (.cond (.t 28) .skip (.exit 2)) (.seq (.blk 3 qTJ) (.reg true [oE 0 65 .add 27 1,oM 1 27 65]))))))
def qTG:qL:=.seq (sr [oM 0 14 1,oW 1 15 14,oC 2 16 0] (.blk 0 qTH)) (sr [oP 0 8 (.lalloc (.agg [.nils]))] (.seq qTK (sr [oY 0 66 8 0 1,oS 1 4 0 1 66] .ret)))
def kX:qP:=⟨2,67,[.l 4 (some 1)],sr [oP 0 4 (.lalloc (.agg [.nils]))] (sr [oP 0 13 (.mkmap),oM 1 5 13] qTG)⟩
def qYW:List qB:=[oM 0 5 0,oK 1 6 5,oF 2 7 0 6,oF 3 8 0 7,oL 4 9 8,oW 5 10 9,oC 6 11 0]
def qYX:List qB:=[oM 0 14 0,oK 1 15 14,oF 2 16 2 15,oL 3 17 16,oM 4 18 4,oP 5 19 (.look (.bool false) (.t 17) (.t 18) false),oJ 6 20 19]
def qYY:List qB:=[oM 0 21 3,oM 1 22 4,oP 2 23 (.bslice 1 (.int .i64 0) 1 [(0,.t 22)]),oP 3 24 (.app 1 (.t 21) (.t 23)),oM 4 3 24]
def qYV:qL:=sr [oB 0 12 .lss 11 10] (.seq (.cond (.t 12) .skip (.exit 0)) (.seq (.blk 1 (sr [oM 0 13 11,oM 1 4 13] (sr qYX (.cond (.t 20) (.reg true qYY) .skip)))) (.reg true [oE 0 25 .add 11 1,oM 1 11 25])))
def qYZ:List qB:=[oM 0 26 0,oK 1 27 26,oF 2 28 0 27,oM 3 29 3,oD2 4 30 702 28 29,oS 5 2 0 1 30]
def F985:qP:=⟨1,31,[.l 2 (some 1)],sr [oP 0 2 (.lalloc (.agg [.nils]))] (sr [oP 0 3 (.mov (.c (.nils)))] (.seq (sr qYW (.blk 0 (.loop qYV))) (sr qYZ .ret)))⟩
def qY0:List qB:=[oM 0 2 0,oM 1 3 0,oK 2 4 3,oF 3 5 7 4,oL 4 6 5,oM 5 7 0,oK 6 8 7,oF 7 9 3 8,oL 8 10 9,oM 9 11 0,oK 10 12 11,oF 11 13 4 12,oP 12 14 (.load (some 1) (.t 13)),oM 14 16 0,oK 15 17 16,oF 16 18 5 17,oL 17 19 18,⟨13,some 15,none,.call 798 [.t 14],[⟨4,some 6,none,.load none (.t 5),[]⟩,⟨8,some 10,none,.load none (.t 9),[]⟩,⟨17,some 19,none,.load none (.t 18),[]⟩]⟩,⟨18,some 20,none,.call 799 [.t 19],[⟨4,some 6,none,.load none (.t 5),[]⟩,⟨8,some 10,none,.load none (.t 9),[]⟩]⟩,oP 19 21 (.build (.agg [.int .i64 0,.nils,.nils]) [(0,1,.t 10),(1,1,.t 15),(2,1,.t 20)]),oP 20 22 (.bslice 3 (.agg [.int .i64 0,.nils,.nils]) 1 [(0,.t 21)]),oP 21 23 (.app 3 (.t 6) (.t 22)),oK 22 24 2,oF 23 25 7 24,oT 24 1 25 23]
def F986:qP:=⟨1,26,[],.reg true qY0⟩
def qTC:List qB:=[oM 0 9 0,oK 1 10 9,oF 2 11 0 10,oL 3 12 11,oM 4 13 0,oK 5 14 13,oF 6 15 4 14,oP 7 16 (.load (some 1) (.t 15)),oD2 8 17 982 12 16,oM 9 5 17]
def qTD:List qB:=[oM 0 18 5,oU 1 19 3,oY 2 20 3 0 2,oD2 3 21 983 18 20,oM 4 6 21]
def qTE:List qB:=[oM 0 25 0,oK 1 26 25,oF 2 27 3 26,oL 3 28 27,oE 4 29 .add 28 1,oK 5 30 25,oF 6 31 3 30,oT 7 1 31 29]
def qTF:List qB:=[oM 0 32 5,oK 1 33 32,oF 2 34 0 33,oF 3 35 0 34,oL 4 36 35,oW 5 37 36,oC 6 38 0]
def jl:List qB:=[oM 0 55 5,oK 1 56 55,oF 2 57 2 56,oL 3 58 57,oM 4 59 8,oP 5 60 (.look (.bool false) (.t 58) (.t 59) false),oM 6 54 60]
def jm:List qB:=[oM 0 62 8,oM 1 63 0,oK 2 64 63,oF 3 65 5 64,oL 4 66 65,oW 5 67 66,oB 6 68 .lss 62 67,oM 7 61 68]
def jn:List qB:=[oM 0 69 7,oM 1 70 0,oK 2 71 70,oF 3 72 5 71,oL 4 73 72,oM 5 74 8,oA 6 75 3 73 74,oP 7 76 (.load (some 3) (.t 75)),oP 8 77 (.bslice 3 (.agg [.int .i64 0,.int .i64 0,.int .i64 0]) 1 [(0,.t 76)]),oP 9 78 (.app 3 (.t 69) (.t 77)),oM 10 7 78]
def jo:List qB:=[oM 0 41 7,oM 1 42 0,oY 2 43 3 0 6,oM 3 44 8,oM 4 45 0,oK 5 46 45,oF 6 47 5 46,oL 7 48 47,oW 8 49 48,oB 9 50 .sub 44 49,oP 10 51 (.call 984 [.t 42,.t 43,.t 50]),oP 11 52 (.bslice 3 (.agg [.int .i64 0,.int .i64 0,.int .i64 0]) 1 [(0,.t 51)]),oP 12 53 (.app 3 (.t 41) (.t 52)),oM 13 7 53]
def qTB:qL:=.seq (.blk 1 (sr [oM 0 40 38,oM 1 8 40] (.blk 2 (sr jl (.cond (.t 54) .skip (sr jm (.cond (.t 61) (.reg true jn) (.reg true jo)))))))) (.reg true [oE 0 79 .add 38 1,oM 1 38 79])
def jp:List qB:=[oM 0 80 0,oM 1 81 0,oM 2 82 5,oD1 3 83 985 82,oM 4 84 7,oK 5 85 80,oF 6 86 4 85,oT 7 1 86 83,oK 8 87 81,oF 9 88 5 87,oT 10 1 88 84]
def ji:List qB:=[oM 0 89 0,oK 1 90 89,oF 2 91 3 90,oL 3 92 91,oM 4 93 0,oK 5 94 93,oF 6 95 2 94,oL 7 96 95,oB 8 97 .rem 92 96,oE 9 98 .eql 97 0,oM 10 99 98,oH 11 100 99 true 0,oG 12 101 99 true (.nilchk (.t 100)),oG 13 102 99 true (.faddr 3 (.t 101)),oG 14 103 99 true (.load none (.t 102)),oH 15 104 99 true 0,oG 16 105 99 true (.nilchk (.t 104)),oG 17 106 99 true (.faddr 2 (.t 105)),oG 18 107 99 true (.load none (.t 106)),oG 19 108 99 true (.bin .quo (.t 103) (.t 107)),oH 20 109 99 true 0,oG 21 110 99 true (.nilchk (.t 109)),oG 22 111 99 true (.faddr 7 (.t 110)),oG 23 112 99 true (.load none (.t 111)),oG 24 113 99 true (.len (.t 112)),oG 25 114 99 true (.bin .geq (.t 108) (.t 113)),oPf 26 115 99 114]
def qS9:qL:=.seq (sr qTF (.blk 0 (.loop (sr [oB 0 39 .lss 38 37] (.seq (.cond (.t 39) .skip (.exit 0)) qTB))))) (sr jp (.seq (sr ji (.cond (.t 115) (.reg true [oM 0 116 0,oD1 1 117 986 116]) .skip)) (sr [oC 0 4 0] .ret)))
def qTA:qL:=.seq (sr qTD (sr [oM 0 22 6,oE 1 23 .neq 22 0] (.cond (.t 23) (sr [oM 0 24 6,oM 1 4 24] .ret) .skip))) (sr qTE (sr [oP 0 7 (.mov (.c (.nils)))] qS9))
def kW:qP:=⟨2,118,[.t 4],sr [oP 0 3 (.lbox 6 (.t 1)),oC 1 4 0] (sr qTC qTA)⟩
def qW7:qL:=.seq (sr [oM 0 5 0,oM 1 6 1,oB 2 7 .lss 5 6] (.cond (.t 7) (sr [oM 0 8 0,oM 1 4 8] .ret) .skip)) (sr [oM 0 9 1,oM 1 4 9] .ret)
def F978:qP:=⟨2,10,[.t 4],sr [oC 0 4 0] qW7⟩
def qSG:List qB:=[oM 0 8 1,oM 1 9 0,oK 2 10 9,oF 3 11 2 10,oL 4 12 11,oB 5 13 .quo 8 12,oM 6 14 0,oK 7 15 14,oF 8 16 7 15,oL 9 17 16,oW 10 18 17,oE 11 19 .sub 18 1,oD2 12 20 978 13 19,oM 13 5 20]
def qSH:List qB:=[oM 0 21 1,oM 1 22 0,oK 2 23 22,oF 3 24 3 23,oL 4 25 24,oB 5 26 .lss 21 25,oM 6 27 26,oH 7 28 27 false 0,oG 8 29 27 false (.nilchk (.t 28)),oG 9 30 27 false (.faddr 7 (.t 29)),oG 10 31 27 false (.load none (.t 30)),oH 11 32 27 false 5,oG 12 33 27 false (.iaddr 3 (.t 31) (.t 32)),oG 13 34 27 false (.faddr 0 (.t 33)),oG 14 35 27 false (.load none (.t 34)),oH 15 36 27 false 0,oG 16 37 27 false (.nilchk (.t 36)),oG 17 38 27 false (.faddr 3 (.t 37)),oG 18 39 27 false (.load none (.t 38)),oG 19 40 27 false (.bin .gtr (.t 35) (.t 39)),oPt 20 41 27 40]
def qSI:List qB:=[oM 0 42 0,oK 1 43 42,oF 2 44 7 43,oL 3 45 44,oM 4 46 5,oA 5 47 3 45 46,oD1 6 48 795 47,oP 7 6 (.lalloc (.agg [.int .i64 0,.nils,.nils])),oS 8 6 0 3 48]
def qSJ:List qB:=[oM 0 49 0,oU 1 50 6,oX 2 51 6 0,oK 3 52 49,oF 4 53 3 52,oT 5 1 53 51]
def qSK:List qB:=[oM 0 54 0,oU 1 55 6,oY 2 56 6 1 1,oK 3 57 54,oF 4 58 4 57,oT 5 1 58 56]
def qSL:List qB:=[oM 0 59 0,oU 1 60 6,oX 2 61 6 2,oK 3 62 59,oF 4 63 5 62,oT 5 1 63 61]
def qSM:List qB:=[oM 0 64 0,oK 1 65 64,oF 2 66 3 65,oL 3 67 66,oM 4 68 1,oB 5 69 .lss 67 68]
def qSE:qL:=sr [oM 0 70 0,oD1 1 71 607 70,oM 2 7 71] (sr [oM 0 72 7,oE 1 73 .neq 72 0] (.cond (.t 73) (sr [oM 0 74 7,oM 1 4 74] .ret) .skip))
def qSF:qL:=.seq (sr qSH (.cond (.t 41) (sr qSI (sr qSJ (sr qSK (.reg true qSL)))) .skip)) (.seq (.blk 0 (.loop (.seq (sr qSM (.cond (.t 69) .skip (.exit 0))) (.blk 1 qSE)))) (sr [oC 0 4 0] .ret))
def kR:qP:=⟨2,75,[.t 4],sr [oC 0 4 0] (sr qSG qSF)⟩
def qNE:List qB:=[oM 0 11 1,oF 1 12 3 2,oL 2 13 12,oP 3 14 (.call 340 [.t 11,.c (.int .i64 0),.t 13]),oJ 4 15 14]
def qNF:List qB:=[oF 0 18 3 2,oL 1 19 18,oM 2 20 1,oB 3 21 .sub 19 20,oD2 4 22 605 6 21,oM 5 7 22]
def qNG:List qB:=[oP 0 25 (.build (.agg [.nils,.nils,.int .i64 0,.int .i64 0,.nils,.nils,.nils,.nils]) []),oM 1 26 7,oS 2 4 0 8 25,oM 3 5 26]
def qNC:qL:=sr qNF (.seq (sr [oM 0 23 7,oE 1 24 .neq 23 0] (.cond (.t 24) (sr qNG .ret) .skip)) (sr [oP 0 27 (.load (some 8) (.t 6)),oS 1 4 0 8 27,oC 2 5 0] .ret))
def qND:qL:=.seq (sr qNE (.cond (.t 15) (sr [oP 0 16 (.build (.agg [.nils,.nils,.int .i64 0,.int .i64 0,.nils,.nils,.nils,.nils]) []),oS 1 4 0 8 16,oC 2 5 2] .ret) .skip)) (sr [oD1 0 17 427 2,oP 1 6 (.halloc 8 (.agg [.nils,.nils,.int .i64 0,.int .i64 0,.nils,.nils,.nils,.nils])),oT 2 8 6 17] qNC)
def Kj:qP:=⟨2,28,[.l 4 (some 8),.t 5],sr [oP 0 2 (.hbox 8 (.t 0)),oP 1 4 (.lalloc (.agg [.nils,.nils,.int .i64 0,.int .i64 0,.nils,.nils,.nils,.nils])),oC 2 5 0] (.seq (sr [oD1 0 8 367 2,oJ 1 9 8] (.cond (.t 9) (sr [oP 0 10 (.build (.agg [.nils,.nils,.int .i64 0,.int .i64 0,.nils,.nils,.nils,.nils]) []),oS 1 4 0 8 10,oC 2 5 1] .ret) .skip)) qND)⟩
def qSO:List qB:=[oY 0 11 2 0 8,oD1 1 12 429 11,oP 2 6 (.halloc 8 (.agg [.nils,.nils,.int .i64 0,.int .i64 0,.nils,.nils,.nils,.nils])),oT 3 8 6 12]
def zk:List qB:=[oF 0 13 7 6,oL 1 14 13,oM 2 15 1,oF 3 16 2 6,oL 4 17 16,oB 5 18 .quo 15 17,oF 6 19 7 6,oL 7 20 19,oW 8 21 20,oE 9 22 .sub 21 1,oP 10 23 (.min (.t 18) (.t 22)),oA 11 24 3 14 23,oP 12 25 (.load (some 3) (.t 24)),oP 13 7 (.lalloc (.agg [.int .i64 0,.nils,.nils])),oS 14 7 0 3 25]
def zo:List qB:=[oM 0 26 1,oF 1 27 3 6,oL 2 28 27,oB 3 29 .lss 26 28,oM 4 30 29,oG 5 31 30 false (.nop 7),oG 6 32 30 false (.lload 7 0 none),oG 7 33 30 false (.faddr 3 (.t 6)),oG 8 34 30 false (.load none (.t 33)),oG 9 35 30 false (.bin .gtr (.t 32) (.t 34)),oPt 10 36 30 35]
def zq:List qB:=[oU 0 37 7,oX 1 38 7 0,oU 2 39 7,oY 3 40 7 1 1,oU 5 42 7,oX 6 43 7 2,oD1 4 41 798 40,oD1 7 44 799 43,oF 8 45 3 6,oT 9 1 45 38,oF 10 46 4 6,oT 11 1 46 41,oF 12 47 5 6,oT 13 1 47 44]
def zd:List qB:=[oF 0 48 3 6,oL 1 49 48,oM 2 50 1,oB 3 51 .lss 49 50]
def ze:List qB:=[oD1 0 53 374 6,oM 1 52 53,oV 2 54 52 0,oV 3 55 52 1,oP 4 8 (.lalloc (.agg [.int .i64 0,.int .i64 0,.int .i64 0,.int .i64 0,.int .i64 0,.int .i64 0])),oS 5 8 0 6 54,oM 6 9 55]
def qSP:List qB:=[oP 0 63 (.build (.agg [.nils,.nils,.int .i64 0,.int .i64 0,.nils,.nils,.nils,.nils]) []),oM 1 64 10,oS 2 4 0 8 63,oM 3 5 64]
def kS:qL:=.seq (sr [oM 0 56 9,oJ 1 57 56] (.cond (.t 57) (sr [oP 0 58 (.build (.agg [.nils,.nils,.int .i64 0,.int .i64 0,.nils,.nils,.nils,.nils]) []),oS 1 4 0 8 58,oC 2 5 3] .ret) .skip)) (sr [oY 0 59 8 0 6,oD2 1 60 608 6 59,oM 2 10 60] (sr [oM 0 61 10,oE 1 62 .neq 61 0] (.cond (.t 62) (sr qSP .ret) .skip)))
def zf:List qB:=[oP 0 65 (.load (some 8) (.t 6)),oD1 1 66 429 65,oS 2 4 0 8 66,oC 3 5 0]
def qSN:qL:=sr qSO (sr zk (.seq (sr zo (.cond (.t 36) (.reg true zq) .skip)) (.seq (.blk 0 (.loop (.seq (sr zd (.cond (.t 51) .skip (.exit 0))) (.blk 1 (sr ze kS))))) (sr zf .ret))))
def Yh:qP:=⟨2,67,[.l 4 (some 8),.t 5],sr [oP 0 2 (.lbox 8 (.t 0)),oP 1 4 (.lalloc (.agg [.nils,.nils,.int .i64 0,.int .i64 0,.nils,.nils,.nils,.nils])),oC 2 5 0] qSN⟩
def qNI:List qB:=[oY 0 7 2 0 8,oD1 1 8 373 7,oJ 2 9 8,oM 3 6 9]
def qNJ:List qB:=[oU 0 12 2,oX 1 13 2 3,oM 2 14 1,oP 3 15 (.bslice 1 (.int .i64 0) 1 [(0,.t 14)]),oD2 4 16 436 13 15,oJ 5 17 16,oM 6 11 17]
def qNH:qL:=.cond (.t 6) (sr [oP 0 10 (.build (.agg [.nils,.nils,.int .i64 0,.int .i64 0,.nils,.nils,.nils,.nils]) []),oS 1 4 0 8 10,oC 2 5 1] .ret) (sr qNJ (.cond (.t 11) (sr [oP 0 18 (.build (.agg [.nils,.nils,.int .i64 0,.int .i64 0,.nils,.nils,.nils,.nils]) []),oS 1 4 0 8 18,oC 2 5 2] .ret) .skip))
def qNK:List qB:=[oY 0 19 2 0 8,oU 1 20 2,oX 2 21 2 3,oM 3 22 1,oB 4 23 .sub 21 22,oD2 5 24 606 19 23,oV 6 25 24 0,oV 7 26 24 1,oS 8 4 0 8 25,oM 9 5 26]
def Kk:qP:=⟨2,27,[.l 4 (some 8),.t 5],sr [oP 0 2 (.lbox 8 (.t 0)),oP 1 4 (.lalloc (.agg [.nils,.nils,.int .i64 0,.int .i64 0,.nils,.nils,.nils,.nils])),oC 2 5 0] (.seq (.blk 0 (sr qNI qNH)) (sr qNK .ret))⟩
def qPC:List qB:=[oY 0 16 2 0 8,oM 1 17 5,oD2 2 18 104 16 17,oM 3 5 18]
def qPD:List qB:=[oY 0 22 2 0 8,oD1 1 23 106 22,oM 2 24 1,oD2 3 25 248 23 24,oM 4 21 25,oV 5 26 21 0,oV 6 27 21 1,oP 7 6 (.lalloc (.agg [.nils,.nils,.int .i64 0,.int .i64 0,.nils,.nils,.nils,.nils])),oS 8 6 0 8 26,oM 9 7 27]
def qPH:List qB:=[oY 0 28 2 0 8,oD1 1 29 106 28,oP 2 8 (.lalloc (.agg [.nils,.nils,.int .i64 0,.int .i64 0,.nils,.nils,.nils,.nils])),oS 3 8 0 8 29]
def qPI:List qB:=[oY 0 31 8 0 8,oM 1 32 1,oD2 2 33 249 31 32,oM 3 30 33,oV 4 34 30 0,oV 5 35 30 1,oP 6 9 (.lalloc (.agg [.nils,.nils,.int .i64 0,.int .i64 0,.nils,.nils,.nils,.nils])),oS 7 9 0 8 34,oM 8 10 35]
def qPJ:List qB:=[oY 0 36 9 0 8,oY 1 37 6 0 8,oD2 2 38 108 36 37,oJ 3 39 38,oM 4 40 39,oH 5 41 40 false 10,oH 6 42 40 false 7,oG 7 43 40 false (.bin .neq (.t 41) (.t 42)),oPt 8 44 40 43]
def qPK:List qB:=[oY 0 45 8 0 8,oY 1 46 2 0 8,oD1 2 47 106 46,oD2 3 48 108 45 47,oJ 4 49 48]
def qPL:List qB:=[oY 0 50 8 0 8,oM 1 51 11,oD2 2 52 136 50 51,oM 3 11 52]
def qPM:List qB:=[oM 0 53 11,oE 1 54 .lss 53 0,oM 2 55 54,oG 3 56 55 false (.lload 9 0 (some 8)),oG 4 57 55 false (.lload 6 0 (some 8)),oG 5 58 55 false (.call 108 [.t 56,.t 57]),oG 6 59 55 false (.not (.t 58)),oPt 7 60 55 59,oM 8 61 60,oH 9 62 61 false 10,oH 10 63 61 false 7,oG 11 64 61 false (.bin .neq (.t 62) (.t 63)),oPt 12 65 61 64]
def qPN:List qB:=[oY 0 66 9 0 8,oM 1 67 12,oD2 2 68 136 66 67,oM 3 12 68]
def qPO:List qB:=[oY 0 69 9 0 8,oM 1 70 13,oD2 2 71 137 69 70,oM 3 13 71]
def qPE:List qB:=[oY 0 78 2 0 8,oD1 1 79 106 78,oM 2 80 1,oD2 3 81 249 79 80,oM 4 77 81,oV 5 82 77 0,oV 6 83 77 1,oP 7 14 (.lalloc (.agg [.nils,.nils,.int .i64 0,.int .i64 0,.nils,.nils,.nils,.nils])),oS 8 14 0 8 82,oM 9 15 83]
def qPF:List qB:=[oY 0 84 14 0 8,oY 1 85 6 0 8,oD2 2 86 108 84 85,oJ 3 87 86,oM 4 88 87,oH 5 89 88 false 15,oH 6 90 88 false 7,oG 7 91 88 false (.bin .neq (.t 89) (.t 90)),oPt 8 92 88 91]
def qPG:List qB:=[oY 0 93 9 0 8,oM 1 94 13,oD2 2 95 137 93 94,oM 3 13 95]
def qO7:qL:=.seq (sr [oM 0 96 13,oE 1 97 .lss 96 0] (.cond (.t 97) (sr [oQ 0 4 false] .ret) .skip)) (.seq (sr [oM 0 98 13,oM 1 99 12,oB 2 100 .neq 98 99] (.cond (.t 100) (sr [oQ 0 4 false] .ret) .skip)) (sr [oQ 0 4 true] .ret))
def qO8:qL:=.seq (sr [oM 0 74 13,oM 1 75 12,oB 2 76 .neq 74 75] (.cond (.t 76) (sr [oQ 0 4 false] .ret) .skip)) (sr qPE (.seq (sr qPF (.cond (.t 92) (sr [oQ 0 4 false] .ret) .skip)) (sr [oC 0 13 1] (sr qPG qO7))))
def qO9:qL:=sr qPN (sr [oC 0 13 1] (sr qPO (.seq (sr [oM 0 72 13,oE 1 73 .lss 72 0] (.cond (.t 73) (sr [oQ 0 4 false] .ret) .skip)) qO8)))
def qPA:qL:=.seq (sr qPK (.cond (.t 49) (sr [oQ 0 4 false] .ret) .skip)) (sr [oC 0 11 1] (sr qPL (.seq (sr qPM (.cond (.t 65) (sr [oQ 0 4 false] .ret) .skip)) (sr [oC 0 12 1] qO9))))
def qPB:qL:=.seq (sr [oM 0 19 5,oE 1 20 .lss 19 0] (.cond (.t 20) (sr [oQ 0 4 true] .ret) .skip)) (sr qPD (sr qPH (sr qPI (.seq (sr qPJ (.cond (.t 44) (sr [oQ 0 4 false] .ret) .skip)) qPA))))
def F40:qP:=⟨2,101,[.t 4],sr [oP 0 2 (.lbox 8 (.t 0)),oQ 1 4 false] (sr [oC 0 5 1048576] (sr qPC qPB))⟩
@[go_sem] theorem rR0:OE qV5.eq_1/\OE qV6.eq_1/\CE qV4.eq_1/\OE qM0.eq_1/\CE qMZ.eq_1/\OE qT4.eq_1/\OE qT5.eq_1/\CE qT3.eq_1/\OE qDP.eq_1/\OE qDQ.eq_1/\OE qDR.eq_1/\OE qDS.eq_1/\OE qDT.eq_1/\OE qDU.eq_1/\CE qDM.eq_1/\CE qDN.eq_1/\CE qDO.eq_1/\OE qNX.eq_1/\OE qPR.eq_1/\OE qPS.eq_1/\CE qPP.eq_1/\CE qPQ.eq_1/\OE qPU.eq_1/\OE qPV.eq_1/\OE qPW.eq_1/\OE qPX.eq_1/\CE qPT.eq_1/\OE qRD.eq_1/\CE qJ7.eq_1/\CE qJ8.eq_1/\CE qJ9.eq_1/\CE qKA.eq_1/\CE qKB.eq_1/\CE qKC.eq_1/\OE qKS.eq_1/\OE qKT.eq_1/\CE qKD.eq_1/\CE qKE.eq_1/\CE qKF.eq_1/\OE qKU.eq_1/\OE qKZ.eq_1/\OE qK0.eq_1/\OE qK2.eq_1/\OE qK3.eq_1/\OE qK4.eq_1/\OE qK5.eq_1/\OE qK6.eq_1/\OE qK7.eq_1/\OE qK8.eq_1/\CE qKY.eq_1/\CE qKV.eq_1/\CE qKW.eq_1/\CE qKX.eq_1/\OE qK1.eq_1/\OE qEH.eq_1/\OE qEI.eq_1/\OE qTS.eq_1/\OE qTT.eq_1/\OE qTU.eq_1/\CE qTR.eq_1:=by and_intros<;>first|exact OEM _|exact CEM _
@[go_sem] theorem rR1:OE qNO.eq_1/\OE qNP.eq_1/\OE qNQ.eq_1/\OE qNR.eq_1/\OE qNS.eq_1/\OE qNT.eq_1/\OE qNU.eq_1/\CE qNL.eq_1/\CE qNM.eq_1/\CE qNN.eq_1/\OE qSC.eq_1/\OE qSD.eq_1/\CE qSA.eq_1/\CE qSB.eq_1/\OE qEY.eq_1/\OE qT7.eq_1/\OE qT8.eq_1/\OE qT9.eq_1/\CE qT6.eq_1/\OE qN1.eq_1/\OE qN2.eq_1/\OE qN3.eq_1/\CE qNY.eq_1/\OE qN4.eq_1/\OE qN5.eq_1/\OE qN6.eq_1/\OE qN7.eq_1/\CE qNZ.eq_1/\CE qN0.eq_1/\OE qUC.eq_1/\OE qUD.eq_1/\OE qUE.eq_1/\OE qUF.eq_1/\OE qUG.eq_1/\CE qUA.eq_1/\CE qUB.eq_1/\OE qLG.eq_1/\OE qMR.eq_1/\OE qMS.eq_1/\OE qMT.eq_1/\CE qMU.eq_1/\CE qMV.eq_1/\OE qLM.eq_1/\OE qLN.eq_1/\OE qLO.eq_1/\CE qLH.eq_1/\CE qLI.eq_1/\CE qLJ.eq_1/\CE qLK.eq_1/\CE qLL.eq_1/\OE qE0.eq_1/\OE qE1.eq_1/\OE qE2.eq_1/\CE qEZ.eq_1/\OE qUH.eq_1/\OE qUI.eq_1/\OE qUJ.eq_1/\OE qUK.eq_1/\OE qUL.eq_1/\OE qE4.eq_1:=by and_intros<;>first|exact OEM _|exact CEM _
@[go_sem] theorem rR2:OE qE5.eq_1/\OE qE6.eq_1/\CE qE3.eq_1/\OE qUM.eq_1/\OE qUN.eq_1/\OE qUO.eq_1/\OE qN9.eq_1/\OE qOA.eq_1/\OE qOB.eq_1/\OE qOC.eq_1/\OE qOD.eq_1/\OE qOE.eq_1/\OE qOF.eq_1/\CE qN8.eq_1/\OE qOG.eq_1/\OE qLZ.eq_1/\OE qL0.eq_1/\OE qV9.eq_1/\OE qWA.eq_1/\OE qWB.eq_1/\OE qWC.eq_1/\OE qWD.eq_1/\CE qV8.eq_1/\OE qM1.eq_1/\OE qUP.eq_1/\OE qUQ.eq_1/\OE qUR.eq_1/\OE qJY.eq_1/\OE qJZ.eq_1/\OE qUS.eq_1/\OE qUT.eq_1/\OE qUU.eq_1/\OE qDY.eq_1/\OE qDZ.eq_1/\OE qD0.eq_1/\OE qD1.eq_1/\OE qD2.eq_1/\OE qD3.eq_1/\OE qD4.eq_1/\OE qD5.eq_1/\CE qDX.eq_1/\OE qVO.eq_1/\OE qO6.eq_1/\OE qV2.eq_1/\OE qRC.eq_1/\OE qR5.eq_1/\OE qR6.eq_1/\OE qR7.eq_1/\OE qR8.eq_1/\CE qR3.eq_1/\CE qR4.eq_1/\OE qVQ.eq_1/\OE qDV.eq_1/\OE qDW.eq_1/\OE qMP.eq_1/\OE qLA.eq_1/\OE qLB.eq_1/\OE qLC.eq_1/\CE qK9.eq_1/\CE qLD.eq_1:=by and_intros<;>first|exact OEM _|exact CEM _
@[go_sem] theorem rR3:OE qKI.eq_1/\OE qMQ.eq_1/\OE qLE.eq_1/\OE qLF.eq_1/\OE qEM.eq_1/\OE qEN.eq_1/\OE qEP.eq_1/\OE qEQ.eq_1/\OE qER.eq_1/\OE qES.eq_1/\OE qET.eq_1/\OE qEU.eq_1/\OE qEV.eq_1/\OE qEW.eq_1/\CE qEJ.eq_1/\CE qEK.eq_1/\CE qEL.eq_1/\OE qEO.eq_1/\OE qTX.eq_1/\OE qTY.eq_1/\OE qTZ.eq_1/\CE qTV.eq_1/\CE qTW.eq_1/\OE qR9.eq_1/\OE qT2.eq_1/\OE qT0.eq_1/\OE qT1.eq_1/\OE qNV.eq_1/\OE qNW.eq_1/\OE qWE.eq_1/\OE qRK.eq_1/\OE qE9.eq_1/\OE qE8.eq_1/\OE qUV.eq_1/\OE qP6.eq_1/\OE qP7.eq_1/\OE qP8.eq_1/\CE qP5.eq_1/\OE qUW.eq_1/\OE qOJ.eq_1/\OE qOK.eq_1/\OE qOL.eq_1/\OE qOM.eq_1/\OE qON.eq_1/\OE qOO.eq_1/\OE qOP.eq_1/\CE qOH.eq_1/\CE qOI.eq_1/\OE qOZ.eq_1/\OE qO0.eq_1/\OE qO1.eq_1/\OE qO2.eq_1/\OE qO3.eq_1/\CE qOY.eq_1/\OE qUX.eq_1/\OE qUY.eq_1/\OE qMW.eq_1/\OE qMX.eq_1/\OE qMY.eq_1/\OE qLV.eq_1:=by and_intros<;>first|exact OEM _|exact CEM _
@[go_sem] theorem rR4:OE qLW.eq_1/\OE qLX.eq_1/\CE qLQ.eq_1/\CE qLR.eq_1/\CE qLS.eq_1/\CE qLT.eq_1/\CE qLU.eq_1/\OE qFC.eq_1/\OE qFD.eq_1/\OE qFE.eq_1/\CE qFA.eq_1/\CE qFB.eq_1/\OE qU0.eq_1/\OE qU1.eq_1/\OE qU2.eq_1/\OE qU3.eq_1/\OE qU4.eq_1/\CE qUZ.eq_1/\OE qOS.eq_1/\OE qOT.eq_1/\OE qOU.eq_1/\OE qOV.eq_1/\OE qOW.eq_1/\OE qOX.eq_1/\CE qOQ.eq_1/\CE qOR.eq_1/\OE qL1.eq_1/\OE qL2.eq_1/\OE qWG.eq_1/\OE qWH.eq_1/\OE qWI.eq_1/\OE qWJ.eq_1/\OE qWK.eq_1/\CE qWF.eq_1/\OE qM2.eq_1/\OE qU6.eq_1/\OE qU7.eq_1/\OE qU8.eq_1/\CE qU5.eq_1/\OE qU9.eq_1/\OE qVA.eq_1/\OE qVC.eq_1/\OE qVD.eq_1/\OE qVE.eq_1/\CE qVB.eq_1/\OE qD9.eq_1/\OE qEA.eq_1/\OE qEB.eq_1/\OE qEC.eq_1/\OE qED.eq_1/\OE qEE.eq_1/\OE qEF.eq_1/\OE qEG.eq_1/\CE qD7.eq_1/\CE qD8.eq_1/\OE qO5.eq_1/\OE qV3.eq_1/\OE qRF.eq_1/\OE qRG.eq_1/\CE qRE.eq_1:=by and_intros<;>first|exact OEM _|exact CEM _
@[go_sem] theorem rR5:OE qVP.eq_1/\OE qP0.eq_1/\OE qP1.eq_1/\OE qP2.eq_1/\CE qPY.eq_1/\OE qP3.eq_1/\OE qP4.eq_1/\CE qPZ.eq_1/\OE qO4.eq_1/\OE qKH.eq_1/\OE qD6.eq_1/\OE qVW.eq_1/\OE qVX.eq_1/\OE qVY.eq_1/\OE qVZ.eq_1/\CE qVV.eq_1/\OE qVT.eq_1/\OE qVU.eq_1/\CE qVR.eq_1/\CE qVS.eq_1/\OE qV0.eq_1/\OE qV1.eq_1/\OE qQB.eq_1/\OE qQC.eq_1/\OE qQD.eq_1/\CE qP9.eq_1/\CE qQA.eq_1/\OE qWW.eq_1/\OE qWX.eq_1/\CE qWV.eq_1/\OE qWN.eq_1/\OE qWO.eq_1/\OE qWP.eq_1/\CE qWL.eq_1/\CE qWM.eq_1/\OE qRN.eq_1/\OE qRO.eq_1/\OE qRP.eq_1/\OE qRQ.eq_1/\OE qRR.eq_1/\OE qRS.eq_1/\CE qRL.eq_1/\CE qRM.eq_1/\OE qM3.eq_1/\OE qM7.eq_1/\OE qM8.eq_1/\CE qM6.eq_1/\OE qQG.eq_1/\OE qQH.eq_1/\OE qQI.eq_1/\OE qQJ.eq_1/\CE qQE.eq_1/\CE qQF.eq_1/\OE qQM.eq_1/\OE qQN.eq_1/\OE qQO.eq_1/\CE qQK.eq_1/\CE qQL.eq_1/\OE qQQ.eq_1/\OE qQR.eq_1:=by and_intros<;>first|exact OEM _|exact CEM _
@[go_sem] theorem rR6:OE qQS.eq_1/\OE qQT.eq_1/\CE qQP.eq_1/\OE qJ1.eq_1/\OE qJ2.eq_1/\OE qJ3.eq_1/\OE qJ4.eq_1/\OE qJ5.eq_1/\OE qJ6.eq_1/\CE qJ0.eq_1/\OE qWZ.eq_1/\OE qW0.eq_1/\CE qWY.eq_1/\OE qWS.eq_1/\OE qWT.eq_1/\OE qWU.eq_1/\CE qWQ.eq_1/\CE qWR.eq_1/\OE qRX.eq_1/\OE qRY.eq_1/\OE qRZ.eq_1/\OE qR0.eq_1/\OE qR1.eq_1/\OE qR2.eq_1/\CE qRT.eq_1/\CE qRU.eq_1/\CE qRV.eq_1/\CE qRW.eq_1/\OE qM5.eq_1/\CE qM4.eq_1/\OE qNA.eq_1/\OE qNB.eq_1/\CE qM9.eq_1/\OE qQX.eq_1/\OE qQY.eq_1/\OE qQZ.eq_1/\OE qQ0.eq_1/\CE qQU.eq_1/\CE qQV.eq_1/\CE qQW.eq_1/\OE qQ3.eq_1/\OE qQ4.eq_1/\OE qQ5.eq_1/\CE qQ1.eq_1/\CE qQ2.eq_1/\OE qQ8.eq_1/\OE qQ9.eq_1/\OE qRA.eq_1/\OE qRB.eq_1/\CE qQ6.eq_1/\CE qQ7.eq_1/\OE qKM.eq_1/\OE qKN.eq_1/\OE qKO.eq_1/\OE qKP.eq_1/\OE qKQ.eq_1/\OE qKR.eq_1/\CE qKJ.eq_1/\CE qKK.eq_1/\CE qKL.eq_1:=by and_intros<;>first|exact OEM _|exact CEM _
@[go_sem] theorem rR7:OE qW2.eq_1/\OE qW3.eq_1/\CE qW1.eq_1/\OE qW4.eq_1/\OE qW5.eq_1/\OE qW6.eq_1/\CE qV7.eq_1/\OE qFS.eq_1/\OE qFT.eq_1/\CE qFR.eq_1/\CE qMB.eq_1/\CE qMC.eq_1/\CE qMD.eq_1/\CE qME.eq_1/\CE qMF.eq_1/\OE qMH.eq_1/\CE qMG.eq_1/\OE qF2.eq_1/\OE qF3.eq_1/\OE qF5.eq_1/\OE qF6.eq_1/\OE qF7.eq_1/\OE qF8.eq_1/\OE qF9.eq_1/\OE qGA.eq_1/\CE qF0.eq_1/\CE qF1.eq_1/\CE qFY.eq_1/\OE qF4.eq_1/\CE qFZ.eq_1/\OE qGD.eq_1/\OE qGE.eq_1/\CE qGB.eq_1/\CE qGC.eq_1/\OE qRH.eq_1/\OE qRI.eq_1/\OE qRJ.eq_1/\OE qGF.eq_1/\OE qGG.eq_1/\OE qGH.eq_1/\OE qGW.eq_1/\OE qGL.eq_1/\OE qGM.eq_1/\OE qGP.eq_1/\OE qGQ.eq_1/\OE qGR.eq_1/\OE qGS.eq_1/\OE qGT.eq_1/\OE qGU.eq_1/\CE qGK.eq_1/\OE qGV.eq_1/\OE qGN.eq_1/\OE qGO.eq_1/\CE qGI.eq_1/\CE qGJ.eq_1/\OE qFP.eq_1/\OE qVI.eq_1/\OE qVJ.eq_1/\OE qVK.eq_1/\OE qVL.eq_1:=by and_intros<;>first|exact OEM _|exact CEM _
@[go_sem] theorem rR8:OE qVM.eq_1/\OE qVN.eq_1/\CE qVF.eq_1/\CE qVG.eq_1/\CE qVH.eq_1/\OE qGY.eq_1/\OE qGZ.eq_1/\OE qG0.eq_1/\OE qG1.eq_1/\OE qG2.eq_1/\OE qG3.eq_1/\OE qG4.eq_1/\CE qGX.eq_1/\OE qG8.eq_1/\OE qG9.eq_1/\OE qHE.eq_1/\OE qHF.eq_1/\OE qHG.eq_1/\OE qHH.eq_1/\CE qG7.eq_1/\OE qHI.eq_1/\OE qHJ.eq_1/\OE qHK.eq_1/\OE qHA.eq_1/\OE qHB.eq_1/\OE qHC.eq_1/\CE qG5.eq_1/\OE qHD.eq_1/\CE qG6.eq_1/\OE qHN.eq_1/\OE qHO.eq_1/\OE qHR.eq_1/\OE qHS.eq_1/\OE qHT.eq_1/\OE qHU.eq_1/\OE qHV.eq_1/\CE qHL.eq_1/\OE qHW.eq_1/\CE qHM.eq_1/\OE qHP.eq_1/\OE qHQ.eq_1/\OE qHX.eq_1/\OE qXE.eq_1/\OE qXF.eq_1/\OE qXJ.eq_1/\OE qXK.eq_1/\OE qXL.eq_1/\OE qXM.eq_1/\OE qXN.eq_1/\OE qXO.eq_1/\OE qXP.eq_1/\CE qXD.eq_1/\CE qW8.eq_1/\OE qXG.eq_1/\OE qXH.eq_1/\OE qXI.eq_1/\CE qW9.eq_1/\CE qXA.eq_1/\CE qXB.eq_1/\CE qAA.eq_1:=by and_intros<;>first|exact OEM _|exact CEM _
@[go_sem] theorem rR9:CE qXC.eq_1/\OE qXR.eq_1/\OE qXS.eq_1/\OE qXT.eq_1/\CE qXQ.eq_1/\OE qXY.eq_1/\OE qXZ.eq_1/\OE qX2.eq_1/\CE qXW.eq_1/\OE qX3.eq_1/\OE qX4.eq_1/\OE qX5.eq_1/\OE qX6.eq_1/\OE qX7.eq_1/\CE qXX.eq_1/\OE qX0.eq_1/\CE qXU.eq_1/\OE qX1.eq_1/\CE qXV.eq_1/\OE qSU.eq_1/\OE qSV.eq_1/\OE qS1.eq_1/\OE qS2.eq_1/\OE qS3.eq_1/\OE qS4.eq_1/\OE qS5.eq_1/\OE qS6.eq_1/\OE qS7.eq_1/\OE qS8.eq_1/\OE qSW.eq_1/\OE qSX.eq_1/\CE qSQ.eq_1/\OE qSY.eq_1/\OE qSZ.eq_1/\OE kU.eq_1/\OE kV.eq_1/\OE qS0.eq_1/\CE qSR.eq_1/\CE qSS.eq_1/\CE qST.eq_1/\OE qX8.eq_1/\OE qL5.eq_1/\OE qL6.eq_1/\OE qL7.eq_1/\OE qL8.eq_1/\OE qL9.eq_1/\OE qMA.eq_1/\CE qL3.eq_1/\CE qL4.eq_1/\OE qH0.eq_1/\OE qH1.eq_1/\OE qH3.eq_1/\OE qH4.eq_1/\OE qH5.eq_1/\OE qH6.eq_1/\OE qH7.eq_1/\OE qH8.eq_1/\OE qH9.eq_1/\OE qIA.eq_1/\CE qHY.eq_1:=by and_intros<;>first|exact OEM _|exact CEM _
@[go_sem] theorem rR10:OE qH2.eq_1/\CE qHZ.eq_1/\OE qIB.eq_1/\CE qMI.eq_1/\CE qMJ.eq_1/\CE qMK.eq_1/\CE qML.eq_1/\OE qMN.eq_1/\OE qMO.eq_1/\CE qMM.eq_1/\OE qIE.eq_1/\OE qIF.eq_1/\OE qIG.eq_1/\OE qIH.eq_1/\CE qIC.eq_1/\CE qID.eq_1/\OE qII.eq_1/\OE qFW.eq_1/\OE qFX.eq_1/\OE qIJ.eq_1/\OE qIK.eq_1/\OE qI0.eq_1/\OE qI1.eq_1/\OE qI2.eq_1/\OE qIO.eq_1/\OE qIP.eq_1/\OE qIT.eq_1/\OE qIU.eq_1/\OE qIV.eq_1/\OE qIW.eq_1/\OE qIX.eq_1/\OE qIY.eq_1/\CE qIN.eq_1/\OE qIZ.eq_1/\OE qIQ.eq_1/\OE qIR.eq_1/\OE qIS.eq_1/\CE qIL.eq_1/\CE qIM.eq_1/\OE qLY.eq_1/\OE qFI.eq_1/\OE qFJ.eq_1/\OE qFK.eq_1/\OE qFL.eq_1/\OE qFM.eq_1/\OE qFN.eq_1/\OE qFO.eq_1/\CE qFF.eq_1/\CE qFG.eq_1/\CE qFH.eq_1/\OE qI3.eq_1/\OE qI4.eq_1/\OE qI5.eq_1/\OE qI6.eq_1/\OE qI7.eq_1/\OE qJB.eq_1/\OE qJC.eq_1/\OE qJE.eq_1/\OE qJF.eq_1/\OE qJG.eq_1:=by and_intros<;>first|exact OEM _|exact CEM _
@[go_sem] theorem rR11:OE qJH.eq_1/\OE qJI.eq_1/\CE qJA.eq_1/\OE qJJ.eq_1/\OE qJK.eq_1/\CE qI8.eq_1/\OE qJD.eq_1/\CE qI9.eq_1/\OE qJN.eq_1/\OE qJO.eq_1/\OE qJQ.eq_1/\OE qJR.eq_1/\OE qJS.eq_1/\OE qJT.eq_1/\OE qJU.eq_1/\CE qJL.eq_1/\OE qJV.eq_1/\CE qJM.eq_1/\OE qJP.eq_1/\OE qJX.eq_1/\CE qJW.eq_1/\OE qYE.eq_1/\OE qYF.eq_1/\OE qYJ.eq_1/\OE qYK.eq_1/\OE qYL.eq_1/\OE qYM.eq_1/\OE qYN.eq_1/\CE qYD.eq_1/\OE qYO.eq_1/\OE qYP.eq_1/\OE qYG.eq_1/\OE qYH.eq_1/\CE qX9.eq_1/\CE qYA.eq_1/\CE qYB.eq_1/\OE qYI.eq_1/\CE qYC.eq_1/\OE qYQ.eq_1/\OE qYR.eq_1/\OE qYS.eq_1/\OE qYT.eq_1/\OE qYU.eq_1/\OE qTL.eq_1/\OE qTM.eq_1/\CE qTH.eq_1/\OE qTN.eq_1/\OE qTO.eq_1/\OE qTP.eq_1/\CE qTI.eq_1/\OE qTQ.eq_1/\CE qTJ.eq_1/\CE qTK.eq_1/\CE qTG.eq_1/\OE qYW.eq_1/\OE qYX.eq_1/\OE qYY.eq_1/\CE qYV.eq_1/\OE qYZ.eq_1/\OE qY0.eq_1:=by and_intros<;>first|exact OEM _|exact CEM _
@[go_sem] theorem rR12:OE qTC.eq_1/\OE qTD.eq_1/\OE qTE.eq_1/\OE qTF.eq_1/\OE jl.eq_1/\OE jm.eq_1/\OE jn.eq_1/\OE jo.eq_1/\CE qTB.eq_1/\OE jp.eq_1/\OE ji.eq_1/\CE qS9.eq_1/\CE qTA.eq_1/\CE qW7.eq_1/\OE qSG.eq_1/\OE qSH.eq_1/\OE qSI.eq_1/\OE qSJ.eq_1/\OE qSK.eq_1/\OE qSL.eq_1/\OE qSM.eq_1/\CE qSE.eq_1/\CE qSF.eq_1/\OE qNE.eq_1/\OE qNF.eq_1/\OE qNG.eq_1/\CE qNC.eq_1/\CE qND.eq_1/\OE qSO.eq_1/\OE zk.eq_1/\OE zo.eq_1/\OE zq.eq_1/\OE zd.eq_1/\OE ze.eq_1/\OE qSP.eq_1/\CE kS.eq_1/\OE zf.eq_1/\CE qSN.eq_1/\OE qNI.eq_1/\OE qNJ.eq_1/\CE qNH.eq_1/\OE qNK.eq_1/\OE qPC.eq_1/\OE qPD.eq_1/\OE qPH.eq_1/\OE qPI.eq_1/\OE qPJ.eq_1/\OE qPK.eq_1/\OE qPL.eq_1/\OE qPM.eq_1/\OE qPN.eq_1/\OE qPO.eq_1/\OE qPE.eq_1/\OE qPF.eq_1/\OE qPG.eq_1/\CE qO7.eq_1/\CE qO8.eq_1/\CE qO9.eq_1/\CE qPA.eq_1/\CE qPB.eq_1:=by and_intros<;>first|exact OEM _|exact CEM _
def tabm:List (Nat×qP):=[(338,F338),(1173,qFQ),(852,F852),(501,F501),(182,Kc),(181,F181),(364,F364),(365,F365),(740,ki),(366,F366),(104,UV),(340,Kn),(412,Ky),(426,Kz),(488,kE),(1371,U9),(1384,KC),(1372,KA),(1489,KV),(1385,KD),(1494,KW),(1386,KE),(1096,Ua),(710,kY),(318,Kl),(598,kQ),(1109,Uc),(741,kj),(367,Ko),(742,kq),(1395,KJ),(1499,KY),(1500,KZ),(1396,KL),(1110,Ud),(743,ku),(1111,Ue),(744,kw),(368,Kp),(369,Kq),(147,KT),(1419,XU),(1178,Um),(858,Xc),(504,kK),(185,XV),(184,Kd),(745,XY),(370,Kr),(134,XT),(371,Ks),(746,XZ),(372,Kt),(106,XR),(774,F774),(397,F397),(775,F775),(406,Kx),(801,F801),(436,kD),(1179,qFU),(859,F859),(554,kO),(796,F796),(1050,UW),(1051,UX),(1487,KU),(1387,KF),(1388,KG),(1375,KB),(1495,KX),(1389,KH),(1390,KI),(1097,Ub),(711,kZ),(1098,qEX),(712,F712),(555,Zd),(714,kf),(713,ke),(319,Km),(860,F860),(505,kL),(1397,qLP),(1112,qE7),(1114,Ug),(1113,Uf),(747,kz),(771,F771),(748,F748),(428,K2),(749,F749),(373,Ku),(376,Kw),(750,F750),(1501,Ka),(1502,Kb),(1398,KN),(1115,Uh),(751,Xa),(374,Kv),(86,F86),(1422,KP),(1184,qFV),(870,F870),(508,F508),(188,Ke),(187,F187),(752,F752),(377,F377),(753,F753),(378,F378),(754,F754),(379,F379),(108,UY),(402,XW),(837,Ze),(489,XX),(795,Xb),(427,K0),(401,F401),(1373,qKG),(1085,UZ),(798,F798),(797,F797),(799,F799),(800,F800),(429,K3),(90,F90),(885,F885),(524,kM),(198,Kf),(225,Kh),(430,K4),(431,K5),(432,K6),(136,U7),(92,F92),(886,F886),(525,kN),(199,Kg),(230,Ki),(433,K7),(434,K8),(435,K9),(137,U8),(949,F949),(952,F952),(856,F856),(1177,Ul),(1460,KR),(1296,Uo),(1297,Up),(490,kG),(491,kJ),(1298,Uq),(1300,Us),(1299,Ur),(1125,Uj),(1126,Uk),(762,F762),(1301,Ut),(1302,Uu),(1303,Uv),(1304,XS),(979,F979),(980,F980),(981,F981),(607,kT),(982,F982),(1456,KQ),(1305,Uw),(1306,Ux),(1461,KS),(1307,Uy),(1196,Un),(1308,Uz),(1310,U1),(1311,U2),(1309,U0),(566,kP),(1400,KO),(1118,Ui),(1312,U3),(1313,U4),(1314,U5),(1315,U6),(983,F983),(984,F984),(702,kX),(985,F985),(986,F986),(608,kW),(978,F978),(605,kR),(248,Kj),(606,Yh),(249,Kk),(40,F40)]
def Gm(g:Nat):Option AFn:=ZL g tabm
theorem gk(g:Nat)(F:qP)(h:Gm g=some (.fn F):=by kernel_rfl):Gm g=some (.fn F):=h
theorem pI{Γ:Nat->Option AFn}{g:Nat}(F:qP){as:List AV}{v:AV}(ht:AV.trees as=true)(hv:v.tree=true)(hR:R ⟨Γ,0,[],[]⟩ [.code F.body] ⟨qQ 0 as,[],[]⟩ (Wg F.res v))(hg:Γ g=some (.fn F):=by kernel_rfl)(hok:F.body.ok=true:=by kernel_rfl)(hn:as.length=F.np:=by rfl):Pure Γ g as v:=Pure.intro [] [] hg hok hn ht hv hR
theorem fI{Γ:Nat->Option AFn}{g:Nat}(F:qP){as:List AV}{t:AV}(ht:AV.trees as=true)(hp:t.pl=true)(hR:R ⟨Γ,0,[],[]⟩ [.code F.body] ⟨qQ 0 as,[],[]⟩ (Zq F.res t))(hg:Γ g=some (.fn F):=by kernel_rfl)(hok:F.body.ok=true:=by kernel_rfl)(hn:as.length=F.np:=by rfl):Fresh Γ g as t:=Fresh.intro [] [] hg hok hn ht hp hR
theorem sI{Γ:Nat->Option AFn}{g:Nat}{vs:List AV}{h:List qD}(F:qP){K:AV->List qD->Prop}(hR:R ⟨Γ,h.length,[],[]⟩ [.code F.body] ⟨qQ 0 vs,[],h⟩ (Qj F.res K))(hg:Γ g=some (.fn F):=by kernel_rfl)(hok:F.body.ok=true:=by kernel_rfl)(hn:vs.length=F.np:=by rfl):SCall Γ g vs h K:=SCall.run [] [] hg hok hn hR
theorem c338(xs:List Int)(hx:xs.length<=140737488355328)(left:Nat)(hl:left<=1048576):Pure Gm 338 [.lst 1 (xs.map qK) false,.int .i64 left] (.int .i64 (jv xs.length left)):=
 UK (gk _ F338) shI.tree xs left hl hx
theorem qe6(xs:List qG)(hx:xs.length<=140737488355328)(left:Nat)(hl:left<=1048576):Pure Gm 1173 [.lst 2 (xs.map qG.enc) false,.int .i64 left] (.int .i64 (jv xs.length left)):=
 UK (gk _ qFQ) qG.isSh.tree xs left hl hx
theorem c852(x:qA)(hb:x.bd)(left:Nat)(hl:left<=1048576):Pure Gm 852 [x.enc,.int .i64 left] (.int .i64 (jv x.sz left)):=by
 refine pI F852 (by simp[AV.trees,AV.tree,qA.tr]) rfl ?_;simp only[F852,qQ,go_sem];refine qV rfl ?_;simp only[go_sem];unfold qA.bd at hb;refine qO (c338 _ hb.1 _ (by omega)) ?_;simp only[go_sem];apply qM<;>intro hc<;>simp only[hc,go_sem]
 ·have hq:=odT hc;rw[jP]at hq;exact qR rfl (by rw[wZ (by unfold qA.sz;omega)])
 have hq:=odF hc;rw[jP]at hq;rw[jw (by omega)];clear hc;refine qO (qe6 _ hb.2 _ (by omega)) ?_;simp only[go_sem];apply qM<;>intro hc<;>simp only[hc,go_sem]
 ·have hq:=odT hc;rw[jP]at hq;exact qR rfl (by rw[wZ (by unfold qA.sz;omega)])
 have hq:=odF hc;rw[jP]at hq;rw[jw (by omega)];clear hc;exact qR rfl (by rw[jw (by unfold qA.sz;omega)];unfold qA.sz;first | rfl | (congr 2;omega))
theorem c501(xs:List qA)(hx:xs.length<=140737488355328/\(∀y∈xs,qA.bd y))(left:Nat)(hl:left<=1048576):Pure Gm 501 [.lst 5 (xs.map qA.enc) false,.int .i64 left] (.int .i64 (jv (xs.length+qH qA.sz xs) left)):=
 qDB qA.isSh (gk _ F501) qA.sz xs (fun x hm lf hlf=>c852 x (hx.2 x hm) lf hlf) left hl hx.1
theorem c182(x:qC)(hb:x.bd)(left:Nat)(hl:left<=1048576):Pure Gm 182 [x.enc,.int .i64 left] (.int .i64 (jv x.sz left)):=by
 refine pI Kc (by simp[AV.trees,AV.tree,qC.tr]) rfl ?_;simp only[Kc,qQ,go_sem];refine qV rfl ?_;simp only[go_sem];unfold qC.bd at hb;refine qO (c501 _ ⟨hb.1,hb.2⟩ _ (by omega)) ?_;simp only[go_sem];apply qM<;>intro hc<;>simp only[hc,go_sem]
 ·have hq:=odT hc;rw[jP]at hq;exact qR rfl (by rw[wZ (by unfold qC.sz;omega)])
 have hq:=odF hc;rw[jP]at hq;rw[jw (by omega)];clear hc;exact qR rfl (by rw[jw (by unfold qC.sz;omega)];unfold qC.sz;first | rfl | (congr 2;omega))
theorem c181(xs:List qC)(hx:xs.length<=140737488355328/\(∀y∈xs,qC.bd y))(left:Nat)(hl:left<=1048576):Pure Gm 181 [.lst 1 (xs.map qC.enc) false,.int .i64 left] (.int .i64 (jv (xs.length+qH qC.sz xs) left)):=
 qDB qC.isSh (gk _ F181) qC.sz xs (fun x hm lf hlf=>c182 x (hx.2 x hm) lf hlf) left hl hx.1
theorem c364(xs:List qE)(hx:xs.length<=140737488355328)(left:Nat)(hl:left<=1048576):Pure Gm 364 [.lst 3 (xs.map qE.enc) false,.int .i64 left] (.int .i64 (jv xs.length left)):=
 UK (gk _ F364) qE.isSh.tree xs left hl hx
theorem c365(xs:List qI)(hx:xs.length<=140737488355328)(left:Nat)(hl:left<=1048576):Pure Gm 365 [.lst 2 (xs.map qI.enc) false,.int .i64 left] (.int .i64 (jv xs.length left)):=
 UK (gk _ F365) qI.isSh.tree xs left hl hx
theorem c740(x:qF)(hb:x.bd)(left:Nat)(hl:left<=1048576):Pure Gm 740 [x.enc,.int .i64 left] (.int .i64 (jv x.sz left)):=by
 refine pI ki (by simp[AV.trees,AV.tree,qF.tr]) rfl ?_;simp only[ki,qQ,go_sem];refine qV rfl ?_;simp only[go_sem];unfold qF.bd at hb;refine qO (c182 _ hb.1 _ (by omega)) ?_;simp only[go_sem];apply qM<;>intro hc<;>simp only[hc,go_sem]
 ·have hq:=odT hc;rw[jP]at hq;exact qR rfl (by rw[wZ (by unfold qF.sz;omega)])
 have hq:=odF hc;rw[jP]at hq;rw[jw (by omega)];clear hc;refine qO (c364 _ hb.2 _ (by omega)) ?_;simp only[go_sem];apply qM<;>intro hc<;>simp only[hc,go_sem]
 ·have hq:=odT hc;rw[jP]at hq;exact qR rfl (by rw[wZ (by unfold qF.sz;omega)])
 have hq:=odF hc;rw[jP]at hq;rw[jw (by omega)];clear hc;exact qR rfl (by rw[jw (by unfold qF.sz;omega)];unfold qF.sz;first | rfl | (congr 2;omega))
theorem c366(xs:List qF)(hx:xs.length<=140737488355328/\(∀y∈xs,qF.bd y))(left:Nat)(hl:left<=1048576):Pure Gm 366 [.lst 3 (xs.map qF.enc) false,.int .i64 left] (.int .i64 (jv (xs.length+qH qF.sz xs) left)):=
 qDB qF.isSh (gk _ F366) qF.sz xs (fun x hm lf hlf=>c740 x (hx.2 x hm) lf hlf) left hl hx.1
theorem c104(x:qJ)(hb:x.bd)(left:Nat)(hl:left<=1048576):Pure Gm 104 [x.enc,.int .i64 left] (.int .i64 (jv x.sz left)):=by
 refine pI UV (by simp[AV.trees,AV.tree,qJ.tr]) rfl ?_;simp only[UV,qQ,go_sem];refine qV rfl ?_;simp only[go_sem];unfold qJ.bd at hb;refine qO (c181 _ ⟨hb.1,hb.2.1⟩ _ (by omega)) ?_;simp only[go_sem];apply qM<;>intro hc<;>simp only[hc,go_sem]
 ·have hq:=odT hc;rw[jP]at hq;exact qR rfl (by rw[wZ (by unfold qJ.sz;omega)])
 have hq:=odF hc;rw[jP]at hq;rw[jw (by omega)];clear hc;refine qO (c338 _ hb.2.2.1 _ (by omega)) ?_;simp only[go_sem];apply qM<;>intro hc<;>simp only[hc,go_sem]
 ·have hq:=odT hc;rw[jP]at hq;exact qR rfl (by rw[wZ (by unfold qJ.sz;omega)])
 have hq:=odF hc;rw[jP]at hq;rw[jw (by omega)];clear hc;refine qO (c182 _ hb.2.2.2.1 _ (by omega)) ?_;simp only[go_sem];apply qM<;>intro hc<;>simp only[hc,go_sem]
 ·have hq:=odT hc;rw[jP]at hq;exact qR rfl (by rw[wZ (by unfold qJ.sz;omega)])
 have hq:=odF hc;rw[jP]at hq;rw[jw (by omega)];clear hc;refine qO (c364 _ hb.2.2.2.2.1 _ (by omega)) ?_;simp only[go_sem];apply qM<;>intro hc<;>simp only[hc,go_sem]
 ·have hq:=odT hc;rw[jP]at hq;exact qR rfl (by rw[wZ (by unfold qJ.sz;omega)])
 have hq:=odF hc;rw[jP]at hq;rw[jw (by omega)];clear hc;refine qO (c365 _ hb.2.2.2.2.2.1 _ (by omega)) ?_;simp only[go_sem];apply qM<;>intro hc<;>simp only[hc,go_sem]
 ·have hq:=odT hc;rw[jP]at hq;exact qR rfl (by rw[wZ (by unfold qJ.sz;omega)])
 have hq:=odF hc;rw[jP]at hq;rw[jw (by omega)];clear hc;refine qO (c366 _ ⟨hb.2.2.2.2.2.2.1,hb.2.2.2.2.2.2.2⟩ _ (by omega)) ?_;simp only[go_sem];apply qM<;>intro hc<;>simp only[hc,go_sem]
 ·have hq:=odT hc;rw[jP]at hq;exact qR rfl (by rw[wZ (by unfold qJ.sz;omega)])
 have hq:=odF hc;rw[jP]at hq;rw[jw (by omega)];clear hc;exact qR rfl (by rw[jw (by unfold qJ.sz;omega)];unfold qJ.sz;first | rfl | (congr 2;omega))
theorem c147(xs:List Int)(hl:xs.length<=1048576):Pure Gm 147 [.lst 1 (xs.map qK) false] (.lst 1 (xs.map qK) false):=qmE (gk _ KT) xs hl
theorem qfJ(x:qG):Pure Gm 1419 [x.enc] x.enc:=by
 refine pI XU (by simp[AV.trees,qG.tr]) qG.tr ?_;simp only[XU,qQ,go_sem];refine qV rfl ?_;simp only[go_sem];refine qX rfl rfl ⟨_,rfl⟩ (by decide) ?_;simp only[go_sem];exact qR qG.tr rfl
theorem qe8(xs:List qG)(hl:xs.length<=1048576):Pure Gm 1178 [.lst 2 (xs.map qG.enc) false] (.lst 2 (xs.map qG.enc) false):=
 XM qG.isSh rfl rfl (by simp) (gk _ Um) xs (fun x hm=>qfJ x) (by omega)
theorem c858(x:qA)(hz:x.sz<=1048576):Pure Gm 858 [x.enc] x.enc:=by
 refine pI Xc (by simp[AV.trees,qA.tr]) qA.tr ?_;simp only[Xc,qQ,go_sem];refine qV rfl ?_;simp only[go_sem];unfold qA.sz at hz;refine qO (c147 _ (by omega)) ?_;simp only[go_sem];refine qO (qe8 _ (by omega)) ?_;simp only[go_sem];refine qX rfl rfl ⟨_,rfl⟩ (by decide) ?_;simp only[go_sem];exact qR qA.tr rfl
theorem c504(xs:List qA)(hl:xs.length+qH qA.sz xs<=1048576):Pure Gm 504 [.lst 5 (xs.map qA.enc) false] (.lst 5 (xs.map qA.enc) false):=
 XM qA.isSh rfl rfl (by simp) (gk _ kK) xs (fun x hm=>c858 x (by have:=zy (f:=qA.sz) hm;omega)) (by omega)
theorem c185(x:qC)(hz:x.sz<=1048576):Pure Gm 185 [x.enc] x.enc:=by
 refine pI XV (by simp[AV.trees,qC.tr]) qC.tr ?_;simp only[XV,qQ,go_sem];refine qV rfl ?_;simp only[go_sem];unfold qC.sz at hz;refine qO (c504 _ (by omega)) ?_;simp only[go_sem];exact qR qC.tr rfl
theorem c184(xs:List qC)(hl:xs.length+qH qC.sz xs<=1048576):Pure Gm 184 [.lst 1 (xs.map qC.enc) false] (.lst 1 (xs.map qC.enc) false):=
 XM qC.isSh rfl rfl (by simp) (gk _ Kd) xs (fun x hm=>c185 x (by have:=zy (f:=qC.sz) hm;omega)) (by omega)
theorem c745(x:qE):Pure Gm 745 [x.enc] x.enc:=by
 refine pI XY (by simp[AV.trees,qE.tr]) qE.tr ?_;simp only[XY,qQ,go_sem];refine qV rfl ?_;simp only[go_sem];refine qX rfl rfl ⟨_,rfl⟩ (by decide) ?_;simp only[go_sem];exact qR qE.tr rfl
theorem c370(xs:List qE)(hl:xs.length<=1048576):Pure Gm 370 [.lst 3 (xs.map qE.enc) false] (.lst 3 (xs.map qE.enc) false):=
 XM qE.isSh rfl rfl (by simp) (gk _ Kr) xs (fun x hm=>c745 x) (by omega)
theorem c134(x:qI):Pure Gm 134 [x.enc] x.enc:=by
 refine pI XT (by simp[AV.trees,qI.tr]) qI.tr ?_;simp only[XT,qQ,go_sem];refine qV rfl ?_;simp only[go_sem];refine qX rfl rfl ⟨_,rfl⟩ (by decide) ?_;simp only[go_sem];exact qR qI.tr rfl
theorem c371(xs:List qI)(hl:xs.length<=1048576):Pure Gm 371 [.lst 2 (xs.map qI.enc) false] (.lst 2 (xs.map qI.enc) false):=
 XM qI.isSh rfl rfl (by simp) (gk _ Ks) xs (fun x hm=>c134 x) (by omega)
theorem c746(x:qF)(hz:x.sz<=1048576):Pure Gm 746 [x.enc] x.enc:=by
 refine pI XZ (by simp[AV.trees,qF.tr]) qF.tr ?_;simp only[XZ,qQ,go_sem];refine qV rfl ?_;simp only[go_sem];unfold qF.sz at hz;refine qO (c185 _ (by omega)) ?_;simp only[go_sem];refine qO (c370 _ (by omega)) ?_;simp only[go_sem];refine qX rfl rfl ⟨_,rfl⟩ (by decide) ?_;simp only[go_sem];exact qR qF.tr rfl
theorem c372(xs:List qF)(hl:xs.length+qH qF.sz xs<=1048576):Pure Gm 372 [.lst 3 (xs.map qF.enc) false] (.lst 3 (xs.map qF.enc) false):=
 XM qF.isSh rfl rfl (by simp) (gk _ Kt) xs (fun x hm=>c746 x (by have:=zy (f:=qF.sz) hm;omega)) (by omega)
theorem c106(x:qJ)(hz:x.sz<=1048576):Pure Gm 106 [x.enc] x.enc:=by
 refine pI XR (by simp[AV.trees,qJ.tr]) qJ.tr ?_;simp only[XR,qQ,go_sem];refine qV rfl ?_;simp only[go_sem];unfold qJ.sz at hz;refine qO (c184 _ (by omega)) ?_;simp only[go_sem];refine qO (c147 _ (by omega)) ?_;simp only[go_sem];refine qO (c185 _ (by omega)) ?_;simp only[go_sem];refine qO (c370 _ (by omega)) ?_;simp only[go_sem];refine qO (c371 _ (by omega)) ?_;simp only[go_sem];refine qO (c372 _ (by omega)) ?_;simp only[go_sem];refine qX rfl rfl ⟨_,rfl⟩ (by decide) ?_;simp only[go_sem];exact qR qJ.tr rfl
theorem c86(xs:List Int)(hl:xs.length<=1073741824):Pure Gm 86 [.lst 1 (xs.map qK) false,.lst 1 (xs.map qK) false] (.bool true):=qg3 (gk _ F86) xs hl
theorem qfK(x:qG):Pure Gm 1422 [x.enc,x.enc] (.bool true):=by
 refine pI KP (by simp[AV.trees,qG.tr]) rfl ?_;simp only[KP,qQ,go_sem];refine qV rfl ?_;simp only[go_sem];refine qV rfl ?_;simp only[go_sem];exact qR rfl rfl
theorem qe9(xs:List qG)(hl:xs.length<=1073741824):Pure Gm 1184 [.lst 2 (xs.map qG.enc) false,.lst 2 (xs.map qG.enc) false] (.bool true):=
 Wd qG.isSh (gk _ qFV) xs (fun x hm=>qfK x) (by omega)
theorem c870(x:qA)(hz:x.sz<=1073741824):Pure Gm 870 [x.enc,x.enc] (.bool true):=by
 refine pI F870 (by simp[AV.trees,qA.tr]) rfl ?_;simp only[F870,qQ,go_sem];refine qV rfl ?_;simp only[go_sem];refine qV rfl ?_;simp only[go_sem];unfold qA.sz at hz;refine qO (c86 _ (by omega)) ?_;simp only[go_sem];refine qO (qe9 _ (by omega)) ?_;simp only[go_sem];exact qR rfl rfl
theorem c508(xs:List qA)(hl:xs.length+qH qA.sz xs<=1073741824):Pure Gm 508 [.lst 5 (xs.map qA.enc) false,.lst 5 (xs.map qA.enc) false] (.bool true):=
 Wd qA.isSh (gk _ F508) xs (fun x hm=>c870 x (by have:=zy (f:=qA.sz) hm;omega)) (by omega)
theorem c188(x:qC)(hz:x.sz<=1073741824):Pure Gm 188 [x.enc,x.enc] (.bool true):=by
 refine pI Ke (by simp[AV.trees,qC.tr]) rfl ?_;simp only[Ke,qQ,go_sem];refine qV rfl ?_;simp only[go_sem];refine qV rfl ?_;simp only[go_sem];unfold qC.sz at hz;refine qO (c508 _ (by omega)) ?_;simp only[go_sem];exact qR rfl rfl
theorem c187(xs:List qC)(hl:xs.length+qH qC.sz xs<=1073741824):Pure Gm 187 [.lst 1 (xs.map qC.enc) false,.lst 1 (xs.map qC.enc) false] (.bool true):=
 Wd qC.isSh (gk _ F187) xs (fun x hm=>c188 x (by have:=zy (f:=qC.sz) hm;omega)) (by omega)
theorem c752(x:qE):Pure Gm 752 [x.enc,x.enc] (.bool true):=by
 refine pI F752 (by simp[AV.trees,qE.tr]) rfl ?_;simp only[F752,qQ,go_sem];refine qV rfl ?_;simp only[go_sem];refine qV rfl ?_;simp only[go_sem];exact qR rfl rfl
theorem c377(xs:List qE)(hl:xs.length<=1073741824):Pure Gm 377 [.lst 3 (xs.map qE.enc) false,.lst 3 (xs.map qE.enc) false] (.bool true):=
 Wd qE.isSh (gk _ F377) xs (fun x hm=>c752 x) (by omega)
theorem c753(x:qI):Pure Gm 753 [x.enc,x.enc] (.bool true):=by
 refine pI F753 (by simp[AV.trees,qI.tr]) rfl ?_;simp only[F753,qQ,go_sem];refine qV rfl ?_;simp only[go_sem];refine qV rfl ?_;simp only[go_sem];exact qR rfl rfl
theorem c378(xs:List qI)(hl:xs.length<=1073741824):Pure Gm 378 [.lst 2 (xs.map qI.enc) false,.lst 2 (xs.map qI.enc) false] (.bool true):=
 Wd qI.isSh (gk _ F378) xs (fun x hm=>c753 x) (by omega)
theorem c754(x:qF)(hz:x.sz<=1073741824):Pure Gm 754 [x.enc,x.enc] (.bool true):=by
 refine pI F754 (by simp[AV.trees,qF.tr]) rfl ?_;simp only[F754,qQ,go_sem];refine qV rfl ?_;simp only[go_sem];refine qV rfl ?_;simp only[go_sem];unfold qF.sz at hz;refine qO (c188 _ (by omega)) ?_;simp only[go_sem];refine qO (c377 _ (by omega)) ?_;simp only[go_sem];exact qR rfl rfl
theorem c379(xs:List qF)(hl:xs.length+qH qF.sz xs<=1073741824):Pure Gm 379 [.lst 3 (xs.map qF.enc) false,.lst 3 (xs.map qF.enc) false] (.bool true):=
 Wd qF.isSh (gk _ F379) xs (fun x hm=>c754 x (by have:=zy (f:=qF.sz) hm;omega)) (by omega)
theorem Yy(x:qJ)(hz:x.sz<=1073741824):Pure Gm 108 [x.enc,x.enc] (.bool true):=by
 refine pI UY (by simp[AV.trees,qJ.tr]) rfl ?_;simp only[UY,qQ,go_sem];refine qV rfl ?_;simp only[go_sem];refine qV rfl ?_;simp only[go_sem];unfold qJ.sz at hz;refine qO (c187 _ (by omega)) ?_;simp only[go_sem];refine qO (c86 _ (by omega)) ?_;simp only[go_sem];refine qO (c188 _ (by omega)) ?_;simp only[go_sem];refine qO (c377 _ (by omega)) ?_;simp only[go_sem];refine qO (c378 _ (by omega)) ?_;simp only[go_sem];refine qO (c379 _ (by omega)) ?_;simp only[go_sem];exact qR rfl rfl
def inI(n lo hi:Int):Bool:=decide (lo<=n)&&decide (n<=hi)
def wP(k f:Int):Int:=
 if k=9 then(if inI f 0 3 then f+1 else 0)else if f≠0 then 0 else
 if k=1\/k=5\/k=6\/k=12 then 1 else if k=8\/k=10\/k=11 then 2 else if k=2\/k=3\/k=4\/k=7 then 3 else 0
def wW(k:Int):Bool:=decide (k=2) || decide (k=3) || decide (k=4) || decide (k=7) || decide (k=8) || decide (k=9) || decide (k=10) || decide (k=11) || decide (k=12)
def ZI(k:Int):Bool:=inI k 1 12
def jx(k l:Int):Bool:=if wW k then inI l 0 8 else ZI k&&decide (l=0)
def JQ(b:qI):Bool:=if b.Kind=1 then inI b.Value 1 8 else if b.Kind=2 then inI b.Value 0 23 else if b.Kind=3 then inI b.Value 1 600 else false
def j4(n:Int):Bool:=inI n 0 23
def fieldsOf(x:qA):Int:=if x.Kind=9 then(x.Ports.length:Int)-1 else 0
def z6(x:qA):Bool:=
 if x.Kind=6 then decide ((x.Data.length:Int)=0)&&inI x.Value (-2147483648) 2147483647
 else if x.Kind=7 then decide ((x.Data.length:Int)=0)&&inI x.Value 1 6
 else if x.Kind=8 then decide ((x.Data.length:Int)=1)&&inI x.Value 1 6&&x.Data.all fun d=>inI d (-2147483648) 2147483647
 else if x.Kind=9 then decide ((x.Data.length:Int)=0)&&inI x.Value 0 3
 else if x.Kind=12 then decide ((x.Data.length:Int)=0)&&j4 x.Value
 else if x.Kind=10 then decide (x.Value=0)&&inI x.Data.length 1 4&&x.Data.all j4
 else if x.Kind=11 then decide (x.Value=0)&&decide ((x.Data.length:Int)=2)&&x.Data.all j4
 else decide (x.Value=0)&&decide ((x.Data.length:Int)=0)
def qi(x:qA):Bool:=decide (0<wP x.Kind (fieldsOf x))&&decide ((x.Ports.length:Int)=wP x.Kind (fieldsOf x))&&jx x.Kind x.Level&&z6 x
def jq:List qA->Nat->Bool
 |[],_=>true
 | x::xs,i=>qi x&&(decide (x.Kind=1)==decide (i=0))&&jq xs (i+1)
def wJ(xs:List qA):Bool:=inI xs.length 1 600&&jq xs 0
def Jo(xs:List qA)(a:Int):Nat:=match xs[a.toNat]? with
 | some x=>x.Ports.length
 | none=>0
def wg(xs:List qA)(p:qG):Bool:=inI p.Agent 0 ((xs.length:Int)-1)&&inI p.Slot 0 ((Jo xs p.Agent:Int)-1)
theorem jO{α:Type}{xs:List α}{i:Nat}(h:i<xs.length):xs.drop i=xs[i]::xs.drop (i+1):=by simp
theorem wq{n lo hi:Int}:Pure Gm 340 [.int .i64 n,.int .i64 lo,.int .i64 hi] (.bool (inI n lo hi)):=by
 refine pI Kn (by simp[AV.trees,AV.tree,go_sem]) rfl ?_;simp only[Kn,qQ,go_sem]
 repeat' (first | (refine qV rfl ?_;simp only[go_sem]) | (first | (apply qh<;>intro hc<;>simp only[hc,go_sem]) | (apply qM<;>intro hc<;>simp only[hc,go_sem])) | refine qR rfl ?_)
 all_goals (simp_all[inI]<;>omega)
theorem c426{b:qI}:Pure Gm 426 [.ept b.enc 0] (.bool (JQ b)):=by
 refine pI Kz (by simp[AV.trees,AV.tree,go_sem]) rfl ?_;simp only[Kz,qQ,go_sem]
 repeat' (first | (refine qV rfl ?_;simp only[go_sem]) | (first | (apply qh<;>intro hc<;>simp only[hc,go_sem]) | (apply qM<;>intro hc<;>simp only[hc,go_sem])) | (refine qO (wq) ?_;simp only[go_sem]) | refine qR rfl ?_)
 all_goals (simp_all[JQ])
theorem qAN{k:Int}:Pure Gm 1372 [.int .i64 k] (.bool (wW k)):=by
 refine pI KA (by simp[AV.trees,AV.tree,go_sem]) rfl ?_;simp only[KA,qQ,go_sem]
 repeat' (first | (refine qV rfl ?_;simp only[go_sem]) | (first | (apply qh<;>intro hc<;>simp only[hc,go_sem]) | (apply qM<;>intro hc<;>simp only[hc,go_sem])) | refine qR rfl ?_)
 all_goals (simp_all[wW])
theorem qfL{k:Int}:Pure Gm 1489 [.int .i64 k] (.bool (ZI k)):=by
 refine pI KV (by simp[AV.trees,AV.tree,go_sem]) rfl ?_;simp only[KV,qQ,go_sem]
 repeat' (first | (refine qV rfl ?_;simp only[go_sem]) | (first | (apply qh<;>intro hc<;>simp only[hc,go_sem]) | (apply qM<;>intro hc<;>simp only[hc,go_sem])) | (refine qO (wq) ?_;simp only[go_sem]) | refine qR rfl ?_)
 all_goals (simp_all[ZI])
theorem qAQ{k l:Int}:Pure Gm 1385 [.int .i64 k,.int .i64 l] (.bool (jx k l)):=by
 refine pI KD (by simp[AV.trees,AV.tree,go_sem]) rfl ?_;simp only[KD,qQ,go_sem]
 repeat' (first | (refine qV rfl ?_;simp only[go_sem]) | (first | (apply qh<;>intro hc<;>simp only[hc,go_sem]) | (apply qM<;>intro hc<;>simp only[hc,go_sem])) | (refine qO (wq) ?_;simp only[go_sem]) | (refine qO (qAN) ?_;simp only[go_sem]) | (refine qO (qfL) ?_;simp only[go_sem]) | refine qR rfl ?_)
 all_goals (simp_all[jx])
theorem qZT{k:Int}:Pure Gm 1494 [.int .i64 k] (.bool (j4 k)):=by
 refine pI KW (by simp[AV.trees,AV.tree,go_sem]) rfl ?_;simp only[KW,qQ,go_sem]
 repeat' (first | (refine qV rfl ?_;simp only[go_sem]) | (first | (apply qh<;>intro hc<;>simp only[hc,go_sem]) | (apply qM<;>intro hc<;>simp only[hc,go_sem])) | (refine qO (wq) ?_;simp only[go_sem]) | refine qR rfl ?_)
 all_goals (simp_all[j4])
theorem qfC{k f:Int}:Pure Gm 1371 [.int .i64 k,.int .i64 f] (.int .i64 (wP k f)):=by
 refine pI U9 (by simp[AV.trees,AV.tree,go_sem]) rfl ?_;simp only[U9,qQ,go_sem]
 repeat' (first | (refine qV rfl ?_;simp only[go_sem]) | (first | (apply qh<;>intro hc<;>simp only[hc,go_sem]) | (apply qM<;>intro hc<;>simp only[hc,go_sem])) | (refine qO (wq) ?_;simp only[go_sem]) | refine qR rfl ?_)
 all_goals ((try rw[qf (by simp_all[inI];omega) (by simp_all[inI];omega)]);simp_all[wP]<;>omega)
theorem qAP{x:qA}(hx:x.Ports.length<=140737488355328):Pure Gm 1384 [.ept x.enc 0] (.int .i64 (fieldsOf x)):=by
 refine pI KC (by simp[AV.trees,AV.tree,go_sem]) rfl ?_;simp only[KC,qQ,go_sem]
 repeat' (first | (refine qV rfl ?_;simp only[go_sem]) | (first | (apply qh<;>intro hc<;>simp only[hc,go_sem]) | (apply qM<;>intro hc<;>simp only[hc,go_sem])) | refine qR rfl ?_)
 all_goals ((try rw[qf (by omega) (by omega)]);simp_all[fieldsOf]<;>omega)
theorem qfD{x:qA}(hx:x.Data.length<=1048576):Pure Gm 1386 [.ept x.enc 0] (.bool (z6 x)):=by
 refine pI KE (by simp[AV.trees,AV.tree,go_sem]) rfl ?_;simp only[KE,qQ,go_sem];have one:(x.Data.length:Int)=1->∃d,x.Data=[d]:=fun h=>List.length_eq_one_iff.1 (by omega);have z0:(x.Data.length:Int)=1->(x.Data.map qK)[0]?=some (.int .i64 (x.Data.headD 0)):=fun h=>by
  obtain⟨d,hd⟩:=one h;rw[hd];rfl
 have z1:(x.Data.length:Int)=1->(x.Data.all fun d=>inI d (-2147483648) 2147483647)=inI (x.Data.headD 0) (-2147483648) 2147483647:=fun h=>by
  obtain⟨d,hd⟩:=one h;rw[hd];simp
 repeat' (first
  | (first | (apply qh<;>intro hc<;>simp only[hc,go_sem]) | (apply qM<;>intro hc<;>simp only[hc,go_sem]))
  | (refine qO (wq) ?_;simp only[go_sem])
  | (refine qO (qZT) ?_;simp only[go_sem])
  | refine qR rfl ?_
  | (rw[z0 (odT (by assumption))];simp only[oMs];simp only[go_sem])
  | (refine Sem.loop (fun i:Nat=>i<=x.Data.length/\z6 x=(x.Data.drop i).all j4) (fun i=>(⟨[(0,.ept x.enc 0),(3,.int .i64 (i:Nat))],[],[]⟩:VSt)) (fun i=>x.Data.length-i) 0 (by kernel_rfl) ⟨nZl _, ?_⟩ (Can.sub (by simp[go_sem]) (by simp[go_sem])) ?_))
 all_goals try (simp_all[z6];done)
 all_goals
  clear z0 z1 one;rintro i ⟨hi,hI⟩;simp only[go_sem];apply qM<;>intro hc<;>simp only[hc,go_sem]
  ·have hlt:i<x.Data.length:=by have:=odT hc;omega
   simp only[gMp,gEg hlt,oMs,go_sem];simp only[qK];simp only[go_sem];refine qO qZT ?_;simp only[go_sem];apply qM<;>intro hc<;>simp only[hc,go_sem]
   ·refine qR rfl ?_;have hd:j4 x.Data[i]=false:=by simpa using hc
    rw[hI,jO hlt,lAc,hd,Bool.false_and]
   ·simp only[qe (show i<4611686018427387904 by omega)];refine qd (i+1) ⟨by omega, ?_⟩ (by omega) (Can.sub (by simp[go_sem]) (by simp[go_sem]));have hd:j4 x.Data[i]=true:=by simpa using hc
    rw[hI,jO hlt,lAc,hd,Bool.true_and]
  ·have hge:i=x.Data.length:=by have:=odF hc;omega
   subst hge;refine qR rfl ?_;rw[hI];simp
def ZU(o:qE)(a:Int):Bool:=inI o.Step 0 a&&inI o.Def (-1) 23&&inI o.Source (-1) 599&&(decide (0<=o.Source) || decide (o.Def<0))
theorem qeX{x:qA}(hz:x.sz<=1048576):Pure Gm 1096 [.ept x.enc 0] (.bool (qi x)):=by
 refine pI Ua (by simp[AV.trees,AV.tree,go_sem]) rfl ?_;simp only[Ua,qQ,go_sem]
 repeat' (first | (refine qV rfl ?_;simp only[go_sem]) | (first | (apply qh<;>intro hc<;>simp only[hc,go_sem]) | (apply qM<;>intro hc<;>simp only[hc,go_sem])) | (refine qO (qAP (by unfold qA.sz at hz;omega)) ?_;simp only[go_sem]) | (refine qO (qfC) ?_;simp only[go_sem]) | (refine qO (qAQ) ?_;simp only[go_sem]) | (refine qO (qfD (by unfold qA.sz at hz;omega)) ?_;simp only[go_sem]) | refine qR rfl ?_)
 all_goals (simp_all[qi]<;>omega)
theorem c710{xs:List qA}(hl:xs.length+qH qA.sz xs<=1048576):Pure Gm 710 [.lst 5 (xs.map qA.enc) false] (.bool (wJ xs)):=by
 refine pI kY (by simp[AV.trees,AV.tree,qU qA.isSh.tree]) rfl ?_;simp only[kY,qQ,go_sem];refine qO wq ?_;simp only[go_sem];apply qM<;>intro hc<;>simp only[hc,go_sem]
 ·refine qR rfl ?_;simp_all[wJ]
 refine Sem.loop (fun i:Nat=>i<=xs.length/\wJ xs=jq (xs.drop i) i) (fun i=>(⟨[(0,.lst 5 (xs.map qA.enc) false),(3,.int .i64 (i:Nat))],[],[]⟩:VSt)) (fun i=>xs.length-i) 0 (by kernel_rfl) ⟨nZl _,by simp_all[wJ]⟩ (Can.sub (by simp[go_sem]) (by simp[go_sem])) ?_;rintro i ⟨hi,hI⟩;simp only[go_sem];apply qM<;>intro hc<;>simp only[hc,go_sem]
 ·have hlt:i<xs.length:=by have:=odT hc;omega
  simp only[gMp,gEg hlt,oMs,go_sem];have hs:=zy (f:=qA.sz) (gMm hlt);refine qO (qeX (by omega)) ?_;simp only[go_sem];apply qh<;>intro hc<;>simp only[hc,go_sem]
  ·simp only[gMp,gEg hlt,oMs,go_sem];apply qM<;>intro hc<;>simp only[hc,go_sem]
   ·refine qR rfl ?_;rw[hI,jO hlt];simp_all[jq]
   ·simp only[qe (show i<4611686018427387904 by omega)];refine qd (i+1) ⟨by omega, ?_⟩ (by omega) (Can.sub (by simp[go_sem]) (by simp[go_sem]));rw[hI,jO hlt];simp_all[jq]
  ·refine qR rfl ?_;rw[hI,jO hlt];simp_all[jq]
 ·obtain rfl:i=xs.length:=by have:=odF hc;omega
  refine qR rfl ?_;rw[hI];simp[jq]
theorem qeZ{o:qE}{a:Int}:Pure Gm 1109 [.ept o.enc 0,.int .i64 a] (.bool (ZU o a)):=by
 refine pI Uc (by simp[AV.trees,AV.tree,go_sem]) rfl ?_;simp only[Uc,qQ,go_sem]
 repeat' (first | (refine qV rfl ?_;simp only[go_sem]) | (first | (apply qh<;>intro hc<;>simp only[hc,go_sem]) | (apply qM<;>intro hc<;>simp only[hc,go_sem])) | (refine qO (wq) ?_;simp only[go_sem]) | refine qR rfl ?_)
 all_goals (simp_all[ZU]<;>omega)
theorem zB{n lo hi:Int}:inI n lo hi=true↔lo<=n/\n<=hi:=by simp[inI]
def Qv(xs:List qA)(q:qG):Option qG:=match xs[q.Agent.toNat]? with
 | some y=>y.Ports[q.Slot.toNat]?
 | none=>none
def wj(xs:List qA)(me q:qG):Bool:= !(decide (q=me))&&wg xs q&&decide (Qv xs q=some me)
def Jb(xs:List qA)(i:Nat):List qG->Nat->Bool
 |[],_=>true
 | q::qs,k=>wj xs ⟨i,k⟩ q&&Jb xs i qs (k+1)
def J4(xs:List qA):List qA->Nat->Bool
 |[],_=>true
 | x::r,i=>Jb xs i x.Ports 0&&J4 xs r (i+1)
def qp(n:qC):Bool:=wJ n.Agents&&J4 n.Agents n.Agents 0
def wQ(xs:List Int):Bool:=decide (xs.length<=200)&&xs.all fun n=>inI n 0 600
def wC(xs:List qC):Bool:=decide (xs.length<=24)&&xs.all qp
theorem c488{xs:List qA}{p:qG}(hl:xs.length+qH qA.sz xs<=1048576):Pure Gm 488 [.lst 5 (xs.map qA.enc) false,p.enc] (.bool (wg xs p)):=by
 refine pI kE (by simp[AV.trees,AV.tree,qU qA.isSh.tree,qG.tr]) rfl ?_;simp only[kE,qQ,go_sem];refine qV rfl ?_;simp only[go_sem];rw[qf (by omega) (by omega)];refine qO wq ?_;simp only[go_sem];apply qh<;>intro hc<;>simp only[hc,go_sem]
 ·have h:=zB.1 hc;have hlt:p.Agent.toNat<xs.length:=by omega
  rw[Jz h.1];simp only[gMp,gEg hlt,oMs,go_sem];have hs:xs[p.Agent.toNat].Data.length+xs[p.Agent.toNat].Ports.length<=qH qA.sz xs:=zy (f:=qA.sz) (gMm hlt);rw[qf (by omega) (by omega)];refine qO wq ?_;simp only[go_sem];refine qR rfl ?_;simp[wg,hc,Jo,gEg hlt]
 ·refine qR rfl ?_;simp_all[wg]
theorem c412{xs:List Int}(hl:xs.length<=1048576):Pure Gm 412 [.lst 1 (xs.map qK) false] (.bool (wQ xs)):=by
 refine pI Ky (by simp[AV.trees,AV.tree,qU shI.tree]) rfl ?_;simp only[Ky,qQ,go_sem];apply qM<;>intro hc<;>simp only[hc,go_sem]
 ·refine qR rfl ?_;have:=odT hc;have h2:¬xs.length<=200:=by omega
  simp[wQ,h2]
 have h0:xs.length<=200:=by have:=odF hc;omega
 refine Sem.loop (fun i:Nat=>i<=xs.length/\wQ xs=(xs.drop i).all fun n=>inI n 0 600) (fun i=>(⟨[(0,.lst 1 (xs.map qK) false),(3,.int .i64 (i:Nat))],[],[]⟩:VSt)) (fun i=>xs.length-i) 0 (by kernel_rfl) ⟨nZl _,by simp[wQ,h0]⟩ (Can.sub (by simp[go_sem]) (by simp[go_sem])) ?_;rintro i ⟨hi,hI⟩;simp only[go_sem];apply qM<;>intro hc<;>simp only[hc,go_sem]
 ·have hlt:i<xs.length:=by have:=odT hc;omega
  simp only[gMp,gEg hlt,oMs,go_sem];simp only[qK];simp only[go_sem];refine qO wq ?_;simp only[go_sem];apply qM<;>intro hc<;>simp only[hc,go_sem]
  ·refine qR rfl ?_;rw[hI,jO hlt,lAc];simp_all
  ·simp only[qe (show i<4611686018427387904 by omega)];refine qd (i+1) ⟨by omega, ?_⟩ (by omega) (Can.sub (by simp[go_sem]) (by simp[go_sem]));rw[hI,jO hlt,lAc];simp_all
 ·obtain rfl:i=xs.length:=by have:=odF hc;omega
  refine qR rfl ?_;rw[hI];simp
theorem c318{n:qC}(hz:n.sz<=1048576):Pure Gm 318 [.ept n.enc 0] (.bool (qp n)):=by
 refine pI Kl (by simp[AV.trees,AV.tree,go_sem]) rfl ?_;simp only[Kl,qQ,go_sem];have hz':n.Agents.length+qH qA.sz n.Agents<=1048576:=hz;refine qO (c710 hz') ?_;simp only[go_sem];apply qM<;>intro hc<;>simp only[hc,go_sem]
 ·refine qR rfl ?_;simp_all[qp]
 refine Sem.loop (fun i:Nat=>i<=n.Agents.length/\qp n=J4 n.Agents (n.Agents.drop i) i) (fun i=>(⟨[(0,.ept n.enc 0),(3,.int .i64 (i:Nat))],[],[]⟩:VSt)) (fun i=>n.Agents.length-i) 0 (by kernel_rfl) ⟨nZl _,by simp_all[qp]⟩ (Can.sub (by simp[go_sem]) (by simp[go_sem])) ?_;rintro i ⟨hi,hI⟩;simp only[go_sem];apply qM<;>intro hc<;>simp only[hc,go_sem]
 ·have hlt:i<n.Agents.length:=by have:=odT hc;omega
  simp only[gMp,gEg hlt,oMs,go_sem];have hs:n.Agents[i].Data.length+n.Agents[i].Ports.length<=qH qA.sz n.Agents:=zy (f:=qA.sz) (gMm hlt);refine Sem.loop (fun k:Nat=>k<=n.Agents[i].Ports.length/\qp n=(Jb n.Agents i (n.Agents[i].Ports.drop k) k&&J4 n.Agents (n.Agents.drop (i+1)) (i+1))) (fun k=>(⟨[(0,.ept n.enc 0),(3,.int .i64 (i:Nat)),(4,.ept n.Agents[i].enc 0),(5,.int .i64 (k:Nat))],[],[]⟩:VSt)) (fun k=>n.Agents[i].Ports.length-k) 0 (by kernel_rfl) ⟨nZl _,by rw[hI,jO hlt];rfl⟩ (Can.sub (by simp[go_sem]) (by simp[go_sem])) ?_;rintro k ⟨hk,hK⟩;simp only[go_sem];apply qM<;>intro hc<;>simp only[hc,go_sem]
  ·have hkl:k<n.Agents[i].Ports.length:=by have:=odT hc;omega
   rw[show AV.agg [AV.int IntKind.i64 (i:Nat),AV.int IntKind.i64 (k:Nat)]=qG.enc ⟨i,k⟩from rfl];refine qX rfl rfl ⟨_,rfl⟩ (by decide) ?_;simp only[gMp,gEg hkl,oMs,go_sem];refine qX rfl rfl ⟨_,rfl⟩ (by decide) ?_;simp only[go_sem];have stop:wj n.Agents ⟨i,k⟩ n.Agents[i].Ports[k]=false->qp n=false:=fun h=>by rw[hK,jO hkl];simp[Jb,h]
   have go:wj n.Agents ⟨i,k⟩ n.Agents[i].Ports[k]=true->qp n=(Jb n.Agents i (n.Agents[i].Ports.drop (k+1)) (k+1)&&J4 n.Agents (n.Agents.drop (i+1)) (i+1)):=fun h=>by rw[hK,jO hkl];simp[Jb,h]
   apply qh<;>intro hc<;>simp only[hc,go_sem]
   ·have hne:¬n.Agents[i].Ports[k]=⟨i,k⟩:=odF hc;refine qO (c488 hz') ?_;simp only[go_sem];apply qh<;>intro hc<;>simp only[hc,go_sem]
    ·have hp:wg n.Agents n.Agents[i].Ports[k]=true:=by simpa using hc
     have hp2:=hp;simp only[wg,bAt,zB]at hp2;have hlt2:n.Agents[i].Ports[k].Agent.toNat<n.Agents.length:=by omega
     have hpl:Jo n.Agents n.Agents[i].Ports[k].Agent=n.Agents[n.Agents[i].Ports[k].Agent.toNat].Ports.length:=by simp[Jo,gEg hlt2]
     rw[hpl]at hp2;have hlt3:n.Agents[i].Ports[k].Slot.toNat<n.Agents[n.Agents[i].Ports[k].Agent.toNat].Ports.length:=by omega
     have hpe:Qv n.Agents n.Agents[i].Ports[k]=some n.Agents[n.Agents[i].Ports[k].Agent.toNat].Ports[n.Agents[i].Ports[k].Slot.toNat]:=by simp[Qv,gEg hlt2,gEg hlt3]
     rw[Jz (by omega)];simp only[gMp,gEg hlt2,oMs,go_sem];rw[Jz (by omega)];simp only[gMp,gEg hlt3,oMs,go_sem];apply qM<;>intro hc<;>simp only[hc,go_sem]
     ·refine qR rfl ?_;rw[stop (by simp[wj,hpe];intro _ _;simpa using hc)]
     ·simp only[qe (show k<4611686018427387904 by omega)];refine qd (k+1) ⟨by omega, ?_⟩ (by omega) (Can.sub (by simp[go_sem]) (by simp[go_sem]));exact go (by simp[wj,hpe,hp,hne];simpa using hc)
    ·refine qR rfl ?_;have hp:wg n.Agents n.Agents[i].Ports[k]=false:=by simpa using hc
     rw[stop (by simp[wj,hp])]
   ·refine qR rfl ?_;have he:n.Agents[i].Ports[k]=⟨i,k⟩:=odT hc;rw[stop (by simp[wj,he])]
  ·obtain rfl:k=n.Agents[i].Ports.length:=by have:=odF hc;omega
   simp only[qe (show i<4611686018427387904 by omega)];refine qd (i+1) ⟨by omega, ?_⟩ (by omega) (Can.sub (by simp[go_sem]) (by simp[go_sem]));rw[hK];simp[Jb]
 ·obtain rfl:i=n.Agents.length:=by have:=odF hc;omega
  refine qR rfl ?_;rw[hI];simp[J4]
theorem c598{xs:List qC}(hl:xs.length+qH qC.sz xs<=1048576):Pure Gm 598 [.lst 1 (xs.map qC.enc) false] (.bool (wC xs)):=by
 refine pI kQ (by simp[AV.trees,AV.tree,qU qC.isSh.tree]) rfl ?_;simp only[kQ,qQ,go_sem];apply qM<;>intro hc<;>simp only[hc,go_sem]
 ·refine qR rfl ?_;have:=odT hc;have h2:¬xs.length<=24:=by omega
  simp[wC,h2]
 have h0:xs.length<=24:=by have:=odF hc;omega
 refine Sem.loop (fun i:Nat=>i<=xs.length/\wC xs=(xs.drop i).all qp) (fun i=>(⟨[(0,.lst 1 (xs.map qC.enc) false),(3,.int .i64 (i:Nat))],[],[]⟩:VSt)) (fun i=>xs.length-i) 0 (by kernel_rfl) ⟨nZl _,by simp[wC,h0]⟩ (Can.sub (by simp[go_sem]) (by simp[go_sem])) ?_;rintro i ⟨hi,hI⟩;simp only[go_sem];apply qM<;>intro hc<;>simp only[hc,go_sem]
 ·have hlt:i<xs.length:=by have:=odT hc;omega
  simp only[gMp,gEg hlt,oMs,go_sem];have hs:=zy (f:=qC.sz) (gMm hlt);refine qO (c318 (by omega)) ?_;simp only[go_sem];apply qM<;>intro hc<;>simp only[hc,go_sem]
  ·refine qR rfl ?_;rw[hI,jO hlt,lAc];simp_all
  ·simp only[qe (show i<4611686018427387904 by omega)];refine qd (i+1) ⟨by omega, ?_⟩ (by omega) (Can.sub (by simp[go_sem]) (by simp[go_sem]));rw[hI,jO hlt,lAc];simp_all
 ·obtain rfl:i=xs.length:=by have:=odF hc;omega
  refine qR rfl ?_;rw[hI];simp
def wb(n:qC)(os:List qE)(a:Int):Bool:=qp n&&decide ((os.length:Int)=n.Agents.length)&&os.all fun o=>ZU o a
def wH(every:Int):List qF->Nat->Bool
 |[],_=>true
 | p::ps,i=>decide (p.At=(i:Int)*every)&&wb p.Net p.Origins p.At&&wH every ps (i+1)
def jS(d:qJ):Bool:=wC d.Book&&wQ d.Schedule&&inI d.Every 1 50&&inI d.At 0 4000&&wb d.Net d.Origins d.At&& !(decide ((8:Int)<d.Breaks.length))&&d.Breaks.all JQ&&
 inI d.Points.length (d.At.tdiv d.Every+1) ((4000:Int).tdiv d.Every+1)&&wH d.Every d.Points 0
theorem JZ{a b:Int}(ha:0<=a)(hb:0<b):0<=a.tdiv b/\a.tdiv b<=a:=by
 rw[Int.tdiv_eq_ediv_of_nonneg ha];exact⟨Int.ediv_nonneg ha (by omega),Int.ediv_le_self b ha⟩
theorem c741{n:qC}{os:List qE}{a:Int}(hz:n.sz<=1048576)(hl:os.length<=1048576):Pure Gm 741 [.ept n.enc 0,.lst 3 (os.map qE.enc) false,.int .i64 a] (.bool (wb n os a)):=by
 refine pI kj (by simp[AV.trees,AV.tree,qU qE.isSh.tree,qC.tr]) rfl ?_;simp only[kj,qQ,go_sem];refine qO (c318 hz) ?_;simp only[go_sem];apply qh<;>intro hc<;>simp only[hc,go_sem]
 ·apply qM<;>intro hc<;>simp only[hc,go_sem]
  ·refine qR rfl ?_;have h2:¬((os.length:Int)=n.Agents.length):=by simpa using hc
   simp[wb];omega
  have h1:qp n=true:=by simp_all
  have h2:(os.length:Int)=n.Agents.length:=by simpa using hc
  refine Sem.loop (fun i:Nat=>i<=os.length/\wb n os a=(os.drop i).all fun o=>ZU o a) (fun i=>(⟨[(1,.lst 3 (os.map qE.enc) false),(2,.int .i64 a),(7,.int .i64 (i:Nat))],[],[]⟩:VSt)) (fun i=>os.length-i) 0 (by kernel_rfl) ⟨nZl _,by simp[wb,h1,h2]⟩ (Can.sub (by simp[go_sem]) (by simp[go_sem])) ?_;rintro i ⟨hi,hI⟩;simp only[go_sem];apply qM<;>intro hc<;>simp only[hc,go_sem]
  ·have hlt:i<os.length:=by have:=odT hc;omega
   simp only[gMp,gEg hlt,oMs,go_sem];refine qO qeZ ?_;simp only[go_sem];apply qM<;>intro hc<;>simp only[hc,go_sem]
   ·refine qR rfl ?_;rw[hI,jO hlt,lAc];simp_all
   ·simp only[qe (show i<4611686018427387904 by omega)];refine qd (i+1) ⟨by omega, ?_⟩ (by omega) (Can.sub (by simp[go_sem]) (by simp[go_sem]));rw[hI,jO hlt,lAc];simp_all
  ·obtain rfl:i=os.length:=by have:=odF hc;omega
   refine qR rfl ?_;rw[hI];simp
 ·refine qR rfl ?_;simp_all[wb]
theorem c367{d:qJ}(hz:d.sz<=1048576):Pure Gm 367 [.ept d.enc 0] (.bool (jS d)):=by
 refine pI Ko (by simp[AV.trees,AV.tree,go_sem]) rfl ?_;simp only[Ko,qQ,go_sem];unfold qJ.sz at hz;have hzn:d.Net.sz<=1048576:=by omega
 have conv:Cvs (only [] []) [.ept d.enc 4,.lst 3 (d.Origins.map qE.enc) false,.int .i64 d.At] [.ept d.Net.enc 0,.lst 3 (d.Origins.map qE.enc) false,.int .i64 d.At]:=
  Cvs.cons (.sub qJ.tr (qJ.q4_1) (by rw[qC.ln];decide)) (Cvs.cons (.refl (by simp[AV.tree,qU qE.isSh.tree])) (Cvs.cons (.refl rfl) Cvs.nil))
 repeat' (first
  | (first | (apply qh<;>intro hc<;>simp only[hc,go_sem]) | (apply qM<;>intro hc<;>simp only[hc,go_sem]))
  | (refine qO (c598 (by omega)) ?_;simp only[go_sem])
  | (refine qO (c412 (by omega)) ?_;simp only[go_sem])
  | (refine qO wq ?_;simp only[go_sem])
  | (refine Q9 conv (c741 hzn (by omega)) ?_;simp only[go_sem])
  | refine qR rfl ?_)
 all_goals try (simp_all[jS];done)
 have f1:wC d.Book=true:=by simp_all
 have f2:wQ d.Schedule=true:=by simp_all
 have f3:inI d.Every 1 50=true:=by simp_all
 have f4:inI d.At 0 4000=true:=by simp_all
 have f5:wb d.Net d.Origins d.At=true:=by simp_all
 have f6:decide ((8:Int)<d.Breaks.length)=false:=by simp_all
 have key:jS d=(d.Breaks.all JQ&&inI d.Points.length (d.At.tdiv d.Every+1) ((4000:Int).tdiv d.Every+1)&&wH d.Every d.Points 0):=by simp[jS,f1,f2,f3,f4,f5,f6]
 have e1:=zB.1 f3;have e2:=zB.1 f4;have b1:=JZ e2.1 (show 0<d.Every by omega);have b2:=JZ (show (0:Int)<=4000 by omega) (show 0<d.Every by omega);clear f1 f2 f3 f4 f5 f6 conv
 rename_i t1 t2 t3 t4 t5;clear t1 t2 t3 t4 t5 hc;obtain⟨X,hX⟩:∃X,X=(inI d.Points.length (d.At.tdiv d.Every+1) ((4000:Int).tdiv d.Every+1)&&wH d.Every d.Points 0):=⟨_,rfl⟩;rw[Bool.and_assoc,<-hX]at key;refine Sem.loop (fun i:Nat=>i<=d.Breaks.length/\jS d=((d.Breaks.drop i).all JQ&&X)) (fun i=>(⟨[(0,.ept d.enc 0),(3,.int .i64 (i:Nat))],[],[]⟩:VSt)) (fun i=>d.Breaks.length-i) 0 (by kernel_rfl) ⟨nZl _,by rw[key];simp⟩ (Can.sub (by simp[go_sem]) (by simp[go_sem])) ?_;rintro i ⟨hi,hI⟩;simp only[go_sem];apply qM<;>intro hc<;>simp only[hc,go_sem]
 ·have hlt:i<d.Breaks.length:=by have:=odT hc;omega
  simp only[gMp,gEg hlt,oMs,go_sem];refine qO c426 ?_;simp only[go_sem];apply qM<;>intro hc<;>simp only[hc,go_sem]
  ·refine qR rfl ?_;rw[hI,jO hlt,lAc];simp_all
  ·simp only[qe (show i<4611686018427387904 by omega)];refine qd (i+1) ⟨by omega, ?_⟩ (by omega) (Can.sub (by simp[go_sem]) (by simp[go_sem]));rw[hI,jO hlt,lAc];simp_all
 have hX2:jS d=X:=by
  obtain rfl:i=d.Breaks.length:=by have:=odF hc;omega
  rw[hI];simp
 clear hI key hi hc;rw[if_neg (show ¬d.Every=0 by omega)];simp only[go_sem];rw[if_neg (show ¬d.Every=0 by omega)];simp only[go_sem];rw[qf (n:=d.At.tdiv d.Every) (by omega) (by omega),qf (n:=(4000:Int).tdiv d.Every) (by omega) (by omega),qf (n:=d.At.tdiv d.Every+1) (by omega) (by omega),qf (n:=(4000:Int).tdiv d.Every+1) (by omega) (by omega)];refine qO wq ?_;simp only[go_sem];apply qM<;>intro hc<;>simp only[hc,go_sem]
 ·refine qR rfl ?_;rw[hX2,hX];simp_all
 have hq:inI d.Points.length (d.At.tdiv d.Every+1) ((4000:Int).tdiv d.Every+1)=true:=by simpa using hc
 rw[hq,Bool.true_and]at hX;refine Sem.loop (fun i:Nat=>i<=d.Points.length/\jS d=wH d.Every (d.Points.drop i) i) (fun i=>(⟨[(0,.ept d.enc 0),(4,.int .i64 (i:Nat))],[],[]⟩:VSt)) (fun i=>d.Points.length-i) 0 (by kernel_rfl) ⟨nZl _,by rw[hX2,hX];simp⟩ (Can.sub (by simp[go_sem]) (by simp[go_sem])) ?_;rintro i ⟨hi,hI⟩;simp only[go_sem];apply qM<;>intro hc<;>simp only[hc,go_sem]
 ·have hlt:i<d.Points.length:=by have:=odT hc;omega
  simp only[gMp,gEg hlt,oMs,go_sem];have hs:(d.Points[i].Net.sz+d.Points[i].Origins.length)<=qH qF.sz d.Points:=zy (f:=qF.sz) (gMm hlt);have m1:(0:Int)<=(i:Int)*d.Every:=Int.mul_nonneg (by omega) (by omega);have m2:(i:Int)*d.Every<=1048576*50:=Int.mul_le_mul (by omega) (by omega) (by omega) (by omega);rw[qf (n:=(i:Int)*d.Every) (by omega) (by omega)];have conv:Cvs (only [] []) [.ept d.Points[i].enc 1,.lst 3 (d.Points[i].Origins.map qE.enc) false,.int .i64 d.Points[i].At] [.ept d.Points[i].Net.enc 0,.lst 3 (d.Points[i].Origins.map qE.enc) false,.int .i64 d.Points[i].At]:=
   Cvs.cons (.sub qF.tr (qF.q1_1) (by rw[qC.ln];decide)) (Cvs.cons (.refl (by simp[AV.tree,qU qE.isSh.tree])) (Cvs.cons (.refl rfl) Cvs.nil))
  apply qh<;>intro hc<;>simp only[hc,go_sem]
  ·refine Q9 conv (c741 (by omega) (by omega)) ?_
   simp only[go_sem];apply qM<;>intro hc<;>simp only[hc,go_sem]
   ·refine qR rfl ?_;rw[hI,jO hlt];simp_all[wH]
   ·simp only[qe (show i<4611686018427387904 by omega)];refine qd (i+1) ⟨by omega, ?_⟩ (by omega) (Can.sub (by simp[go_sem]) (by simp[go_sem]));rw[hI,jO hlt];simp_all[wH]
  ·refine qR rfl ?_;rw[hI,jO hlt];simp_all[wH]
 ·obtain rfl:i=d.Points.length:=by have:=odF hc;omega
  refine qR rfl ?_;rw[hI];simp[wH]
def we(ka la kb lb:Int):Bool:=jx ka la&&jx kb lb&& !decide (ka=1)&& !decide (kb=1)
def Xu(l k m:Int):Bool:=inI l 0 8&&jx k m&&(decide (k=6) || decide (k=12) || wW k&&decide (l<m))
def Zs(k:Int):Bool:=decide (k=3) || decide (k=7) || decide (k=8) || decide (k=10) || decide (k=11)
def zD(ka la kb lb:Int):Int:=
 if ka=5 then 4 else if ka=4 then(if kb=4/\la=lb then 2 else if Xu la kb lb then 3 else 0)
 else if ka=2 then(if kb=3/\la=lb then 1 else 0)
 else if ka=6 then(if kb=7\/kb=8 then 5 else if kb=11 then 6 else 0)
 else if ka=9 then(if kb=10 then 6 else 0)
 else if ka=12 then(if Zs kb then 7 else 0)else 0
def zY(ka la kb lb:Int):Int:=if we ka la kb lb then(if zD ka la kb lb≠0 then 1 else if zD kb lb ka la≠0 then 2 else 0)else 0
def zb(ka la kb lb:Int):Int:=if we ka la kb lb then(if zD ka la kb lb≠0 then zD ka la kb lb else if zD kb lb ka la≠0 then zD kb lb ka la else 8)else 0
def qS(x y:qA):Int:=
 if x.Kind=9/\y.Kind=10/\(y.Data.length:Int)<=x.Value then 8 else if x.Kind=10/\y.Kind=9/\(x.Data.length:Int)<=y.Value then 8
 else zb x.Kind x.Level y.Kind y.Level
theorem qZR{ka la kb lb:Int}:Pure Gm 1395 [.int .i64 ka,.int .i64 la,.int .i64 kb,.int .i64 lb] (.bool (we ka la kb lb)):=by
 refine pI KJ (by simp[AV.trees,AV.tree,go_sem]) rfl ?_;simp only[KJ,qQ,go_sem]
 repeat' (first | (refine qV rfl ?_;simp only[go_sem]) | (first | (apply qh<;>intro hc<;>simp only[hc,go_sem]) | (apply qM<;>intro hc<;>simp only[hc,go_sem])) | (refine qO (qAQ) ?_;simp only[go_sem]) | refine qR rfl ?_)
 all_goals (simp_all[we])
theorem qfM{l k m:Int}:Pure Gm 1499 [.int .i64 l,.int .i64 k,.int .i64 m] (.bool (Xu l k m)):=by
 refine pI KY (by simp[AV.trees,AV.tree,go_sem]) rfl ?_;simp only[KY,qQ,go_sem]
 repeat' (first | (refine qV rfl ?_;simp only[go_sem]) | (first | (apply qh<;>intro hc<;>simp only[hc,go_sem]) | (apply qM<;>intro hc<;>simp only[hc,go_sem])) | (refine qO (wq) ?_;simp only[go_sem]) | (refine qO (qAQ) ?_;simp only[go_sem]) | (refine qO (qAN) ?_;simp only[go_sem]) | refine qR rfl ?_)
 all_goals (simp_all[Xu])
theorem qfN{k:Int}:Pure Gm 1500 [.int .i64 k] (.bool (Zs k)):=by
 refine pI KZ (by simp[AV.trees,AV.tree,go_sem]) rfl ?_;simp only[KZ,qQ,go_sem]
 repeat' (first | (refine qV rfl ?_;simp only[go_sem]) | (first | (apply qh<;>intro hc<;>simp only[hc,go_sem]) | (apply qM<;>intro hc<;>simp only[hc,go_sem])) | refine qR rfl ?_)
 all_goals (simp_all[Zs])
theorem qZS{ka la kb lb:Int}:Pure Gm 1396 [.int .i64 ka,.int .i64 la,.int .i64 kb,.int .i64 lb] (.int .i64 (zD ka la kb lb)):=by
 refine pI KL (by simp[AV.trees,AV.tree,go_sem]) rfl ?_;simp only[KL,qQ,go_sem]
 repeat' (first | (refine qV rfl ?_;simp only[go_sem]) | (first | (apply qh<;>intro hc<;>simp only[hc,go_sem]) | (apply qM<;>intro hc<;>simp only[hc,go_sem])) | (refine qO (qfM) ?_;simp only[go_sem]) | (refine qO (qfN) ?_;simp only[go_sem]) | refine qR rfl ?_)
 all_goals (simp_all[zD])
theorem qe0{ka la kb lb:Int}:Pure Gm 1110 [.int .i64 ka,.int .i64 la,.int .i64 kb,.int .i64 lb] (.int .i64 (zY ka la kb lb)):=by
 refine pI Ud (by simp[AV.trees,AV.tree,go_sem]) rfl ?_;simp only[Ud,qQ,go_sem]
 repeat' (first | (refine qV rfl ?_;simp only[go_sem]) | (first | (apply qh<;>intro hc<;>simp only[hc,go_sem]) | (apply qM<;>intro hc<;>simp only[hc,go_sem])) | (refine qO (qZR) ?_;simp only[go_sem]) | (refine qO (qZS) ?_;simp only[go_sem]) | refine qR rfl ?_)
 all_goals (simp_all[zY])
theorem qe1{ka la kb lb:Int}:Pure Gm 1111 [.int .i64 ka,.int .i64 la,.int .i64 kb,.int .i64 lb] (.int .i64 (zb ka la kb lb)):=by
 refine pI Ue (by simp[AV.trees,AV.tree,go_sem]) rfl ?_;simp only[Ue,qQ,go_sem]
 repeat' (first | (refine qV rfl ?_;simp only[go_sem]) | (first | (apply qh<;>intro hc<;>simp only[hc,go_sem]) | (apply qM<;>intro hc<;>simp only[hc,go_sem])) | (refine qO (qZR) ?_;simp only[go_sem]) | (refine qO (qZS) ?_;simp only[go_sem]) | refine qR rfl ?_)
 all_goals (simp_all[zb])
theorem Yz{x y:qA}:Pure Gm 744 [.ept x.enc 0,.ept y.enc 0] (.int .i64 (qS x y)):=by
 refine pI kw (by simp[AV.trees,AV.tree,go_sem]) rfl ?_;simp only[kw,qQ,go_sem]
 repeat' (first | (refine qV rfl ?_;simp only[go_sem]) | (first | (apply qh<;>intro hc<;>simp only[hc,go_sem]) | (apply qM<;>intro hc<;>simp only[hc,go_sem])) | (refine qO (qe1) ?_;simp only[go_sem]) | refine qR rfl ?_)
 all_goals (simp_all[qS]<;>(intro h;omega))
def fil(e:Env)(w:Nat)(el:List AV)(i:Nat)(v:Option AV)(r:List (Nat×Ao)):Option (List AV):=match v with
 | some v=>if v.cells.length=w/\i<el.length then jB e w (el.set i v) r else none
 | none=>none
section
variable {e:Env} {w i:Nat} {el:List AV} {v:AV} {x:Ao} {r:List (Nat×Ao)}
@[go_sem] theorem qnW:jB e w el []=some el:=nr (by unfold jB;rfl)
@[go_sem] theorem qnV:jB e w el ((i,x)::r)=fil e w el i (ev e x) r:=nr (by unfold jB;rfl)
@[go_sem] theorem qnX{el0:AV}(h:v.cells.length=w):fil e w [el0] 0 (some v) r=jB e w [v] r:=by
 show (if v.cells.length=w/\0<1 then _ else _)=_;rw[if_pos ⟨h,by omega⟩];rfl
@[go_sem] theorem rep0{v:AV}:List.replicate 0 v=[]:=nr rfl
@[go_sem] theorem rep1{v:AV}:List.replicate 1 v=[v]:=nr rfl
end
structure qj where
 A:Int
 B:Int
deriving DecidableEq
def qj.enc(x:qj):AV:=.agg [.int .i64 x.A,.int .i64 x.B]
theorem qj.isSh:Sh qj.enc 2 (some 2):=⟨fun x=>by simp[qj.enc,AV.tree,AV.trees],fun _=>rfl,fun _=>rfl,by decide,fun x=>by simp[qj.enc]⟩
section
variable {x:qj}
@[go_sem] theorem qj.tr:x.enc.tree=true:=qj.isSh.tree x
@[go_sem] theorem qj.ln:x.enc.cells.length=2:=nr rfl
@[go_sem] theorem qj.all:x.enc.part 0 (some 2)=some x.enc:=nr rfl
@[go_sem] theorem qj.cs:x.enc.cells=[.int .i64 x.A,.int .i64 x.B]:=nr rfl
@[go_sem] theorem qj.p0:x.enc.part 0 none=some (.int .i64 x.A):=nr rfl
@[go_sem] theorem qj.p1:x.enc.part 1 none=some (.int .i64 x.B):=nr rfl
@[go_sem] theorem qj.eqf{y:qj}:JE false [1,1] (some x.enc) (some y.enc)=some (.bool (decide (x=y))):=by
 obtain⟨a0,a1⟩:=x;obtain⟨b0,b1⟩:=y;simp only[JE,qj.enc,lMc,List.map_nil,dig,and_self,if_true,JI,QS,qj.mk.injEq]
 repeat' (split<;>simp_all)
end
def zN(x y:qA):Bool:=decide (zY x.Kind x.Level y.Kind y.Level=2)
def Jn(xs:List qA)(k:Nat):List qj:=match xs[k]? with
 | some x=>if x.Kind=0 then []else match x.Ports[0]? with
  | some p=>if p.Slot=0/\(k:Int)<p.Agent then [⟨k,p.Agent⟩]else []
  | none=>[]
 | none=>[]
def zV(xs:List qA):Nat->List qj
 | 0=>[]
 | i+1=>zV xs i++Jn xs (i+1)
theorem qj7(xs:List qA)(k:Nat):(Jn xs k).length<=1:=by
 unfold Jn;repeat' (split<;>try simp)
theorem Vx(xs:List qA):∀i,(zV xs i).length<=i
 | 0=>nLr _
 | i+1=>by have:=Vx xs i;have:=qj7 xs (i+1);simp[zV];omega
theorem c743{n:qC}{a b:Nat}(ha:a<n.Agents.length)(hb:b<n.Agents.length):Pure Gm 743 [.ept n.enc 0,.int .i64 (a:Int),.int .i64 (b:Int)] (if zN n.Agents[a] n.Agents[b]then .tup [.int .i64 (b:Int),.int .i64 (a:Int)]else .tup [.int .i64 (a:Int),.int .i64 (b:Int)]):=by
 refine pI ku (by simp[AV.trees,AV.tree,go_sem]) (by split<;>rfl) ?_;simp only[ku,qQ,go_sem];simp only[gMp,gEg ha,oMs,go_sem];simp only[gEg hb,oMs,go_sem];refine qO qe0 ?_;simp only[go_sem];apply qM<;>intro hc<;>simp only[hc,go_sem]
 ·refine jT (by split<;>rfl) ?_;simp_all[zN]
 ·refine jT (by split<;>rfl) ?_;simp_all[zN]
theorem c742{n:qC}(hz:n.sz<=1048576)(hp:∀x∈n.Agents,x.Kind≠0->0<x.Ports.length):Pure Gm 742 [.ept n.enc 0] (.lst 2 ((zV n.Agents (n.Agents.length-1)).map qj.enc) false):=by
 refine pI kq (by simp[AV.trees,AV.tree,go_sem]) (by simp[AV.tree,qU qj.isSh.tree]) ?_;simp only[kq,qQ,go_sem];unfold qC.sz at hz;refine Sem.loop (fun i:Nat=>i<=n.Agents.length-1) (fun i=>(⟨[(0,.ept n.enc 0),(4,.int .i64 ((i+1:Nat):Int)),(3,.slice 2 0 0 (zV n.Agents i).length false)],[],[.row 2 ((zV n.Agents i).map qj.enc) true]⟩:VSt)) (fun i=>n.Agents.length-1-i) 0 (by kernel_rfl) (nZl _) (Can.renum [none] rfl ⟨.ph,trivial⟩ ⟨⟨_,rfl,.tree (by simp only[AV.tree,qC.tr])⟩,⟨_,rfl,.tree rfl⟩,⟨_,rfl,.ph2 rfl⟩,trivial⟩ trivial) ?_;rintro i hi;simp only[go_sem];apply qM<;>intro hc<;>simp only[hc,go_sem]
 ·have hlt:i+1<n.Agents.length:=by have:=odT hc;omega
  simp only[gMp,gEg hlt,oMs,go_sem];have hx:=hp _ (gMm hlt);apply qM<;>intro hc<;>simp only[hc,go_sem]
  ·have e:zV n.Agents (i+1)=zV n.Agents i:=by simp_all[zV,Jn]
   simp only[qe (show i+1<4611686018427387904 by omega)];refine qd (i+1) (by omega) (by omega) ?_;rw[e];exact Can.sub (by simp[go_sem]) (by simp[go_sem])
  ·have hp0:=hx (by simpa using hc);simp only[gMp,gEg hlt,oMs,go_sem];simp only[gEg hp0,oMs,go_sem];refine qX (k:=2) (by rfl) (by rfl) (by exact⟨_,rfl⟩) (by decide) ?_;simp only[go_sem];have same (hn:¬(n.Agents[i+1].Ports[0].Slot=0/\((i+1:Nat):Int)<n.Agents[i+1].Ports[0].Agent)):zV n.Agents (i+1)=zV n.Agents i:=by
    have hk:¬n.Agents[i+1].Kind=0:=by simpa using hc
    simp only[zV,Jn,gEg hlt,gEg hp0,if_neg hk,if_neg hn,lAn]
   first | (apply qh<;>intro hc<;>simp only[hc,go_sem]) | (apply qM<;>intro hc<;>simp only[hc,go_sem])
   ·first | (apply qh<;>intro hc<;>simp only[hc,go_sem]) | (apply qM<;>intro hc<;>simp only[hc,go_sem])
    ·refine z9 (el:=(zV n.Agents i).map qj.enc) rfl rfl (by simp) (by have:=Vx n.Agents i;omega) ?_;simp only[go_sem];simp only[qe (show i+1<4611686018427387904 by omega)];have e:zV n.Agents (i+1)=zV n.Agents i++[⟨((i+1:Nat):Int),n.Agents[i+1].Ports[0].Agent⟩]:=by
      have hk:¬n.Agents[i+1].Kind=0:=by simp_all
      have hn:n.Agents[i+1].Ports[0].Slot=0/\((i+1:Nat):Int)<n.Agents[i+1].Ports[0].Agent:=⟨by simp_all,by simp_all⟩;simp only[zV,Jn,gEg hlt,gEg hp0,if_neg hk,if_pos hn]
     refine qd (i+1) (by omega) (by omega) ?_;simp only[e,lAp,lCo,lNi,nZa];refine Can.renum [some 2] rfl ⟨.row rfl ?_,trivial⟩ ⟨⟨_,rfl,.tree (by simp only[AV.tree,qC.tr])⟩,⟨_,rfl,.tree rfl⟩,⟨_,rfl,.slice rfl⟩,trivial⟩ trivial;rw[lMa];have t:=qU qj.isSh.tree (zV n.Agents i++[⟨((i+1:Nat):Int),n.Agents[i+1].Ports[0].Agent⟩]);rw[lMa]at t;exact VR2s.trees t
    ·simp only[qe (show i+1<4611686018427387904 by omega)];refine qd (i+1) (by omega) (by omega) ?_;rw[same (by simp_all)];exact Can.sub (by simp[go_sem]) (by simp[go_sem])
   ·simp only[qe (show i+1<4611686018427387904 by omega)];refine qd (i+1) (by omega) (by omega) ?_;rw[same (by simp_all)];exact Can.sub (by simp[go_sem]) (by simp[go_sem])
 ·obtain rfl:i=n.Agents.length-1:=by have:=odF hc;omega
  refine QM (Cv.row rfl (by simp) (qU qj.isSh.tree _) (by omega))
theorem US{xs:List qA}{i:Nat}:∀{qs:List qG}{j:Nat},Jb xs i qs j=true->∀(m:Nat)(hm:m<qs.length),wj xs ⟨i,(j+m:Nat)⟩ qs[m]=true
 |[],_,_,m,hm=>by simp at hm
 | q::qs,j,h,m,hm=>by
  simp only[Jb,bAt]at h;cases m with
  | zero=>exact h.1
  | succ m=>
   have:=US h.2 m (by simpa using hm);rw[show j+(m+1)=j+1+m by omega];simpa using this
theorem Vn{xs:List qA}:∀{l:List qA}{i:Nat},J4 xs l i=true->∀(k:Nat)(hk:k<l.length),Jb xs (i+k) l[k].Ports 0=true
 |[],_,_,k,hk=>by simp at hk
 | x::l,i,h,k,hk=>by
  simp only[J4,bAt]at h;cases k with
  | zero=>exact h.1
  | succ k=>
   have:=Vn h.2 k (by simpa using hk);rw[show i+(k+1)=i+1+k by omega];simpa using this
theorem wK:∀{l:List qA}{i:Nat},jq l i=true->∀x∈l,qi x=true
 |[],_,_,x,hx=>by cases hx
 | y::l,i,h,x,hx=>by
  simp only[jq,bAt]at h;rcases List.mem_cons.1 hx with rfl | hx
  ·exact h.1.1
  ·exact wK h.2 x hx
theorem qb5{n:qC}(h:qp n=true):∀x∈n.Agents,0<x.Ports.length:=by
 simp only[qp,wJ,bAt]at h;intro x hx;have:=wK h.1.2 x hx;simp only[qi,bAt,dTe]at this;omega
theorem qj8{n:qC}(h:qp n=true){k:Nat}{p:qj}(hp:p∈Jn n.Agents k):∃a b:Nat,p=⟨a,b⟩/\a<n.Agents.length/\b<n.Agents.length:=by
 simp only[qp,bAt]at h;unfold Jn at hp;split at hp
 next x hx=>
  obtain⟨hk,rfl⟩:=gSi.1 hx;split at hp
  ·cases hp
  split at hp
  next q hq=>
   obtain⟨hm,rfl⟩:=gSi.1 hq;split at hp
   next hc=>
    have:=US (Vn h.2 k hk) 0 hm;simp only[wj,wg,bAt]at this;have e:=zB.1 this.1.2.1;simp only[lMg]at hp;subst hp;refine⟨k,n.Agents[k].Ports[0].Agent.toNat, ?_,hk,by omega⟩;rw[Int.toNat_of_nonneg (by omega)]
   ·cases hp
  ·cases hp
 ·cases hp
theorem Vy{n:qC}(h:qp n=true):∀{i:Nat}{p:qj},p∈zV n.Agents i->∃a b:Nat,p=⟨a,b⟩/\a<n.Agents.length/\b<n.Agents.length
 | 0,p,hp=>by cases hp
 | i+1,p,hp=>by
  simp only[zV,wY]at hp;rcases hp with hp | hp
  ·exact Vy h hp
  ·exact qj8 h hp
def qx(n:qC):List qj:=zV n.Agents (n.Agents.length-1)
theorem qi3(n:qC):(qx n).length<=n.Agents.length:=by have:=Vx n.Agents (n.Agents.length-1);unfold qx;omega
def zA(n:qC)(a:Int):qA:=(n.Agents[a.toNat]?).getD ⟨0,0,0,[],[]⟩
def jF(n:qC)(p:qj):qj:=if zN (zA n p.A) (zA n p.B)then⟨p.B,p.A⟩else p
def QA(d:qJ)(m:Nat):Nat:=if d.Schedule=[]then 0 else((d.Schedule[d.At.toNat%d.Schedule.length]?).getD 0).toNat%m
def YL(d:qJ):Option (Nat×qj×Int):=match (qx d.Net)[QA d (qx d.Net).length]? with
 | none=>none
 | some p=>some (QA d (qx d.Net).length,jF d.Net p,qS (zA d.Net (jF d.Net p).A) (zA d.Net (jF d.Net p).B))
def JM(d:qJ):AV:=match YL d with
 | none=>.tup [.int .i64 0,.agg [.int .i64 0,.int .i64 0],.int .i64 0,.bool false]
 | some (k,p,c)=>.tup [.int .i64 (k:Int),p.enc,.int .i64 c,.bool true]
theorem qgG{d:qJ}(h:jS d=true):qp d.Net=true:=by
 simp only[jS,wb,bAt]at h;simp_all
theorem c369{d:qJ}{p:qj}{c:Int}(h:p.A.toNat<d.Net.Agents.length)(h0:0<=p.A):Pure Gm 369 [.ept d.enc 0,p.enc,.int .i64 c] (.int .i64 (if c=7 then(zA d.Net p.A).Value else-1)):=by
 refine pI Kq (by simp[AV.trees,AV.tree,go_sem]) rfl ?_;simp only[Kq,qQ,go_sem];refine qV rfl ?_;simp only[go_sem];apply qM<;>intro hc<;>simp only[hc,go_sem]
 ·rw[Jz h0];simp only[gMp,gEg h,oMs,go_sem];refine qR rfl ?_;simp_all[zA]
 ·refine qR rfl ?_;simp_all
theorem qZV{n:qC}{p:qj}(h:∃a b:Nat,p=⟨a,b⟩/\a<n.Agents.length/\b<n.Agents.length):Pure Gm 743 [.ept n.enc 0,.int .i64 p.A,.int .i64 p.B] (.tup [.int .i64 (jF n p).A,.int .i64 (jF n p).B]):=by
 obtain⟨a,b,rfl,ha,hb⟩:=h;have c:=c743 ha hb;have e1:zA n (a:Int)=n.Agents[a]:=by simp[zA,gEg ha]
 have e2:zA n (b:Int)=n.Agents[b]:=by simp[zA,gEg hb]
 unfold jF;rw[e1,e2];split
 ·rename_i h;rw[if_pos h]at c;exact c
 ·rename_i h;rw[if_neg h]at c;exact c
theorem qcJ{n:qC}{p:qj}(h:∃a b:Nat,p=⟨a,b⟩/\a<n.Agents.length/\b<n.Agents.length):∃a b:Nat,jF n p=⟨a,b⟩/\a<n.Agents.length/\b<n.Agents.length:=by
 obtain⟨a,b,rfl,ha,hb⟩:=h;unfold jF;split
 ·exact⟨b,a,rfl,hb,ha⟩
 ·exact⟨a,b,rfl,ha,hb⟩
theorem UM{a:Int}{m:Nat}(h:0<=a):a.tmod m=((a.toNat%m:Nat):Int):=by
 conv=>lhs;rw[<-Int.toNat_of_nonneg h]
 exact(Int.ofNat_tmod _ _).symm
theorem qdN{xs:List Int}(h:wQ xs=true){i:Nat}(hi:i<xs.length):0<=xs[i]:=by
 simp only[wQ,bAt,lAt]at h;exact(zB.1 (h.2 _ (gMm hi))).1
def fzp(n id:Nat)(o:Option qD)(st:VSt):VSt:=match o with
 | some (.row w [v] true)=>if w=0 then st else{s:=(n,.ept v 0)::st.s,l:=st.l,h:=st.h.set id .dead}
 | _=>st
def fzo(n:Nat)(v:Option AV)(st:VSt):VSt:=match v with
 | none=>st
 | some (.ept _ _)=>st
 | some (.lst _ _ _)=>st
 | some (.int _ _)=>st
 | some (.bool _)=>st
 | some .nils=>st
 | some (.agg _)=>st
 | some (.ptr id 0 0)=>fzp n id st.h[id]? st
 | _=>Ql n st
section
variable {n id:Nat} {s m:qn} {h:List qD} {v x:AV} {st:VSt}
@[go_sem] theorem qoE:Ql n ⟨s,m,h⟩=fzo n (get s n) ⟨s,m,h⟩:=by
 unfold fzo;split<;>rename_i e<;>try (simp only[Ql,e];done)
 ·simp only[Ql,e,fzp];split<;>rename_i e2<;>simp only[e2]
  ·split<;>split<;>first | rfl | omega
@[go_sem] theorem qoN:get [] n=none:=nr rfl
@[go_sem] theorem qoJ:fzo n none st=st:=nr rfl
@[go_sem] theorem qoF{j:Nat}:fzo n (some (.ept v j)) st=st:=nr rfl
@[go_sem] theorem qoH{w:Nat}{xs:List AV}{c:Bool}:fzo n (some (.lst w xs c)) st=st:=nr rfl
@[go_sem] theorem qoI:fzo n (some .nils) st=st:=nr rfl
@[go_sem] theorem qoG{k:IntKind}{i:Int}:fzo n (some (.int k i)) st=st:=nr rfl
@[go_sem] theorem qoK:fzo n (some (.ptr id 0 0)) ⟨s,m,h⟩=fzp n id h[id]? ⟨s,m,h⟩:=nr rfl
@[go_sem] theorem qoL{w:Nat}:fzp n id (some (.row w [v] true)) ⟨s,m,h⟩=if w=0 then⟨s,m,h⟩else⟨(n,.ept v 0)::s,m,h.set id .dead⟩:=nr rfl
end
theorem c397{f:AV}(p:Int->Bool)(hft:f.tree=true)(xs:List Int)(hf:∀x∈xs,Zf Gm f [qK x] (.bool (p x)))(hl:xs.length<=1048576):Pure Gm 397 [.lst 1 (xs.map qK) false,f] (.bool (xs.any p)):=
 Xr shI (gc:=774) (gk _ F397) (gk _ F774) f p hft xs hf hl
theorem c859{f:AV}(p:qC->Bool)(hft:f.tree=true)(xs:List qC)(hf:∀x∈xs,Zf Gm f [x.enc] (.bool (p x)))(hl:xs.length<=1048576):Pure Gm 859 [.lst 1 (xs.map qC.enc) false,f] (.bool (xs.any p)):=
 Xr qC.isSh (gc:=1179) (gk _ F859) (gk _ qFU) f p hft xs hf hl
theorem c712{f:AV}(p:qG->Bool)(hft:f.tree=true)(xs:List qG)(hf:∀x∈xs,Zf Gm f [x.enc] (.bool (p x)))(hl:xs.length<=1048576):Pure Gm 712 [.lst 2 (xs.map qG.enc) false,f] (.bool (xs.any p)):=
 Xr qG.isSh (gc:=1098) (gk _ F712) (gk _ qEX) f p hft xs hf hl
theorem qe2{f:AV}(p:qE->Bool)(hft:f.tree=true)(xs:List qE)(hf:∀x∈xs,Zf Gm f [x.enc] (.bool (p x)))(hl:xs.length<=1048576):Pure Gm 1112 [.lst 3 (xs.map qE.enc) false,f] (.bool (xs.any p)):=
 Xr qE.isSh (gc:=1397) (gk _ qE7) (gk _ qLP) f p hft xs hf hl
theorem c748{f:AV}(p:qI->Bool)(hft:f.tree=true)(xs:List qI)(hf:∀x∈xs,Zf Gm f [x.enc] (.bool (p x)))(hl:xs.length<=1048576):Pure Gm 748 [.lst 2 (xs.map qI.enc) false,f] (.bool (xs.any p)):=
 Xr qI.isSh (gc:=771) (gk _ F748) (gk _ F771) f p hft xs hf hl
theorem Q7{α:Type}(p:α->Bool)(xs:List α):(!xs.any fun x=> !p x)=xs.all p:=by
 induction xs with
 | nil=>rfl
 | cons x xs ih=>simp only[List.any_cons,lAc,Bool.not_or,Bool.not_not,ih]
theorem c775{n:Int}:Pure Gm 775 [.int .i64 n] (.bool (!inI n 0 600)):=by
 refine pI F775 (by simp[AV.trees,AV.tree,go_sem]) rfl ?_;simp only[F775,qQ,go_sem]
 repeat' (first | (refine qV rfl ?_;simp only[go_sem]) | (first | (apply qh<;>intro hc<;>simp only[hc,go_sem]) | (apply qM<;>intro hc<;>simp only[hc,go_sem])) | refine qR rfl ?_)
 all_goals ((simp only[inI,AV.bool.injEq];rw[Bool.eq_iff_iff];simp at*;try omega))
theorem c406{xs:List Int}(hl:xs.length<=1048576):Pure Gm 406 [.lst 1 (xs.map qK) false] (.bool (wQ xs)):=by
 refine pI Kx (by simp[AV.trees,AV.tree,qU shI.tree]) rfl ?_;simp only[Kx,qQ,go_sem]
 first | (apply qh<;>intro hc<;>simp only[hc,go_sem]) | (apply qM<;>intro hc<;>simp only[hc,go_sem])
 ·refine qO (c397 (f:=.fn 775 []) (fun n=> !inI n 0 600) rfl xs (fun x _=>⟨775,[],rfl,c775⟩) hl) ?_;simp only[go_sem];refine qR rfl ?_;rw[Q7];simp_all[wQ]<;>omega
 ·refine qR rfl ?_;simp_all[wQ]<;>omega
theorem qAS{k:Int}:Pure Gm 1487 [.int .i64 k] (.bool (ZI k)):=by
 refine pI KU (by simp[AV.trees,AV.tree,go_sem]) rfl ?_;simp only[KU,qQ,go_sem]
 repeat' (first | (refine qV rfl ?_;simp only[go_sem]) | (first | (apply qh<;>intro hc<;>simp only[hc,go_sem]) | (apply qM<;>intro hc<;>simp only[hc,go_sem])) | refine qR rfl ?_)
 all_goals ((simp only[ZI,inI,AV.bool.injEq];rw[Bool.eq_iff_iff];simp at*;try omega))
theorem qAO{k:Int}:Pure Gm 1375 [.int .i64 k] (.bool (wW k)):=by
 refine pI KB (by simp[AV.trees,AV.tree,go_sem]) rfl ?_;simp only[KB,qQ,go_sem]
 repeat' (first | (refine qV rfl ?_;simp only[go_sem]) | (first | (apply qh<;>intro hc<;>simp only[hc,go_sem]) | (apply qM<;>intro hc<;>simp only[hc,go_sem])) | (refine qO (qAS) ?_;simp only[go_sem]) | refine qR rfl ?_)
 all_goals ((simp only[wW,ZI,inI,AV.bool.injEq]at*;rw[Bool.eq_iff_iff];simp at*;try omega))
theorem qZU{l:Int}:Pure Gm 1495 [.int .i64 l] (.bool (inI l 0 8)):=by
 refine pI KX (by simp[AV.trees,AV.tree,go_sem]) rfl ?_;simp only[KX,qQ,go_sem]
 repeat' (first | (refine qV rfl ?_;simp only[go_sem]) | (first | (apply qh<;>intro hc<;>simp only[hc,go_sem]) | (apply qM<;>intro hc<;>simp only[hc,go_sem])) | refine qR rfl ?_)
 all_goals ((simp only[inI,AV.bool.injEq];rw[Bool.eq_iff_iff];simp at*;try omega))
theorem qAR{k l:Int}:Pure Gm 1389 [.int .i64 k,.int .i64 l] (.bool (jx k l)):=by
 refine pI KH (by simp[AV.trees,AV.tree,go_sem]) rfl ?_;simp only[KH,qQ,go_sem]
 repeat' (first | (refine qV rfl ?_;simp only[go_sem]) | (first | (apply qh<;>intro hc<;>simp only[hc,go_sem]) | (apply qM<;>intro hc<;>simp only[hc,go_sem])) | (refine qO (qAS) ?_;simp only[go_sem]) | (refine qO (qAO) ?_;simp only[go_sem]) | (refine qO (qZU) ?_;simp only[go_sem]) | refine qR rfl ?_)
 all_goals ((unfold jx;split<;>(simp only[wW,ZI,inI,AV.bool.injEq]at* <;>(rw[Bool.eq_iff_iff];simp at* <;>try omega))))
theorem c796{n:Int}:Pure Gm 796 [.int .i64 n] (.bool (j4 n)):=by
 refine pI F796 (by simp[AV.trees,AV.tree,go_sem]) rfl ?_;simp only[F796,qQ,go_sem]
 repeat' (first | (refine qV rfl ?_;simp only[go_sem]) | (first | (apply qh<;>intro hc<;>simp only[hc,go_sem]) | (apply qM<;>intro hc<;>simp only[hc,go_sem])) | refine qR rfl ?_)
 all_goals (simp_all[j4,inI]<;>omega)
theorem qeW{n:Int}:Pure Gm 1050 [.int .i64 n] (.bool (inI n 1 6)):=by
 refine pI UW (by simp[AV.trees,AV.tree,go_sem]) rfl ?_;simp only[UW,qQ,go_sem]
 repeat' (first | (refine qV rfl ?_;simp only[go_sem]) | (first | (apply qh<;>intro hc<;>simp only[hc,go_sem]) | (apply qM<;>intro hc<;>simp only[hc,go_sem])) | refine qR rfl ?_)
 all_goals ((simp only[inI,AV.bool.injEq];rw[Bool.eq_iff_iff];simp at*;try omega))
theorem qZO{n:Int}:Pure Gm 1051 [.int .i64 n] (.bool (inI n (-2147483648) 2147483647)):=by
 refine pI UX (by simp[AV.trees,AV.tree,go_sem]) rfl ?_;simp only[UX,qQ,go_sem]
 repeat' (first | (refine qV rfl ?_;simp only[go_sem]) | (first | (apply qh<;>intro hc<;>simp only[hc,go_sem]) | (apply qM<;>intro hc<;>simp only[hc,go_sem])) | refine qR rfl ?_)
 all_goals ((simp only[inI,AV.bool.injEq];rw[Bool.eq_iff_iff];simp at*;try omega))
theorem qfH{n:Int}:Pure Gm 1390 [.int .i64 n] (.bool (!j4 n)):=by
 refine pI KI (by simp[AV.trees,AV.tree,go_sem]) rfl ?_;simp only[KI,qQ,go_sem]
 repeat' (first | (refine qV rfl ?_;simp only[go_sem]) | (first | (apply qh<;>intro hc<;>simp only[hc,go_sem]) | (apply qM<;>intro hc<;>simp only[hc,go_sem])) | (refine qO (c796) ?_;simp only[go_sem]) | refine qR rfl ?_)
 all_goals (simp_all)
theorem qCT{E:Ev}{o:Option AV}{v:AV}{k:Nat}{l:List qB}{ks:List Fr1}{s m:qn}{h:List qD}{Q:qg->VSt->Prop}(ho:o=some v)(hr:R E (.ops l::ks) ⟨(k,v)::s,m,h⟩ Q):Put E o (some k) l ks ⟨s,m,h⟩ Q:=by
 subst ho;rw[qc2];exact hr
theorem qfF{k:Int}{n:Nat}(hn:n<=1048576):Pure Gm 1388 [.int .i64 k,.int .i64 (n:Int)] (.int .i64 (if k=9 then(n:Int)-1 else 0)):=by
 refine pI KG (by simp[AV.trees,AV.tree,go_sem]) rfl ?_;simp only[KG,qQ,go_sem];apply qM<;>intro hc<;>simp only[hc,go_sem]
 ·rw[qf (by omega) (by omega)];refine qR rfl ?_;simp_all
 ·refine qR rfl ?_;simp_all
theorem qfE{k f:Int}:Pure Gm 1387 [.int .i64 k,.int .i64 f] (.int .i64 (wP k f)):=by
 refine pI KF (by simp[AV.trees,AV.tree,go_sem]) rfl ?_;simp only[KF,qQ,go_sem]
 repeat' (first
  | (first | (refine qh ?_ ?_<;>intro hc<;>simp only[hc,go_sem]) | (refine qM ?_ ?_<;>intro hc<;>simp only[hc,go_sem]))
  | (refine qO qAS ?_;simp only[go_sem])
  | refine qR rfl ?_)
 all_goals simp only[Bool.not_eq_false',bNt,Bool.not_true,Bool.not_false,dTe,decide_eq_false_iff_not,ZI,inI,bAt,Bool.and_eq_false_iff]at*
 case refine_2.refine_1.refine_1.refine_2=>
  subst hc;have:k=1\/k=2\/k=3\/k=4\/k=5\/k=6\/k=7\/k=8\/k=10\/k=11\/k=12:=by omega
  rcases this with rfl | rfl | rfl | rfl | rfl | rfl | rfl | rfl | rfl | rfl | rfl
  all_goals
   first | refine qCT (v:=.int .i64 1) rfl ?_ | refine qCT (v:=.int .i64 2) rfl ?_ | refine qCT (v:=.int .i64 3) rfl ?_
   simp only[go_sem];refine qR rfl rfl
 all_goals try rw[qf (by omega) (by omega)]
 all_goals (simp only[wP,inI,AV.int.injEq,true_and,bAt,dTe];repeat' split)
 all_goals try omega
theorem c801{n m:Int}:Pure Gm 801 [.int .i64 n,.ept (.int .i64 m) 0] (.bool (!inI n 0 m)):=by
 refine pI F801 (by simp[AV.trees,AV.tree,go_sem]) rfl ?_;simp only[F801,qQ,go_sem]
 repeat' (first | (refine qV rfl ?_;simp only[go_sem]) | (first | (apply qh<;>intro hc<;>simp only[hc,go_sem]) | (apply qM<;>intro hc<;>simp only[hc,go_sem])) | refine qR rfl ?_)
 all_goals ((simp only[inI,AV.bool.injEq];rw[Bool.eq_iff_iff];simp at*;try omega))
theorem c436{m:Int}{xs:List Int}(hl:xs.length<=1048576):Pure Gm 436 [.int .i64 m,.lst 1 (xs.map qK) false] (.bool (xs.all fun n=>inI n 0 m)):=by
 refine Pure.intro [2] [] (gk _ kD) (by kernel_rfl) rfl (by simp[AV.trees,AV.tree,qU shI.tree]) rfl ?_;simp only[kD,qQ,go_sem];refine Xz rfl ?_;simp only[go_sem,lNa,lSz];refine qO (c397 (f:=.fn 801 [.ept (.int .i64 m) 0]) (fun n=> !inI n 0 m) rfl xs (fun x _=>⟨801,_,rfl,c801⟩) hl) ?_;simp only[go_sem];refine qR rfl ?_;rw[Q7]
set_option maxHeartbeats 2000000
theorem qfG{x:qA}(hn:x.Ports.length<=1048576):Pure Gm 1388 [.int .i64 x.Kind,.int .i64 (x.Ports.length:Int)] (.int .i64 (fieldsOf x)):=qfF hn
theorem Yq{x:qA}(h1:¬(x.Ports.length:Int)=0)(h2:wP x.Kind (fieldsOf x)=x.Ports.length)(h3:jx x.Kind x.Level=true):qi x=z6 x:=by
 have h:(0:Int)<x.Ports.length:=by omega
 unfold qi;rw[h2,h3];simp only[decide_eq_true h,decide_true,Bool.true_and]
theorem qeY{x:qA}(hd:x.Data.length<=1048576)(hn:x.Ports.length<=1048576):Pure Gm 1097 [x.enc] (.bool (qi x)):=by
 refine pI Ub (by simp[AV.trees,go_sem]) rfl ?_;simp only[Ub,qQ,go_sem]
 repeat' (first
  | (refine qV rfl ?_;simp only[go_sem])
  | (first | (refine qh ?_ ?_<;>intro hc<;>simp only[hc,go_sem]) | (refine qM ?_ ?_<;>intro hc<;>simp only[hc,go_sem]))
  | (refine qO (qfG hn) ?_;simp only[go_sem])
  | (refine qO qfE ?_;simp only[go_sem])
  | (refine qO qAR ?_;simp only[go_sem])
  | (refine qO (c397 (f:=.fn 1390 []) (fun n=> !j4 n) rfl x.Data (fun _ _=>⟨1390,[],rfl,qfH⟩) hd) ?_;simp only[Q7,go_sem])
  | (refine qO qeW ?_;simp only[go_sem])
  | (refine qO qZO ?_;simp only[go_sem])
  | (refine qO c796 ?_;simp only[go_sem])
  | refine qR rfl ?_)
 case refine_1.refine_1.refine_2.refine_2.refine_2.refine_1.refine_1.refine_1=>
  obtain⟨d,hd1⟩:∃d,x.Data=[d]:=List.length_eq_one_iff.1 (by have:=odT hc;omega);simp only[hd1,lMc,List.map_nil,qK,go_sem];simp only[oMs,go_sem];refine qO qZO ?_;simp only[go_sem];refine qR rfl ?_;simp only[Bool.not_eq_false',dTe,decide_eq_false_iff_not]at*;rw[Yq (by assumption) (by assumption) (by assumption)];simp[z6, *]
 all_goals simp only[Bool.not_true,Bool.not_false,bNt,Bool.not_eq_false',dTe,decide_eq_false_iff_not]at*
 all_goals first
  | (rw[Yq (by assumption) (by assumption) (by assumption)];simp only[AV.bool.injEq];rw[Bool.eq_iff_iff];simp[z6, *];done)
  | (rw[Yq (by assumption) (by assumption) (by assumption)];simp only[AV.bool.injEq];rw[Bool.eq_iff_iff];simp[z6,inI, *];omega)
  | (rw[Yq (by assumption) (by assumption) (by assumption)];simp only[AV.bool.injEq];rw[Bool.eq_iff_iff];simp[z6,inI, *];done)
  | (simp[qi, *];done)
  | (simp[qi, *];omega)
  | trace_state
end Go.Ab
