/- Texts Cor0 .. Nee3: the abstract machine, its laws and contracts of functions: lemmas for the statement. No condition. -/
import Derived.Test.YtoajhcbnlebbeaaGreatP5
set_option linter.unusedSimpArgs false
set_option linter.unusedVariables false
namespace Go.Ab
open Go
inductive qA where
  | mk (Kind Value:Int) (Data:List Int) (Kids:List qA)
def qA.Kind:qA→Int |.mk a _ _ _=>a
def qA.Value:qA→Int |.mk _ a _ _=>a
def qA.Data:qA→List Int |.mk _ _ a _=>a
def qA.Kids:qA→List qA |.mk _ _ _ a=>a
theorem qA.ext {x y:qA} (h1:x.Kind=y.Kind) (h2:x.Value=y.Value) (h3:x.Data=y.Data) (h4:x.Kids=y.Kids):x=y:=by
  cases x;cases y;simp_all [qA.Kind,qA.Value,qA.Data,qA.Kids]
theorem qA.eta (x:qA):qA.mk x.Kind x.Value x.Data x.Kids=x:=by cases x;rfl
theorem qA.lt_of_mem {x:qA} {y:qA} (h:y∈x.Kids):SizeOf.sizeOf y<SizeOf.sizeOf x:=by
  cases x with
  | mk a b c d=>
    have:=List.sizeOf_lt_of_mem (show y∈d from h);simp only [qA.mk.sizeOf_spec];omega
theorem qA.ind {P:qA→Prop} (h:∀x,(∀y,y∈x.Kids→P y)→P x) (x:qA):P x:=
  h x fun y hy=>qA.ind h y
termination_by SizeOf.sizeOf x
decreasing_by exact qA.lt_of_mem hy
mutual
def qA.enc:qA→AV
  |.mk k v d ks=>.agg [.int .i64 k,.int .i64 v,.lst 1 (d.map qE) false,.lst 4 (qA.encs ks) false]
def qA.encs:List qA→List AV
  |[]=>[]
  | x::xs=>x.enc::qA.encs xs
end
theorem qA.encs_eq:∀xs,qA.encs xs=xs.map qA.enc
  |[]=>by simp [qA.encs]
  | x::xs=>by simp [qA.encs,qA.encs_eq xs]
theorem qA.enc_eq (x:qA):x.enc=.agg [.int .i64 x.Kind,.int .i64 x.Value,.lst 1 (x.Data.map qE) false,.lst 4 (x.Kids.map qA.enc) false]:=by
  cases x;simp [qA.enc,qA.encs_eq,qA.Kind,qA.Value,qA.Data,qA.Kids]
theorem qA.trx:∀x:qA,x.enc.tree=true:=qA.ind fun x ih=>by
  rw [qA.enc_eq];have h:∀xs:List qA,(∀y∈xs,y.enc.tree=true)→AV.trees (xs.map qA.enc)=true:=by
    intro xs
    induction xs with
    | nil=>intro _;rfl
    | cons a xs ihx=>intro h;simp only [List.map_cons,AV.trees,bAt];exact ⟨h a (by simp),ihx fun y hy=>h y (by simp [hy])⟩
  simp [AV.tree,AV.trees,zD shI.tree,h _ ih]
theorem qA.isSh:Sh qA.enc 4 (some 4):=⟨qA.trx,fun x=>by rw [qA.enc_eq];rfl,fun x=>by rw [qA.enc_eq];rfl,by decide,fun x=>by rw [qA.enc_eq];simp⟩
section
variable {x:qA}
@[go_sem] theorem qA.tr:x.enc.tree=true:=qA.trx x
@[go_sem] theorem qA.ln:x.enc.cells.length=4:=by rw [qA.enc_eq];rfl
@[go_sem] theorem qA.all:x.enc.part 0 (some 4)=some x.enc:=by rw [qA.enc_eq];rfl
@[go_sem] theorem qA.cs:x.enc.cells=[.int .i64 x.Kind,.int .i64 x.Value,.lst 1 (x.Data.map qE) false,.lst 4 (x.Kids.map qA.enc) false]:=by rw [qA.enc_eq];rfl
@[go_sem] theorem qA.p0:x.enc.part 0 none=some (.int .i64 x.Kind):=by rw [qA.enc_eq];rfl
@[go_sem] theorem qA.p1:x.enc.part 1 none=some (.int .i64 x.Value):=by rw [qA.enc_eq];rfl
@[go_sem] theorem qA.p2:x.enc.part 2 none=some (.lst 1 (x.Data.map qE) false):=by rw [qA.enc_eq];rfl
@[go_sem] theorem qA.p3:x.enc.part 3 none=some (.lst 4 (x.Kids.map qA.enc) false):=by rw [qA.enc_eq];rfl
end
mutual
def qA.sz:qA→Nat
  |.mk _ _ d ks=>d.length+(ks.length+qA.szs ks)
def qA.szs:List qA→Nat
  |[]=>0
  | x::xs=>x.sz+qA.szs xs
end
theorem qA.szs_eq:∀xs,qA.szs xs=qF qA.sz xs
  |[]=>by simp [qA.szs,qF]
  | x::xs=>by simp [qA.szs,qF,qA.szs_eq xs]
theorem qA.sz_eq (x:qA):x.sz=x.Data.length+(x.Kids.length+qF qA.sz x.Kids):=by
  cases x;simp [qA.sz,qA.szs_eq,qA.Data,qA.Kids]
mutual
def qA.bd:qA→Prop
  |.mk _ _ d ks=>d.length≤140737488355328∧ks.length≤140737488355328∧qA.bds ks
def qA.bds:List qA→Prop
  |[]=>True
  | x::xs=>x.bd∧qA.bds xs
end
theorem qA.bds_eq:∀xs,qA.bds xs↔∀y∈xs,qA.bd y
  |[]=>by simp [qA.bds]
  | x::xs=>by simp [qA.bds,qA.bds_eq xs]
theorem qA.bd_eq (x:qA):x.bd↔x.Data.length≤140737488355328∧x.Kids.length≤140737488355328∧∀y∈x.Kids,y.bd:=by
  cases x;simp [qA.bd,qA.bds_eq,qA.Data,qA.Kids]
structure qH where
  Defs:List qA
def qH.enc (x:qH):AV:=.agg [.lst 4 (x.Defs.map qA.enc) false]
theorem qH.isSh:Sh qH.enc 1 (some 1):=⟨fun x=>by simp [qH.enc,AV.tree,AV.trees,zD qA.isSh.tree],fun _=>rfl,fun _=>rfl,by decide,fun x=>by simp [qH.enc]⟩
section
variable {x:qH}
@[go_sem] theorem qH.tr:x.enc.tree=true:=qH.isSh.tree x
@[go_sem] theorem qH.ln:x.enc.cells.length=1:=nr rfl
@[go_sem] theorem qH.all:x.enc.part 0 (some 1)=some x.enc:=nr rfl
@[go_sem] theorem qH.cs:x.enc.cells=[.lst 4 (x.Defs.map qA.enc) false]:=nr rfl
@[go_sem] theorem qH.p0:x.enc.part 0 none=some (.lst 4 (x.Defs.map qA.enc) false):=nr rfl
@[go_sem] theorem qH.lst1 {E:Ev} {t off:Nat} {cs:List AV} {l:List qB} {ks:List Fr1} {s m:qZ} {h:List qC} {Q:qS→VSt→Prop}:Lst E t off 1 (some (.agg cs)) (some x.enc) l ks ⟨s,m,h⟩ Q=z7 E t (zV cs off (.lst 4 (x.Defs.map qA.enc) false)) l ks ⟨s,m,h⟩ Q:=jb rfl
end
def qH.sz (x:qH):Nat:=(x.Defs.length+qF qA.sz x.Defs)
def qH.bd (x:qH):Prop:=x.Defs.length≤140737488355328∧(∀y∈x.Defs,qA.bd y)
structure qW where
  Term:qA
  Env:List Int
def qW.enc (x:qW):AV:=.agg [.int .i64 x.Term.Kind,.int .i64 x.Term.Value,.lst 1 (x.Term.Data.map qE) false,.lst 4 (x.Term.Kids.map qA.enc) false,.lst 1 (x.Env.map qE) false]
theorem qW.isSh:Sh qW.enc 5 (some 5):=⟨fun x=>by simp [qW.enc,AV.tree,AV.trees,zD qA.isSh.tree,zD shI.tree],fun _=>rfl,fun _=>rfl,by decide,fun x=>by simp [qW.enc]⟩
section
variable {x:qW}
@[go_sem] theorem qW.tr:x.enc.tree=true:=qW.isSh.tree x
@[go_sem] theorem qW.ln:x.enc.cells.length=5:=nr rfl
@[go_sem] theorem qW.all:x.enc.part 0 (some 5)=some x.enc:=nr rfl
@[go_sem] theorem qW.cs:x.enc.cells=[.int .i64 x.Term.Kind,.int .i64 x.Term.Value,.lst 1 (x.Term.Data.map qE) false,.lst 4 (x.Term.Kids.map qA.enc) false,.lst 1 (x.Env.map qE) false]:=nr rfl
@[go_sem] theorem qW.p0:x.enc.part 0 none=some (.int .i64 x.Term.Kind):=nr rfl
@[go_sem] theorem qW.p1:x.enc.part 1 none=some (.int .i64 x.Term.Value):=nr rfl
@[go_sem] theorem qW.p2:x.enc.part 2 none=some (.lst 1 (x.Term.Data.map qE) false):=nr rfl
@[go_sem] theorem qW.p3:x.enc.part 3 none=some (.lst 4 (x.Term.Kids.map qA.enc) false):=nr rfl
@[go_sem] theorem qW.p4:x.enc.part 4 none=some (.lst 1 (x.Env.map qE) false):=nr rfl
@[go_sem] theorem qW.q0_4:x.enc.part 0 (some 4)=some (qA.enc x.Term):=by rw [qA.enc_eq];rfl
end
def qW.sz (x:qW):Nat:=qA.sz x.Term+x.Env.length
def qW.bd (x:qW):Prop:=qA.bd x.Term∧x.Env.length≤140737488355328
structure qR where
  Kind:Int
  Value:Int
  Data:List Int
  Closure:qW
def qR.enc (x:qR):AV:=.agg [.int .i64 x.Kind,.int .i64 x.Value,.lst 1 (x.Data.map qE) false,.int .i64 x.Closure.Term.Kind,.int .i64 x.Closure.Term.Value,.lst 1 (x.Closure.Term.Data.map qE) false,.lst 4 (x.Closure.Term.Kids.map qA.enc) false,.lst 1 (x.Closure.Env.map qE) false]
theorem qR.isSh:Sh qR.enc 8 (some 8):=⟨fun x=>by simp [qR.enc,AV.tree,AV.trees,zD qA.isSh.tree,zD shI.tree],fun _=>rfl,fun _=>rfl,by decide,fun x=>by simp [qR.enc]⟩
section
variable {x:qR}
@[go_sem] theorem qR.tr:x.enc.tree=true:=qR.isSh.tree x
@[go_sem] theorem qR.ln:x.enc.cells.length=8:=nr rfl
@[go_sem] theorem qR.all:x.enc.part 0 (some 8)=some x.enc:=nr rfl
@[go_sem] theorem qR.cs:x.enc.cells=[.int .i64 x.Kind,.int .i64 x.Value,.lst 1 (x.Data.map qE) false,.int .i64 x.Closure.Term.Kind,.int .i64 x.Closure.Term.Value,.lst 1 (x.Closure.Term.Data.map qE) false,.lst 4 (x.Closure.Term.Kids.map qA.enc) false,.lst 1 (x.Closure.Env.map qE) false]:=nr rfl
@[go_sem] theorem qR.p0:x.enc.part 0 none=some (.int .i64 x.Kind):=nr rfl
@[go_sem] theorem qR.p1:x.enc.part 1 none=some (.int .i64 x.Value):=nr rfl
@[go_sem] theorem qR.p2:x.enc.part 2 none=some (.lst 1 (x.Data.map qE) false):=nr rfl
@[go_sem] theorem qR.p3:x.enc.part 3 none=some (.int .i64 x.Closure.Term.Kind):=nr rfl
@[go_sem] theorem qR.p4:x.enc.part 4 none=some (.int .i64 x.Closure.Term.Value):=nr rfl
@[go_sem] theorem qR.p5:x.enc.part 5 none=some (.lst 1 (x.Closure.Term.Data.map qE) false):=nr rfl
@[go_sem] theorem qR.p6:x.enc.part 6 none=some (.lst 4 (x.Closure.Term.Kids.map qA.enc) false):=nr rfl
@[go_sem] theorem qR.p7:x.enc.part 7 none=some (.lst 1 (x.Closure.Env.map qE) false):=nr rfl
@[go_sem] theorem qR.q3_5:x.enc.part 3 (some 5)=some (qW.enc x.Closure):=nr rfl
@[go_sem] theorem qR.q3_4:x.enc.part 3 (some 4)=some (qA.enc x.Closure.Term):=by rw [qA.enc_eq];rfl
end
def qR.sz (x:qR):Nat:=x.Data.length+qW.sz x.Closure
def qR.bd (x:qR):Prop:=x.Data.length≤140737488355328∧qW.bd x.Closure
structure qT where
  Done:Bool
  Closure:qW
def qT.enc (x:qT):AV:=.agg [.bool x.Done,.int .i64 x.Closure.Term.Kind,.int .i64 x.Closure.Term.Value,.lst 1 (x.Closure.Term.Data.map qE) false,.lst 4 (x.Closure.Term.Kids.map qA.enc) false,.lst 1 (x.Closure.Env.map qE) false]
theorem qT.isSh:Sh qT.enc 6 (some 6):=⟨fun x=>by simp [qT.enc,AV.tree,AV.trees,zD qA.isSh.tree,zD shI.tree],fun _=>rfl,fun _=>rfl,by decide,fun x=>by simp [qT.enc]⟩
section
variable {x:qT}
@[go_sem] theorem qT.tr:x.enc.tree=true:=qT.isSh.tree x
@[go_sem] theorem qT.ln:x.enc.cells.length=6:=nr rfl
@[go_sem] theorem qT.all:x.enc.part 0 (some 6)=some x.enc:=nr rfl
@[go_sem] theorem qT.cs:x.enc.cells=[.bool x.Done,.int .i64 x.Closure.Term.Kind,.int .i64 x.Closure.Term.Value,.lst 1 (x.Closure.Term.Data.map qE) false,.lst 4 (x.Closure.Term.Kids.map qA.enc) false,.lst 1 (x.Closure.Env.map qE) false]:=nr rfl
@[go_sem] theorem qT.p0:x.enc.part 0 none=some (.bool x.Done):=nr rfl
@[go_sem] theorem qT.p1:x.enc.part 1 none=some (.int .i64 x.Closure.Term.Kind):=nr rfl
@[go_sem] theorem qT.p2:x.enc.part 2 none=some (.int .i64 x.Closure.Term.Value):=nr rfl
@[go_sem] theorem qT.p3:x.enc.part 3 none=some (.lst 1 (x.Closure.Term.Data.map qE) false):=nr rfl
@[go_sem] theorem qT.p4:x.enc.part 4 none=some (.lst 4 (x.Closure.Term.Kids.map qA.enc) false):=nr rfl
@[go_sem] theorem qT.p5:x.enc.part 5 none=some (.lst 1 (x.Closure.Env.map qE) false):=nr rfl
@[go_sem] theorem qT.q1_5:x.enc.part 1 (some 5)=some (qW.enc x.Closure):=nr rfl
@[go_sem] theorem qT.q1_4:x.enc.part 1 (some 4)=some (qA.enc x.Closure.Term):=by rw [qA.enc_eq];rfl
end
def qT.sz (x:qT):Nat:=qW.sz x.Closure
def qT.bd (x:qT):Prop:=qW.bd x.Closure
structure qD where
  Control:qW
  Stack:List qR
  Heap:List qT
def qD.enc (x:qD):AV:=.agg [.int .i64 x.Control.Term.Kind,.int .i64 x.Control.Term.Value,.lst 1 (x.Control.Term.Data.map qE) false,.lst 4 (x.Control.Term.Kids.map qA.enc) false,.lst 1 (x.Control.Env.map qE) false,.lst 8 (x.Stack.map qR.enc) false,.lst 6 (x.Heap.map qT.enc) false]
theorem qD.isSh:Sh qD.enc 7 (some 7):=⟨fun x=>by simp [qD.enc,AV.tree,AV.trees,zD qA.isSh.tree,zD qR.isSh.tree,zD qT.isSh.tree,zD shI.tree],fun _=>rfl,fun _=>rfl,by decide,fun x=>by simp [qD.enc]⟩
section
variable {x:qD}
@[go_sem] theorem qD.tr:x.enc.tree=true:=qD.isSh.tree x
@[go_sem] theorem qD.ln:x.enc.cells.length=7:=nr rfl
@[go_sem] theorem qD.all:x.enc.part 0 (some 7)=some x.enc:=nr rfl
@[go_sem] theorem qD.cs:x.enc.cells=[.int .i64 x.Control.Term.Kind,.int .i64 x.Control.Term.Value,.lst 1 (x.Control.Term.Data.map qE) false,.lst 4 (x.Control.Term.Kids.map qA.enc) false,.lst 1 (x.Control.Env.map qE) false,.lst 8 (x.Stack.map qR.enc) false,.lst 6 (x.Heap.map qT.enc) false]:=nr rfl
@[go_sem] theorem qD.p0:x.enc.part 0 none=some (.int .i64 x.Control.Term.Kind):=nr rfl
@[go_sem] theorem qD.p1:x.enc.part 1 none=some (.int .i64 x.Control.Term.Value):=nr rfl
@[go_sem] theorem qD.p2:x.enc.part 2 none=some (.lst 1 (x.Control.Term.Data.map qE) false):=nr rfl
@[go_sem] theorem qD.p3:x.enc.part 3 none=some (.lst 4 (x.Control.Term.Kids.map qA.enc) false):=nr rfl
@[go_sem] theorem qD.p4:x.enc.part 4 none=some (.lst 1 (x.Control.Env.map qE) false):=nr rfl
@[go_sem] theorem qD.p5:x.enc.part 5 none=some (.lst 8 (x.Stack.map qR.enc) false):=nr rfl
@[go_sem] theorem qD.p6:x.enc.part 6 none=some (.lst 6 (x.Heap.map qT.enc) false):=nr rfl
@[go_sem] theorem qD.q0_5:x.enc.part 0 (some 5)=some (qW.enc x.Control):=nr rfl
@[go_sem] theorem qD.q0_4:x.enc.part 0 (some 4)=some (qA.enc x.Control.Term):=by rw [qA.enc_eq];rfl
end
def qD.sz (x:qD):Nat:=qW.sz x.Control+(x.Stack.length+qF qR.sz x.Stack)+(x.Heap.length+qF qT.sz x.Heap)
def qD.bd (x:qD):Prop:=qW.bd x.Control∧x.Stack.length≤140737488355328∧(∀y∈x.Stack,qR.bd y)∧x.Heap.length≤140737488355328∧(∀y∈x.Heap,qT.bd y)
end Go.Ab
namespace Go.Ab
open Go
set_option maxRecDepth 10000
def sr (l:List qB) (c:qG):qG:=.seq (.reg true l) c
@[go_sem] theorem qoA {l:List qB} {c:qG}:sr l c=.seq (.reg true l) c:=nr rfl
def oL (i d t:Nat):qB:=.mk i (some d) none (.load none (.t t)) []
@[go_sem] theorem ql1 {i d t:Nat}:oL i d t=.mk i (some d) none (.load none (.t t)) []:=nr rfl
def oC (i d:Nat) (n:Int):qB:=.mk i (some d) none (.mov (.c (.int .i64 n))) []
@[go_sem] theorem qlS {i d:Nat} {n:Int}:oC i d n=.mk i (some d) none (.mov (.c (.int .i64 n))) []:=nr rfl
def oQ (i d:Nat) (b:Bool):qB:=.mk i (some d) none (.mov (.c (.bool b))) []
@[go_sem] theorem ql7 {i d:Nat} {b:Bool}:oQ i d b=.mk i (some d) none (.mov (.c (.bool b))) []:=nr rfl
def oE (i d:Nat) (op:BinOp) (a:Nat) (n:Int):qB:=.mk i (some d) none (.bin op (.t a) (.c (.int .i64 n))) []
@[go_sem] theorem qlV {i d:Nat} {op:BinOp} {a:Nat} {n:Int}:oE i d op a n=.mk i (some d) none (.bin op (.t a) (.c (.int .i64 n))) []:=nr rfl
def oB (i d:Nat) (op:BinOp) (a b:Nat):qB:=.mk i (some d) none (.bin op (.t a) (.t b)) []
@[go_sem] theorem qlR {i d:Nat} {op:BinOp} {a b:Nat}:oB i d op a b=.mk i (some d) none (.bin op (.t a) (.t b)) []:=nr rfl
def oA (i d w a b:Nat):qB:=.mk i (some d) none (.iaddr w (.t a) (.t b)) []
@[go_sem] theorem qlQ {i d w a b:Nat}:oA i d w a b=.mk i (some d) none (.iaddr w (.t a) (.t b)) []:=nr rfl
def oX (i d t k:Nat):qB:=.mk i (some d) none (.lload t k none) []
@[go_sem] theorem qmD {i d t k:Nat}:oX i d t k=.mk i (some d) none (.lload t k none) []:=nr rfl
def oY (i d t k w:Nat):qB:=.mk i (some d) none (.lload t k (some w)) []
@[go_sem] theorem qmE {i d t k w:Nat}:oY i d t k w=.mk i (some d) none (.lload t k (some w)) []:=nr rfl
def oS (i t k w x:Nat):qB:=.mk i none none (.lstore t k w (.t x)) []
@[go_sem] theorem ql8 {i t k w x:Nat}:oS i t k w x=.mk i none none (.lstore t k w (.t x)) []:=nr rfl
def oT (i w a b:Nat):qB:=.mk i none none (.store w (.t a) (.t b)) []
@[go_sem] theorem ql9 {i w a b:Nat}:oT i w a b=.mk i none none (.store w (.t a) (.t b)) []:=nr rfl
def oF (i d k a:Nat):qB:=.mk i (some d) none (.faddr k (.t a)) []
@[go_sem] theorem qlW {i d k a:Nat}:oF i d k a=.mk i (some d) none (.faddr k (.t a)) []:=nr rfl
def oK (i d a:Nat):qB:=.mk i (some d) none (.nilchk (.t a)) []
@[go_sem] theorem ql0 {i d a:Nat}:oK i d a=.mk i (some d) none (.nilchk (.t a)) []:=nr rfl
def oV (i d a k:Nat):qB:=.mk i (some d) none (.ext (.t a) k) []
@[go_sem] theorem qmB {i d a k:Nat}:oV i d a k=.mk i (some d) none (.ext (.t a) k) []:=nr rfl
def oU (i d a:Nat):qB:=.mk i (some d) none (.nop a) []
@[go_sem] theorem qmA {i d a:Nat}:oU i d a=.mk i (some d) none (.nop a) []:=nr rfl
def oJ (i d a:Nat):qB:=.mk i (some d) none (.not (.t a)) []
@[go_sem] theorem qlZ {i d a:Nat}:oJ i d a=.mk i (some d) none (.not (.t a)) []:=nr rfl
def oW (i d a:Nat):qB:=.mk i (some d) none (.len (.t a)) []
@[go_sem] theorem qmC {i d a:Nat}:oW i d a=.mk i (some d) none (.len (.t a)) []:=nr rfl
def oH (i d k:Nat) (b:Bool) (a:Nat):qB:=.mk i (some d) (some (k,b)) (.mov (.t a)) []
@[go_sem] theorem qlY {i d k:Nat} {b:Bool} {a:Nat}:oH i d k b a=.mk i (some d) (some (k,b)) (.mov (.t a)) []:=nr rfl
def oZ (i d:Nat):qB:=.mk i (some d) none (.lalloc (.agg [.int .i64 0,.int .i64 0,.nils,.nils])) []
@[go_sem] theorem qmF {i d:Nat}:oZ i d=.mk i (some d) none (.lalloc (.agg [.int .i64 0,.int .i64 0,.nils,.nils])) []:=nr rfl
def oD1 (i d g a:Nat):qB:=.mk i (some d) none (.call g [.t a]) []
@[go_sem] theorem qlT {i d g a:Nat}:oD1 i d g a=.mk i (some d) none (.call g [.t a]) []:=nr rfl
def oD2 (i d g a b:Nat):qB:=.mk i (some d) none (.call g [.t a,.t b]) []
@[go_sem] theorem qlU {i d g a b:Nat}:oD2 i d g a b=.mk i (some d) none (.call g [.t a,.t b]) []:=nr rfl
def oPf (i d a b:Nat):qB:=.mk i (some d) none (.pick (.t a) (.t b) (.c (.bool false))) []
@[go_sem] theorem ql5 {i d a b:Nat}:oPf i d a b=.mk i (some d) none (.pick (.t a) (.t b) (.c (.bool false))) []:=nr rfl
def oPt (i d a b:Nat):qB:=.mk i (some d) none (.pick (.t a) (.c (.bool true)) (.t b)) []
@[go_sem] theorem ql6 {i d a b:Nat}:oPt i d a b=.mk i (some d) none (.pick (.t a) (.c (.bool true)) (.t b)) []:=nr rfl
def Kk:qJ:=szS0
def qC6:List qB:=[oU 0 5 2,oX 1 6 2 2,oM 2 7 1,oD2 3 8 338 6 7,oM 4 1 8]
@[go_sem] theorem qc5:OE qC6.eq_1:=OEM qC6.eq_1
def qC7:List qB:=[oU 0 11 2,oX 1 12 2 3,oM 2 13 1,oD2 3 14 337 12 13,oM 4 1 14]
@[go_sem] theorem qc6:OE qC7.eq_1:=OEM qC7.eq_1
def qC5:qG:=sr qC7 (.seq (sr [oM 0 15 1,oE 1 16 .lss 15 0] (.cond (.t 16) (sr [oP 0 4 (.mov (.c (.int .i64 (-1))))] .ret) .skip)) (sr [oM 0 17 1,oM 1 4 17] .ret))
@[go_sem] theorem qc4:CE qC5.eq_1:=CEM qC5.eq_1
def F80:qJ:=⟨2,18,[.t 4],sr [oP 0 2 (.lbox 4 (.t 0)),oC 1 4 0] (sr qC6 (.seq (sr [oM 0 9 1,oE 1 10 .lss 9 0] (.cond (.t 10) (sr [oP 0 4 (.mov (.c (.int .i64 (-1))))] .ret) .skip)) qC5))⟩
def Kj:qJ:=szS 4 (some 4) 80
def qC4:List qB:=[oU 0 5 2,oX 1 6 2 0,oM 2 7 1,oD2 3 8 337 6 7,oM 4 1 8]
@[go_sem] theorem qc3:OE qC4.eq_1:=OEM qC4.eq_1
def qC3:qG:=sr qC4 (.seq (sr [oM 0 9 1,oE 1 10 .lss 9 0] (.cond (.t 10) (sr [oP 0 4 (.mov (.c (.int .i64 (-1))))] .ret) .skip)) (sr [oM 0 11 1,oM 1 4 11] .ret))
@[go_sem] theorem qc2:CE qC3.eq_1:=CEM qC3.eq_1
def F79:qJ:=⟨2,12,[.t 4],sr [oP 0 2 (.lbox 1 (.t 0)),oC 1 4 0] qC3⟩
def Kh:qJ:=Zw
def qD4:List qB:=[oU 0 4 1,oX 1 5 1 0,oU 2 6 3,oS 3 3 0 1 5]
@[go_sem] theorem qe5:OE qD4.eq_1:=OEM qD4.eq_1
def qD5:List qB:=[oU 0 7 1,oX 1 8 1 1,oU 2 9 3,oS 3 3 1 1 8]
@[go_sem] theorem qe6:OE qD5.eq_1:=OEM qD5.eq_1
def qD6:List qB:=[oU 0 10 1,oX 1 11 1 2,oD1 2 12 147 11,oU 3 13 3,oS 4 3 2 1 12]
@[go_sem] theorem qe7:OE qD6.eq_1:=OEM qD6.eq_1
def qD7:List qB:=[oU 0 14 1,oX 1 15 1 3,oD1 2 16 342 15,oU 3 17 3,oS 4 3 3 1 16]
@[go_sem] theorem qe8:OE qD7.eq_1:=OEM qD7.eq_1
def qD3:qG:=sr [oZ 0 3] (sr qD4 (sr qD5 (sr qD6 (sr qD7 (sr [oY 0 18 3 0 4,oS 1 2 0 4 18] .ret)))))
@[go_sem] theorem qe4:CE qD3.eq_1:=CEM qD3.eq_1
def F83:qJ:=⟨1,19,[.l 2 (some 4)],sr [oP 0 1 (.lbox 4 (.t 0)),oZ 1 2] qD3⟩
def Kr:qJ:=toS 4 (some 4) (.agg [.int .i64 0,.int .i64 0,.nils,.nils]) 83
def qDM:List qB:=[oU 0 4 1,oX 1 5 1 0,oD1 2 6 342 5,oU 3 7 3,oS 4 3 0 1 6]
@[go_sem] theorem qeN:OE qDM.eq_1:=OEM qDM.eq_1
def F82:qJ:=⟨1,9,[.l 2 (some 1)],sr [oP 0 1 (.lbox 1 (.t 0)),oP 1 2 (.lalloc (.agg [.nils]))] (sr [oP 0 3 (.lalloc (.agg [.nils]))] (sr qDM (sr [oY 0 8 3 0 1,oS 1 2 0 1 8] .ret)))⟩
def F86:qJ:=eqS0
def K1:qJ:=eqS 4 (some 4) 85
def qEJ:List qB:=[oU 0 5 2,oX 1 6 2 0,oU 2 7 3,oX 3 8 3 0,oB 4 9 .neq 6 8]
@[go_sem] theorem qfM:OE qEJ.eq_1:=OEM qEJ.eq_1
def qEK:List qB:=[oU 0 10 2,oX 1 11 2 1,oU 2 12 3,oX 3 13 3 1,oB 4 14 .neq 11 13]
@[go_sem] theorem qfN:OE qEK.eq_1:=OEM qEK.eq_1
def qEL:List qB:=[oU 0 15 2,oX 1 16 2 2,oU 2 17 3,oX 3 18 3 2,oD2 4 19 86 16 18,oJ 5 20 19]
@[go_sem] theorem qfO:OE qEL.eq_1:=OEM qEL.eq_1
def qEM:List qB:=[oU 0 21 2,oX 1 22 2 3,oU 2 23 3,oX 3 24 3 3,oD2 4 25 346 22 24,oJ 5 26 25]
@[go_sem] theorem qfP:OE qEM.eq_1:=OEM qEM.eq_1
def qEI:qG:=.seq (sr qEK (.cond (.t 14) (sr [oQ 0 4 false] .ret) .skip)) (.seq (sr qEL (.cond (.t 20) (sr [oQ 0 4 false] .ret) .skip)) (.seq (sr qEM (.cond (.t 26) (sr [oQ 0 4 false] .ret) .skip)) (sr [oQ 0 4 true] .ret)))
@[go_sem] theorem qfL:CE qEI.eq_1:=CEM qEI.eq_1
def F85:qJ:=⟨2,27,[.t 4],sr [oP 0 2 (.lbox 4 (.t 0)),oP 1 3 (.lbox 4 (.t 1)),oQ 2 4 false] (.seq (sr qEJ (.cond (.t 9) (sr [oQ 0 4 false] .ret) .skip)) qEI)⟩
def qES:List qB:=[oU 0 5 2,oX 1 6 2 0,oU 2 7 3,oX 3 8 3 0,oD2 4 9 346 6 8,oJ 5 10 9]
@[go_sem] theorem qfV:OE qES.eq_1:=OEM qES.eq_1
def F87:qJ:=⟨2,11,[.t 4],sr [oP 0 2 (.lbox 1 (.t 0)),oP 1 3 (.lbox 1 (.t 1)),oQ 2 4 false] (.seq (sr qES (.cond (.t 10) (sr [oQ 0 4 false] .ret) .skip)) (sr [oQ 0 4 true] .ret))⟩
def Kp:List qB:=[oM 0 7 0,oM 1 8 1,oB 2 9 .geq 7 8,oM 3 10 9,oH 4 11 10 true 0,oH 5 12 10 true 2,oG 6 13 10 true (.bin .leq (.t 11) (.t 12)),oPf 7 14 10 13,oM 8 6 14]
@[go_sem] theorem qXV:OE Kp.eq_1:=OEM Kp.eq_1
def Wi:qJ:=⟨3,15,[.t 6],sr [oQ 0 6 false] (sr Kp .ret)⟩
def V7:List qB:=[oC 0 2 0,oC 1 3 0,oC 2 4 0,oC 3 5 0]
@[go_sem] theorem qUI:OE V7.eq_1:=OEM V7.eq_1
def V3:qG:=sr [oE 0 8 .eql 6 1,oM 1 7 8] (.cond (.t 7) .skip (sr [oE 0 9 .eql 6 2,oM 1 7 9] (.cond (.t 7) .skip (.reg true [oE 0 10 .eql 6 11,oM 1 7 10]))))
@[go_sem] theorem qUF:CE V3.eq_1:=CEM V3.eq_1
def V9:List qB:=[oC 0 2 0,oC 1 3 0,oC 2 4 0,oC 3 5 0]
@[go_sem] theorem qUK:OE V9.eq_1:=OEM V9.eq_1
def V5:qG:=sr [oE 0 12 .eql 6 3,oM 1 11 12] (.cond (.t 11) .skip (sr [oE 0 13 .eql 6 5,oM 1 11 13] (.cond (.t 11) .skip (.reg true [oE 0 14 .eql 6 7,oM 1 11 14]))))
@[go_sem] theorem qUG:CE V5.eq_1:=CEM V5.eq_1
def UA:List qB:=[oC 0 2 2,oC 1 3 2,oC 2 4 0,oC 3 5 0]
@[go_sem] theorem qUL:OE UA.eq_1:=OEM UA.eq_1
def UB:List qB:=[oC 0 2 1,oC 1 3 1,oC 2 4 0,oC 3 5 0]
@[go_sem] theorem qUM:OE UB.eq_1:=OEM UB.eq_1
def UC:List qB:=[oC 0 2 0,oC 1 3 3,oC 2 4 0,oC 3 5 0]
@[go_sem] theorem qUN:OE UC.eq_1:=OEM UC.eq_1
def UD:List qB:=[oC 0 2 1,oC 1 3 1,oC 2 4 1,oC 3 5 4]
@[go_sem] theorem qUO:OE UD.eq_1:=OEM UD.eq_1
def UE:List qB:=[oC 0 2 1,oC 1 3 1,oC 2 4 2,oC 3 5 2]
@[go_sem] theorem qUP:OE UE.eq_1:=OEM UE.eq_1
def V6:qG:=.cond (.t 18) (sr UC .ret) (sr [oE 0 21 .eql 6 9,oM 1 20 21] (.cond (.t 20) (sr UD .ret) (sr [oE 0 23 .eql 6 10,oM 1 22 23] (.cond (.t 22) (sr UE .ret) .skip))))
@[go_sem] theorem qUH:CE V6.eq_1:=CEM V6.eq_1
def V4:qG:=.seq (sr [oE 0 16 .eql 6 4,oM 1 15 16] (.cond (.t 15) .skip (.reg true [oE 0 17 .eql 6 6,oM 1 15 17]))) (.cond (.t 15) (sr UB .ret) (sr [oE 0 19 .eql 6 8,oM 1 18 19] V6))
@[go_sem] theorem qUE:CE V4.eq_1:=CEM V4.eq_1
def V8:List qB:=[oC 0 2 0,oP 1 3 (.mov (.c (.int .i64 (-1)))),oC 2 4 0,oC 3 5 0]
@[go_sem] theorem qUJ:OE V8.eq_1:=OEM V8.eq_1
def Z3:qJ:=⟨1,24,[.t 2,.t 3,.t 4,.t 5],sr V7 (.seq (sr [oM 0 6 0] (.blk 0 (.seq V3 (.cond (.t 7) (sr V9 .ret) (.seq V5 (.cond (.t 11) (sr UA .ret) V4)))))) (sr V8 .ret))⟩
def UH:List qB:=[oM 0 3 0,oK 1 4 3,oF 2 5 0 4,oL 3 6 5]
@[go_sem] theorem qUS:OE UH.eq_1:=OEM UH.eq_1
def UI:List qB:=[oM 0 9 0,oK 1 10 9,oF 2 11 1 10,oL 3 12 11,oP 4 13 (.call 340 [.t 12,.c (.int .i64 0),.c (.int .i64 255)]),oM 5 2 13]
@[go_sem] theorem qUT:OE UI.eq_1:=OEM UI.eq_1
def UJ:List qB:=[oM 0 16 0,oK 1 17 16,oF 2 18 1 17,oL 3 19 18,oP 4 20 (.call 340 [.t 19,.c (.int .i64 (-2147483648)),.c (.int .i64 2147483647)]),oM 5 2 20]
@[go_sem] theorem qUU:OE UJ.eq_1:=OEM UJ.eq_1
def UK:List qB:=[oM 0 23 0,oK 1 24 23,oF 2 25 1 24,oL 3 26 25,oP 4 27 (.call 340 [.t 26,.c (.int .i64 1),.c (.int .i64 6)]),oM 5 2 27]
@[go_sem] theorem qUV:OE UK.eq_1:=OEM UK.eq_1
def UL:List qB:=[oM 0 30 0,oK 1 31 30,oF 2 32 1 31,oL 3 33 32,oP 4 34 (.call 340 [.t 33,.c (.int .i64 0),.c (.int .i64 3)]),oM 5 2 34]
@[go_sem] theorem qUW:OE UL.eq_1:=OEM UL.eq_1
def UM:List qB:=[oM 0 37 0,oK 1 38 37,oF 2 39 1 38,oL 3 40 39,oP 4 41 (.call 340 [.t 40,.c (.int .i64 0),.c (.int .i64 23)]),oM 5 2 41]
@[go_sem] theorem qUX:OE UM.eq_1:=OEM UM.eq_1
def UF:qG:=.cond (.t 21) (sr UK .ret) (sr [oE 0 29 .eql 6 8,oM 1 28 29] (.cond (.t 28) (sr UL .ret) (sr [oE 0 36 .eql 6 11,oM 1 35 36] (.cond (.t 35) (sr UM .ret) .skip))))
@[go_sem] theorem qUQ:CE UF.eq_1:=CEM UF.eq_1
def UG:qG:=sr [oE 0 8 .eql 6 1,oM 1 7 8] (.cond (.t 7) (sr UI .ret) (sr [oE 0 15 .eql 6 2,oM 1 14 15] (.cond (.t 14) (sr UJ .ret) (sr [oE 0 22 .eql 6 3,oM 1 21 22] UF))))
@[go_sem] theorem qUR:CE UG.eq_1:=CEM UG.eq_1
def UN:List qB:=[oM 0 42 0,oK 1 43 42,oF 2 44 1 43,oL 3 45 44,oE 4 46 .eql 45 0,oM 5 2 46]
@[go_sem] theorem qUY:OE UN.eq_1:=OEM UN.eq_1
def Z4:qJ:=⟨1,47,[.t 2],sr [oQ 0 2 false] (.seq (sr UH (.blk 0 UG)) (sr UN .ret))⟩
def qBG:List qB:=[oM 0 16 0,oK 1 17 16,oF 2 18 0 17,oL 3 19 18,oD1 4 20 1023 19,oM 5 15 20,oV 6 21 15 0,oV 7 22 15 1,oV 8 23 15 2,oV 9 24 15 3,oM 10 7 21,oM 11 8 22,oM 12 9 23,oM 13 10 24]
@[go_sem] theorem qbE:OE qBG.eq_1:=OEM qBG.eq_1
def qBH:List qB:=[oM 0 25 1,oE 1 26 .lss 25 1,oM 2 27 26,oH 3 28 27 false 2,oG 4 29 27 false (.bin .lss (.t 28) (.c (.int .i64 1))),oPt 5 30 27 29,oM 6 31 30,oH 7 32 31 false 0,oG 8 33 31 false (.nilchk (.t 32)),oG 9 34 31 false (.faddr 3 (.t 33)),oG 10 35 31 false (.load none (.t 34)),oG 11 36 31 false (.len (.t 35)),oH 12 37 31 false 7,oH 13 38 31 false 8,oG 14 39 31 false (.call 340 [.t 36,.t 37,.t 38]),oG 15 40 31 false (.not (.t 39)),oPt 16 41 31 40,oM 17 42 41,oH 18 43 42 false 0,oG 19 44 42 false (.nilchk (.t 43)),oG 20 45 42 false (.faddr 2 (.t 44)),oG 21 46 42 false (.load none (.t 45)),oG 22 47 42 false (.len (.t 46)),oH 23 48 42 false 9,oH 24 49 42 false 10,oG 25 50 42 false (.call 340 [.t 47,.t 48,.t 49]),oG 26 51 42 false (.not (.t 50)),oPt 27 52 42 51,oM 28 53 52,oH 29 54 53 false 0,oG 30 55 53 false (.call 1024 [.t 54]),oG 31 56 53 false (.not (.t 55)),oPt 32 57 53 56]
@[go_sem] theorem qbF:OE qBH.eq_1:=OEM qBH.eq_1
def qBI:List qB:=[oM 0 58 11,oM 1 59 0,oK 2 60 59,oF 3 61 2 60,oL 4 62 61,oW 5 63 62,oB 6 64 .lss 58 63]
@[go_sem] theorem qbG:OE qBI.eq_1:=OEM qBI.eq_1
def qBJ:List qB:=[oM 0 67 0,oK 1 68 67,oF 2 69 2 68,oL 3 70 69,oM 4 71 11,oA 5 72 1 70 71,oL 6 73 72,oP 7 74 (.call 340 [.t 73,.c (.int .i64 0),.c (.int .i64 23)]),oJ 8 75 74]
@[go_sem] theorem qbH:OE qBJ.eq_1:=OEM qBJ.eq_1
def qBD:qG:=.loop (.seq (sr qBI (.cond (.t 64) .skip (.exit 0))) (.seq (.blk 1 (sr qBJ (.cond (.t 75) (sr [oP 0 6 (.mov (.c (.int .i64 (-1))))] .ret) .skip))) (.reg true [oM 0 65 11,oE 1 66 .add 65 1,oM 2 11 66])))
@[go_sem] theorem qbB:CE qBD.eq_1:=CEM qBD.eq_1
def qBK:List qB:=[oM 0 76 13,oM 1 77 0,oK 2 78 77,oF 3 79 3 78,oL 4 80 79,oW 5 81 80,oB 6 82 .lss 76 81]
@[go_sem] theorem qbI:OE qBK.eq_1:=OEM qBK.eq_1
def qBL:List qB:=[oM 0 85 0,oK 1 86 85,oF 2 87 3 86,oL 3 88 87,oM 4 89 13,oA 5 90 4 88 89,oM 6 91 1,oE 7 92 .sub 91 1,oM 8 93 2,oM 9 94 12,oB 10 95 .sub 93 94,oP 11 96 (.call 643 [.t 90,.t 92,.t 95]),oM 12 14 96]
@[go_sem] theorem qbJ:OE qBL.eq_1:=OEM qBL.eq_1
def qBM:List qB:=[oM 0 99 12,oM 1 100 14,oB 2 101 .add 99 100,oM 3 12 101]
@[go_sem] theorem qbK:OE qBM.eq_1:=OEM qBM.eq_1
def qBE:qG:=.seq (.blk 3 (sr qBL (.seq (sr [oM 0 97 14,oE 1 98 .lss 97 0] (.cond (.t 98) (sr [oP 0 6 (.mov (.c (.int .i64 (-1))))] .ret) .skip)) (.reg true qBM)))) (.reg true [oM 0 83 13,oE 1 84 .add 83 1,oM 2 13 84])
@[go_sem] theorem qbC:CE qBE.eq_1:=CEM qBE.eq_1
def qBF:qG:=sr [oC 0 12 1] (.seq (sr [oC 0 13 0] (.blk 2 (.loop (.seq (sr qBK (.cond (.t 82) .skip (.exit 2))) qBE)))) (sr [oM 0 102 12,oM 1 6 102] .ret))
@[go_sem] theorem qbD:CE qBF.eq_1:=CEM qBF.eq_1
def XX:qJ:=⟨3,103,[.t 6],sr [oC 0 6 0] (sr qBG (.seq (sr qBH (.cond (.t 57) (sr [oP 0 6 (.mov (.c (.int .i64 (-1))))] .ret) .skip)) (.seq (sr [oC 0 11 0] (.blk 0 qBD)) qBF)))⟩
def qBC:List qB:=[oM 0 3 0,oP 1 4 (.call 643 [.t 3,.c (.int .i64 80),.c (.int .i64 400)]),oE 2 5 .gtr 4 0,oM 3 2 5]
@[go_sem] theorem qbA:OE qBC.eq_1:=OEM qBC.eq_1
def XW:qJ:=⟨1,6,[.t 2],sr [oQ 0 2 false] (sr qBC .ret)⟩
def Uc:List qB:=[oM 0 5 0,oK 1 6 5,oF 2 7 0 6,oL 3 8 7,oE 4 9 .eql 8 4,oM 5 10 9,oH 6 11 10 false 0,oG 7 12 10 false (.nilchk (.t 11)),oG 8 13 10 false (.faddr 0 (.t 12)),oG 9 14 10 false (.load none (.t 13)),oG 10 15 10 false (.bin .eql (.t 14) (.c (.int .i64 7))),oH 11 16 10 false 15,oH 12 17 16 true 1,oG 13 18 16 true (.bin .eql (.t 17) (.c (.int .i64 1))),oG 14 19 10 false (.pick (.t 16) (.t 18) (.c (.bool false))),oPt 15 20 10 19]
@[go_sem] theorem qVD:OE Uc.eq_1:=OEM Uc.eq_1
def WD:qJ:=⟨2,21,[.t 4],sr [oC 0 4 0] (.seq (sr Uc (.cond (.t 20) (sr [oC 0 4 1] .ret) .skip)) (sr [oC 0 4 0] .ret))⟩
def qEO:List qB:=[oM 0 6 0,oK 1 7 6,oF 2 8 0 7,oL 3 9 8,oE 4 10 .eql 9 1]
@[go_sem] theorem qfR:OE qEO.eq_1:=OEM qEO.eq_1
def qEP:List qB:=[oM 0 11 0,oK 1 12 11,oF 2 13 1 12,oL 3 14 13,oM 4 15 1,oB 5 16 .geq 14 15,oM 6 4 16]
@[go_sem] theorem qfS:OE qEP.eq_1:=OEM qEP.eq_1
def qEQ:List qB:=[oM 0 17 5,oM 1 18 0,oK 2 19 18,oF 3 20 3 19,oL 4 21 20,oW 5 22 21,oB 6 23 .lss 17 22]
@[go_sem] theorem qfT:OE qEQ.eq_1:=OEM qEQ.eq_1
def qER:List qB:=[oM 0 26 0,oK 1 27 26,oF 2 28 3 27,oL 3 29 28,oM 4 30 5,oA 5 31 4 29 30,oM 6 32 1,oM 7 33 0,oM 8 34 5,⟨9,some 35,none,.call 1129 [.t 33,.t 34],[⟨3,some 29,none,.load none (.t 28),[]⟩]⟩,oB 10 36 .add 32 35,oD2 11 37 878 31 36]
@[go_sem] theorem qfU:OE qER.eq_1:=OEM qER.eq_1
def qEN:qG:=.loop (.seq (sr qEQ (.cond (.t 23) .skip (.exit 0))) (.seq (.blk 1 (sr qER (.cond (.t 37) (sr [oQ 0 4 true] .ret) .skip))) (.reg true [oM 0 24 5,oE 1 25 .add 24 1,oM 2 5 25])))
@[go_sem] theorem qfQ:CE qEN.eq_1:=CEM qEN.eq_1
def YJ:qJ:=⟨2,38,[.t 4],sr [oQ 0 4 false] (.seq (sr qEO (.cond (.t 10) (sr qEP .ret) .skip)) (.seq (sr [oC 0 5 0] (.blk 0 qEN)) (sr [oQ 0 4 false] .ret)))⟩
def qAC:List qB:=[oM 0 3 0,oD1 1 4 642 3,oM 2 5 4,oH 3 6 5 true 0,oG 4 7 5 true (.call 878 [.t 6,.c (.int .i64 0)]),oG 5 8 5 true (.not (.t 7)),oPf 6 9 5 8,oM 7 2 9]
@[go_sem] theorem qaA:OE qAC.eq_1:=OEM qAC.eq_1
def XP:qJ:=⟨1,10,[.t 2],sr [oQ 0 2 false] (sr qAC .ret)⟩
def qB9:List qB:=[oM 0 7 0,oK 1 8 7,oF 2 9 0 8,oL 3 10 9,oE 4 11 .eql 10 11,oM 5 12 11,oH 6 13 12 true 0,oG 7 14 12 true (.nilchk (.t 13)),oG 8 15 12 true (.faddr 1 (.t 14)),oG 9 16 12 true (.load none (.t 15)),oH 10 17 12 true 1,oG 11 18 12 true (.bin .geq (.t 16) (.t 17)),oPf 12 19 12 18]
@[go_sem] theorem qb7:OE qB9.eq_1:=OEM qB9.eq_1
def qCA:List qB:=[oM 0 20 5,oM 1 21 0,oK 2 22 21,oF 3 23 2 22,oL 4 24 23,oW 5 25 24,oB 6 26 .lss 20 25]
@[go_sem] theorem qb8:OE qCA.eq_1:=OEM qCA.eq_1
def qCB:List qB:=[oM 0 29 0,oK 1 30 29,oF 2 31 2 30,oL 3 32 31,oM 4 33 5,oA 5 34 1 32 33,oL 6 35 34,oM 7 36 1,oB 8 37 .geq 35 36]
@[go_sem] theorem qb9:OE qCB.eq_1:=OEM qCB.eq_1
def qB6:qG:=.loop (.seq (sr qCA (.cond (.t 26) .skip (.exit 0))) (.seq (.blk 1 (sr qCB (.cond (.t 37) (sr [oQ 0 4 false] .ret) .skip))) (.reg true [oM 0 27 5,oE 1 28 .add 27 1,oM 2 5 28])))
@[go_sem] theorem qb4:CE qB6.eq_1:=CEM qB6.eq_1
def qCC:List qB:=[oM 0 38 6,oM 1 39 0,oK 2 40 39,oF 3 41 3 40,oL 4 42 41,oW 5 43 42,oB 6 44 .lss 38 43]
@[go_sem] theorem qcA:OE qCC.eq_1:=OEM qCC.eq_1
def qCD:List qB:=[oM 0 47 0,oK 1 48 47,oF 2 49 3 48,oL 3 50 49,oM 4 51 6,oA 5 52 4 50 51,oM 6 53 1,oD2 7 54 725 52 53,oJ 8 55 54]
@[go_sem] theorem qcB:OE qCD.eq_1:=OEM qCD.eq_1
def qB7:qG:=.loop (.seq (sr qCC (.cond (.t 44) .skip (.exit 2))) (.seq (.blk 3 (sr qCD (.cond (.t 55) (sr [oQ 0 4 false] .ret) .skip))) (.reg true [oM 0 45 6,oE 1 46 .add 45 1,oM 2 6 46])))
@[go_sem] theorem qb5:CE qB7.eq_1:=CEM qB7.eq_1
def qB8:qG:=.seq (sr qB9 (.cond (.t 19) (sr [oQ 0 4 false] .ret) .skip)) (.seq (sr [oC 0 5 0] (.blk 0 qB6)) (.seq (sr [oC 0 6 0] (.blk 2 qB7)) (sr [oQ 0 4 true] .ret)))
@[go_sem] theorem qb6:CE qB8.eq_1:=CEM qB8.eq_1
def Xd:qJ:=⟨2,56,[.t 4],sr [oQ 0 4 false] qB8⟩
def qAF:List qB:=[oM 0 4 0,oK 1 5 4,oF 2 6 0 5,oL 3 7 6,oW 4 8 7,oP 5 9 (.call 340 [.t 8,.c (.int .i64 1),.c (.int .i64 24)]),oJ 6 10 9]
@[go_sem] theorem qaD:OE qAF.eq_1:=OEM qAF.eq_1
def qAG:List qB:=[oM 0 11 3,oM 1 12 0,oK 2 13 12,oF 3 14 0 13,oL 4 15 14,oW 5 16 15,oB 6 17 .lss 11 16]
@[go_sem] theorem qaE:OE qAG.eq_1:=OEM qAG.eq_1
def qAH:List qB:=[oM 0 20 0,oK 1 21 20,oF 2 22 0 21,oL 3 23 22,oM 4 24 3,oA 5 25 4 23 24,oD1 6 26 519 25,oJ 7 27 26,oM 8 28 27,oH 9 29 28 false 0,oG 10 30 28 false (.nilchk (.t 29)),oG 11 31 28 false (.faddr 0 (.t 30)),oG 12 32 28 false (.load none (.t 31)),oH 13 33 28 false 3,oG 14 34 28 false (.iaddr 4 (.t 32) (.t 33)),oH 15 35 28 false 0,oG 16 36 28 false (.nilchk (.t 35)),oG 17 37 28 false (.faddr 0 (.t 36)),oG 18 38 28 false (.load none (.t 37)),oG 19 39 28 false (.len (.t 38)),oG 20 40 28 false (.call 725 [.t 34,.t 39]),oG 21 41 28 false (.not (.t 40)),oPt 22 42 28 41]
@[go_sem] theorem qaF:OE qAH.eq_1:=OEM qAH.eq_1
def qAE:qG:=.loop (.seq (sr qAG (.cond (.t 17) .skip (.exit 0))) (.seq (.blk 1 (sr qAH (.cond (.t 42) (sr [oQ 0 2 false] .ret) .skip))) (.reg true [oM 0 18 3,oE 1 19 .add 18 1,oM 2 3 19])))
@[go_sem] theorem qaC:CE qAE.eq_1:=CEM qAE.eq_1
def XS:qJ:=⟨1,43,[.t 2],sr [oQ 0 2 false] (.seq (sr qAF (.cond (.t 10) (sr [oQ 0 2 false] .ret) .skip)) (.seq (sr [oC 0 3 0] (.blk 0 qAE)) (sr [oQ 0 2 true] .ret)))⟩
def XC:qJ:=⟨1,5,[.l 2 (some 4)],sr [oZ 0 2] (sr [oM 0 3 0,oP 1 4 (.build (.agg [.int .i64 0,.int .i64 0,.nils,.nils]) [(0,1,.c (.int .i64 2)),(1,1,.t 3)]),oS 2 2 0 4 4] .ret)⟩
def Ub:List qB:=[oM 0 3 0,oP 1 4 (.conv .u64 (.t 3)),oP 2 5 (.conv .u32 (.t 4)),oP 3 6 (.conv .i32 (.t 5)),oP 4 7 (.conv .i64 (.t 6)),oM 5 2 7]
@[go_sem] theorem qVC:OE Ub.eq_1:=OEM Ub.eq_1
def WA:qJ:=⟨1,8,[.t 2],sr [oC 0 2 0] (sr Ub .ret)⟩
def WB:qJ:=⟨1,4,[.t 2],sr [oC 0 2 0] (.seq (sr [oM 0 3 0] (.cond (.t 3) (sr [oC 0 2 1] .ret) .skip)) (sr [oC 0 2 0] .ret))⟩
def qCI:List qB:=[oM 0 16 7,oM 1 17 8,oB 2 18 .add 16 17,oD1 3 19 1125 18,oM 4 6 19]
@[go_sem] theorem qcG:OE qCI.eq_1:=OEM qCI.eq_1
def qCJ:List qB:=[oM 0 22 7,oM 1 23 8,oB 2 24 .sub 22 23,oD1 3 25 1125 24,oM 4 6 25]
@[go_sem] theorem qcH:OE qCJ.eq_1:=OEM qCJ.eq_1
def qCK:List qB:=[oM 0 28 7,oM 1 29 8,oB 2 30 .mul 28 29,oD1 3 31 1125 30,oM 4 6 31]
@[go_sem] theorem qcI:OE qCK.eq_1:=OEM qCK.eq_1
def qCL:List qB:=[oM 0 36 7,oM 1 37 8,oB 2 38 .quo 36 37,oD1 3 39 1125 38,oM 4 6 39]
@[go_sem] theorem qcJ:OE qCL.eq_1:=OEM qCL.eq_1
def qCM:List qB:=[oM 0 42 7,oM 1 43 8,oB 2 44 .lss 42 43,oD1 3 45 1126 44,oM 4 6 45]
@[go_sem] theorem qcK:OE qCM.eq_1:=OEM qCM.eq_1
def qCN:List qB:=[oM 0 48 7,oM 1 49 8,oB 2 50 .eql 48 49,oD1 3 51 1126 50,oM 4 6 51]
@[go_sem] theorem qcL:OE qCN.eq_1:=OEM qCN.eq_1
def qCF:qG:=.cond (.t 32) (.seq (sr [oM 0 34 8,oE 1 35 .eql 34 0] (.cond (.t 35) (sr [oC 0 6 0] .ret) .skip)) (sr qCL .ret)) (sr [oE 0 41 .eql 13 5,oM 1 40 41] (.cond (.t 40) (sr qCM .ret) (sr [oE 0 47 .eql 13 6,oM 1 46 47] (.cond (.t 46) (sr qCN .ret) .skip))))
@[go_sem] theorem qcD:CE qCF.eq_1:=CEM qCF.eq_1
def qCG:qG:=sr [oE 0 21 .eql 13 2,oM 1 20 21] (.cond (.t 20) (sr qCJ .ret) (sr [oE 0 27 .eql 13 3,oM 1 26 27] (.cond (.t 26) (sr qCK .ret) (sr [oE 0 33 .eql 13 4,oM 1 32 33] qCF))))
@[go_sem] theorem qcE:CE qCG.eq_1:=CEM qCG.eq_1
def qCH:qG:=sr [oM 0 11 2,oD1 1 12 1125 11,oM 2 8 12] (.seq (sr [oM 0 13 0] (.blk 0 (sr [oE 0 15 .eql 13 1,oM 1 14 15] (.cond (.t 14) (sr qCI .ret) qCG)))) (sr [oC 0 6 0] .ret))
@[go_sem] theorem qcF:CE qCH.eq_1:=CEM qCH.eq_1
def Xg:qJ:=⟨3,52,[.t 6],sr [oC 0 6 0] (sr [oM 0 9 1,oD1 1 10 1125 9,oM 2 7 10] qCH)⟩
def kH:List qB:=[oM 0 7 0,oM 1 8 1,oM 2 9 2,oP 3 10 (.build (.agg [.int .i64 0,.int .i64 0,.nils,.nils]) [(0,1,.t 7),(1,1,.t 8),(3,1,.t 9)]),oS 4 6 0 4 10]
@[go_sem] theorem qZB:OE kH.eq_1:=OEM kH.eq_1
def XD:qJ:=⟨3,11,[.l 6 (some 4)],sr [oZ 0 6] (sr kH .ret)⟩
def WC:qJ:=⟨1,5,[.l 2 (some 4)],sr [oZ 0 2] (sr [oM 0 3 0,oP 1 4 (.build (.agg [.int .i64 0,.int .i64 0,.nils,.nils]) [(0,1,.c (.int .i64 11)),(1,1,.t 3)]),oS 2 2 0 4 4] .ret)⟩
def kS:List qB:=[oP 0 5 (.mov (.c (.lst 1 [] true))),oM 1 6 0,oP 2 7 (.app 1 (.t 5) (.t 6)),oM 3 2 7]
@[go_sem] theorem qZK:OE kS.eq_1:=OEM kS.eq_1
def kR:qJ:=⟨1,8,[.t 2],sr [oP 0 2 (.mov (.c (.nils)))] (.seq (sr [oM 0 3 0,oP 1 4 (.isnil 1 false (.t 3))] (.cond (.t 4) (sr [oP 0 2 (.mov (.c (.nils)))] .ret) .skip)) (sr kS .ret))⟩
def kK:List qB:=[oU 0 6 1,oX 1 7 1 0,oU 2 8 1,oX 3 9 1 1,oU 4 10 1,oX 5 11 1 2,oZ 8 3,oD1 6 12 401 11,oP 7 13 (.build (.agg [.int .i64 0,.int .i64 0,.nils,.nils]) [(0,1,.t 7),(1,1,.t 9),(2,1,.t 12)]),oS 9 3 0 4 13]
@[go_sem] theorem qZE:OE kK.eq_1:=OEM kK.eq_1
def kL:List qB:=[oU 0 14 1,oX 1 15 1 3,oW 2 16 15,oC 3 17 0]
@[go_sem] theorem qZF:OE kL.eq_1:=OEM kL.eq_1
def kM:List qB:=[oA 0 19 4 15 17,oP 1 20 (.load (some 4) (.t 19)),oZ 2 5,oS 3 5 0 4 20]
@[go_sem] theorem qZG:OE kM.eq_1:=OEM kM.eq_1
def kN:List qB:=[oU 0 21 3,oX 1 22 3 3,oY 2 23 5 0 4,oD1 3 24 385 23,oP 4 25 (.bslice 4 (.agg [.int .i64 0,.int .i64 0,.nils,.nils]) 1 [(0,.t 24)]),oP 5 26 (.app 4 (.t 22) (.t 25)),oU 6 27 3,oS 7 3 3 1 26]
@[go_sem] theorem qZH:OE kN.eq_1:=OEM kN.eq_1
def kJ:qG:=.loop (sr [oB 0 18 .lss 17 16] (.seq (.cond (.t 18) .skip (.exit 0)) (.seq (.blk 1 (sr kM (.reg true kN))) (.reg true [oE 0 28 .add 17 1,oM 1 17 28]))))
@[go_sem] theorem qZD:CE kJ.eq_1:=CEM kJ.eq_1
def XF:qJ:=⟨1,30,[.l 2 (some 4)],sr [oP 0 1 (.lbox 4 (.t 0)),oZ 1 2] (sr kK (.seq (sr kL (.blk 0 kJ)) (sr [oY 0 29 3 0 4,oS 1 2 0 4 29] .ret)))⟩
def F774:qJ:=Za 1 none
def kQ:qJ:=Yk 774
def F958:qJ:=Za 4 (some 4)
def F581:qJ:=Yk 958
def qBO:List qB:=[oU 0 8 1,oX 1 9 1 3,oW 2 10 9,oC 3 11 0]
@[go_sem] theorem qbM:OE qBO.eq_1:=OEM qBO.eq_1
def qBP:List qB:=[oA 0 13 4 9 11,oP 1 14 (.load (some 4) (.t 13)),oZ 2 5,oS 3 5 0 4 14]
@[go_sem] theorem qbN:OE qBP.eq_1:=OEM qBP.eq_1
def qBQ:List qB:=[oY 0 16 5 0 4,oD1 1 17 665 16,oM 2 15 17,oV 3 18 15 0,oV 4 19 15 1,oM 5 6 18,oM 6 7 19]
@[go_sem] theorem qbO:OE qBQ.eq_1:=OEM qBQ.eq_1
def qBR:List qB:=[oM 0 20 2,oM 1 21 6,oE 2 22 .add 21 1,oP 3 23 (.max (.t 20) (.t 22)),oM 4 24 3,oM 5 25 7,oB 6 26 .add 24 25,oM 7 2 23,oM 8 3 26]
@[go_sem] theorem qbP:OE qBR.eq_1:=OEM qBR.eq_1
def qBN:qG:=.loop (sr [oB 0 12 .lss 11 10] (.seq (.cond (.t 12) .skip (.exit 0)) (.seq (.blk 1 (sr qBP (sr qBQ (.reg true qBR)))) (.reg true [oE 0 27 .add 11 1,oM 1 11 27]))))
@[go_sem] theorem qbL:CE qBN.eq_1:=CEM qBN.eq_1
def qBS:List qB:=[oM 0 28 2,oM 1 29 3,oM 2 2 28,oM 3 3 29]
@[go_sem] theorem qbQ:OE qBS.eq_1:=OEM qBS.eq_1
def XY:qJ:=⟨1,30,[.t 2,.t 3],sr [oP 0 1 (.lbox 4 (.t 0)),oC 1 2 0,oC 2 3 0] (sr [oC 0 2 1,oC 1 3 1] (.seq (sr qBO (.blk 0 qBN)) (sr qBS .ret)))⟩
def k8:List qB:=[oY 0 6 1 0 4,oD1 1 7 665 6,oM 2 5 7,oV 3 8 5 0,oV 4 9 5 1,oM 5 3 8,oM 6 4 9]
@[go_sem] theorem qZ6:OE k8.eq_1:=OEM k8.eq_1
def k9:List qB:=[oM 0 10 3,oE 1 11 .leq 10 80,oM 2 12 11,oH 3 13 12 true 4,oG 4 14 12 true (.bin .leq (.t 13) (.c (.int .i64 400))),oPf 5 15 12 14,oM 6 2 15]
@[go_sem] theorem qZ7:OE k9.eq_1:=OEM k9.eq_1
def XN:qJ:=⟨1,16,[.t 2],sr [oP 0 1 (.lbox 4 (.t 0)),oQ 1 2 false] (sr k8 (sr k9 .ret))⟩
def qC2:List qB:=[oM 0 3 0,oE 1 4 .geq 3 0,oM 2 5 4,oH 3 6 5 true 0,oG 4 7 5 true (.bin .lss (.t 6) (.c (.int .i64 24))),oPf 5 8 5 7,oM 6 2 8]
@[go_sem] theorem qc1:OE qC2.eq_1:=OEM qC2.eq_1
def Xk:qJ:=⟨1,9,[.t 2],sr [oQ 0 2 false] (sr qC2 .ret)⟩
def UP:List qB:=[oM 0 3 0,oE 1 4 .geq 3 1,oM 2 5 4,oH 3 6 5 true 0,oG 4 7 5 true (.bin .leq (.t 6) (.c (.int .i64 6))),oPf 5 8 5 7,oM 6 2 8]
@[go_sem] theorem qU0:OE UP.eq_1:=OEM UP.eq_1
def Z6:qJ:=⟨1,9,[.t 2],sr [oQ 0 2 false] (sr UP .ret)⟩
def UQ:List qB:=[oM 0 3 0,oP 1 4 (.bin .geq (.t 3) (.c (.int .i64 (-2147483648)))),oM 2 5 4,oH 3 6 5 true 0,oG 4 7 5 true (.bin .leq (.t 6) (.c (.int .i64 2147483647))),oPf 5 8 5 7,oM 6 2 8]
@[go_sem] theorem qU1:OE UQ.eq_1:=OEM UQ.eq_1
def Z7:qJ:=⟨1,9,[.t 2],sr [oQ 0 2 false] (sr UQ .ret)⟩
def Kc:List qB:=[oM 0 3 0,oD1 1 4 796 3,oJ 2 5 4,oM 3 2 5]
@[go_sem] theorem qXL:OE Kc.eq_1:=OEM Kc.eq_1
def We:qJ:=⟨1,6,[.t 2],sr [oQ 0 2 false] (sr Kc .ret)⟩
def Ui:List qB:=[oU 0 7 1,oX 1 8 1 3,oW 2 9 8,oM 3 3 9]
@[go_sem] theorem qVJ:OE Ui.eq_1:=OEM Ui.eq_1
def Uj:List qB:=[oU 0 10 1,oX 1 11 1 2,oW 2 12 11,oE 3 13 .eql 12 0,oQ 4 4 true,oM 5 5 13]
@[go_sem] theorem qVM:OE Uj.eq_1:=OEM Uj.eq_1
def Um:List qB:=[oU 0 18 1,oX 1 19 1 1,oE 2 20 .geq 19 0,oM 3 21 20,oG 4 22 21 true (.nop 1),oG 5 23 21 true (.lload 1 1 none),oG 6 24 21 true (.bin .leq (.t 23) (.c (.int .i64 255))),oPf 7 25 21 24,oM 8 4 25]
@[go_sem] theorem qVN:OE Um.eq_1:=OEM Um.eq_1
def Un:List qB:=[oU 0 28 1,oX 1 29 1 1,oD1 2 30 1051 29,oM 3 4 30]
@[go_sem] theorem qVO:OE Un.eq_1:=OEM Un.eq_1
def Uo:List qB:=[oU 0 33 1,oX 1 34 1 1,oD1 2 35 1050 34,oM 3 4 35,oC 4 6 2]
@[go_sem] theorem qVP:OE Uo.eq_1:=OEM Uo.eq_1
def Up:List qB:=[oU 0 39 1,oX 1 40 1 1,oE 2 41 .eql 40 0,oM 3 4 41,oC 4 6 1]
@[go_sem] theorem qVQ:OE Up.eq_1:=OEM Up.eq_1
def Uq:List qB:=[oU 0 45 1,oX 1 46 1 1,oE 2 47 .eql 46 0,oM 3 4 47,oC 4 6 2]
@[go_sem] theorem qVR:OE Uq.eq_1:=OEM Uq.eq_1
def Ur:List qB:=[oM 0 50 5,oM 1 51 50,oG 2 52 51 true (.nop 1),oG 3 53 51 true (.lload 1 1 none),oG 4 54 51 true (.bin .geq (.t 53) (.c (.int .i64 0))),oPf 5 55 51 54,oM 6 56 55,oG 7 57 56 true (.nop 1),oG 8 58 56 true (.lload 1 1 none),oG 9 59 56 true (.bin .lss (.t 58) (.c (.int .i64 4))),oPf 10 60 56 59,oM 11 61 60,oH 12 62 61 true 3,oG 13 63 61 true (.bin .leq (.t 62) (.c (.int .i64 3))),oPf 14 64 61 63,oM 15 2 64]
@[go_sem] theorem qVS:OE Ur.eq_1:=OEM Ur.eq_1
def Us:List qB:=[oU 0 67 1,oX 1 68 1 1,oE 2 69 .eql 68 0,oU 3 70 1,oX 4 71 1 2,oW 5 72 71,oE 6 73 .geq 72 1,oM 7 74 73,oG 8 75 74 true (.nop 1),oG 9 76 74 true (.lload 1 2 none),oG 10 77 74 true (.len (.t 76)),oG 11 78 74 true (.bin .leq (.t 77) (.c (.int .i64 4))),oPf 12 79 74 78,oM 13 4 69,oC 14 6 1,oM 15 5 79]
@[go_sem] theorem qVT:OE Us.eq_1:=OEM Us.eq_1
def Ut:List qB:=[oU 0 82 1,oX 1 83 1 1,oE 2 84 .eql 83 0,oU 3 85 1,oX 4 86 1 2,oW 5 87 86,oE 6 88 .eql 87 2,oM 7 4 84,oC 8 6 1,oM 9 5 88]
@[go_sem] theorem qVU:OE Ut.eq_1:=OEM Ut.eq_1
def Uk:List qB:=[oU 0 91 1,oX 1 92 1 1,oD1 2 93 796 92,oM 3 4 93]
@[go_sem] theorem qVK:OE Uk.eq_1:=OEM Uk.eq_1
def Ud:qG:=sr [oE 0 81 .eql 15 10,oM 1 80 81] (.cond (.t 80) (.reg true Ut) (sr [oE 0 90 .eql 15 11,oM 1 89 90] (.cond (.t 89) (.reg true Uk) (sr [oQ 0 2 false] .ret))))
@[go_sem] theorem qVE:CE Ud.eq_1:=CEM Ud.eq_1
def Ue:qG:=.cond (.t 42) (.reg true Uq) (sr [oE 0 49 .eql 15 8,oM 1 48 49] (.cond (.t 48) (sr Ur .ret) (sr [oE 0 66 .eql 15 9,oM 1 65 66] (.cond (.t 65) (.reg true Us) Ud))))
@[go_sem] theorem qVF:CE Ue.eq_1:=CEM Ue.eq_1
def Uf:qG:=.seq (sr [oE 0 37 .eql 15 4,oM 1 36 37] (.cond (.t 36) .skip (.reg true [oE 0 38 .eql 15 6,oM 1 36 38]))) (.cond (.t 36) (.reg true Up) (.seq (sr [oE 0 43 .eql 15 5,oM 1 42 43] (.cond (.t 42) .skip (.reg true [oE 0 44 .eql 15 7,oM 1 42 44]))) Ue))
@[go_sem] theorem qVG:CE Uf.eq_1:=CEM Uf.eq_1
def Ug:qG:=.cond (.t 16) (.reg true Um) (sr [oE 0 27 .eql 15 2,oM 1 26 27] (.cond (.t 26) (.reg true Un) (sr [oE 0 32 .eql 15 3,oM 1 31 32] (.cond (.t 31) (.reg true Uo) Uf))))
@[go_sem] theorem qVH:CE Ug.eq_1:=CEM Ug.eq_1
def Ul:List qB:=[oM 0 94 4,oM 1 95 94,oH 2 96 95 true 5,oPf 3 97 95 96,oM 4 98 97,oH 5 99 98 true 3,oH 6 100 98 true 6,oG 7 101 98 true (.bin .eql (.t 99) (.t 100)),oPf 8 102 98 101,oM 9 103 102,oG 10 104 103 true (.nop 1),oG 11 105 103 true (.lload 1 2 none),oG 12 106 103 true (.call 397 [.t 105,.f 1402]),oG 13 107 103 true (.not (.t 106)),oPf 14 108 103 107,oM 15 2 108]
@[go_sem] theorem qVL:OE Ul.eq_1:=OEM Ul.eq_1
def Uh:qG:=sr [oC 0 6 0] (.seq (sr [oU 0 14 1,oX 1 15 1 0] (.blk 0 (sr [oE 0 17 .eql 15 1,oM 1 16 17] Ug))) (sr Ul .ret))
@[go_sem] theorem qVI:CE Uh.eq_1:=CEM Uh.eq_1
def WE:qJ:=⟨1,109,[.t 2],sr [oP 0 1 (.lbox 4 (.t 0)),oQ 1 2 false] (sr Ui (sr Uj Uh))⟩
def qCR:List qB:=[oP 0 1 (.lbox 4 (.t 0)),oC 1 2 0,oC 2 3 0,oQ 3 4 false]
@[go_sem] theorem qcP:OE qCR.eq_1:=OEM qCR.eq_1
def qCS:List qB:=[oU 0 13 1,oX 1 14 1 3,oW 2 15 14,oC 3 16 0]
@[go_sem] theorem qcQ:OE qCS.eq_1:=OEM qCS.eq_1
def qCT:List qB:=[oA 0 18 4 14 16,oP 1 19 (.load (some 4) (.t 18)),oZ 2 6,oS 3 6 0 4 19]
@[go_sem] theorem qcR:OE qCT.eq_1:=OEM qCT.eq_1
def qCU:List qB:=[oY 0 21 6 0 4,oD1 1 22 770 21,oM 2 20 22,oV 3 23 20 0,oV 4 24 20 1,oV 5 25 20 2,oM 6 7 23,oM 7 8 24,oM 8 9 25]
@[go_sem] theorem qcS:OE qCU.eq_1:=OEM qCU.eq_1
def qCV:List qB:=[oM 0 28 2,oM 1 29 7,oE 2 30 .add 29 1,oP 3 31 (.max (.t 28) (.t 30)),oM 4 32 3,oM 5 33 8,oB 6 34 .add 32 33,oM 7 2 31,oM 8 3 34]
@[go_sem] theorem qcT:OE qCV.eq_1:=OEM qCV.eq_1
def qCO:qG:=sr qCU (.seq (sr [oM 0 26 9,oJ 1 27 26] (.cond (.t 27) (sr [oC 0 2 0,oC 1 3 0,oQ 2 4 false] .ret) .skip)) (.reg true qCV))
@[go_sem] theorem qcM:CE qCO.eq_1:=CEM qCO.eq_1
def qCP:qG:=sr qCS (.blk 0 (.loop (sr [oB 0 17 .lss 16 15] (.seq (.cond (.t 17) .skip (.exit 0)) (.seq (.blk 1 (sr qCT qCO)) (.reg true [oE 0 35 .add 16 1,oM 1 16 35]))))))
@[go_sem] theorem qcN:CE qCP.eq_1:=CEM qCP.eq_1
def qCW:List qB:=[oM 0 36 2,oM 1 37 3,oM 2 2 36,oM 3 3 37,oQ 4 4 true]
@[go_sem] theorem qcU:OE qCW.eq_1:=OEM qCW.eq_1
def qCQ:qG:=.seq (sr [oY 0 10 1 0 4,oD1 1 11 1130 10,oJ 2 12 11] (.cond (.t 12) (sr [oC 0 2 0,oC 1 3 0,oQ 2 4 false] .ret) .skip)) (sr [oC 0 2 1,oC 1 3 1] (.seq qCP (sr qCW .ret)))
@[go_sem] theorem qcO:CE qCQ.eq_1:=CEM qCQ.eq_1
def Xh:qJ:=⟨1,38,[.t 2,.t 3,.t 4],sr qCR qCQ⟩
def kO:List qB:=[oY 0 7 1 0 4,oD1 1 8 770 7,oM 2 6 8,oV 3 9 6 0,oV 4 10 6 1,oV 5 11 6 2,oM 6 3 9,oM 7 4 10,oM 8 5 11]
@[go_sem] theorem qZI:OE kO.eq_1:=OEM kO.eq_1
def kP:List qB:=[oM 0 12 5,oM 1 13 12,oG 2 14 13 true (.lload 1 0 (some 4)),oG 3 15 13 true (.call 495 [.t 14]),oPf 4 16 13 15,oM 5 2 16]
@[go_sem] theorem qZJ:OE kP.eq_1:=OEM kP.eq_1
def XG:qJ:=⟨1,17,[.t 2],sr [oP 0 1 (.lbox 4 (.t 0)),oQ 1 2 false] (sr kO (sr kP .ret))⟩
def XR:qJ:=⟨1,4,[.t 2],sr [oC 0 2 0] (.seq (sr [oM 0 3 0] (.cond (.t 3) (sr [oC 0 2 1] .ret) .skip)) (sr [oC 0 2 0] .ret))⟩
def Ka:List qB:=[oU 0 5 2,oX 1 6 2 0,oE 2 7 .eql 6 4,oM 3 8 7,oG 4 9 8 false (.nop 2),oG 5 10 8 false (.lload 2 0 none),oG 6 11 8 false (.bin .eql (.t 10) (.c (.int .i64 7))),oH 7 12 8 false 11,oH 8 13 12 true 1,oG 9 14 12 true (.bin .eql (.t 13) (.c (.int .i64 1))),oG 10 15 8 false (.pick (.t 12) (.t 14) (.c (.bool false))),oPt 11 16 8 15,oD1 12 17 566 16,oM 13 4 17]
@[go_sem] theorem qXJ:OE Ka.eq_1:=OEM Ka.eq_1
def Wc:qJ:=⟨2,18,[.t 4],sr [oP 0 2 (.lbox 4 (.t 0)),oC 1 4 0] (sr Ka .ret)⟩
def qEU:List qB:=[oU 0 7 2,oX 1 8 2 0,oE 2 9 .eql 8 1,oM 3 10 9,oG 4 11 10 true (.nop 2),oG 5 12 10 true (.lload 2 1 none),oH 6 13 10 true 1,oG 7 14 10 true (.bin .geq (.t 12) (.t 13)),oPf 8 15 10 14]
@[go_sem] theorem qfX:OE qEU.eq_1:=OEM qEU.eq_1
def qEV:List qB:=[oU 0 16 2,oX 1 17 2 3,oW 2 18 17,oC 3 19 0]
@[go_sem] theorem qfY:OE qEV.eq_1:=OEM qEV.eq_1
def qEW:List qB:=[oM 0 21 19,oA 1 22 4 17 19,oP 2 23 (.load (some 4) (.t 22)),oZ 3 6,oM 4 5 21,oS 5 6 0 4 23]
@[go_sem] theorem qfZ:OE qEW.eq_1:=OEM qEW.eq_1
def qEX:List qB:=[oY 0 24 6 0 4,oM 1 25 1,oY 2 26 2 0 4,oM 3 27 5,oD2 4 28 1193 26 27,oB 5 29 .add 25 28,oD2 6 30 880 24 29,oJ 7 31 30]
@[go_sem] theorem qf0:OE qEX.eq_1:=OEM qEX.eq_1
def qET:qG:=sr [oB 0 20 .lss 19 18] (.seq (.cond (.t 20) .skip (.exit 0)) (.seq (.blk 1 (sr qEW (sr qEX (.cond (.t 31) (sr [oQ 0 4 false] .ret) .skip)))) (.reg true [oE 0 32 .add 19 1,oM 1 19 32])))
@[go_sem] theorem qfW:CE qET.eq_1:=CEM qET.eq_1
def YK:qJ:=⟨2,33,[.t 4],sr [oP 0 2 (.lbox 4 (.t 0)),oQ 1 4 false] (.seq (sr qEU (.cond (.t 15) (sr [oQ 0 4 false] .ret) .skip)) (.seq (sr qEV (.blk 0 (.loop qET))) (sr [oQ 0 4 true] .ret)))⟩
def qAD:List qB:=[oY 0 3 1 0 4,oD1 1 4 391 3,oM 2 5 4,oG 3 6 5 true (.lload 1 0 (some 4)),oG 4 7 5 true (.call 880 [.t 6,.c (.int .i64 0)]),oPf 5 8 5 7,oM 6 2 8]
@[go_sem] theorem qaB:OE qAD.eq_1:=OEM qAD.eq_1
def XQ:qJ:=⟨1,9,[.t 2],sr [oP 0 1 (.lbox 4 (.t 0)),oQ 1 2 false] (sr qAD .ret)⟩
def qFA:List qB:=[oY 0 4 2 0 4,oL 1 5 1,oD2 2 6 615 4 5,oM 3 3 6]
@[go_sem] theorem qgD:OE qFA.eq_1:=OEM qFA.eq_1
def YL:qJ:=⟨2,7,[.t 3],sr [oP 0 2 (.lbox 4 (.t 0)),oQ 1 3 false] (sr qFA .ret)⟩
def qBA:List qB:=[oL 0 5 3,oY 1 6 2 0 4,oP 2 7 (.callv (.t 5) [.t 6]),oM 3 8 7,oG 4 9 8 false (.nop 2),oG 5 10 8 false (.lload 2 3 none),oG 6 11 8 false (.mkfn 993 [.t 3]),oG 7 12 8 false (.call 581 [.t 10,.t 11]),oPt 8 13 8 12,oM 9 4 13]
@[go_sem] theorem qa8:OE qBA.eq_1:=OEM qBA.eq_1
def XU:qJ:=⟨2,14,[.t 4],sr [oP 0 2 (.lbox 4 (.t 0)),oP 1 3 (.hbox 1 (.t 1)),oQ 2 4 false] (sr qBA .ret)⟩
def KZ:List qB:=[oM 0 4 0,oL 1 5 1,oB 2 6 .geq 4 5,oM 3 3 6]
@[go_sem] theorem qXI:OE KZ.eq_1:=OEM KZ.eq_1
def Wb:qJ:=⟨2,7,[.t 3],sr [oQ 0 3 false] (sr KZ .ret)⟩
def KY:List qB:=[oU 0 4 2,oX 1 5 2 0,oE 2 6 .eql 5 11,oM 3 7 6,oG 4 8 7 true (.nop 2),oG 5 9 7 true (.lload 2 1 none),oG 6 10 7 true (.load none (.t 1)),oG 7 11 7 true (.bin .geq (.t 9) (.t 10)),oPf 8 12 7 11,oM 9 13 12,oG 10 14 13 false (.nop 2),oG 11 15 13 false (.lload 2 2 none),oG 12 16 13 false (.mkfn 1169 [.t 1]),oG 13 17 13 false (.call 397 [.t 15,.t 16]),oPt 14 18 13 17,oM 15 3 18]
@[go_sem] theorem qXH:OE KY.eq_1:=OEM KY.eq_1
def Wa:qJ:=⟨2,19,[.t 3],sr [oP 0 2 (.lbox 4 (.t 0)),oQ 1 3 false] (sr KY .ret)⟩
def qD8:List qB:=[oY 0 5 2 0 4,oP 1 6 (.mkfn 1168 [.t 3]),oD2 2 7 615 5 6,oJ 3 8 7,oM 4 4 8]
@[go_sem] theorem qe9:OE qD8.eq_1:=OEM qD8.eq_1
def YG:qJ:=⟨2,9,[.t 4],sr [oP 0 2 (.lbox 4 (.t 0)),oP 1 3 (.hbox 1 (.t 1)),oQ 2 4 false] (sr qD8 .ret)⟩
def qEH:List qB:=[oY 0 4 2 0 4,oD1 1 5 521 4,oJ 2 6 5,oM 3 7 6,oG 4 8 7 false (.lload 2 0 (some 4)),oG 5 9 7 false (.faddr 0 (.t 1)),oG 6 10 7 false (.load none (.t 9)),oG 7 11 7 false (.len (.t 10)),oG 8 12 7 false (.call 847 [.t 8,.t 11]),oG 9 13 7 false (.not (.t 12)),oPt 10 14 7 13,oM 11 3 14]
@[go_sem] theorem qfK:OE qEH.eq_1:=OEM qEH.eq_1
def YI:qJ:=⟨2,15,[.t 3],sr [oP 0 2 (.lbox 4 (.t 0)),oQ 1 3 false] (sr qEH .ret)⟩
def qAA:List qB:=[oF 0 3 0 1,oL 1 4 3,oW 2 5 4,oE 3 6 .lss 5 1,oM 4 7 6,oG 5 8 7 false (.faddr 0 (.t 1)),oG 6 9 7 false (.load none (.t 8)),oG 7 10 7 false (.len (.t 9)),oG 8 11 7 false (.bin .gtr (.t 10) (.c (.int .i64 24))),oPt 9 12 7 11]
@[go_sem] theorem qZ8:OE qAA.eq_1:=OEM qAA.eq_1
def qAB:List qB:=[oF 0 13 0 1,oL 1 14 13,oP 2 15 (.mkfn 851 [.t 1]),oD2 3 16 581 14 15,oJ 4 17 16,oM 5 2 17]
@[go_sem] theorem qZ9:OE qAB.eq_1:=OEM qAB.eq_1
def XO:qJ:=⟨1,18,[.t 2],sr [oP 0 1 (.hbox 1 (.t 0)),oQ 1 2 false] (.seq (sr qAA (.cond (.t 12) (sr [oQ 0 2 false] .ret) .skip)) (sr qAB .ret))⟩
def qD2:List qB:=[oM 0 11 1,oM 1 12 0,oM 2 13 5,oA 3 14 1 12 13,oL 4 15 14,oB 5 16 .eql 11 15]
@[go_sem] theorem qe3:OE qD2.eq_1:=OEM qD2.eq_1
def qD0:qG:=.seq (.blk 1 (sr [oM 0 10 8,oM 1 5 10] (sr qD2 (.cond (.t 16) (sr [oM 0 17 5,oM 1 4 17] .ret) .skip)))) (.reg true [oE 0 18 .add 8 1,oM 1 8 18])
@[go_sem] theorem qe1:CE qD0.eq_1:=CEM qD0.eq_1
def qD1:qG:=.seq (sr [oM 0 6 0,oW 1 7 6,oC 2 8 0] (.blk 0 (.loop (sr [oB 0 9 .lss 8 7] (.seq (.cond (.t 9) .skip (.exit 0)) qD0))))) (sr [oP 0 4 (.mov (.c (.int .i64 (-1))))] .ret)
@[go_sem] theorem qe2:CE qD1.eq_1:=CEM qD1.eq_1
def YF:qJ:=⟨2,19,[.t 4],sr [oC 0 4 0] qD1⟩
def ZE:qJ:=⟨1,5,[.l 2 (some 4)],sr [oZ 0 2] (sr [oM 0 3 0,oP 1 4 (.build (.agg [.int .i64 0,.int .i64 0,.nils,.nils]) [(0,1,.c (.int .i64 2)),(1,1,.t 3)]),oS 2 2 0 4 4] .ret)⟩
def Kb:List qB:=[oM 0 3 0,oP 1 4 (.conv .i32 (.t 3)),oP 2 5 (.conv .i64 (.t 4)),oM 3 2 5]
@[go_sem] theorem qXK:OE Kb.eq_1:=OEM Kb.eq_1
def Wd:qJ:=⟨1,6,[.t 2],sr [oC 0 2 0] (sr Kb .ret)⟩
def UU:List qB:=[oM 0 9 1,oD1 1 10 1400 9,oM 2 11 2,oD1 3 12 1400 11,oM 4 7 10,oM 5 8 12]
@[go_sem] theorem qU5:OE UU.eq_1:=OEM UU.eq_1
def UV:List qB:=[oM 0 16 7,oM 1 17 8,oB 2 18 .add 16 17,oD1 3 19 1400 18,oM 4 6 19]
@[go_sem] theorem qU6:OE UV.eq_1:=OEM UV.eq_1
def UW:List qB:=[oM 0 22 7,oM 1 23 8,oB 2 24 .sub 22 23,oD1 3 25 1400 24,oM 4 6 25]
@[go_sem] theorem qU7:OE UW.eq_1:=OEM UW.eq_1
def UX:List qB:=[oM 0 28 7,oM 1 29 8,oB 2 30 .mul 28 29,oD1 3 31 1400 30,oM 4 6 31]
@[go_sem] theorem qU8:OE UX.eq_1:=OEM UX.eq_1
def UY:List qB:=[oM 0 36 7,oM 1 37 8,oB 2 38 .quo 36 37,oD1 3 39 1400 38,oM 4 6 39]
@[go_sem] theorem qU9:OE UY.eq_1:=OEM UY.eq_1
def UZ:List qB:=[oM 0 42 7,oM 1 43 8,oB 2 44 .lss 42 43,oD1 3 45 566 44,oM 4 6 45]
@[go_sem] theorem qVA:OE UZ.eq_1:=OEM UZ.eq_1
def Ua:List qB:=[oM 0 48 7,oM 1 49 8,oB 2 50 .eql 48 49,oD1 3 51 566 50,oM 4 6 51]
@[go_sem] theorem qVB:OE Ua.eq_1:=OEM Ua.eq_1
def UR:qG:=.cond (.t 32) (.seq (sr [oM 0 34 8,oE 1 35 .eql 34 0] (.cond (.t 35) (sr [oC 0 6 0] .ret) .skip)) (sr UY .ret)) (sr [oE 0 41 .eql 13 5,oM 1 40 41] (.cond (.t 40) (sr UZ .ret) (sr [oE 0 47 .eql 13 6,oM 1 46 47] (.cond (.t 46) (sr Ua .ret) .skip))))
@[go_sem] theorem qU2:CE UR.eq_1:=CEM UR.eq_1
def US:qG:=sr [oE 0 21 .eql 13 2,oM 1 20 21] (.cond (.t 20) (sr UW .ret) (sr [oE 0 27 .eql 13 3,oM 1 26 27] (.cond (.t 26) (sr UX .ret) (sr [oE 0 33 .eql 13 4,oM 1 32 33] UR))))
@[go_sem] theorem qU3:CE US.eq_1:=CEM US.eq_1
def UT:qG:=sr UU (.seq (sr [oM 0 13 0] (.blk 0 (sr [oE 0 15 .eql 13 1,oM 1 14 15] (.cond (.t 14) (sr UV .ret) US)))) (sr [oC 0 6 0] .ret))
@[go_sem] theorem qU4:CE UT.eq_1:=CEM UT.eq_1
def Z8:qJ:=⟨3,52,[.t 6],sr [oC 0 6 0] UT⟩
def Z9:qJ:=⟨1,5,[.l 2 (some 4)],sr [oZ 0 2] (sr [oM 0 3 0,oP 1 4 (.build (.agg [.int .i64 0,.int .i64 0,.nils,.nils]) [(0,1,.c (.int .i64 11)),(1,1,.t 3)]),oS 2 2 0 4 4] .ret)⟩
def qE2:List qB:=[oM 0 6 5,oM 1 7 0,oW 2 8 7,oB 3 9 .lss 6 8]
@[go_sem] theorem qf5:OE qE2.eq_1:=OEM qE2.eq_1
def qE3:List qB:=[oM 0 12 0,oM 1 13 5,oM 2 14 1,oA 3 15 1 12 13,oT 4 1 15 14]
@[go_sem] theorem qf6:OE qE3.eq_1:=OEM qE3.eq_1
def qE1:qG:=.seq (.blk 1 (sr qE3 (.reg true [oM 0 16 1,oE 1 17 .add 16 1,oM 2 1 17]))) (.reg true [oM 0 10 5,oE 1 11 .add 10 1,oM 2 5 11])
@[go_sem] theorem qf4:CE qE1.eq_1:=CEM qE1.eq_1
def F90:qJ:=⟨2,19,[.t 4],sr [oC 0 4 0] (.seq (sr [oC 0 5 0] (.blk 0 (.loop (.seq (sr qE2 (.cond (.t 9) .skip (.exit 0))) qE1)))) (sr [oM 0 18 1,oM 1 4 18] .ret))⟩
def K4:List qB:=[oM 0 6 5,oM 1 7 0,oW 2 8 7,oB 3 9 .lss 6 8]
@[go_sem] theorem qYY:OE K4.eq_1:=OEM K4.eq_1
def K5:List qB:=[oM 0 12 0,oM 1 13 5,oM 2 14 1,oA 3 15 4 12 13,oF 4 16 0 15,oT 5 1 16 14]
@[go_sem] theorem qYZ:OE K5.eq_1:=OEM K5.eq_1
def K6:List qB:=[oM 0 19 0,oM 1 20 5,oM 2 21 1,oA 3 22 4 19 20,oF 4 23 1 22,oT 5 1 23 21]
@[go_sem] theorem qY0:OE K6.eq_1:=OEM K6.eq_1
def K7:List qB:=[oM 0 26 0,oM 1 27 5,oA 2 28 4 26 27,oF 3 29 2 28,oL 4 30 29,oM 5 31 1,oD2 6 32 90 30 31,oM 7 1 32]
@[go_sem] theorem qY1:OE K7.eq_1:=OEM K7.eq_1
def K8:List qB:=[oM 0 33 0,oM 1 34 5,oA 2 35 4 33 34,oF 3 36 3 35,oL 4 37 36,oM 5 38 1,oD2 6 39 347 37 38,oM 7 1 39]
@[go_sem] theorem qY2:OE K8.eq_1:=OEM K8.eq_1
def K2:qG:=sr [oM 0 17 1,oE 1 18 .add 17 1,oM 2 1 18] (sr K6 (sr [oM 0 24 1,oE 1 25 .add 24 1,oM 2 1 25] (sr K7 (.reg true K8))))
@[go_sem] theorem qYW:CE K2.eq_1:=CEM K2.eq_1
def K3:qG:=sr [oC 0 5 0] (.blk 0 (.loop (.seq (sr K4 (.cond (.t 9) .skip (.exit 0))) (.seq (.blk 1 (sr K5 K2)) (.reg true [oM 0 10 5,oE 1 11 .add 10 1,oM 2 5 11])))))
@[go_sem] theorem qYX:CE K3.eq_1:=CEM K3.eq_1
def XA:qJ:=⟨2,41,[.t 4],sr [oC 0 4 0] (.seq K3 (sr [oM 0 40 1,oM 1 4 40] .ret))⟩
def qEY:List qB:=[oU 0 5 2,oX 1 6 2 0,oM 2 7 1,oD2 3 8 347 6 7,oM 4 1 8]
@[go_sem] theorem qf1:OE qEY.eq_1:=OEM qEY.eq_1
def F88:qJ:=⟨2,10,[.t 4],sr [oP 0 2 (.lbox 1 (.t 0)),oC 1 4 0] (sr qEY (sr [oM 0 9 1,oM 1 4 9] .ret))⟩
def qEZ:List qB:=[oU 0 5 2,oX 1 6 2 2,oM 2 7 1,oD2 3 8 90 6 7,oM 4 1 8]
@[go_sem] theorem qf2:OE qEZ.eq_1:=OEM qEZ.eq_1
def qE0:List qB:=[oU 0 9 2,oX 1 10 2 3,oM 2 11 1,oD2 3 12 347 10 11,oM 4 1 12]
@[go_sem] theorem qf3:OE qE0.eq_1:=OEM qE0.eq_1
def F89:qJ:=⟨2,14,[.t 4],sr [oP 0 2 (.lbox 4 (.t 0)),oC 1 4 0] (sr qEZ (sr qE0 (sr [oM 0 13 1,oM 1 4 13] .ret)))⟩
def qE8:List qB:=[oM 0 6 5,oM 1 7 0,oW 2 8 7,oB 3 9 .lss 6 8]
@[go_sem] theorem qgB:OE qE8.eq_1:=OEM qE8.eq_1
def qE9:List qB:=[oM 0 12 0,oM 1 13 5,oA 2 14 1 12 13,oL 3 15 14,oM 4 16 1,oB 5 17 .neq 15 16]
@[go_sem] theorem qgC:OE qE9.eq_1:=OEM qE9.eq_1
def qE7:qG:=.seq (.blk 1 (.seq (sr qE9 (.cond (.t 17) (sr [oP 0 4 (.mov (.c (.int .i64 (-1))))] .ret) .skip)) (.reg true [oM 0 18 1,oE 1 19 .add 18 1,oM 2 1 19]))) (.reg true [oM 0 10 5,oE 1 11 .add 10 1,oM 2 5 11])
@[go_sem] theorem qgA:CE qE7.eq_1:=CEM qE7.eq_1
def F92:qJ:=⟨2,21,[.t 4],sr [oC 0 4 0] (.seq (sr [oC 0 5 0] (.blk 0 (.loop (.seq (sr qE8 (.cond (.t 9) .skip (.exit 0))) qE7)))) (sr [oM 0 20 1,oM 1 4 20] .ret))⟩
def kC:List qB:=[oM 0 6 5,oM 1 7 0,oW 2 8 7,oB 3 9 .lss 6 8]
@[go_sem] theorem qY6:OE kC.eq_1:=OEM kC.eq_1
def kD:List qB:=[oM 0 12 0,oM 1 13 5,oA 2 14 4 12 13,oF 3 15 0 14,oL 4 16 15,oM 5 17 1,oB 6 18 .neq 16 17]
@[go_sem] theorem qY7:OE kD.eq_1:=OEM kD.eq_1
def kE:List qB:=[oM 0 21 0,oM 1 22 5,oA 2 23 4 21 22,oF 3 24 1 23,oL 4 25 24,oM 5 26 1,oB 6 27 .neq 25 26]
@[go_sem] theorem qY8:OE kE.eq_1:=OEM kE.eq_1
def kF:List qB:=[oM 0 30 0,oM 1 31 5,oA 2 32 4 30 31,oF 3 33 2 32,oL 4 34 33,oM 5 35 1,oD2 6 36 92 34 35,oM 7 1 36]
@[go_sem] theorem qY9:OE kF.eq_1:=OEM kF.eq_1
def kG:List qB:=[oM 0 39 0,oM 1 40 5,oA 2 41 4 39 40,oF 3 42 3 41,oL 4 43 42,oM 5 44 1,oD2 6 45 348 43 44,oM 7 1 45]
@[go_sem] theorem qZA:OE kG.eq_1:=OEM kG.eq_1
def K9:qG:=.seq (sr [oM 0 37 1,oE 1 38 .lss 37 0] (.cond (.t 38) (sr [oP 0 4 (.mov (.c (.int .i64 (-1))))] .ret) .skip)) (sr kG (sr [oM 0 46 1,oE 1 47 .lss 46 0] (.cond (.t 47) (sr [oP 0 4 (.mov (.c (.int .i64 (-1))))] .ret) .skip)))
@[go_sem] theorem qY3:CE K9.eq_1:=CEM K9.eq_1
def kA:qG:=sr [oM 0 19 1,oE 1 20 .add 19 1,oM 2 1 20] (.seq (sr kE (.cond (.t 27) (sr [oP 0 4 (.mov (.c (.int .i64 (-1))))] .ret) .skip)) (sr [oM 0 28 1,oE 1 29 .add 28 1,oM 2 1 29] (sr kF K9)))
@[go_sem] theorem qY4:CE kA.eq_1:=CEM kA.eq_1
def kB:qG:=.loop (.seq (sr kC (.cond (.t 9) .skip (.exit 0))) (.seq (.blk 1 (.seq (sr kD (.cond (.t 18) (sr [oP 0 4 (.mov (.c (.int .i64 (-1))))] .ret) .skip)) kA)) (.reg true [oM 0 10 5,oE 1 11 .add 10 1,oM 2 5 11])))
@[go_sem] theorem qY5:CE kB.eq_1:=CEM kB.eq_1
def XB:qJ:=⟨2,49,[.t 4],sr [oC 0 4 0] (.seq (sr [oC 0 5 0] (.blk 0 kB)) (sr [oM 0 48 1,oM 1 4 48] .ret))⟩
def qE5:List qB:=[oU 0 5 2,oX 1 6 2 2,oM 2 7 1,oD2 3 8 92 6 7,oM 4 1 8]
@[go_sem] theorem qf8:OE qE5.eq_1:=OEM qE5.eq_1
def qE6:List qB:=[oU 0 11 2,oX 1 12 2 3,oM 2 13 1,oD2 3 14 348 12 13,oM 4 1 14]
@[go_sem] theorem qf9:OE qE6.eq_1:=OEM qE6.eq_1
def qE4:qG:=sr qE6 (.seq (sr [oM 0 15 1,oE 1 16 .lss 15 0] (.cond (.t 16) (sr [oP 0 4 (.mov (.c (.int .i64 (-1))))] .ret) .skip)) (sr [oM 0 17 1,oM 1 4 17] .ret))
@[go_sem] theorem qf7:CE qE4.eq_1:=CEM qE4.eq_1
def F91:qJ:=⟨2,18,[.t 4],sr [oP 0 2 (.lbox 4 (.t 0)),oC 1 4 0] (sr qE5 (.seq (sr [oM 0 9 1,oE 1 10 .lss 9 0] (.cond (.t 10) (sr [oP 0 4 (.mov (.c (.int .i64 (-1))))] .ret) .skip)) qE4))⟩
def qB3:List qB:=[oM 0 4 0,oK 1 5 4,oF 2 6 0 5,oL 3 7 6,oE 4 8 .eql 7 6,oM 5 9 8,oH 6 10 9 false 0,oG 7 11 9 false (.nilchk (.t 10)),oG 8 12 9 false (.faddr 0 (.t 11)),oG 9 13 9 false (.load none (.t 12)),oG 10 14 9 false (.bin .eql (.t 13) (.c (.int .i64 7))),oPt 11 15 9 14]
@[go_sem] theorem qb1:OE qB3.eq_1:=OEM qB3.eq_1
def qB4:List qB:=[oM 0 16 3,oM 1 17 0,oK 2 18 17,oF 3 19 3 18,oL 4 20 19,oW 5 21 20,oB 6 22 .lss 16 21]
@[go_sem] theorem qb2:OE qB4.eq_1:=OEM qB4.eq_1
def qB5:List qB:=[oM 0 25 0,oK 1 26 25,oF 2 27 3 26,oL 3 28 27,oM 4 29 3,oA 5 30 4 28 29,oD1 6 31 724 30,oJ 7 32 31]
@[go_sem] theorem qb3:OE qB5.eq_1:=OEM qB5.eq_1
def qB2:qG:=.loop (.seq (sr qB4 (.cond (.t 22) .skip (.exit 0))) (.seq (.blk 1 (sr qB5 (.cond (.t 32) (sr [oQ 0 2 false] .ret) .skip))) (.reg true [oM 0 23 3,oE 1 24 .add 23 1,oM 2 3 24])))
@[go_sem] theorem qb0:CE qB2.eq_1:=CEM qB2.eq_1
def Xc:qJ:=⟨1,33,[.t 2],sr [oQ 0 2 false] (.seq (sr qB3 (.cond (.t 15) (sr [oQ 0 2 false] .ret) .skip)) (.seq (sr [oC 0 3 0] (.blk 0 qB2)) (sr [oQ 0 2 true] .ret)))⟩
def Km:List qB:=[oM 0 6 0,oD1 1 7 579 6,oJ 2 8 7,oM 3 9 8,oH 4 10 9 false 1,oG 5 11 9 false (.call 519 [.t 10]),oG 6 12 9 false (.not (.t 11)),oPt 7 13 9 12,oM 8 14 13,oH 9 15 14 false 1,oG 10 16 14 false (.call 724 [.t 15]),oG 11 17 14 false (.not (.t 16)),oPt 12 18 14 17,oM 13 19 18,oH 14 20 19 false 1,oH 15 21 19 false 0,oG 16 22 19 false (.nilchk (.t 21)),oG 17 23 19 false (.faddr 0 (.t 22)),oG 18 24 19 false (.load none (.t 23)),oG 19 25 19 false (.len (.t 24)),oG 20 26 19 false (.call 725 [.t 20,.t 25]),oG 21 27 19 false (.not (.t 26)),oPt 22 28 19 27]
@[go_sem] theorem qXS:OE Km.eq_1:=OEM Km.eq_1
def Kn:List qB:=[oM 0 29 5,oM 1 30 0,oK 2 31 30,oF 3 32 0 31,oL 4 33 32,oW 5 34 33,oB 6 35 .lss 29 34]
@[go_sem] theorem qXT:OE Kn.eq_1:=OEM Kn.eq_1
def Ko:List qB:=[oM 0 38 0,oK 1 39 38,oF 2 40 0 39,oL 3 41 40,oM 4 42 5,oA 5 43 4 41 42,oD1 6 44 724 43,oJ 7 45 44]
@[go_sem] theorem qXU:OE Ko.eq_1:=OEM Ko.eq_1
def Kl:qG:=.loop (.seq (sr Kn (.cond (.t 35) .skip (.exit 0))) (.seq (.blk 1 (sr Ko (.cond (.t 45) (sr [oQ 0 4 false] .ret) .skip))) (.reg true [oM 0 36 5,oE 1 37 .add 36 1,oM 2 5 37])))
@[go_sem] theorem qXR:CE Kl.eq_1:=CEM Kl.eq_1
def Wh:qJ:=⟨2,46,[.t 4],sr [oQ 0 4 false] (.seq (sr Km (.cond (.t 28) (sr [oQ 0 4 false] .ret) .skip)) (.seq (sr [oC 0 5 0] (.blk 0 Kl)) (sr [oQ 0 4 true] .ret)))⟩
def Uy:List qB:=[oM 0 4 0,oK 1 5 4,oF 2 6 0 5,oF 3 7 3 6,oL 4 8 7,oW 5 9 8,oM 6 10 0,oK 7 11 10,oF 8 12 4 11,oL 9 13 12,oW 10 14 13,oB 11 15 .neq 9 14]
@[go_sem] theorem qVZ:OE Uy.eq_1:=OEM Uy.eq_1
def Uz:List qB:=[oM 0 16 3,oM 1 17 0,oK 2 18 17,oF 3 19 0 18,oF 4 20 3 19,oL 5 21 20,oW 6 22 21,oB 7 23 .lss 16 22]
@[go_sem] theorem qV0:OE Uz.eq_1:=OEM Uz.eq_1
def U0:List qB:=[oM 0 26 0,oK 1 27 26,oF 2 28 0 27,oF 3 29 3 28,oL 4 30 29,oM 5 31 3,oA 6 32 4 30 31,oF 7 33 0 32,oL 8 34 33,oE 9 35 .neq 34 1,oM 10 36 35,oH 11 37 36 false 0,oG 12 38 36 false (.nilchk (.t 37)),oG 13 39 36 false (.faddr 0 (.t 38)),oG 14 40 36 false (.faddr 3 (.t 39)),oG 15 41 36 false (.load none (.t 40)),oH 16 42 36 false 3,oG 17 43 36 false (.iaddr 4 (.t 41) (.t 42)),oG 18 44 36 false (.faddr 1 (.t 43)),oG 19 45 36 false (.load none (.t 44)),oH 20 46 36 false 3,oG 21 47 36 false (.bin .neq (.t 45) (.t 46)),oPt 22 48 36 47]
@[go_sem] theorem qV1:OE U0.eq_1:=OEM U0.eq_1
def Ux:qG:=.loop (.seq (sr Uz (.cond (.t 23) .skip (.exit 0))) (.seq (.blk 1 (sr U0 (.cond (.t 48) (sr [oQ 0 2 false] .ret) .skip))) (.reg true [oM 0 24 3,oE 1 25 .add 24 1,oM 2 3 25])))
@[go_sem] theorem qVY:CE Ux.eq_1:=CEM Ux.eq_1
def WH:qJ:=⟨1,49,[.t 2],sr [oQ 0 2 false] (.seq (sr Uy (.cond (.t 15) (sr [oQ 0 2 false] .ret) .skip)) (.seq (sr [oC 0 3 0] (.blk 0 Ux)) (sr [oQ 0 2 true] .ret)))⟩
def qDH:List qB:=[oM 0 3 0,oK 1 4 3,oF 2 5 0 4,oF 3 6 0 5,oL 4 7 6]
@[go_sem] theorem qdH:OE qDH.eq_1:=OEM qDH.eq_1
def qDF:qG:=.cond (.t 8) (sr [oQ 0 2 true] .ret) (sr [oE 0 12 .eql 7 8,oM 1 11 12] (.cond (.t 11) (sr [oM 0 13 0,oD1 1 14 1149 13,oM 2 2 14] .ret) .skip))
@[go_sem] theorem qdF:CE qDF.eq_1:=CEM qDF.eq_1
def qDG:qG:=.seq (sr qDH (.blk 0 (.seq (sr [oE 0 9 .eql 7 4,oM 1 8 9] (.cond (.t 8) .skip (.reg true [oE 0 10 .eql 7 2,oM 1 8 10]))) qDF))) (sr [oQ 0 2 false] .ret)
@[go_sem] theorem qdG:CE qDG.eq_1:=CEM qDG.eq_1
def Xm:qJ:=⟨1,15,[.t 2],sr [oQ 0 2 false] qDG⟩
def kT:List qB:=[oM 0 3 0,oK 1 4 3,oF 2 5 5 4,oL 3 6 5,oW 4 7 6,oE 5 8 .eql 7 0,oM 6 9 8,oH 7 10 9 true 0,oG 8 11 9 true (.nilchk (.t 10)),oG 9 12 9 true (.faddr 0 (.t 11)),oG 10 13 9 true (.call 822 [.t 12]),oPf 11 14 9 13,oM 12 2 14]
@[go_sem] theorem qZL:OE kT.eq_1:=OEM kT.eq_1
def XH:qJ:=⟨1,15,[.t 2],sr [oQ 0 2 false] (sr kT .ret)⟩
def U1:List qB:=[oM 0 5 1,oK 1 6 5,oF 2 7 0 6,oL 3 8 7,oE 4 9 .eql 8 1]
@[go_sem] theorem qV2:OE U1.eq_1:=OEM U1.eq_1
def U2:List qB:=[oM 0 10 0,oK 1 11 10,oF 2 12 0 11,oF 3 13 4 12,oL 4 14 13,oM 5 15 1,oK 6 16 15,oF 7 17 1 16,oL 8 18 17,oA 9 19 1 14 18,oL 10 20 19,oM 11 4 20]
@[go_sem] theorem qV3:OE U2.eq_1:=OEM U2.eq_1
def U3:List qB:=[oM 0 21 0,oM 1 22 0,oK 2 23 22,oF 3 24 6 23,oL 4 25 24,oM 5 26 1,oK 6 27 26,oP 7 28 (.load (some 4) (.t 27)),oM 8 29 0,oK 9 30 29,oF 10 31 0 30,oF 11 32 4 31,oL 12 33 32,oP 13 34 (.build (.agg [.int .i64 0,.int .i64 0,.nils,.nils,.nils]) [(0,4,.t 28),(4,1,.t 33)]),oP 14 35 (.build (.agg [.bool false,.int .i64 0,.int .i64 0,.nils,.nils,.nils]) [(1,5,.t 34)]),oP 15 36 (.bslice 6 (.agg [.bool false,.int .i64 0,.int .i64 0,.nils,.nils,.nils]) 1 [(0,.t 35)]),oP 16 37 (.app 6 (.t 25) (.t 36)),oK 17 38 21,oF 18 39 6 38,oT 19 1 39 37]
@[go_sem] theorem qV4:OE U3.eq_1:=OEM U3.eq_1
def U4:List qB:=[oM 0 40 0,oK 1 41 40,oF 2 42 6 41,oL 3 43 42,oW 4 44 43,oE 5 45 .sub 44 1,oM 6 4 45]
@[go_sem] theorem qV5:OE U4.eq_1:=OEM U4.eq_1
def WI:qJ:=⟨2,46,[.t 4],sr [oC 0 4 0] (.seq (sr U1 (.cond (.t 9) (sr U2 .ret) .skip)) (sr U3 (sr U4 .ret)))⟩
def U5:List qB:=[oM 0 6 0,oM 1 7 0,oK 2 8 7,oF 3 9 5 8,oL 4 10 9,oY 5 11 4 0 8,oP 6 12 (.bslice 8 (.agg [.int .i64 0,.int .i64 0,.nils,.int .i64 0,.int .i64 0,.nils,.nils,.nils]) 1 [(0,.t 11)]),oP 7 13 (.app 8 (.t 10) (.t 12)),oK 8 14 6,oF 9 15 5 14,oT 10 1 15 13]
@[go_sem] theorem qV6:OE U5.eq_1:=OEM U5.eq_1
def U6:List qB:=[oM 0 16 0,oM 1 17 2,oK 2 18 17,oP 3 19 (.load (some 4) (.t 18)),oM 4 20 0,oK 5 21 20,oF 6 22 0 21,oF 7 23 4 22,oL 8 24 23,oP 9 25 (.build (.agg [.int .i64 0,.int .i64 0,.nils,.nils,.nils]) [(0,4,.t 19),(4,1,.t 24)]),oK 10 26 16,oF 11 27 0 26,oT 12 5 27 25]
@[go_sem] theorem qV7:OE U6.eq_1:=OEM U6.eq_1
def WJ:qJ:=⟨3,28,[],sr [oP 0 4 (.lbox 8 (.t 1))] (sr U5 (.reg true U6))⟩
def XT:qJ:=⟨1,5,[.l 2 (some 4)],sr [oZ 0 2] (sr [oM 0 3 0,oP 1 4 (.build (.agg [.int .i64 0,.int .i64 0,.nils,.nils]) [(0,1,.c (.int .i64 1)),(1,1,.t 3)]),oS 2 2 0 4 4] .ret)⟩
def U9:List qB:=[oM 0 6 0,oK 1 7 6,oF 2 8 0 7,oF 3 9 0 8,oP 4 10 (.load (some 4) (.t 9)),oZ 5 2,oS 6 2 0 4 10]
@[go_sem] theorem qWA:OE U9.eq_1:=OEM U9.eq_1
def KA:List qB:=[oM 0 13 5,oU 1 14 2,oX 2 15 2 3,oW 3 16 15,oB 4 17 .lss 13 16]
@[go_sem] theorem qWB:OE KA.eq_1:=OEM KA.eq_1
def KB:List qB:=[oM 0 20 4,oM 1 21 0,oU 2 22 2,oX 3 23 2 3,oM 4 24 5,oA 5 25 4 23 24,oD2 6 26 1150 21 25,oP 7 27 (.bslice 1 (.int .i64 0) 1 [(0,.t 26)]),oP 8 28 (.app 1 (.t 20) (.t 27)),oM 9 4 28]
@[go_sem] theorem qWC:OE KB.eq_1:=OEM KB.eq_1
def KC:List qB:=[oM 0 29 3,oM 1 30 5,oD1 2 31 612 30,oP 3 32 (.bslice 4 (.agg [.int .i64 0,.int .i64 0,.nils,.nils]) 1 [(0,.t 31)]),oP 4 33 (.app 4 (.t 29) (.t 32)),oM 5 3 33]
@[go_sem] theorem qWD:OE KC.eq_1:=OEM KC.eq_1
def U7:qG:=.loop (.seq (sr KA (.cond (.t 17) .skip (.exit 0))) (.seq (.blk 1 (sr KB (.reg true KC))) (.reg true [oM 0 18 5,oE 1 19 .add 18 1,oM 2 5 19])))
@[go_sem] theorem qV8:CE U7.eq_1:=CEM U7.eq_1
def KD:List qB:=[oM 0 34 0,oU 1 35 2,oX 2 36 2 1,oM 3 37 3,oP 4 38 (.call 382 [.c (.int .i64 8),.t 36,.t 37]),oM 5 39 4,oP 6 40 (.build (.agg [.int .i64 0,.int .i64 0,.nils,.nils,.nils]) [(0,4,.t 38),(4,1,.t 39)]),oK 7 41 34,oF 8 42 0 41,oT 9 5 42 40]
@[go_sem] theorem qWE:OE KD.eq_1:=OEM KD.eq_1
def U8:qG:=sr [oP 0 11 (.mov (.c (.lst 4 [] true))),oM 1 3 11] (sr [oP 0 12 (.mov (.c (.lst 1 [] true))),oM 1 4 12] (.seq (sr [oC 0 5 0] (.blk 0 U7)) (.reg true KD)))
@[go_sem] theorem qV9:CE U8.eq_1:=CEM U8.eq_1
def WK:qJ:=⟨1,43,[],sr U9 U8⟩
def KF:List qB:=[oM 0 2 0,oM 1 3 0,oK 2 4 3,oF 3 5 5 4,oL 4 6 5,oM 5 7 0,oK 6 8 7,oF 7 9 5 8,oL 8 10 9,oW 9 11 10,oE 10 12 .sub 11 1,oP 11 13 (.slc 8 (.t 6) none (some (.t 12)) none),oK 12 14 2,oF 13 15 5 14,oT 14 1 15 13]
@[go_sem] theorem qWF:OE KF.eq_1:=OEM KF.eq_1
def KE:qJ:=⟨1,16,[],.reg true KF⟩
def Kd:List qB:=[oM 0 4 0,oM 1 5 1,oD1 2 6 1127 5,oP 3 7 (.build (.agg [.int .i64 0,.int .i64 0,.nils,.nils,.nils]) [(0,4,.t 6)]),oK 4 8 4,oF 5 9 0 8,oT 6 5 9 7]
@[go_sem] theorem qXM:OE Kd.eq_1:=OEM Kd.eq_1
def Wf:qJ:=⟨2,10,[],.reg true Kd⟩
def WO:List qB:=[oM 0 6 0,oK 1 7 6,oF 2 8 0 7,oP 3 9 (.load (some 5) (.t 8)),oP 4 3 (.lalloc (.agg [.int .i64 0,.int .i64 0,.nils,.nils,.nils])),oS 5 3 0 5 9]
@[go_sem] theorem qWK:OE WO.eq_1:=OEM WO.eq_1
def WP:List qB:=[oM 0 10 0,oK 1 11 10,oF 2 12 5 11,oL 3 13 12,oM 4 14 0,oK 5 15 14,oF 6 16 5 15,oL 7 17 16,oW 8 18 17,oE 9 19 .sub 18 1,oA 10 20 8 13 19,oP 11 21 (.load (some 8) (.t 20)),oP 12 4 (.lalloc (.agg [.int .i64 0,.int .i64 0,.nils,.int .i64 0,.int .i64 0,.nils,.nils,.nils])),oS 13 4 0 8 21]
@[go_sem] theorem qWS:OE WP.eq_1:=OEM WP.eq_1
def Jw:List qB:=[oU 0 23 3,oU 1 24 3,oX 2 25 3 0,oE 3 26 .eql 25 4,oM 4 27 26,oG 5 28 27 true (.nop 4),oG 6 29 27 true (.lload 4 0 none),oG 7 30 27 true (.bin .eql (.t 29) (.c (.int .i64 2))),oPf 8 31 27 30,oM 9 22 31]
@[go_sem] theorem qWT:OE Jw.eq_1:=OEM Jw.eq_1
def WU:List qB:=[oM 0 34 0,oU 1 35 3,oU 2 36 3,oX 3 37 3 3,oP 4 38 (.iaddr 4 (.t 37) (.c (.int .i64 0))),oP 5 39 (.load (some 4) (.t 38)),oU 6 40 4,oX 7 41 4 1,oU 9 43 3,oX 10 44 3 4,oP 8 42 (.bslice 1 (.int .i64 0) 1 [(0,.t 41)]),⟨11,some 45,none,.app 1 (.t 42) (.t 44),[⟨5,some 39,none,.load (some 4) (.t 38),[]⟩]⟩,oP 12 46 (.build (.agg [.int .i64 0,.int .i64 0,.nils,.nils,.nils]) [(0,4,.t 39),(4,1,.t 45)]),oK 13 47 34,oF 14 48 0 47,oT 15 5 48 46]
@[go_sem] theorem qWU:OE WU.eq_1:=OEM WU.eq_1
def Jx:List qB:=[oU 0 50 3,oU 1 51 3,oX 2 52 3 0,oE 3 53 .eql 52 2,oM 4 54 53,oG 5 55 54 true (.nop 4),oG 6 56 54 true (.lload 4 0 none),oG 7 57 54 true (.bin .eql (.t 56) (.c (.int .i64 3))),oPf 8 58 54 57,oM 9 49 58]
@[go_sem] theorem qWV:OE Jx.eq_1:=OEM Jx.eq_1
def Q2:List qB:=[oM 0 59 0,oK 1 60 59,oF 2 61 5 60,oL 3 62 61,oM 4 63 0,oK 5 64 63,oF 6 65 5 64,oL 7 66 65,oW 8 67 66,oE 9 68 .sub 67 1,oU 10 69 4,oX 11 70 4 1,oU 12 71 3,oU 13 72 3,oX 14 73 3 1,oP 15 74 (.bslice 1 (.int .i64 0) 1 [(0,.t 73)]),oP 16 75 (.build (.agg [.int .i64 0,.int .i64 0,.nils,.int .i64 0,.int .i64 0,.nils,.nils,.nils]) [(0,1,.c (.int .i64 4)),(1,1,.t 70),(2,1,.t 74)]),oA 17 76 8 62 68,oT 18 8 76 75]
@[go_sem] theorem qWW:OE Q2.eq_1:=OEM Q2.eq_1
def Q3:List qB:=[oM 0 77 0,oU 1 78 4,oY 2 79 4 3 5,oK 3 80 77,oF 4 81 0 80,oT 5 5 81 79]
@[go_sem] theorem qWX:OE Q3.eq_1:=OEM Q3.eq_1
def Jy:List qB:=[oU 0 83 3,oU 1 84 3,oX 2 85 3 0,oE 3 86 .eql 85 2,oM 4 87 86,oG 5 88 87 true (.nop 4),oG 6 89 87 true (.lload 4 0 none),oG 7 90 87 true (.bin .eql (.t 89) (.c (.int .i64 4))),oPf 8 91 87 90,oM 9 82 91]
@[go_sem] theorem qWY:OE Jy.eq_1:=OEM Jy.eq_1
def Q4:List qB:=[oM 0 94 0,oU 1 95 4,oX 2 96 4 1,oU 3 97 4,oX 4 98 4 2,oP 5 99 (.iaddr 1 (.t 98) (.c (.int .i64 0))),oL 6 100 99,oU 7 101 3,oU 8 102 3,oX 9 103 3 1,oP 10 104 (.call 762 [.t 96,.t 100,.t 103]),oD1 11 105 381 104,oP 12 106 (.build (.agg [.int .i64 0,.int .i64 0,.nils,.nils,.nils]) [(0,4,.t 105)]),oK 13 107 94,oF 14 108 0 107,oT 15 5 108 106]
@[go_sem] theorem qWZ:OE Q4.eq_1:=OEM Q4.eq_1
def Jz:List qB:=[oU 0 110 3,oU 1 111 3,oX 2 112 3 0,oE 3 113 .eql 112 2,oM 4 114 113,oG 5 115 114 true (.nop 4),oG 6 116 114 true (.lload 4 0 none),oG 7 117 114 true (.bin .eql (.t 116) (.c (.int .i64 6))),oPf 8 118 114 117,oM 9 109 118]
@[go_sem] theorem qW0:OE Jz.eq_1:=OEM Jz.eq_1
def Qz:List qB:=[oU 0 121 3,oU 1 122 3,oX 2 123 3 1,oE 3 124 .neq 123 0]
@[go_sem] theorem qWL:OE Qz.eq_1:=OEM Qz.eq_1
def Q0:List qB:=[oM 0 125 0,oU 1 126 4,oX 2 127 4 2,oP 3 128 (.iaddr 1 (.t 127) (.c (.int .i64 0))),oL 4 129 128,oD2 5 130 1405 125 129]
@[go_sem] theorem qWM:OE Q0.eq_1:=OEM Q0.eq_1
def Q1:List qB:=[oM 0 131 0,oU 1 132 4,oX 2 133 4 2,oP 3 134 (.iaddr 1 (.t 133) (.c (.int .i64 1))),oL 4 135 134,oD2 5 136 1405 131 135]
@[go_sem] theorem qWN:OE Q1.eq_1:=OEM Q1.eq_1
def Jv:List qB:=[oU 0 138 3,oU 1 139 3,oX 2 140 3 0,oE 3 141 .eql 140 8,oM 4 142 141,oG 5 143 142 true (.nop 4),oG 6 144 142 true (.lload 4 0 none),oG 7 145 142 true (.bin .eql (.t 144) (.c (.int .i64 5))),oPf 8 146 142 145,oM 9 147 146,oG 10 148 147 true (.nop 3),oG 11 149 147 true (.nop 3),oG 12 150 147 true (.lload 3 1 none),oG 13 151 147 true (.nop 4),oG 14 152 147 true (.lload 4 2 none),oG 15 153 147 true (.len (.t 152)),oG 16 154 147 true (.bin .lss (.t 150) (.t 153)),oPf 17 155 147 154,oM 18 137 155]
@[go_sem] theorem qWO:OE Jv.eq_1:=OEM Jv.eq_1
def WQ:List qB:=[oU 0 158 3,oX 1 159 3 4,oW 2 160 159,oE 3 161 .sub 160 1,oM 4 5 161]
@[go_sem] theorem qWP:OE WQ.eq_1:=OEM WQ.eq_1
def WS:List qB:=[oM 0 166 0,oM 1 167 0,oK 2 168 167,oF 3 169 5 168,oL 4 170 169,oU 5 171 3,oX 6 172 3 4,oM 7 173 5,oA 8 174 1 172 173,oL 9 175 174,oP 10 176 (.build (.agg [.int .i64 0,.int .i64 0,.nils,.int .i64 0,.int .i64 0,.nils,.nils,.nils]) [(0,1,.c (.int .i64 2)),(1,1,.t 175)]),oP 11 177 (.bslice 8 (.agg [.int .i64 0,.int .i64 0,.nils,.int .i64 0,.int .i64 0,.nils,.nils,.nils]) 1 [(0,.t 176)]),oP 12 178 (.app 8 (.t 170) (.t 177)),oK 13 179 166,oF 14 180 5 179,oT 15 1 180 178]
@[go_sem] theorem qWQ:OE WS.eq_1:=OEM WS.eq_1
def WM:qG:=.loop (.seq (sr [oM 0 162 5,oE 1 163 .geq 162 0] (.cond (.t 163) .skip (.exit 1))) (.seq (.blk 2 (.reg true WS)) (.reg true [oM 0 164 5,oE 1 165 .sub 164 1,oM 2 5 165])))
@[go_sem] theorem qWG:CE WM.eq_1:=CEM WM.eq_1
def WT:List qB:=[oM 0 181 0,oU 1 182 4,oX 2 183 4 2,oU 3 184 3,oU 4 185 3,oX 5 186 3 1,oA 6 187 1 183 186,oL 7 188 187,oD2 8 189 1405 181 188]
@[go_sem] theorem qWR:OE WT.eq_1:=OEM WT.eq_1
def Jt:qG:=.cond (.t 109) (sr [oM 0 119 0,oD1 1 120 1153 119] (.seq (sr Qz (.cond (.t 124) (.reg true Q0) (.reg true Q1))) (sr [oC 0 2 6] .ret))) (sr Jv (.cond (.t 137) (sr [oM 0 156 0,oD1 1 157 1153 156] (.seq (sr WQ (.blk 1 WM)) (sr WT (sr [oC 0 2 6] .ret)))) .skip))
@[go_sem] theorem qWH:CE Jt.eq_1:=CEM Jt.eq_1
def Ju:qG:=.cond (.t 49) (sr Q2 (sr Q3 (sr [oC 0 2 1] .ret))) (sr Jy (.cond (.t 82) (sr [oM 0 92 0,oD1 1 93 1153 92] (sr Q4 (sr [oC 0 2 5] .ret))) (sr Jz Jt)))
@[go_sem] theorem qWI:CE Ju.eq_1:=CEM Ju.eq_1
def WN:qG:=.seq (.blk 0 (sr Jw (.cond (.t 22) (sr [oM 0 32 0,oD1 1 33 1153 32] (sr WU (sr [oC 0 2 4] .ret))) (sr Jx Ju)))) (sr [oC 0 2 0] .ret)
@[go_sem] theorem qWJ:CE WN.eq_1:=CEM WN.eq_1
def WL:qJ:=⟨1,190,[.t 2],sr [oC 0 2 0] (sr WO (sr WP WN))⟩
def qDK:List qB:=[oM 0 9 1,oK 1 10 9,oF 2 11 0 10,oF 3 12 0 11,oP 4 13 (.load (some 4) (.t 12)),oZ 5 5,oS 6 5 0 4 13]
@[go_sem] theorem qdP:OE qDK.eq_1:=OEM qDK.eq_1
def Xp:List qB:=[oM 0 18 1,oK 1 19 18,oF 2 20 0 19,oF 3 21 4 20,oL 4 22 21,oU 5 23 5,oX 6 24 5 1,oA 7 25 1 22 24,oL 8 26 25,oM 9 6 26]
@[go_sem] theorem qdU:OE Xp.eq_1:=OEM Xp.eq_1
def Xs:List qB:=[oM 0 27 1,oK 1 28 27,oF 2 29 6 28,oL 3 30 29,oM 4 31 6,oA 5 32 6 30 31,oF 6 33 0 32,oL 7 34 33,oJ 8 35 34]
@[go_sem] theorem qdV:OE Xs.eq_1:=OEM Xs.eq_1
def Xt:List qB:=[oM 0 36 1,oM 1 37 1,oK 2 38 37,oF 3 39 5 38,oL 4 40 39,oM 5 41 6,oP 6 42 (.build (.agg [.int .i64 0,.int .i64 0,.nils,.int .i64 0,.int .i64 0,.nils,.nils,.nils]) [(0,1,.c (.int .i64 1)),(1,1,.t 41)]),oP 7 43 (.bslice 8 (.agg [.int .i64 0,.int .i64 0,.nils,.int .i64 0,.int .i64 0,.nils,.nils,.nils]) 1 [(0,.t 42)]),oP 8 44 (.app 8 (.t 40) (.t 43)),oK 9 45 36,oF 10 46 5 45,oT 11 1 46 44]
@[go_sem] theorem qdW:OE Xt.eq_1:=OEM Xt.eq_1
def Xu:List qB:=[oM 0 47 1,oM 1 48 1,oK 2 49 48,oF 3 50 6 49,oL 4 51 50,oM 5 52 6,oA 6 53 6 51 52,oF 7 54 1 53,oP 8 55 (.load (some 5) (.t 54)),oK 9 56 47,oF 10 57 0 56,oT 11 5 57 55]
@[go_sem] theorem qdX:OE Xu.eq_1:=OEM Xu.eq_1
def Xv:List qB:=[oM 0 60 1,oU 1 61 5,oX 2 62 5 3,oP 3 63 (.iaddr 4 (.t 62) (.c (.int .i64 1))),oD2 4 64 1150 60 63,oM 5 7 64]
@[go_sem] theorem qdY:OE Xv.eq_1:=OEM Xv.eq_1
def Xw:List qB:=[oM 0 65 1,oM 1 66 7,oP 2 67 (.build (.agg [.int .i64 0,.int .i64 0,.nils,.int .i64 0,.int .i64 0,.nils,.nils,.nils]) [(0,1,.c (.int .i64 2)),(1,1,.t 66)]),oU 3 68 5,oX 4 69 5 3,oP 5 70 (.iaddr 4 (.t 69) (.c (.int .i64 0))),oP 6 71 (.call 1151 [.t 65,.t 67,.t 70])]
@[go_sem] theorem qdZ:OE Xw.eq_1:=OEM Xw.eq_1
def Xx:List qB:=[oM 0 74 1,oU 1 75 5,oX 2 76 5 1,oU 3 77 5,oX 4 78 5 3,oP 5 79 (.iaddr 4 (.t 78) (.c (.int .i64 1))),oP 6 80 (.load (some 4) (.t 79)),oM 7 81 1,oK 8 82 81,oF 9 83 0 82,oF 10 84 4 83,oL 11 85 84,oP 12 86 (.build (.agg [.int .i64 0,.int .i64 0,.nils,.nils,.nils]) [(0,4,.t 80),(4,1,.t 85)]),oP 13 87 (.build (.agg [.int .i64 0,.int .i64 0,.nils,.int .i64 0,.int .i64 0,.nils,.nils,.nils]) [(0,1,.c (.int .i64 3)),(1,1,.t 76),(3,5,.t 86)]),oU 14 88 5,oX 15 89 5 3,oP 16 90 (.iaddr 4 (.t 89) (.c (.int .i64 0))),oP 17 91 (.call 1151 [.t 74,.t 87,.t 90])]
@[go_sem] theorem qd0:OE Xx.eq_1:=OEM Xx.eq_1
def Xy:List qB:=[oM 0 94 1,oU 1 95 5,oX 2 96 5 2,oP 3 97 (.build (.agg [.int .i64 0,.int .i64 0,.nils,.int .i64 0,.int .i64 0,.nils,.nils,.nils]) [(0,1,.c (.int .i64 5)),(2,1,.t 96)]),oU 4 98 5,oX 5 99 5 3,oP 6 100 (.iaddr 4 (.t 99) (.c (.int .i64 0))),oP 7 101 (.call 1151 [.t 94,.t 97,.t 100])]
@[go_sem] theorem qd1:OE Xy.eq_1:=OEM Xy.eq_1
def Xz:List qB:=[oM 0 104 1,oU 1 105 5,oX 2 106 5 2,oP 3 107 (.build (.agg [.int .i64 0,.int .i64 0,.nils,.int .i64 0,.int .i64 0,.nils,.nils,.nils]) [(0,1,.c (.int .i64 6)),(2,1,.t 106)]),oU 4 108 5,oX 5 109 5 3,oP 6 110 (.iaddr 4 (.t 109) (.c (.int .i64 0))),oP 7 111 (.call 1151 [.t 104,.t 107,.t 110])]
@[go_sem] theorem qd2:OE Xz.eq_1:=OEM Xz.eq_1
def Xq:List qB:=[oM 0 114 1,oM 1 115 0,oK 2 116 115,oF 3 117 0 116,oL 4 118 117,oU 5 119 5,oX 6 120 5 1,oA 7 121 4 118 120,oP 8 122 (.load (some 4) (.t 121)),oP 9 123 (.build (.agg [.int .i64 0,.int .i64 0,.nils,.nils,.nils]) [(0,4,.t 122)]),oK 10 124 114,oF 11 125 0 124,oT 12 5 125 123]
@[go_sem] theorem qdQ:OE Xq.eq_1:=OEM Xq.eq_1
def Xr:List qB:=[oM 0 128 1,oK 1 129 128,oF 2 130 0 129,oD1 3 131 1149 130,oJ 4 132 131]
@[go_sem] theorem qdR:OE Xr.eq_1:=OEM Xr.eq_1
def Xo:qG:=sr [oE 0 127 .eql 15 8,oM 1 126 127] (.cond (.t 126) (sr Xr (.cond (.t 132) (sr [oM 0 133 1,oD1 1 134 1152 133] (sr [oC 0 4 8] .ret)) .skip)) .skip)
@[go_sem] theorem qdI:CE Xo.eq_1:=CEM Xo.eq_1
def J1:qG:=.cond (.t 102) (sr Xz (sr [oC 0 4 1] .ret)) (sr [oE 0 113 .eql 15 11,oM 1 112 113] (.cond (.t 112) (sr Xq (sr [oC 0 4 7] .ret)) Xo))
@[go_sem] theorem qdJ:CE J1.eq_1:=CEM J1.eq_1
def JO:qG:=sr [oE 0 93 .eql 15 9,oM 1 92 93] (.cond (.t 92) (sr Xy (sr [oC 0 4 1] .ret)) (sr [oE 0 103 .eql 15 10,oM 1 102 103] J1))
@[go_sem] theorem qdK:CE JO.eq_1:=CEM JO.eq_1
def wT:qG:=.cond (.t 58) (sr Xv (sr Xw (sr [oC 0 4 1] .ret))) (sr [oE 0 73 .eql 15 3,oM 1 72 73] (.cond (.t 72) (sr Xx (sr [oC 0 4 1] .ret)) JO))
@[go_sem] theorem qdL:CE wT.eq_1:=CEM wT.eq_1
def qDI:qG:=.cond (.t 16) (sr Xp (.seq (sr Xs (.cond (.t 35) (.reg true Xt) .skip)) (sr Xu (sr [oC 0 4 2] .ret)))) (sr [oE 0 59 .eql 15 5,oM 1 58 59] wT)
@[go_sem] theorem qdM:CE qDI.eq_1:=CEM qDI.eq_1
def J3:List qB:=[oM 0 135 1,oK 1 136 135,oF 2 137 5 136,oL 3 138 137,oM 4 139 1,oK 5 140 139,oF 6 141 5 140,oL 7 142 141,oW 8 143 142,oE 9 144 .sub 143 1,oA 10 145 8 138 144,oP 11 146 (.load (some 8) (.t 145)),oP 12 8 (.lalloc (.agg [.int .i64 0,.int .i64 0,.nils,.int .i64 0,.int .i64 0,.nils,.nils,.nils])),oS 13 8 0 8 146]
@[go_sem] theorem qdS:OE J3.eq_1:=OEM J3.eq_1
def J4:List qB:=[oM 0 150 1,oK 1 151 150,oF 2 152 6 151,oL 3 153 152,oU 4 154 8,oX 5 155 8 1,oM 6 156 1,oK 7 157 156,oF 8 158 0 157,oP 9 159 (.load (some 5) (.t 158)),oP 10 160 (.build (.agg [.bool false,.int .i64 0,.int .i64 0,.nils,.nils,.nils]) [(0,1,.c (.bool true)),(1,5,.t 159)]),oA 11 161 6 153 155,oT 12 6 161 160]
@[go_sem] theorem qdT:OE J4.eq_1:=OEM J4.eq_1
def J2:qG:=sr [oU 0 147 8,oX 1 148 8 0,oE 2 149 .eql 148 1] (.cond (.t 149) (sr J4 (sr [oM 0 162 1,oD1 1 163 1153 162] (sr [oC 0 4 3] .ret))) .skip)
@[go_sem] theorem qdN:CE J2.eq_1:=CEM J2.eq_1
def qDJ:qG:=.seq (sr [oU 0 14 5,oX 1 15 5 0] (.blk 0 (sr [oE 0 17 .eql 15 1,oM 1 16 17] qDI))) (sr J3 (.seq J2 (sr [oM 0 164 1,oD1 1 165 1154 164,oM 2 4 165] .ret)))
@[go_sem] theorem qdO:CE qDJ.eq_1:=CEM qDJ.eq_1
def Xn:qJ:=⟨2,166,[.t 4],sr [oC 0 4 0] (sr qDK qDJ)⟩
def kV:List qB:=[oM 0 7 0,oM 1 8 1,oD2 2 9 824 7 8,oM 3 6 9]
@[go_sem] theorem qZN:OE kV.eq_1:=OEM kV.eq_1
def kW:List qB:=[oM 0 12 1,oK 1 13 12,oF 2 14 6 13,oL 3 15 14,oW 4 16 15,oE 5 17 .gtr 16 2000,oM 6 18 17,oH 7 19 18 false 1,oG 8 20 18 false (.nilchk (.t 19)),oG 9 21 18 false (.faddr 5 (.t 20)),oG 10 22 18 false (.load none (.t 21)),oG 11 23 18 false (.len (.t 22)),oG 12 24 18 false (.bin .gtr (.t 23) (.c (.int .i64 400))),oPt 13 25 18 24,oM 14 26 25,oH 15 27 26 false 1,oG 16 28 26 false (.nilchk (.t 27)),oG 17 29 26 false (.faddr 0 (.t 28)),oG 18 30 26 false (.faddr 4 (.t 29)),oG 19 31 26 false (.load none (.t 30)),oG 20 32 26 false (.len (.t 31)),oG 21 33 26 false (.bin .gtr (.t 32) (.c (.int .i64 256))),oPt 22 34 26 33]
@[go_sem] theorem qZO:OE kW.eq_1:=OEM kW.eq_1
def kU:qG:=.seq (sr [oM 0 10 6,oE 1 11 .eql 10 0] (.cond (.t 11) (sr [oC 0 4 0,oC 1 5 5] .ret) .skip)) (.seq (sr kW (.cond (.t 34) (sr [oC 0 4 0,oC 1 5 4] .ret) .skip)) (sr [oM 0 35 6,oM 1 4 35,oC 2 5 0] .ret))
@[go_sem] theorem qZM:CE kU.eq_1:=CEM kU.eq_1
def XI:qJ:=⟨2,36,[.t 4,.t 5],sr [oC 0 4 0,oC 1 5 0] (sr kV kU)⟩
def qDZ:List qB:=[oM 0 6 0,oM 1 7 1,oE 2 8 .sub 7 4,oA 3 9 1 6 8,oL 4 10 9,oE 5 11 .add 10 1,oA 6 12 1 6 8,oT 7 1 12 11]
@[go_sem] theorem qe0:OE qDZ.eq_1:=OEM qDZ.eq_1
def YE:qJ:=⟨2,13,[],sr [oM 0 4 1,oP 1 5 (.call 340 [.t 4,.c (.int .i64 4),.c (.int .i64 7)])] (.cond (.t 5) (.reg true qDZ) .skip)⟩
def ki:List qB:=[oM 0 14 3,oK 1 15 14,oL 2 16 15,oE 3 17 .eql 16 0]
@[go_sem] theorem qZW:OE ki.eq_1:=OEM ki.eq_1
def kj:List qB:=[oM 0 19 0,oM 1 20 1,oD2 2 21 461 19 20,oM 3 18 21,oV 4 22 18 0,oV 5 23 18 1,oM 6 9 22,oM 7 10 23]
@[go_sem] theorem qZX:OE kj.eq_1:=OEM kj.eq_1
def kn:List qB:=[oM 0 27 3,oK 1 28 27,oL 2 29 28,oE 3 30 .sub 29 1,oK 4 31 27,oT 5 1 31 30]
@[go_sem] theorem qZY:OE kn.eq_1:=OEM kn.eq_1
def ke:qG:=.seq (sr [oM 0 24 10,oE 1 25 .neq 24 0] (.cond (.t 25) (sr [oM 0 26 10,oM 1 8 26] .ret) .skip)) (sr kn (.reg true [oM 0 32 2,oM 1 33 9,oD2 2 34 833 32 33]))
@[go_sem] theorem qZU:CE ke.eq_1:=CEM ke.eq_1
def kf:qG:=.loop (.seq (sr [oM 0 11 1,oD1 1 12 459 11,oJ 2 13 12] (.cond (.t 13) .skip (.exit 0))) (.blk 1 (.seq (sr ki (.cond (.t 17) (sr [oC 0 8 12] .ret) .skip)) (sr kj ke))))
@[go_sem] theorem qZV:CE kf.eq_1:=CEM kf.eq_1
def XK:qJ:=⟨4,35,[.t 8],sr [oC 0 8 0] (.seq (.blk 0 kf) (sr [oC 0 8 0] .ret))⟩
def Kq:List qB:=[oM 0 12 1,oE 1 13 .gtr 12 80,oM 2 14 13,oH 3 15 14 false 0,oG 4 16 14 false (.nilchk (.t 15)),oG 5 17 14 false (.faddr 10 (.t 16)),oG 6 18 14 false (.load none (.t 17)),oG 7 19 14 false (.bin .geq (.t 18) (.c (.int .i64 400))),oPt 8 20 14 19]
@[go_sem] theorem qX0:OE Kq.eq_1:=OEM Kq.eq_1
def Wm:List qB:=[oM 0 22 0,oK 1 23 22,oF 2 24 10 23,oL 3 25 24,oE 4 26 .add 25 1,oK 5 27 22,oF 6 28 10 27,oT 7 1 28 26]
@[go_sem] theorem qX4:OE Wm.eq_1:=OEM Wm.eq_1
def Wq:List qB:=[oM 0 29 0,oK 1 30 29,oF 2 31 0 30,oL 3 32 31,oM 4 33 0,oK 5 34 33,oF 6 35 1 34,oM 7 36 0,oK 8 37 36,oF 9 38 8 37,oL 10 39 38,oM 11 40 0,oK 12 41 40,oF 13 42 9 41,oP 14 43 (.call 477 [.t 32,.t 35,.t 39,.t 42]),oM 15 6 43]
@[go_sem] theorem qX5:OE Wq.eq_1:=OEM Wq.eq_1
def ZA:List qB:=[oP 0 46 (.build (.agg [.int .i64 0,.int .i64 0,.nils,.nils]) []),oM 1 47 6,oS 2 4 0 4 46,oM 3 5 47]
@[go_sem] theorem qX6:OE ZA.eq_1:=OEM ZA.eq_1
def ZB:List qB:=[oM 0 48 0,oK 1 49 48,oF 2 50 1 49,oF 3 51 0 50,oP 4 52 (.load (some 5) (.t 51)),oP 5 7 (.lalloc (.agg [.int .i64 0,.int .i64 0,.nils,.nils,.nils])),oS 6 7 0 5 52]
@[go_sem] theorem qX7:OE ZB.eq_1:=OEM ZB.eq_1
def ZC:List qB:=[oU 0 58 7,oU 1 59 7,oX 2 60 7 1,oD1 3 61 381 60,oS 4 4 0 4 61,oC 5 5 0]
@[go_sem] theorem qX8:OE ZC.eq_1:=OEM ZC.eq_1
def Q9:qG:=sr [oE 0 57 .eql 55 2,oM 1 56 57] (.cond (.t 56) (sr ZC .ret) (sr [oE 0 63 .eql 55 4,oM 1 62 63] (.cond (.t 62) (sr [oP 0 64 (.build (.agg [.int .i64 0,.int .i64 0,.nils,.nils]) []),oS 1 4 0 4 64,oC 2 5 5] .ret) .skip)))
@[go_sem] theorem qXZ:CE Q9.eq_1:=CEM Q9.eq_1
def Wr:List qB:=[oM 0 66 9,oU 1 67 7,oX 2 68 7 4,oW 3 69 68,oB 4 70 .lss 66 69]
@[go_sem] theorem qX9:OE Wr.eq_1:=OEM Wr.eq_1
def Ws:List qB:=[oM 0 73 0,oU 2 75 7,oX 3 76 7 4,oM 4 77 9,oA 5 78 1 76 77,oL 6 79 78,⟨1,some 74,none,.call 612 [.c (.int .i64 0)],[⟨6,some 79,none,.load none (.t 78),[]⟩]⟩,oP 7 80 (.bslice 1 (.int .i64 0) 1 [(0,.t 79)]),oP 8 81 (.build (.agg [.int .i64 0,.int .i64 0,.nils,.nils,.nils]) [(0,4,.t 74),(4,1,.t 80)]),oK 9 82 73,oF 10 83 1 82,oF 11 84 0 83,oT 12 5 84 81]
@[go_sem] theorem qYA:OE Ws.eq_1:=OEM Ws.eq_1
def Wu:List qB:=[oM 0 86 0,oM 1 87 1,oE 2 88 .add 87 1,oD2 3 89 341 86 88,oM 4 85 89,oV 5 90 85 0,oV 6 91 85 1,oZ 7 10,oS 8 10 0 4 90,oM 9 11 91]
@[go_sem] theorem qYB:OE Wu.eq_1:=OEM Wu.eq_1
def Wn:List qB:=[oP 0 94 (.build (.agg [.int .i64 0,.int .i64 0,.nils,.nils]) []),oM 1 95 11,oS 2 4 0 4 94,oM 3 5 95]
@[go_sem] theorem qX1:OE Wn.eq_1:=OEM Wn.eq_1
def Wo:List qB:=[oM 0 96 8,oY 1 97 10 0 4,oP 2 98 (.bslice 4 (.agg [.int .i64 0,.int .i64 0,.nils,.nils]) 1 [(0,.t 97)]),oP 3 99 (.app 4 (.t 96) (.t 98)),oM 4 8 99]
@[go_sem] theorem qX2:OE Wo.eq_1:=OEM Wo.eq_1
def Wj:qG:=.seq (.blk 2 (.seq (.reg false Ws) (sr Wu (.seq (sr [oM 0 92 11,oE 1 93 .neq 92 0] (.cond (.t 93) (sr Wn .ret) .skip)) (.reg true Wo))))) (.reg true [oM 0 71 9,oE 1 72 .add 71 1,oM 2 9 72])
@[go_sem] theorem qXW:CE Wj.eq_1:=CEM Wj.eq_1
def Wp:List qB:=[oU 0 100 7,oU 1 101 7,oX 2 102 7 1,oM 3 103 8,oP 4 104 (.call 382 [.c (.int .i64 8),.t 102,.t 103]),oS 5 4 0 4 104,oC 6 5 0]
@[go_sem] theorem qX3:OE Wp.eq_1:=OEM Wp.eq_1
def Wl:qG:=sr [oP 0 65 (.mov (.c (.lst 4 [] true))),oM 1 8 65] (.seq (sr [oC 0 9 0] (.blk 1 (.loop (.seq (sr Wr (.cond (.t 70) .skip (.exit 1))) Wj)))) (sr Wp .ret))
@[go_sem] theorem qXX:CE Wl.eq_1:=CEM Wl.eq_1
def Q8:qG:=.seq (sr [oM 0 44 6,oE 1 45 .neq 44 0] (.cond (.t 45) (sr ZA .ret) .skip)) (sr ZB (.seq (sr [oU 0 53 7,oU 1 54 7,oX 2 55 7 0] (.blk 0 Q9)) Wl))
@[go_sem] theorem qXY:CE Q8.eq_1:=CEM Q8.eq_1
def Q7:qJ:=⟨2,105,[.l 4 (some 4),.t 5],sr [oZ 0 4,oC 1 5 0] (.seq (sr Kq (.cond (.t 20) (sr [oP 0 21 (.build (.agg [.int .i64 0,.int .i64 0,.nils,.nils]) []),oS 1 4 0 4 21,oC 2 5 4] .ret) .skip)) (sr Wm (sr Wq Q8)))⟩
def qC9:List qB:=[oP 0 3 (.hbox 1 (.t 0)),oP 1 4 (.hbox 4 (.t 1)),oZ 2 6,oP 3 7 (.mov (.c (.nils))),oC 4 8 0]
@[go_sem] theorem qc8:OE qC9.eq_1:=OEM qC9.eq_1
def qDA:List qB:=[oP 0 14 (.build (.agg [.int .i64 0,.int .i64 0,.nils,.nils]) []),oS 1 6 0 4 14,oP 2 7 (.mov (.c (.nils))),oC 3 8 1]
@[go_sem] theorem qc9:OE qDA.eq_1:=OEM qDA.eq_1
def qDB:List qB:=[oP 0 18 (.build (.agg [.int .i64 0,.int .i64 0,.nils,.nils]) []),oS 1 6 0 4 18,oP 2 7 (.mov (.c (.nils))),oC 3 8 2]
@[go_sem] theorem qdA:OE qDB.eq_1:=OEM qDB.eq_1
def qDC:List qB:=[oP 0 19 (.load (some 4) (.t 4)),oP 1 20 (.build (.agg [.int .i64 0,.int .i64 0,.nils,.nils,.nils]) [(0,4,.t 19)]),oP 2 21 (.build (.agg [.int .i64 0,.int .i64 0,.nils,.nils,.nils,.nils,.nils]) [(0,5,.t 20)]),oP 3 22 (.bslice 1 (.int .i64 0) 4 [(0,.c (.int .i64 0)),(1,.c (.int .i64 0)),(2,.c (.int .i64 0)),(3,.c (.int .i64 0))]),oM 4 23 2,oP 5 24 (.build (.agg [.nilp,.int .i64 0,.int .i64 0,.nils,.nils,.nils,.nils,.nils,.nils,.int .i64 0,.int .i64 0]) [(0,1,.t 3),(1,7,.t 21),(8,1,.t 22),(9,1,.t 23)]),oP 6 25 (.hbox 11 (.t 24)),oM 7 9 25]
@[go_sem] theorem qdB:OE qDC.eq_1:=OEM qDC.eq_1
def qDD:List qB:=[oM 0 27 9,oP 1 28 (.call 341 [.t 27,.c (.int .i64 1)]),oM 2 26 28,oV 3 29 26 0,oV 4 30 26 1,oZ 5 10,oS 6 10 0 4 29,oM 7 11 30]
@[go_sem] theorem qdC:OE qDD.eq_1:=OEM qDD.eq_1
def Xl:List qB:=[oP 0 33 (.build (.agg [.int .i64 0,.int .i64 0,.nils,.nils]) []),oM 1 34 11,oS 2 6 0 4 33,oP 3 7 (.mov (.c (.nils))),oM 4 8 34]
@[go_sem] theorem qdD:OE Xl.eq_1:=OEM Xl.eq_1
def qDE:List qB:=[oY 0 35 10 0 4,oM 1 36 9,oK 2 37 36,oF 3 38 8 37,oL 4 39 38,oS 5 6 0 4 35,oM 6 7 39,oC 7 8 0]
@[go_sem] theorem qdE:OE qDE.eq_1:=OEM qDE.eq_1
def qC8:qG:=.seq (sr [oM 0 15 2,oP 1 16 (.call 340 [.t 15,.c (.int .i64 0),.c (.int .i64 20000)]),oJ 2 17 16] (.cond (.t 17) (sr qDB .ret) .skip)) (sr qDC (sr qDD (.seq (sr [oM 0 31 11,oE 1 32 .neq 31 0] (.cond (.t 32) (sr Xl .ret) .skip)) (sr qDE .ret))))
@[go_sem] theorem qc7:CE qC8.eq_1:=CEM qC8.eq_1
def F81:qJ:=⟨3,40,[.l 6 (some 4),.t 7,.t 8],sr qC9 (.seq (sr [oD2 0 12 339 3 4,oJ 1 13 12] (.cond (.t 13) (sr qDA .ret) .skip)) qC8)⟩
def qBB:List qB:=[oU 0 3 1,oX 1 4 1 0,oE 2 5 .eql 4 6,oM 3 6 5,oG 4 7 6 false (.nop 1),oG 5 8 6 false (.lload 1 0 none),oG 6 9 6 false (.bin .eql (.t 8) (.c (.int .i64 7))),oPt 7 10 6 9,oM 8 2 10]
@[go_sem] theorem qa9:OE qBB.eq_1:=OEM qBB.eq_1
def XV:qJ:=⟨1,11,[.t 2],sr [oP 0 1 (.lbox 4 (.t 0)),oQ 1 2 false] (sr qBB .ret)⟩
def Ki:List qB:=[oY 0 3 1 0 4,oD1 1 4 391 3,oM 2 5 4,oG 3 6 5 true (.lload 1 0 (some 4)),oG 4 7 5 true (.call 615 [.t 6,.f 616]),oG 5 8 5 true (.not (.t 7)),oPf 6 9 5 8,oM 7 2 9]
@[go_sem] theorem qXQ:OE Ki.eq_1:=OEM Ki.eq_1
def Wg:qJ:=⟨1,10,[.t 2],sr [oP 0 1 (.lbox 4 (.t 0)),oQ 1 2 false] (sr Ki .ret)⟩
def UO:List qB:=[oY 0 3 1 0 4,oD1 1 4 259 3,oJ 2 5 4,oM 3 2 5]
@[go_sem] theorem qUZ:OE UO.eq_1:=OEM UO.eq_1
def Z5:qJ:=⟨1,6,[.t 2],sr [oP 0 1 (.lbox 4 (.t 0)),oQ 1 2 false] (sr UO .ret)⟩
def qBU:List qB:=[oY 0 3 1 0 1,oD1 1 4 498 3,oM 2 5 4,oG 3 6 5 true (.nop 1),oG 4 7 5 true (.lload 1 0 none),oG 5 8 5 true (.call 581 [.t 7,.f 1045]),oG 6 9 5 true (.not (.t 8)),oPf 7 10 5 9,oM 8 2 10]
@[go_sem] theorem qbS:OE qBU.eq_1:=OEM qBU.eq_1
def Xa:qJ:=⟨1,11,[.t 2],sr [oP 0 1 (.lbox 1 (.t 0)),oQ 1 2 false] (sr qBU .ret)⟩
def qCE:List qB:=[oY 0 5 3 0 4,oD1 1 6 521 5,oM 2 7 6,oG 3 8 7 true (.lload 3 0 (some 4)),oG 4 9 7 true (.call 259 [.t 8]),oPf 5 10 7 9,oM 6 11 10,oG 7 12 11 true (.lload 3 0 (some 4)),oG 8 13 11 true (.nop 2),oG 9 14 11 true (.lload 2 0 none),oG 10 15 11 true (.len (.t 14)),oG 11 16 11 true (.call 847 [.t 12,.t 15]),oPf 12 17 11 16,oM 13 4 17]
@[go_sem] theorem qcC:OE qCE.eq_1:=OEM qCE.eq_1
def Xf:qJ:=⟨2,18,[.t 4],sr [oP 0 2 (.lbox 1 (.t 0)),oP 1 3 (.lbox 4 (.t 1)),oQ 2 4 false] (sr qCE .ret)⟩
def kI:List qB:=[oY 0 5 2 0 1,oD1 1 6 671 5,oM 2 7 6,oG 3 8 7 true (.lload 2 0 (some 1)),oG 4 9 7 true (.lload 3 0 (some 4)),oG 5 10 7 true (.call 757 [.t 8,.t 9]),oPf 6 11 7 10,oM 7 4 11]
@[go_sem] theorem qZC:OE kI.eq_1:=OEM kI.eq_1
def XE:qJ:=⟨2,12,[.t 4],sr [oP 0 2 (.lbox 1 (.t 0)),oP 1 3 (.lbox 4 (.t 1)),oQ 2 4 false] (sr kI .ret)⟩
def Ks:List qB:=[oP 0 2 (.lbox 1 (.t 0)),oP 1 3 (.lbox 4 (.t 1)),oP 2 4 (.lalloc (.agg [.int .i64 0,.int .i64 0,.nils,.nils,.nils,.nils,.nils])),oC 3 5 0]
@[go_sem] theorem qYC:OE Ks.eq_1:=OEM Ks.eq_1
def Kt:List qB:=[oY 0 6 2 0 1,oY 1 7 3 0 4,oD2 2 8 383 6 7,oJ 3 9 8]
@[go_sem] theorem qYD:OE Kt.eq_1:=OEM Kt.eq_1
def Ku:List qB:=[oY 0 11 3 0 4,oD1 1 12 385 11,oP 2 13 (.build (.agg [.int .i64 0,.int .i64 0,.nils,.nils,.nils]) [(0,4,.t 12)]),oP 3 14 (.build (.agg [.int .i64 0,.int .i64 0,.nils,.nils,.nils,.nils,.nils]) [(0,5,.t 13)]),oS 4 4 0 7 14,oC 5 5 0]
@[go_sem] theorem qYE:OE Ku.eq_1:=OEM Ku.eq_1
def Wv:qJ:=⟨2,15,[.l 4 (some 7),.t 5],sr Ks (.seq (sr Kt (.cond (.t 9) (sr [oP 0 10 (.build (.agg [.int .i64 0,.int .i64 0,.nils,.nils,.nils,.nils,.nils]) []),oS 1 4 0 7 10,oC 2 5 1] .ret) .skip)) (sr Ku .ret))⟩
def Kv:List qB:=[oM 0 3 0,oE 1 4 .geq 3 0,oM 2 5 4,oH 3 6 5 true 0,oG 4 7 5 true (.bin .leq (.t 6) (.c (.int .i64 20000))),oPf 5 8 5 7,oM 6 2 8]
@[go_sem] theorem qYF:OE Kv.eq_1:=OEM Kv.eq_1
def Ww:qJ:=⟨1,9,[.t 2],sr [oQ 0 2 false] (sr Kv .ret)⟩
def qBY:List qB:=[oU 0 13 1,oU 1 14 1,oX 2 15 1 3,oW 3 16 15,oC 4 17 0]
@[go_sem] theorem qbW:OE qBY.eq_1:=OEM qBY.eq_1
def qBZ:List qB:=[oM 0 19 17,oA 1 20 4 15 17,oP 2 21 (.load (some 4) (.t 20)),oZ 3 4,oM 4 3 19,oS 5 4 0 4 21]
@[go_sem] theorem qbX:OE qBZ.eq_1:=OEM qBZ.eq_1
def qB0:List qB:=[oU 0 22 4,oX 1 23 4 0,oE 2 24 .neq 23 1,oM 3 25 24,oG 4 26 25 false (.nop 4),oG 5 27 25 false (.lload 4 1 none),oH 6 28 25 false 3,oG 7 29 25 false (.bin .neq (.t 27) (.t 28)),oPt 8 30 25 29]
@[go_sem] theorem qbY:OE qB0.eq_1:=OEM qB0.eq_1
def qBV:qG:=sr [oB 0 18 .lss 17 16] (.seq (.cond (.t 18) .skip (.exit 1)) (.seq (.blk 2 (sr qBZ (sr qB0 (.cond (.t 30) (sr [oQ 0 2 false] .ret) .skip)))) (.reg true [oE 0 31 .add 17 1,oM 1 17 31])))
@[go_sem] theorem qbT:CE qBV.eq_1:=CEM qBV.eq_1
def qB1:List qB:=[oU 0 32 1,oX 1 33 1 4,oW 2 34 33,oU 3 35 1,oU 4 36 1,oX 5 37 1 3,oW 6 38 37,oB 7 39 .eql 34 38,oM 8 2 39]
@[go_sem] theorem qbZ:OE qB1.eq_1:=OEM qB1.eq_1
def qBW:qG:=.cond (.t 8) (sr [oQ 0 2 true] .ret) (sr [oE 0 12 .eql 7 8,oM 1 11 12] (.cond (.t 11) (.seq (sr qBY (.blk 1 (.loop qBV))) (sr qB1 .ret)) .skip))
@[go_sem] theorem qbU:CE qBW.eq_1:=CEM qBW.eq_1
def qBX:qG:=sr [oU 0 5 1,oU 1 6 1,oX 2 7 1 0] (.blk 0 (.seq (sr [oE 0 9 .eql 7 4,oM 1 8 9] (.cond (.t 8) .skip (.reg true [oE 0 10 .eql 7 2,oM 1 8 10]))) qBW))
@[go_sem] theorem qbV:CE qBX.eq_1:=CEM qBX.eq_1
def Xb:qJ:=⟨1,40,[.t 2],sr [oP 0 1 (.lbox 5 (.t 0)),oQ 1 2 false] (.seq qBX (sr [oQ 0 2 false] .ret))⟩
def qBT:List qB:=[oM 0 3 0,oK 1 4 3,oF 2 5 5 4,oL 3 6 5,oW 4 7 6,oE 5 8 .eql 7 0,oM 6 9 8,oH 7 10 9 true 0,oG 8 11 9 true (.nilchk (.t 10)),oG 9 12 9 true (.faddr 0 (.t 11)),oG 10 13 9 true (.load (some 5) (.t 12)),oG 11 14 9 true (.call 673 [.t 13]),oPf 12 15 9 14,oM 13 2 15]
@[go_sem] theorem qbR:OE qBT.eq_1:=OEM qBT.eq_1
def XZ:qJ:=⟨1,16,[.t 2],sr [oQ 0 2 false] (sr qBT .ret)⟩
def Uv:List qB:=[oM 0 8 1,oM 1 9 0,oP 2 10 (.cap (.t 9)),oM 3 11 0,oW 4 12 11,oB 5 13 .sub 10 12,oB 6 14 .sub 8 13,oM 7 1 14]
@[go_sem] theorem qVW:OE Uv.eq_1:=OEM Uv.eq_1
def Uw:List qB:=[oM 0 17 0,oM 1 18 0,oP 2 19 (.cap (.t 18)),oP 3 20 (.slc 1 (.t 17) none (some (.t 19)) none),oM 4 21 1,oP 5 22 (.appz 1 (.int .i64 0) (.t 20) (.t 21)),oM 6 23 0,oW 7 24 23,oP 8 25 (.slc 1 (.t 22) none (some (.t 24)) none),oM 9 0 25]
@[go_sem] theorem qVX:OE Uw.eq_1:=OEM Uw.eq_1
def Uu:qG:=.seq (sr [oM 0 5 1,oE 1 6 .lss 5 0] (.cond (.t 6) (.reg true [oP 0 7 (.mkif 9 (.c (.str [99,97,110,110,111,116,32,98,101,32,110,101,103,97,116,105,118,101]))),oN 1 (.panic (.t 7))]) .skip)) (.seq (sr Uv (sr [oM 0 15 1,oE 1 16 .gtr 15 0] (.cond (.t 16) (.reg true Uw) .skip))) (sr [oM 0 26 0,oM 1 4 26] .ret))
@[go_sem] theorem qVV:CE Uu.eq_1:=CEM Uu.eq_1
def WG:qJ:=⟨2,27,[.t 4],sr [oP 0 4 (.mov (.c (.nils)))] Uu⟩
def qC0:List qB:=[oM 0 15 3,oM 1 16 5,oW 2 17 16,oB 3 18 .add 15 17,oM 4 3 18]
@[go_sem] theorem qcZ:OE qC0.eq_1:=OEM qC0.eq_1
def qCX:qG:=sr [oA 0 13 1 9 11,oL 1 14 13,oM 2 5 14] (sr qC0 (sr [oM 0 19 3,oE 1 20 .lss 19 0] (.cond (.t 20) (.reg true [oP 0 21 (.mkif 9 (.c (.str [108,101,110,32,111,117,116,32,111,102,32,114,97,110,103,101]))),oN 1 (.panic (.t 21))]) .skip)))
@[go_sem] theorem qcV:CE qCX.eq_1:=CEM qCX.eq_1
def qCY:qG:=sr [oM 0 9 0,oW 1 10 9,oC 2 11 0] (.blk 0 (.loop (sr [oB 0 12 .lss 11 10] (.seq (.cond (.t 12) .skip (.exit 0)) (.seq (.blk 1 qCX) (.reg true [oE 0 22 .add 11 1,oM 1 11 22]))))))
@[go_sem] theorem qcW:CE qCY.eq_1:=CEM qCY.eq_1
def qC1:List qB:=[oM 0 31 6,oM 1 32 8,oP 2 33 (.app 1 (.t 31) (.t 32)),oM 3 6 33]
@[go_sem] theorem qc0:OE qC1.eq_1:=OEM qC1.eq_1
def Xj:qG:=sr [oB 0 28 .lss 27 26] (.seq (.cond (.t 28) .skip (.exit 2)) (.seq (.blk 3 (sr [oA 0 29 1 25 27,oL 1 30 29,oM 2 8 30] (.reg true qC1))) (.reg true [oE 0 34 .add 27 1,oM 1 27 34])))
@[go_sem] theorem qcX:CE Xj.eq_1:=CEM Xj.eq_1
def qCZ:qG:=.seq (sr [oM 0 25 0,oW 1 26 25,oC 2 27 0] (.blk 2 (.loop Xj))) (sr [oM 0 35 6,oM 1 2 35] .ret)
@[go_sem] theorem qcY:CE qCZ.eq_1:=CEM qCZ.eq_1
def Xi:qJ:=⟨1,36,[.t 2],sr [oP 0 2 (.mov (.c (.nils)))] (sr [oC 0 3 0] (.seq qCY (sr [oM 0 23 3,oP 1 24 (.call 1138 [.c (.nils),.t 23]),oM 2 6 24] qCZ)))⟩
def KG:List qB:=[oM 0 2 0,oM 1 3 0,oK 2 4 3,oF 3 5 5 4,oL 4 6 5,oM 5 7 0,oK 6 8 7,oF 7 9 5 8,oL 8 10 9,oW 9 11 10,oE 10 12 .sub 11 1,oP 11 13 (.slc 8 (.t 6) none (some (.t 12)) none),oK 12 14 2,oF 13 15 5 14,oT 14 1 15 13]
@[go_sem] theorem qW1:OE KG.eq_1:=OEM KG.eq_1
def Q5:qJ:=⟨1,16,[],.reg true KG⟩
def KH:List qB:=[oM 0 4 0,oM 1 5 0,oK 2 6 5,oF 3 7 5 6,oL 4 8 7,oY 5 9 3 0 8,oP 6 10 (.bslice 8 (.agg [.int .i64 0,.int .i64 0,.nils,.int .i64 0,.int .i64 0,.nils,.nils,.nils]) 1 [(0,.t 9)]),oP 7 11 (.app 8 (.t 8) (.t 10)),oK 8 12 4,oF 9 13 5 12,oT 10 1 13 11]
@[go_sem] theorem qW2:OE KH.eq_1:=OEM KH.eq_1
def Q6:qJ:=⟨2,14,[],sr [oP 0 3 (.lbox 8 (.t 1))] (.reg true KH)⟩
def Kf:List qB:=[oL 0 4 1,oW 1 5 4,oE 2 6 .sub 5 1,oM 3 3 6]
@[go_sem] theorem qXO:OE Kf.eq_1:=OEM Kf.eq_1
def Kg:List qB:=[oM 0 11 0,oM 1 12 3,oL 2 13 1,oM 3 14 3,oA 4 15 1 13 14,oL 5 16 15,oP 6 17 (.callv (.t 11) [.t 12,.t 16]),oJ 7 18 17]
@[go_sem] theorem qXP:OE Kg.eq_1:=OEM Kg.eq_1
def Ke:qG:=.loop (.seq (sr [oM 0 7 3,oE 1 8 .geq 7 0] (.cond (.t 8) .skip (.exit 0))) (.seq (.blk 1 (sr Kg (.cond (.t 18) .ret .skip))) (.reg true [oM 0 9 3,oE 1 10 .sub 9 1,oM 2 3 10])))
@[go_sem] theorem qXN:CE Ke.eq_1:=CEM Ke.eq_1
def qHN:qJ:=⟨2,19,[],sr Kf (.blk 0 Ke)⟩
def WV:qJ:=⟨1,4,[.t 2],sr [oP 0 1 (.hbox 1 (.t 0)),oP 1 2 (.mov (.c (.nilf)))] (sr [oP 0 3 (.mkfn 1406 [.t 1]),oM 1 2 3] .ret)⟩
def X2:List qB:=[oL 0 7 1,oK 1 8 7,oF 2 9 0 8,oF 3 10 0 9,oP 4 11 (.load (some 4) (.t 10)),oL 5 12 1,oK 6 13 12,oF 7 14 5 13,oL 8 15 14,oL 9 16 1,oK 10 17 16,oF 11 18 5 17,oL 12 19 18,oW 13 20 19,oE 14 21 .sub 20 1,oA 15 22 8 15 21,oP 16 23 (.load (some 8) (.t 22)),oZ 17 3,oP 18 4 (.lalloc (.agg [.int .i64 0,.int .i64 0,.nils,.int .i64 0,.int .i64 0,.nils,.nils,.nils])),oS 19 3 0 4 11,oS 20 4 0 8 23]
@[go_sem] theorem qd7:OE X2.eq_1:=OEM X2.eq_1
def X3:List qB:=[oU 0 25 4,oX 1 26 4 0,oE 2 27 .eql 26 1,oM 3 24 27]
@[go_sem] theorem qeE:OE X3.eq_1:=OEM X3.eq_1
def X8:List qB:=[oL 0 28 1,oK 1 29 28,oF 2 30 6 29,oL 3 31 30,oU 4 32 4,oX 5 33 4 1,oL 6 34 1,oK 7 35 34,oF 8 36 0 35,oP 9 37 (.load (some 5) (.t 36)),oP 10 38 (.build (.agg [.bool false,.int .i64 0,.int .i64 0,.nils,.nils,.nils]) [(0,1,.c (.bool true)),(1,5,.t 37)]),oA 11 39 6 31 33,oT 12 6 39 38]
@[go_sem] theorem qeF:OE X8.eq_1:=OEM X8.eq_1
def J9:List qB:=[oU 0 43 3,oX 1 44 3 0,oE 2 45 .eql 44 4,oM 3 46 45,oG 4 47 46 true (.nop 4),oG 5 48 46 true (.lload 4 0 none),oG 6 49 46 true (.bin .eql (.t 48) (.c (.int .i64 2))),oPf 7 50 46 49,oM 8 42 50]
@[go_sem] theorem qeG:OE J9.eq_1:=OEM J9.eq_1
def X9:List qB:=[oL 0 53 1,oU 1 54 3,oX 2 55 3 3,oP 3 56 (.iaddr 4 (.t 55) (.c (.int .i64 0))),oP 4 57 (.load (some 4) (.t 56)),oU 5 58 4,oX 6 59 4 1,oL 8 61 1,oK 9 62 61,oF 10 63 0 62,oF 11 64 4 63,oL 12 65 64,oP 7 60 (.bslice 1 (.int .i64 0) 1 [(0,.t 59)]),oP 13 66 (.bslice 1 (.nils) 2 [(0,.t 60),(1,.t 65)]),⟨14,some 67,none,.call 786 [.t 66],[⟨0,some 53,none,.load none (.t 1),[]⟩,⟨4,some 57,none,.load (some 4) (.t 56),[]⟩]⟩,oP 15 68 (.build (.agg [.int .i64 0,.int .i64 0,.nils,.nils,.nils]) [(0,4,.t 57),(4,1,.t 67)]),oK 16 69 53,oF 17 70 0 69,oT 18 5 70 68]
@[go_sem] theorem qeH:OE X9.eq_1:=OEM X9.eq_1
def QA:List qB:=[oU 0 72 3,oX 1 73 3 0,oE 2 74 .eql 73 2,oM 3 75 74,oG 4 76 75 true (.nop 4),oG 5 77 75 true (.lload 4 0 none),oG 6 78 75 true (.bin .eql (.t 77) (.c (.int .i64 3))),oPf 7 79 75 78,oM 8 71 79]
@[go_sem] theorem qeI:OE QA.eq_1:=OEM QA.eq_1
def YA:List qB:=[oL 0 82 1,oU 1 83 4,oX 2 84 4 1,oU 3 85 3,oX 4 86 3 1,oP 5 87 (.bslice 1 (.int .i64 0) 1 [(0,.t 86)]),oP 6 88 (.build (.agg [.int .i64 0,.int .i64 0,.nils,.int .i64 0,.int .i64 0,.nils,.nils,.nils]) [(0,1,.c (.int .i64 4)),(1,1,.t 84),(2,1,.t 87)]),oD2 7 89 1156 82 88]
@[go_sem] theorem qeJ:OE YA.eq_1:=OEM YA.eq_1
def YB:List qB:=[oL 0 90 1,oU 1 91 4,oY 2 92 4 3 5,oK 3 93 90,oF 4 94 0 93,oT 5 5 94 92]
@[go_sem] theorem qeK:OE YB.eq_1:=OEM YB.eq_1
def QB:List qB:=[oU 0 96 3,oX 1 97 3 0,oE 2 98 .eql 97 2,oM 3 99 98,oG 4 100 99 true (.nop 4),oG 5 101 99 true (.lload 4 0 none),oG 6 102 99 true (.bin .eql (.t 101) (.c (.int .i64 4))),oPf 7 103 99 102,oM 8 95 103]
@[go_sem] theorem qeL:OE QB.eq_1:=OEM QB.eq_1
def YC:List qB:=[oL 0 106 1,oU 1 107 4,oX 2 108 4 1,oU 3 109 4,oX 4 110 4 2,oP 5 111 (.iaddr 1 (.t 110) (.c (.int .i64 0))),oL 6 112 111,oU 7 113 3,oX 8 114 3 1,⟨9,some 115,none,.call 1118 [.t 108,.t 112,.t 114],[⟨0,some 106,none,.load none (.t 1),[]⟩]⟩,⟨10,some 116,none,.call 726 [.t 115],[⟨0,some 106,none,.load none (.t 1),[]⟩]⟩,oP 11 117 (.build (.agg [.int .i64 0,.int .i64 0,.nils,.nils,.nils]) [(0,4,.t 116)]),oK 12 118 106,oF 13 119 0 118,oT 14 5 119 117]
@[go_sem] theorem qeM:OE YC.eq_1:=OEM YC.eq_1
def J7:List qB:=[oU 0 121 3,oX 1 122 3 0,oE 2 123 .eql 122 2,oM 3 124 123,oG 4 125 124 true (.nop 4),oG 5 126 124 true (.lload 4 0 none),oG 6 127 124 true (.bin .eql (.t 126) (.c (.int .i64 6))),oPf 7 128 124 127,oM 8 120 128]
@[go_sem] theorem qd8:OE J7.eq_1:=OEM J7.eq_1
def X4:List qB:=[oL 0 131 1,oU 1 132 4,oX 2 133 4 2,oU 3 134 3,oX 4 135 3 1,oE 5 136 .eql 135 0,⟨6,some 137,none,.call 566 [.t 136],[⟨0,some 131,none,.load none (.t 1),[]⟩]⟩,oA 7 138 1 133 137,oL 8 139 138,⟨9,some 140,none,.call 1120 [.t 139],[⟨0,some 131,none,.load none (.t 1),[]⟩]⟩,oP 10 141 (.build (.agg [.int .i64 0,.int .i64 0,.nils,.nils,.nils]) [(0,4,.t 140)]),oK 11 142 131,oF 12 143 0 142,oT 13 5 143 141]
@[go_sem] theorem qd9:OE X4.eq_1:=OEM X4.eq_1
def J8:List qB:=[oU 0 145 3,oX 1 146 3 0,oE 2 147 .eql 146 8,oM 3 148 147,oG 4 149 148 true (.nop 4),oG 5 150 148 true (.lload 4 0 none),oG 6 151 148 true (.bin .eql (.t 150) (.c (.int .i64 5))),oPf 7 152 148 151,oM 8 153 152,oG 9 154 153 true (.nop 3),oG 10 155 153 true (.lload 3 1 none),oG 11 156 153 true (.nop 4),oG 12 157 153 true (.lload 4 2 none),oG 13 158 153 true (.len (.t 157)),oG 14 159 153 true (.bin .lss (.t 155) (.t 158)),oPf 15 160 153 159,oM 16 144 160]
@[go_sem] theorem qeA:OE J8.eq_1:=OEM J8.eq_1
def X5:List qB:=[oL 0 163 1,oK 1 164 163,oF 2 165 0 164,oF 3 166 4 165,oL 4 167 166,oD1 5 168 1157 167]
@[go_sem] theorem qeB:OE X5.eq_1:=OEM X5.eq_1
def X6:List qB:=[oL 0 171 1,oM 1 172 6,oP 2 173 (.build (.agg [.int .i64 0,.int .i64 0,.nils,.int .i64 0,.int .i64 0,.nils,.nils,.nils]) [(0,1,.c (.int .i64 2)),(1,1,.t 172)]),oD2 3 174 1156 171 173]
@[go_sem] theorem qeC:OE X6.eq_1:=OEM X6.eq_1
def X7:List qB:=[oL 0 175 1,oU 1 176 4,oX 2 177 4 2,oU 3 178 3,oX 4 179 3 1,oA 5 180 1 177 179,oL 6 181 180,⟨7,some 182,none,.call 1120 [.t 181],[⟨0,some 175,none,.load none (.t 1),[]⟩]⟩,oP 8 183 (.build (.agg [.int .i64 0,.int .i64 0,.nils,.nils,.nils]) [(0,4,.t 182)]),oK 9 184 175,oF 10 185 0 184,oT 11 5 185 183]
@[go_sem] theorem qeD:OE X7.eq_1:=OEM X7.eq_1
def qDL:qG:=sr [oL 0 161 1,oD1 1 162 1155 161] (.seq (sr X5 (.blk 1 (.rng 168 [1] 169 170 (.reg true [oM 0 6 170]) (.blk 2 (.reg true X6))))) (sr X7 (sr [oC 0 2 6] .ret)))
@[go_sem] theorem qd3:CE qDL.eq_1:=CEM qDL.eq_1
def J5:qG:=.cond (.t 95) (sr [oL 0 104 1,oD1 1 105 1155 104] (sr YC (sr [oC 0 2 5] .ret))) (sr J7 (.cond (.t 120) (sr [oL 0 129 1,oD1 1 130 1155 129] (sr X4 (sr [oC 0 2 6] .ret))) (sr J8 (.cond (.t 144) qDL .skip))))
@[go_sem] theorem qd4:CE J5.eq_1:=CEM J5.eq_1
def J6:qG:=sr QA (.cond (.t 71) (sr [oL 0 80 1,oD1 1 81 1155 80] (sr YA (sr YB (sr [oC 0 2 1] .ret)))) (sr QB J5))
@[go_sem] theorem qd5:CE J6.eq_1:=CEM J6.eq_1
def X1:qG:=.cond (.t 24) (sr X8 (sr [oL 0 40 1,oD1 1 41 1155 40] (sr [oC 0 2 3] .ret))) (sr J9 (.cond (.t 42) (sr [oL 0 51 1,oD1 1 52 1155 51] (sr X9 (sr [oC 0 2 4] .ret))) J6))
@[go_sem] theorem qd6:CE X1.eq_1:=CEM X1.eq_1
def X0:qJ:=⟨1,186,[.t 2],sr [oP 0 1 (.hbox 1 (.t 0)),oC 1 2 0] (sr X2 (.seq (.blk 0 (sr X3 X1)) (sr [oC 0 2 0] .ret)))⟩
def KI:List qB:=[oM 0 5 0,oK 1 6 5,oF 2 7 6 6,oL 3 8 7,oM 4 9 1,oA 5 10 6 8 9,oF 6 11 0 10,oL 7 12 11,oJ 8 13 12]
@[go_sem] theorem qW3:OE KI.eq_1:=OEM KI.eq_1
def KJ:List qB:=[oM 0 14 0,oM 1 15 1,oP 2 16 (.build (.agg [.int .i64 0,.int .i64 0,.nils,.int .i64 0,.int .i64 0,.nils,.nils,.nils]) [(0,1,.c (.int .i64 1)),(1,1,.t 15)]),oD2 3 17 1156 14 16]
@[go_sem] theorem qW4:OE KJ.eq_1:=OEM KJ.eq_1
def KM:List qB:=[oM 0 18 0,oM 1 19 0,oK 2 20 19,oF 3 21 6 20,oL 4 22 21,oM 5 23 1,oA 6 24 6 22 23,oF 7 25 1 24,oP 8 26 (.load (some 5) (.t 25)),oK 9 27 18,oF 10 28 0 27,oT 11 5 28 26]
@[go_sem] theorem qW5:OE KM.eq_1:=OEM KM.eq_1
def WW:qJ:=⟨2,29,[.t 4],sr [oC 0 4 0] (.seq (sr KI (.cond (.t 13) (.reg true KJ) .skip)) (sr KM (sr [oC 0 4 2] .ret)))⟩
def KN:List qB:=[oM 0 8 0,oK 1 9 8,oF 2 10 0 9,oF 3 11 4 10,oL 4 12 11,oU 5 13 3,oX 6 14 3 1,oA 7 15 1 12 14,oL 8 16 15,oM 9 4 16]
@[go_sem] theorem qW6:OE KN.eq_1:=OEM KN.eq_1
def KO:List qB:=[oM 0 17 0,oM 1 18 0,oK 2 19 18,oF 3 20 6 19,oL 4 21 20,oY 5 22 3 0 4,oM 6 23 0,oK 7 24 23,oF 8 25 0 24,oF 9 26 4 25,oL 10 27 26,oP 11 28 (.build (.agg [.int .i64 0,.int .i64 0,.nils,.nils,.nils]) [(0,4,.t 22),(4,1,.t 27)]),oP 12 29 (.build (.agg [.bool false,.int .i64 0,.int .i64 0,.nils,.nils,.nils]) [(1,5,.t 28)]),oP 13 30 (.bslice 6 (.agg [.bool false,.int .i64 0,.int .i64 0,.nils,.nils,.nils]) 1 [(0,.t 29)]),oP 14 31 (.app 6 (.t 21) (.t 30)),oK 15 32 17,oF 16 33 6 32,oT 17 1 33 31]
@[go_sem] theorem qW7:OE KO.eq_1:=OEM KO.eq_1
def KP:List qB:=[oM 0 34 0,oK 1 35 34,oF 2 36 6 35,oL 3 37 36,oW 4 38 37,oE 5 39 .sub 38 1,oM 6 4 39]
@[go_sem] theorem qW8:OE KP.eq_1:=OEM KP.eq_1
def WX:qJ:=⟨2,40,[.t 4],sr [oP 0 3 (.lbox 4 (.t 1)),oC 1 4 0] (.seq (sr [oU 0 5 3,oX 1 6 3 0,oE 2 7 .eql 6 1] (.cond (.t 7) (sr KN .ret) .skip)) (sr KO (sr KP .ret)))⟩
def Xe:qJ:=⟨1,5,[.l 2 (some 4)],sr [oZ 0 2] (sr [oM 0 3 0,oP 1 4 (.build (.agg [.int .i64 0,.int .i64 0,.nils,.nils]) [(0,1,.c (.int .i64 1)),(1,1,.t 3)]),oS 2 2 0 4 4] .ret)⟩
def KR:List qB:=[oU 0 9 3,oX 1 10 3 1,oP 2 11 (.build (.agg [.int .i64 0,.int .i64 0,.nils,.nils]) [(0,1,.c (.int .i64 8)),(1,1,.t 10)]),oZ 3 5,oS 4 5 0 4 11]
@[go_sem] theorem qXA:OE KR.eq_1:=OEM KR.eq_1
def KS:List qB:=[oU 0 12 3,oX 1 13 3 3,oW 2 14 13,oC 3 15 0]
@[go_sem] theorem qXB:OE KS.eq_1:=OEM KS.eq_1
def KT:List qB:=[oM 0 17 15,oA 1 18 4 13 15,oP 2 19 (.load (some 4) (.t 18)),oZ 3 8,oM 4 7 17,oS 5 8 0 4 19]
@[go_sem] theorem qXC:OE KT.eq_1:=OEM KT.eq_1
def KU:List qB:=[oM 0 20 6,oM 1 21 0,oY 2 22 8 0 4,oD2 3 23 1159 21 22,oP 4 24 (.bslice 1 (.int .i64 0) 1 [(0,.t 23)]),oP 5 25 (.app 1 (.t 20) (.t 24)),oM 6 6 25]
@[go_sem] theorem qXD:OE KU.eq_1:=OEM KU.eq_1
def KV:List qB:=[oU 0 26 5,oX 1 27 5 3,oM 2 28 7,oD1 3 29 727 28,oP 4 30 (.bslice 4 (.agg [.int .i64 0,.int .i64 0,.nils,.nils]) 1 [(0,.t 29)]),oP 5 31 (.app 4 (.t 27) (.t 30)),oU 6 32 5,oS 7 5 3 1 31]
@[go_sem] theorem qXE:OE KV.eq_1:=OEM KV.eq_1
def KQ:qG:=.loop (sr [oB 0 16 .lss 15 14] (.seq (.cond (.t 16) .skip (.exit 0)) (.seq (.blk 1 (sr KT (sr KU (.reg true KV)))) (.reg true [oE 0 33 .add 15 1,oM 1 15 33]))))
@[go_sem] theorem qW9:CE KQ.eq_1:=CEM KQ.eq_1
def KW:List qB:=[oM 0 34 0,oY 1 35 5 0 4,oM 2 36 6,oP 3 37 (.build (.agg [.int .i64 0,.int .i64 0,.nils,.nils,.nils]) [(0,4,.t 35),(4,1,.t 36)]),oK 4 38 34,oF 5 39 0 38,oT 6 5 39 37]
@[go_sem] theorem qXF:OE KW.eq_1:=OEM KW.eq_1
def WY:qJ:=⟨2,40,[.t 4],sr [oP 0 3 (.lbox 4 (.t 1)),oC 1 4 0] (sr KR (sr [oP 0 6 (.mov (.c (.nils)))] (.seq (sr KS (.blk 0 KQ)) (sr KW (sr [oC 0 4 8] .ret)))))⟩
def KX:List qB:=[oM 0 4 0,oY 1 5 3 0 4,oM 2 6 0,oK 3 7 6,oF 4 8 0 7,oF 5 9 4 8,oL 6 10 9,oP 7 11 (.build (.agg [.int .i64 0,.int .i64 0,.nils,.nils,.nils]) [(0,4,.t 5),(4,1,.t 10)]),oK 8 12 4,oF 9 13 0 12,oT 10 5 13 11]
@[go_sem] theorem qXG:OE KX.eq_1:=OEM KX.eq_1
def WZ:qJ:=⟨2,14,[],sr [oP 0 3 (.lbox 4 (.t 1))] (.reg true KX)⟩
def qDQ:List qB:=[oM 0 6 0,oK 1 7 6,oF 2 8 0 7,oF 3 9 0 8,oP 4 10 (.load (some 4) (.t 9)),oZ 5 5,oS 6 5 0 4 10]
@[go_sem] theorem qeR:OE qDQ.eq_1:=OEM qDQ.eq_1
def qDR:List qB:=[oM 0 18 0,oM 1 19 0,oK 2 20 19,oF 3 21 0 20,oF 4 22 4 21,oL 5 23 22,oU 6 24 5,oX 7 25 5 1,oA 8 26 1 23 25,oL 9 27 26,oD2 10 28 1158 18 27,oM 11 4 28]
@[go_sem] theorem qeT:OE qDR.eq_1:=OEM qDR.eq_1
def qDT:List qB:=[oM 0 31 0,oM 1 32 0,oU 2 33 5,oX 3 34 5 3,oP 4 35 (.iaddr 4 (.t 34) (.c (.int .i64 1))),oP 5 36 (.load (some 4) (.t 35)),oD2 6 37 1159 32 36,oP 7 38 (.build (.agg [.int .i64 0,.int .i64 0,.nils,.int .i64 0,.int .i64 0,.nils,.nils,.nils]) [(0,1,.c (.int .i64 2)),(1,1,.t 37)]),oD2 8 39 1156 31 38]
@[go_sem] theorem qeU:OE qDT.eq_1:=OEM qDT.eq_1
def qDU:List qB:=[oM 0 42 0,oU 1 43 5,oX 2 44 5 1,oU 3 45 5,oX 4 46 5 3,oP 5 47 (.iaddr 4 (.t 46) (.c (.int .i64 1))),oP 6 48 (.load (some 4) (.t 47)),oM 7 49 0,oK 8 50 49,oF 9 51 0 50,oF 10 52 4 51,oL 11 53 52,oP 12 54 (.build (.agg [.int .i64 0,.int .i64 0,.nils,.nils,.nils]) [(0,4,.t 48),(4,1,.t 53)]),oP 13 55 (.build (.agg [.int .i64 0,.int .i64 0,.nils,.int .i64 0,.int .i64 0,.nils,.nils,.nils]) [(0,1,.c (.int .i64 3)),(1,1,.t 44),(3,5,.t 54)]),oD2 14 56 1156 42 55]
@[go_sem] theorem qeV:OE qDU.eq_1:=OEM qDU.eq_1
def qDV:List qB:=[oM 0 59 0,oU 1 60 5,oX 2 61 5 2,oP 3 62 (.build (.agg [.int .i64 0,.int .i64 0,.nils,.int .i64 0,.int .i64 0,.nils,.nils,.nils]) [(0,1,.c (.int .i64 5)),(2,1,.t 61)]),oD2 4 63 1156 59 62]
@[go_sem] theorem qeW:OE qDV.eq_1:=OEM qDV.eq_1
def qDW:List qB:=[oM 0 66 0,oU 1 67 5,oX 2 68 5 2,oP 3 69 (.build (.agg [.int .i64 0,.int .i64 0,.nils,.int .i64 0,.int .i64 0,.nils,.nils,.nils]) [(0,1,.c (.int .i64 6)),(2,1,.t 68)]),oD2 4 70 1156 66 69]
@[go_sem] theorem qeX:OE qDW.eq_1:=OEM qDW.eq_1
def qDX:List qB:=[oM 0 73 0,oU 1 74 3,oX 2 75 3 0,oU 3 76 5,oX 4 77 5 1,oA 5 78 4 75 77,oP 6 79 (.load (some 4) (.t 78)),oP 7 80 (.build (.agg [.int .i64 0,.int .i64 0,.nils,.nils,.nils]) [(0,4,.t 79)]),oK 8 81 73,oF 9 82 0 81,oT 10 5 82 80]
@[go_sem] theorem qeY:OE qDX.eq_1:=OEM qDX.eq_1
def qDY:List qB:=[oM 0 13 0,oY 1 14 5 0 4,oD2 2 15 1160 13 14,oM 3 4 15]
@[go_sem] theorem qeZ:OE qDY.eq_1:=OEM qDY.eq_1
def qDO:qG:=sr [oE 0 65 .eql 12 10,oM 1 64 65] (.cond (.t 64) (.reg true qDW) (sr [oE 0 72 .eql 12 11,oM 1 71 72] (.cond (.t 71) (sr qDX (sr [oC 0 4 7] .ret)) (sr qDY .ret))))
@[go_sem] theorem qeP:CE qDO.eq_1:=CEM qDO.eq_1
def qDP:qG:=.cond (.t 29) (.reg true qDT) (sr [oE 0 41 .eql 12 3,oM 1 40 41] (.cond (.t 40) (.reg true qDU) (sr [oE 0 58 .eql 12 9,oM 1 57 58] (.cond (.t 57) (.reg true qDV) qDO))))
@[go_sem] theorem qeQ:CE qDP.eq_1:=CEM qDP.eq_1
def qDN:qG:=sr [oU 0 11 5,oX 1 12 5 0] (.blk 0 (sr [oE 0 17 .eql 12 1,oM 1 16 17] (.cond (.t 16) (sr qDR .ret) (sr [oE 0 30 .eql 12 5,oM 1 29 30] qDP))))
@[go_sem] theorem qeO:CE qDN.eq_1:=CEM qDN.eq_1
def qDS:List qB:=[oM 0 83 0,oU 1 84 5,oX 2 85 5 3,oP 3 86 (.iaddr 4 (.t 85) (.c (.int .i64 0))),oP 4 87 (.load (some 4) (.t 86)),oD2 5 88 1161 83 87]
@[go_sem] theorem qeS:OE qDS.eq_1:=OEM qDS.eq_1
def YD:qJ:=⟨2,89,[.t 4],sr [oP 0 3 (.lbox 1 (.t 1)),oC 1 4 0] (sr qDQ (.seq qDN (sr qDS (sr [oC 0 4 1] .ret))))⟩
def kZ:List qB:=[oM 0 9 0,oK 1 10 9,oF 2 11 0 10,oP 3 12 (.load (some 5) (.t 11)),oD1 4 13 673 12]
@[go_sem] theorem qZR:OE kZ.eq_1:=OEM kZ.eq_1
def ka:List qB:=[oM 0 16 0,oY 1 17 3 0 1,oD2 2 18 830 16 17,oM 3 6 18]
@[go_sem] theorem qZS:OE ka.eq_1:=OEM ka.eq_1
def kb:List qB:=[oM 0 23 0,oK 1 24 23,oF 2 25 6 24,oL 3 26 25,oW 4 27 26,oE 5 28 .gtr 27 2000,oM 6 29 28,oH 7 30 29 false 0,oG 8 31 29 false (.nilchk (.t 30)),oG 9 32 29 false (.faddr 5 (.t 31)),oG 10 33 29 false (.load none (.t 32)),oG 11 34 29 false (.len (.t 33)),oG 12 35 29 false (.bin .gtr (.t 34) (.c (.int .i64 400))),oPt 13 36 29 35,oM 14 37 36,oH 15 38 37 false 0,oG 16 39 37 false (.nilchk (.t 38)),oG 17 40 37 false (.faddr 0 (.t 39)),oG 18 41 37 false (.faddr 4 (.t 40)),oG 19 42 37 false (.load none (.t 41)),oG 20 43 37 false (.len (.t 42)),oG 21 44 37 false (.bin .gtr (.t 43) (.c (.int .i64 256))),oPt 22 45 37 44,oM 23 22 45]
@[go_sem] theorem qZT:OE kb.eq_1:=OEM kb.eq_1
def kX:qG:=sr [oM 0 20 6,oE 1 21 .eql 20 0,oM 2 19 21] (.cond (.t 19) (sr [oC 0 4 0,oC 1 5 5] .ret) (sr kb (.cond (.t 22) (sr [oC 0 4 0,oC 1 5 4] .ret) .skip)))
@[go_sem] theorem qZP:CE kX.eq_1:=CEM kX.eq_1
def kY:qG:=.seq (sr kZ (.cond (.t 13) (.reg true [oM 0 14 0,oD1 1 15 829 14,oM 2 6 15]) (.reg true ka))) (.seq (.blk 0 kX) (sr [oM 0 46 6,oM 1 4 46,oC 2 5 0] .ret))
@[go_sem] theorem qZQ:CE kY.eq_1:=CEM kY.eq_1
def XJ:qJ:=⟨2,47,[.t 4,.t 5],sr [oP 0 3 (.lbox 1 (.t 1)),oC 1 4 0,oC 2 5 0] (.seq (sr [oM 0 7 0,oD1 1 8 670 7] (.cond (.t 8) (sr [oC 0 4 0,oC 1 5 3] .ret) .skip)) (sr [oC 0 6 0] kY))⟩
def kt:List qB:=[oM 0 13 0,oK 1 14 13,oF 2 15 1 14,oL 3 16 15,oE 4 17 .eql 16 0]
@[go_sem] theorem qZ1:OE kt.eq_1:=OEM kt.eq_1
def ku:List qB:=[oM 0 19 2,oY 1 20 4 0 1,oD2 2 21 466 19 20,oM 3 18 21,oV 4 22 18 0,oV 5 23 18 1,oM 6 7 22,oM 7 8 23]
@[go_sem] theorem qZ2:OE ku.eq_1:=OEM ku.eq_1
def kw:List qB:=[oM 0 27 0,oK 1 28 27,oF 2 29 1 28,oL 3 30 29,oE 4 31 .sub 30 1,oK 5 32 27,oF 6 33 1 32,oT 7 1 33 31]
@[go_sem] theorem qZ3:OE kw.eq_1:=OEM kw.eq_1
def kx:List qB:=[oP 0 34 (.bslice 1 (.int .i64 0) 4 [(0,.c (.int .i64 4)),(1,.c (.int .i64 5)),(2,.c (.int .i64 6)),(3,.c (.int .i64 7))]),oM 1 35 7,oD2 2 36 834 34 35,oM 3 9 36]
@[go_sem] theorem qZ4:OE kx.eq_1:=OEM kx.eq_1
def kz:List qB:=[oM 0 39 0,oK 1 40 39,oF 2 41 0 40,oL 3 42 41,oM 4 43 9,oA 5 44 1 42 43,oL 6 45 44,oE 7 46 .add 45 1,oA 8 47 1 42 43,oT 9 1 47 46]
@[go_sem] theorem qZ5:OE kz.eq_1:=OEM kz.eq_1
def XM:qG:=.seq (sr [oM 0 24 8,oE 1 25 .neq 24 0] (.cond (.t 25) (sr [oM 0 26 8,oM 1 6 26] .ret) .skip)) (sr kw (sr kx (sr [oM 0 37 9,oE 1 38 .geq 37 0] (.cond (.t 38) (.reg true kz) .skip))))
@[go_sem] theorem qZZ:CE XM.eq_1:=CEM XM.eq_1
def kq:qG:=.loop (.seq (sr [oM 0 10 2,oD1 1 11 670 10,oJ 2 12 11] (.cond (.t 12) .skip (.exit 0))) (.blk 1 (.seq (sr kt (.cond (.t 17) (sr [oC 0 6 12] .ret) .skip)) (sr ku XM))))
@[go_sem] theorem qZ0:CE kq.eq_1:=CEM kq.eq_1
def XL:qJ:=⟨3,48,[.t 6],sr [oP 0 4 (.lbox 1 (.t 1)),oC 1 6 0] (.seq (.blk 0 kq) (sr [oC 0 6 0] .ret))⟩
def Kx:List qB:=[oM 0 19 4,oK 1 20 19,oL 2 21 20,oE 3 22 .add 21 1,oK 4 23 19,oT 5 1 23 22]
@[go_sem] theorem qYK:OE Kx.eq_1:=OEM Kx.eq_1
def Ky:List qB:=[oM 0 24 4,oK 1 25 24,oL 2 26 25,oE 3 27 .gtr 26 400,oM 4 28 27,oH 5 29 28 false 3,oG 6 30 28 false (.bin .gtr (.t 29) (.c (.int .i64 80))),oPt 7 31 28 30]
@[go_sem] theorem qYO:OE Ky.eq_1:=OEM Ky.eq_1
def Kz:List qB:=[oM 0 33 0,oY 1 34 6 0 1,oM 2 35 2,oP 3 36 (.call 478 [.t 33,.t 34,.t 35]),oM 4 12 36]
@[go_sem] theorem qYP:OE Kz.eq_1:=OEM Kz.eq_1
def K0:List qB:=[oP 0 39 (.build (.agg [.int .i64 0,.int .i64 0,.nils,.nils]) []),oM 1 40 12,oS 2 10 0 4 39,oM 3 11 40]
@[go_sem] theorem qYQ:OE K0.eq_1:=OEM K0.eq_1
def W5:List qB:=[oM 0 41 2,oK 1 42 41,oF 2 43 0 42,oP 3 44 (.load (some 5) (.t 43)),oP 4 13 (.lalloc (.agg [.int .i64 0,.int .i64 0,.nils,.nils,.nils])),oS 5 13 0 5 44]
@[go_sem] theorem qYR:OE W5.eq_1:=OEM W5.eq_1
def W6:List qB:=[oU 0 53 13,oU 1 54 13,oX 2 55 13 1,oD1 3 56 726 55,oS 4 10 0 4 56,oC 5 11 0]
@[go_sem] theorem qYS:OE W6.eq_1:=OEM W6.eq_1
def J0:qG:=sr [oE 0 49 .eql 47 4,oM 1 48 49] (.cond (.t 48) (sr [oP 0 50 (.build (.agg [.int .i64 0,.int .i64 0,.nils,.nils]) []),oS 1 10 0 4 50,oC 2 11 5] .ret) (sr [oE 0 52 .eql 47 2,oM 1 51 52] (.cond (.t 51) (sr W6 .ret) .skip)))
@[go_sem] theorem qYJ:CE J0.eq_1:=CEM J0.eq_1
def W7:List qB:=[oU 0 57 13,oU 1 58 13,oX 2 59 13 1,oP 3 60 (.build (.agg [.int .i64 0,.int .i64 0,.nils,.nils]) [(0,1,.c (.int .i64 8)),(1,1,.t 59)]),oZ 4 14,oS 5 14 0 4 60]
@[go_sem] theorem qYT:OE W7.eq_1:=OEM W7.eq_1
def W8:List qB:=[oU 0 61 13,oX 1 62 13 4,oW 2 63 62,oC 3 64 0]
@[go_sem] theorem qYU:OE W8.eq_1:=OEM W8.eq_1
def W9:List qB:=[oM 0 68 2,oP 1 69 (.call 727 [.c (.int .i64 0)]),oM 2 70 16,oP 3 71 (.bslice 1 (.int .i64 0) 1 [(0,.t 70)]),oP 4 72 (.build (.agg [.int .i64 0,.int .i64 0,.nils,.nils,.nils]) [(0,4,.t 69),(4,1,.t 71)]),oK 5 73 68,oF 6 74 0 73,oT 7 5 74 72]
@[go_sem] theorem qYV:OE W9.eq_1:=OEM W9.eq_1
def Wz:List qB:=[oM 0 76 0,oY 1 77 6 0 1,oM 2 78 2,oM 3 79 3,oE 4 80 .add 79 1,oM 5 81 4,oP 6 82 (.call 345 [.t 76,.t 77,.t 78,.t 80,.t 81]),oM 7 75 82,oV 8 83 75 0,oV 9 84 75 1,oZ 10 17,oS 11 17 0 4 83,oM 12 18 84]
@[go_sem] theorem qYL:OE Wz.eq_1:=OEM Wz.eq_1
def W0:List qB:=[oP 0 87 (.build (.agg [.int .i64 0,.int .i64 0,.nils,.nils]) []),oM 1 88 18,oS 2 10 0 4 87,oM 3 11 88]
@[go_sem] theorem qYM:OE W0.eq_1:=OEM W0.eq_1
def W4:List qB:=[oU 0 89 14,oX 1 90 14 3,oY 2 91 17 0 4,oP 3 92 (.bslice 4 (.agg [.int .i64 0,.int .i64 0,.nils,.nils]) 1 [(0,.t 91)]),oP 4 93 (.app 4 (.t 90) (.t 92)),oU 5 94 14,oS 6 14 3 1 93]
@[go_sem] theorem qYN:OE W4.eq_1:=OEM W4.eq_1
def Wx:qG:=sr [oA 0 66 1 62 64,oL 1 67 66,oM 2 16 67] (sr W9 (sr Wz (.seq (sr [oM 0 85 18,oE 1 86 .neq 85 0] (.cond (.t 86) (sr W0 .ret) .skip)) (.reg true W4))))
@[go_sem] theorem qYG:CE Wx.eq_1:=CEM Wx.eq_1
def Wy:qG:=.seq (sr W8 (.blk 1 (.loop (sr [oB 0 65 .lss 64 63] (.seq (.cond (.t 65) .skip (.exit 1)) (.seq (.blk 2 Wx) (.reg true [oE 0 95 .add 64 1,oM 1 64 95]))))))) (sr [oY 0 96 14 0 4,oS 1 10 0 4 96,oC 2 11 0] .ret)
@[go_sem] theorem qYH:CE Wy.eq_1:=CEM Wy.eq_1
def Kw:qG:=.seq (sr Kz (sr [oM 0 37 12,oE 1 38 .neq 37 0] (.cond (.t 38) (sr K0 .ret) .skip))) (sr W5 (.seq (sr [oU 0 45 13,oU 1 46 13,oX 2 47 13 0] (.blk 0 J0)) (sr W7 Wy)))
@[go_sem] theorem qYI:CE Kw.eq_1:=CEM Kw.eq_1
def ZD:qJ:=⟨5,97,[.l 10 (some 4),.t 11],sr [oP 0 6 (.lbox 1 (.t 1)),oZ 1 10,oC 2 11 0] (sr Kx (.seq (sr Ky (.cond (.t 31) (sr [oP 0 32 (.build (.agg [.int .i64 0,.int .i64 0,.nils,.nils]) []),oS 1 10 0 4 32,oC 2 11 4] .ret) .skip)) Kw))⟩
def qEA:List qB:=[oP 0 3 (.lbox 1 (.t 0)),oP 1 4 (.lbox 4 (.t 1)),oZ 2 6,oP 3 7 (.mov (.c (.nils))),oC 4 8 0]
@[go_sem] theorem qfC:OE qEA.eq_1:=OEM qEA.eq_1
def qEB:List qB:=[oY 0 15 3 0 1,oY 1 16 4 0 4,oD2 2 17 343 15 16,oM 3 14 17,oV 4 18 14 0,oV 5 19 14 1,oP 6 9 (.halloc 7 (.agg [.int .i64 0,.int .i64 0,.nils,.nils,.nils,.nils,.nils])),oT 7 7 9 18,oM 8 10 19]
@[go_sem] theorem qfD:OE qEB.eq_1:=OEM qEB.eq_1
def qEC:List qB:=[oP 0 22 (.build (.agg [.int .i64 0,.int .i64 0,.nils,.nils]) []),oM 1 23 10,oS 2 6 0 4 22,oP 3 7 (.mov (.c (.nils))),oM 4 8 23]
@[go_sem] theorem qfE:OE qEC.eq_1:=OEM qEC.eq_1
def qED:List qB:=[oP 0 27 (.build (.agg [.int .i64 0,.int .i64 0,.nils,.nils]) []),oS 1 6 0 4 27,oP 2 7 (.mov (.c (.nils))),oC 3 8 2]
@[go_sem] theorem qfF:OE qED.eq_1:=OEM qED.eq_1
def qEE:List qB:=[oP 0 28 (.mksl 1 (.int .i64 0) (.c (.int .i64 4)) (.c (.int .i64 4))),oM 1 29 2,oP 2 30 (.build (.agg [.nils,.int .i64 0]) [(0,1,.t 28),(1,1,.t 29)]),oP 3 31 (.hbox 2 (.t 30)),oM 4 11 31]
@[go_sem] theorem qfG:OE qEE.eq_1:=OEM qEE.eq_1
def qEF:List qB:=[oM 0 33 11,oY 1 34 3 0 1,oP 2 35 (.call 345 [.t 33,.t 34,.t 9,.c (.int .i64 1),.t 12]),oM 3 32 35,oV 4 36 32 0,oV 5 37 32 1,oZ 6 13,oS 7 13 0 4 36,oM 8 10 37]
@[go_sem] theorem qfH:OE qEF.eq_1:=OEM qEF.eq_1
def qEG:List qB:=[oP 0 40 (.build (.agg [.int .i64 0,.int .i64 0,.nils,.nils]) []),oM 1 41 10,oS 2 6 0 4 40,oP 3 7 (.mov (.c (.nils))),oM 4 8 41]
@[go_sem] theorem qfI:OE qEG.eq_1:=OEM qEG.eq_1
def YH:List qB:=[oY 0 42 13 0 4,oM 1 43 11,oK 2 44 43,oF 3 45 0 44,oL 4 46 45,oS 5 6 0 4 42,oM 6 7 46,oC 7 8 0]
@[go_sem] theorem qfJ:OE YH.eq_1:=OEM YH.eq_1
def qD9:qG:=sr [oP 0 12 (.halloc 1 (.int .i64 0)),oN 1 (.store 1 (.t 12) (.c (.int .i64 0)))] (sr qEF (.seq (sr [oM 0 38 10,oE 1 39 .neq 38 0] (.cond (.t 39) (sr qEG .ret) .skip)) (sr YH .ret)))
@[go_sem] theorem qfA:CE qD9.eq_1:=CEM qD9.eq_1
def ZF:qG:=.seq (sr [oM 0 20 10,oE 1 21 .neq 20 0] (.cond (.t 21) (sr qEC .ret) .skip)) (.seq (sr [oM 0 24 2,oD1 1 25 344 24,oJ 2 26 25] (.cond (.t 26) (sr qED .ret) .skip)) (sr qEE qD9))
@[go_sem] theorem qfB:CE ZF.eq_1:=CEM ZF.eq_1
def F84:qJ:=⟨3,47,[.l 6 (some 4),.t 7,.t 8],sr qEA (sr qEB ZF)⟩
def qAQ:List qB:=[oY 0 22 3 0 1,oM 1 23 7,oD2 2 24 79 22 23,oM 3 7 24]
@[go_sem] theorem qaO:OE qAQ.eq_1:=OEM qAQ.eq_1
def qAR:List qB:=[oY 0 27 4 0 4,oM 1 28 7,oD2 2 29 80 27 28,oM 3 7 29]
@[go_sem] theorem qaZ:OE qAR.eq_1:=OEM qAR.eq_1
def qA2:List qB:=[oY 0 33 3 0 1,oY 2 35 4 0 4,oM 4 37 2,oZ 10 8,oD1 1 34 82 33,oD1 3 36 83 35,oP 5 38 (.call 81 [.t 34,.t 36,.t 37]),oM 6 32 38,oV 7 39 32 0,oV 8 40 32 1,oV 9 41 32 2,oS 11 8 0 4 39,oM 12 9 40,oM 13 10 41]
@[go_sem] theorem qa0:OE qA2.eq_1:=OEM qA2.eq_1
def qA3:List qB:=[oY 0 42 3 0 1,oD1 1 43 82 42,oP 2 11 (.lalloc (.agg [.nils])),oS 3 11 0 1 43]
@[go_sem] theorem qa1:OE qA3.eq_1:=OEM qA3.eq_1
def qA4:List qB:=[oY 0 44 4 0 4,oD1 1 45 83 44,oZ 2 12,oS 3 12 0 4 45]
@[go_sem] theorem qa2:OE qA4.eq_1:=OEM qA4.eq_1
def qA5:List qB:=[oY 0 47 11 0 1,oY 1 48 12 0 4,oM 2 49 2,oP 3 50 (.call 84 [.t 47,.t 48,.t 49]),oM 4 46 50,oV 5 51 46 0,oV 6 52 46 1,oV 7 53 46 2,oZ 8 13,oS 9 13 0 4 51,oM 10 14 52,oM 11 15 53]
@[go_sem] theorem qa3:OE qA5.eq_1:=OEM qA5.eq_1
def qA6:List qB:=[oY 0 54 13 0 4,oY 1 55 8 0 4,oD2 2 56 85 54 55,oJ 3 57 56,oM 4 58 57,oH 5 59 58 false 14,oH 6 60 58 false 9,oG 7 61 58 false (.call 86 [.t 59,.t 60]),oG 8 62 58 false (.not (.t 61)),oPt 9 63 58 62,oM 10 64 63,oH 11 65 64 false 15,oH 12 66 64 false 10,oG 13 67 64 false (.bin .neq (.t 65) (.t 66)),oPt 14 68 64 67]
@[go_sem] theorem qa4:OE qA6.eq_1:=OEM qA6.eq_1
def qA7:List qB:=[oY 0 69 11 0 1,oY 1 70 3 0 1,oD1 2 71 82 70,oD2 3 72 87 69 71,oJ 4 73 72]
@[go_sem] theorem qa5:OE qA7.eq_1:=OEM qA7.eq_1
def qA8:List qB:=[oY 0 74 12 0 4,oY 1 75 4 0 4,oD1 2 76 83 75,oD2 3 77 85 74 76,oJ 4 78 77]
@[go_sem] theorem qa6:OE qA8.eq_1:=OEM qA8.eq_1
def qA9:List qB:=[oY 0 79 11 0 1,oM 1 80 16,oD2 2 81 88 79 80,oM 3 16 81]
@[go_sem] theorem qa7:OE qA9.eq_1:=OEM qA9.eq_1
def qAS:List qB:=[oY 0 82 12 0 4,oM 1 83 16,oD2 2 84 89 82 83,oM 3 16 84]
@[go_sem] theorem qaP:OE qAS.eq_1:=OEM qAS.eq_1
def qAT:List qB:=[oM 0 85 16,oE 1 86 .lss 85 0,oM 2 87 86,oG 3 88 87 false (.lload 13 0 (some 4)),oG 4 89 87 false (.lload 8 0 (some 4)),oG 5 90 87 false (.call 85 [.t 88,.t 89]),oG 6 91 87 false (.not (.t 90)),oPt 7 92 87 91,oM 8 93 92,oH 9 94 93 false 14,oH 10 95 93 false 9,oG 11 96 93 false (.call 86 [.t 94,.t 95]),oG 12 97 93 false (.not (.t 96)),oPt 13 98 93 97,oM 14 99 98,oH 15 100 99 false 15,oH 16 101 99 false 10,oG 17 102 99 false (.bin .neq (.t 100) (.t 101)),oPt 18 103 99 102]
@[go_sem] theorem qaQ:OE qAT.eq_1:=OEM qAT.eq_1
def qAU:List qB:=[oY 0 104 13 0 4,oM 1 105 17,oD2 2 106 89 104 105,oM 3 17 106]
@[go_sem] theorem qaR:OE qAU.eq_1:=OEM qAU.eq_1
def qAV:List qB:=[oM 0 107 14,oM 1 108 17,oD2 2 109 90 107 108,oM 3 17 109]
@[go_sem] theorem qaS:OE qAV.eq_1:=OEM qAV.eq_1
def qAW:List qB:=[oY 0 110 13 0 4,oM 1 111 18,oD2 2 112 91 110 111,oM 3 18 112]
@[go_sem] theorem qaT:OE qAW.eq_1:=OEM qAW.eq_1
def qAX:List qB:=[oM 0 115 14,oM 1 116 18,oD2 2 117 92 115 116,oM 3 18 117]
@[go_sem] theorem qaU:OE qAX.eq_1:=OEM qAX.eq_1
def qAY:List qB:=[oY 0 124 3 0 1,oY 2 126 4 0 4,oM 4 128 2,oZ 10 19,oD1 1 125 82 124,oD1 3 127 83 126,oP 5 129 (.call 84 [.t 125,.t 127,.t 128]),oM 6 123 129,oV 7 130 123 0,oV 8 131 123 1,oV 9 132 123 2,oS 11 19 0 4 130,oM 12 20 131,oM 13 21 132]
@[go_sem] theorem qaV:OE qAY.eq_1:=OEM qAY.eq_1
def qAZ:List qB:=[oY 0 133 19 0 4,oY 1 134 8 0 4,oD2 2 135 85 133 134,oJ 3 136 135,oM 4 137 136,oH 5 138 137 false 20,oH 6 139 137 false 9,oG 7 140 137 false (.call 86 [.t 138,.t 139]),oG 8 141 137 false (.not (.t 140)),oPt 9 142 137 141,oM 10 143 142,oH 11 144 143 false 21,oH 12 145 143 false 10,oG 13 146 143 false (.bin .neq (.t 144) (.t 145)),oPt 14 147 143 146]
@[go_sem] theorem qaW:OE qAZ.eq_1:=OEM qAZ.eq_1
def qA0:List qB:=[oY 0 148 13 0 4,oM 1 149 18,oD2 2 150 91 148 149,oM 3 18 150]
@[go_sem] theorem qaX:OE qA0.eq_1:=OEM qA0.eq_1
def qA1:List qB:=[oM 0 153 14,oM 1 154 18,oD2 2 155 92 153 154,oM 3 18 155]
@[go_sem] theorem qaY:OE qA1.eq_1:=OEM qA1.eq_1
def qAI:qG:=.seq (sr [oM 0 156 18,oE 1 157 .lss 156 0] (.cond (.t 157) (sr [oQ 0 6 false] .ret) .skip)) (.seq (sr [oM 0 158 18,oM 1 159 17,oB 2 160 .neq 158 159] (.cond (.t 160) (sr [oQ 0 6 false] .ret) .skip)) (sr [oQ 0 6 true] .ret))
@[go_sem] theorem qaG:CE qAI.eq_1:=CEM qAI.eq_1
def qAJ:qG:=sr [oC 0 18 1] (sr qA0 (.seq (sr [oM 0 151 18,oE 1 152 .lss 151 0] (.cond (.t 152) (sr [oQ 0 6 false] .ret) .skip)) (sr qA1 qAI)))
@[go_sem] theorem qaH:CE qAJ.eq_1:=CEM qAJ.eq_1
def qAK:qG:=.seq (sr [oM 0 120 18,oM 1 121 17,oB 2 122 .neq 120 121] (.cond (.t 122) (sr [oQ 0 6 false] .ret) .skip)) (sr qAY (.seq (sr qAZ (.cond (.t 147) (sr [oQ 0 6 false] .ret) .skip)) qAJ))
@[go_sem] theorem qaI:CE qAK.eq_1:=CEM qAK.eq_1
def qAL:qG:=.seq (sr [oM 0 113 18,oE 1 114 .lss 113 0] (.cond (.t 114) (sr [oQ 0 6 false] .ret) .skip)) (sr qAX (.seq (sr [oM 0 118 18,oE 1 119 .lss 118 0] (.cond (.t 119) (sr [oQ 0 6 false] .ret) .skip)) qAK))
@[go_sem] theorem qaJ:CE qAL.eq_1:=CEM qAL.eq_1
def qAM:qG:=.seq (sr qAT (.cond (.t 103) (sr [oQ 0 6 false] .ret) .skip)) (sr [oC 0 17 1] (sr qAU (sr qAV (sr [oC 0 18 1] (sr qAW qAL)))))
@[go_sem] theorem qaK:CE qAM.eq_1:=CEM qAM.eq_1
def qAN:qG:=.seq (sr qA7 (.cond (.t 73) (sr [oQ 0 6 false] .ret) .skip)) (.seq (sr qA8 (.cond (.t 78) (sr [oQ 0 6 false] .ret) .skip)) (sr [oC 0 16 1] (sr qA9 (sr qAS qAM))))
@[go_sem] theorem qaL:CE qAN.eq_1:=CEM qAN.eq_1
def qAO:qG:=.seq (sr [oM 0 30 7,oE 1 31 .lss 30 0] (.cond (.t 31) (sr [oQ 0 6 true] .ret) .skip)) (sr qA2 (sr qA3 (sr qA4 (sr qA5 (.seq (sr qA6 (.cond (.t 68) (sr [oQ 0 6 false] .ret) .skip)) qAN)))))
@[go_sem] theorem qaM:CE qAO.eq_1:=CEM qAO.eq_1
def qAP:qG:=sr [oC 0 7 1048576] (sr qAQ (.seq (sr [oM 0 25 7,oE 1 26 .lss 25 0] (.cond (.t 26) (sr [oQ 0 6 true] .ret) .skip)) (sr qAR qAO)))
@[go_sem] theorem qaN:CE qAP.eq_1:=CEM qAP.eq_1
def F5:qJ:=⟨3,161,[.t 6],sr [oP 0 3 (.lbox 1 (.t 0)),oP 1 4 (.lbox 4 (.t 1)),oQ 2 6 false] qAP⟩
def tabm:List (Nat×qJ):=[(338,Kk),(80,F80),(337,Kj),(79,F79),(147,Kh),(83,F83),(342,Kr),(82,F82),(86,F86),(346,K1),(85,F85),(87,F87),(340,Wi),(1023,Z3),(1024,Z4),(643,XX),(642,XW),(1129,WD),(878,YJ),(519,XP),(725,Xd),(579,XS),(381,XC),(1125,WA),(1126,WB),(762,Xg),(382,XD),(1127,WC),(401,kR),(385,XF),(774,F774),(397,kQ),(958,F958),(581,F581),(665,XY),(495,XN),(796,Xk),(1050,Z6),(1051,Z7),(1402,We),(1130,WE),(770,Xh),(391,XG),(566,XR),(1193,Wc),(880,YK),(521,XQ),(993,YL),(615,XU),(1169,Wb),(1168,Wa),(847,YG),(851,YI),(498,XO),(834,YF),(726,ZE),(1400,Wd),(1118,Z8),(1120,Z9),(90,F90),(347,XA),(88,F88),(89,F89),(92,F92),(348,XB),(91,F91),(724,Xc),(339,Wh),(1149,WH),(822,Xm),(459,XH),(1150,WI),(1151,WJ),(612,XT),(1152,WK),(1153,KE),(1405,Wf),(1154,WL),(824,Xn),(461,XI),(833,YE),(477,XK),(341,Q7),(81,F81),(616,XV),(259,Wg),(1045,Z5),(671,Xa),(757,Xf),(383,XE),(343,Wv),(344,Ww),(673,Xb),(670,XZ),(1138,WG),(786,Xi),(1155,Q5),(1156,Q6),(1406,qHN),(1157,WV),(829,X0),(1158,WW),(1159,WX),(727,Xe),(1160,WY),(1161,WZ),(830,YD),(466,XJ),(478,XL),(345,ZD),(84,F84),(5,F5)]
def Gm (g:Nat):Option AFn:=JD g tabm
theorem g338:Gm 338=some (.fn Kk):=by kernel_rfl
theorem g80:Gm 80=some (.fn F80):=by kernel_rfl
theorem g337:Gm 337=some (.fn Kj):=by kernel_rfl
theorem g79:Gm 79=some (.fn F79):=by kernel_rfl
theorem g147:Gm 147=some (.fn Kh):=by kernel_rfl
theorem g83:Gm 83=some (.fn F83):=by kernel_rfl
theorem Yz:Gm 342=some (.fn Kr):=by kernel_rfl
theorem g82:Gm 82=some (.fn F82):=by kernel_rfl
theorem g86:Gm 86=some (.fn F86):=by kernel_rfl
theorem g346:Gm 346=some (.fn K1):=by kernel_rfl
theorem g85:Gm 85=some (.fn F85):=by kernel_rfl
theorem g87:Gm 87=some (.fn F87):=by kernel_rfl
theorem g340:Gm 340=some (.fn Wi):=by kernel_rfl
theorem qO1:Gm 1023=some (.fn Z3):=by kernel_rfl
theorem qO2:Gm 1024=some (.fn Z4):=by kernel_rfl
theorem g643:Gm 643=some (.fn XX):=by kernel_rfl
theorem g642:Gm 642=some (.fn XW):=by kernel_rfl
theorem qPB:Gm 1129=some (.fn WD):=by kernel_rfl
theorem g878:Gm 878=some (.fn YJ):=by kernel_rfl
theorem g519:Gm 519=some (.fn XP):=by kernel_rfl
theorem g725:Gm 725=some (.fn Xd):=by kernel_rfl
theorem g579:Gm 579=some (.fn XS):=by kernel_rfl
theorem g381:Gm 381=some (.fn XC):=by kernel_rfl
theorem qO8:Gm 1125=some (.fn WA):=by kernel_rfl
theorem qO9:Gm 1126=some (.fn WB):=by kernel_rfl
theorem g762:Gm 762=some (.fn Xg):=by kernel_rfl
theorem g382:Gm 382=some (.fn XD):=by kernel_rfl
theorem qPA:Gm 1127=some (.fn WC):=by kernel_rfl
theorem g401:Gm 401=some (.fn kR):=by kernel_rfl
theorem g385:Gm 385=some (.fn XF):=by kernel_rfl
theorem g774:Gm 774=some (.fn F774):=by kernel_rfl
theorem g397:Gm 397=some (.fn kQ):=by kernel_rfl
theorem g958:Gm 958=some (.fn F958):=by kernel_rfl
theorem g581:Gm 581=some (.fn F581):=by kernel_rfl
theorem g665:Gm 665=some (.fn XY):=by kernel_rfl
theorem g495:Gm 495=some (.fn XN):=by kernel_rfl
theorem g796:Gm 796=some (.fn Xk):=by kernel_rfl
theorem qO4:Gm 1050=some (.fn Z6):=by kernel_rfl
theorem qO5:Gm 1051=some (.fn Z7):=by kernel_rfl
theorem qPT:Gm 1402=some (.fn We):=by kernel_rfl
theorem qPC:Gm 1130=some (.fn WE):=by kernel_rfl
theorem g770:Gm 770=some (.fn Xh):=by kernel_rfl
theorem g391:Gm 391=some (.fn XG):=by kernel_rfl
theorem g566:Gm 566=some (.fn XR):=by kernel_rfl
theorem qPR:Gm 1193=some (.fn Wc):=by kernel_rfl
theorem g880:Gm 880=some (.fn YK):=by kernel_rfl
theorem g521:Gm 521=some (.fn XQ):=by kernel_rfl
theorem g993:Gm 993=some (.fn YL):=by kernel_rfl
theorem g615:Gm 615=some (.fn XU):=by kernel_rfl
theorem qPQ:Gm 1169=some (.fn Wb):=by kernel_rfl
theorem qPP:Gm 1168=some (.fn Wa):=by kernel_rfl
theorem g847:Gm 847=some (.fn YG):=by kernel_rfl
theorem g851:Gm 851=some (.fn YI):=by kernel_rfl
theorem g498:Gm 498=some (.fn XO):=by kernel_rfl
theorem g834:Gm 834=some (.fn YF):=by kernel_rfl
theorem g726:Gm 726=some (.fn ZE):=by kernel_rfl
theorem qPS:Gm 1400=some (.fn Wd):=by kernel_rfl
theorem qO6:Gm 1118=some (.fn Z8):=by kernel_rfl
theorem qO7:Gm 1120=some (.fn Z9):=by kernel_rfl
theorem g90:Gm 90=some (.fn F90):=by kernel_rfl
theorem g347:Gm 347=some (.fn XA):=by kernel_rfl
theorem g88:Gm 88=some (.fn F88):=by kernel_rfl
theorem g89:Gm 89=some (.fn F89):=by kernel_rfl
theorem g92:Gm 92=some (.fn F92):=by kernel_rfl
theorem g348:Gm 348=some (.fn XB):=by kernel_rfl
theorem g91:Gm 91=some (.fn F91):=by kernel_rfl
theorem g724:Gm 724=some (.fn Xc):=by kernel_rfl
theorem g339:Gm 339=some (.fn Wh):=by kernel_rfl
theorem qPE:Gm 1149=some (.fn WH):=by kernel_rfl
theorem g822:Gm 822=some (.fn Xm):=by kernel_rfl
theorem g459:Gm 459=some (.fn XH):=by kernel_rfl
theorem qPF:Gm 1150=some (.fn WI):=by kernel_rfl
theorem qPG:Gm 1151=some (.fn WJ):=by kernel_rfl
theorem g612:Gm 612=some (.fn XT):=by kernel_rfl
theorem qPH:Gm 1152=some (.fn WK):=by kernel_rfl
theorem qPI:Gm 1153=some (.fn KE):=by kernel_rfl
theorem qPU:Gm 1405=some (.fn Wf):=by kernel_rfl
theorem qPJ:Gm 1154=some (.fn WL):=by kernel_rfl
theorem g824:Gm 824=some (.fn Xn):=by kernel_rfl
theorem g461:Gm 461=some (.fn XI):=by kernel_rfl
theorem g833:Gm 833=some (.fn YE):=by kernel_rfl
theorem g477:Gm 477=some (.fn XK):=by kernel_rfl
theorem g341:Gm 341=some (.fn Q7):=by kernel_rfl
theorem g81:Gm 81=some (.fn F81):=by kernel_rfl
theorem g616:Gm 616=some (.fn XV):=by kernel_rfl
theorem g259:Gm 259=some (.fn Wg):=by kernel_rfl
theorem qO3:Gm 1045=some (.fn Z5):=by kernel_rfl
theorem g671:Gm 671=some (.fn Xa):=by kernel_rfl
theorem g757:Gm 757=some (.fn Xf):=by kernel_rfl
theorem g383:Gm 383=some (.fn XE):=by kernel_rfl
theorem g343:Gm 343=some (.fn Wv):=by kernel_rfl
theorem g344:Gm 344=some (.fn Ww):=by kernel_rfl
theorem g673:Gm 673=some (.fn Xb):=by kernel_rfl
theorem g670:Gm 670=some (.fn XZ):=by kernel_rfl
theorem qPD:Gm 1138=some (.fn WG):=by kernel_rfl
theorem g786:Gm 786=some (.fn Xi):=by kernel_rfl
theorem QQ:Gm 1155=some (.fn Q5):=by kernel_rfl
theorem JT:Gm 1156=some (.fn Q6):=by kernel_rfl
theorem qPK:Gm 1157=some (.fn WV):=by kernel_rfl
theorem g829:Gm 829=some (.fn X0):=by kernel_rfl
theorem qPL:Gm 1158=some (.fn WW):=by kernel_rfl
theorem qPM:Gm 1159=some (.fn WX):=by kernel_rfl
theorem g727:Gm 727=some (.fn Xe):=by kernel_rfl
theorem qPN:Gm 1160=some (.fn WY):=by kernel_rfl
theorem qPO:Gm 1161=some (.fn WZ):=by kernel_rfl
theorem g830:Gm 830=some (.fn YD):=by kernel_rfl
theorem g466:Gm 466=some (.fn XJ):=by kernel_rfl
theorem g478:Gm 478=some (.fn XL):=by kernel_rfl
theorem g345:Gm 345=some (.fn ZD):=by kernel_rfl
theorem g84:Gm 84=some (.fn F84):=by kernel_rfl
theorem g5:Gm 5=some (.fn F5):=by kernel_rfl
end Go.Ab
namespace Go.Ab
open Go
theorem Je {pre mid post:List AV} {j i:Nat} {x:AV} (hj:pre.length=j) (hx:mid[i]?=some x):(AV.agg (pre++(mid++post))).part (j+i) none=some x:=by
  show (pre++(mid++post))[j+i]?=some x;have hl:=(List.getElem?_eq_some_iff.1 hx).1;rw [List.getElem?_append_right (by omega),hj,Nat.add_sub_cancel_left,List.getElem?_append_left hl];exact hx
theorem qKR {pre mid post:List AV} {j k:Nat} (hj:pre.length=j) (hk:k≤mid.length):(AV.agg (pre++(mid++post))).part j (some k)=some (.agg (mid.take k)):=by
  subst hj;show (if pre.length+k≤(AV.agg (pre++(mid++post))).cells.length then some (AV.agg (((AV.agg (pre++(mid++post))).cells.drop pre.length).take k)) else none)=_;rw [if_pos (by simp [AV.cells];omega)];show some (AV.agg (((pre++(mid++post)).drop pre.length).take k))=_;rw [List.drop_append_of_le_length (Nat.le_refl _),List.drop_length,List.nil_append,List.take_append_of_le_length hk]
theorem qGU {pre a b c post:List AV} {v:AV} {j i n:Nat} (hj:pre.length=j) (hi:a.length=i) (hb:b.length=v.cells.length) (hn:n=j+i):(AV.agg (pre++((a++(b++c))++post))).put n v=some (.agg (pre++((a++(v.cells++c))++post))):=by
  subst hj hi hn;simp only [AV.put];rw [if_pos (by simp;omega)];congr 2;have e1:(pre++((a++(b++c))++post)).take (pre.length+a.length)=pre++a:=by
    rw [show pre++((a++(b++c))++post)=(pre++a)++(b++(c++post)) by simp];exact List.take_left' (by simp)
  have e2:(pre++((a++(b++c))++post)).drop (pre.length+a.length+v.cells.length)=c++post:=by
    rw [show pre++((a++(b++c))++post)=(pre++(a++b))++(c++post) by simp];exact List.drop_left' (by simp;omega)
  rw [e1,e2];simp
def Nec (M:qD) (si hi:Nat):List AV:=[.int .i64 M.Control.Term.Kind,.int .i64 M.Control.Term.Value,.lst 1 (M.Control.Term.Data.map qE) false,.lst 4 (M.Control.Term.Kids.map qA.enc) false,.lst 1 (M.Control.Env.map qE) false,
  .slice 8 si 0 M.Stack.length false,.slice 6 hi 0 M.Heap.length false]
structure NS (P:Nat→Prop) (w:Nat) (pre post:List AV) (id:Nat) (h:List qC) (M:qD) (si hi:Nat) (js:List AV):Prop where
  o:h[id]?=some (.row w [.agg (pre++(Nec M si hi++post))] true)
  s:h[si]?=some (.row 8 (M.Stack.map qR.enc++js) true)
  t:h[hi]?=some (.row 6 (M.Heap.map qT.enc) true)
  d1:id≠si
  d2:id≠hi
  d3:si≠hi
  p1:¬P id
  p2:¬P si
  p3:¬P hi
  pl:∀j,P j→j<h.length
def NSx (P:Nat→Prop) (w:Nat) (pre post:List AV) (id:Nat) (h:List qC) (M:qD):Prop:=∃si hi js,NS P w pre post id h M si hi js
def Keep (P:Nat→Prop) (h h':List qC):Prop:=h.length≤h'.length∧∀j,P j→h'[j]?=h[j]?
theorem Keep.refl {P:Nat→Prop} {h:List qC}:Keep P h h:=⟨Nat.le_refl _,fun _ _=>rfl⟩
theorem Keep.trans {P:Nat→Prop} {h h1 h2:List qC} (a:Keep P h h1) (b:Keep P h1 h2):Keep P h h2:=⟨Nat.le_trans a.1 b.1,fun j hj=>(b.2 j hj).trans (a.2 j hj)⟩
theorem Keep.sub {P Q:Nat→Prop} {h h':List qC} (a:Keep P h h') (hq:∀j,Q j→P j):Keep Q h h':=⟨a.1,fun j hj=>a.2 j (hq j hj)⟩
section
variable {P:Nat→Prop} {w:Nat} {pre post post':List AV} {id:Nat} {h:List qC} {M:qD} {si hi:Nat} {js:List AV}
theorem qi {α:Type} {xs:List α} {i:Nat} {x:α} (h:xs[i]?=some x):i<xs.length:=(List.getElem?_eq_some_iff.1 h).1
theorem NS.struct (hN:NS P w pre post id h M si hi js) {M':qD} {js':List AV} (hs:M'.Stack.map qR.enc++js'=M.Stack.map qR.enc++js) (ht:M'.Heap=M.Heap):
    NS P w pre post' id (h.set id (.row w [.agg (pre++(Nec M' si hi++post'))] true)) M' si hi js'∧Keep P h (h.set id (.row w [.agg (pre++(Nec M' si hi++post'))] true)):=by
  have hl:=qi hN.o;refine ⟨⟨by rw [List.getElem?_set,if_pos rfl,if_pos hl],by rw [List.getElem?_set_ne hN.d1,hs];exact hN.s,by rw [List.getElem?_set_ne hN.d2,ht];exact hN.t,hN.d1,hN.d2,hN.d3,hN.p1,hN.p2,hN.p3,by simpa using hN.pl⟩,by simp,fun j hj=> ?_⟩;rw [List.getElem?_set_ne];rintro rfl;exact hN.p1 hj
theorem NS.push (hN:NS P w pre post id h M si hi js) {M':qD} {x:qC} (ht:M'.Heap=M.Heap):
    NS P w pre post id ((((h++[x]).set si .dead)++[qC.row 8 (M'.Stack.map qR.enc) true]).set id (.row w [.agg (pre++(Nec M' (h.length+1) hi++post))] true)) M' (h.length+1) hi []∧
    Keep P h ((((h++[x]).set si .dead)++[qC.row 8 (M'.Stack.map qR.enc) true]).set id (.row w [.agg (pre++(Nec M' (h.length+1) hi++post))] true)):=by
  have hl:=qi hN.o;have hl2:=qi hN.s;have hl3:=qi hN.t;have old:∀j,j<h.length→j≠id→j≠si→((((h++[x]).set si .dead)++[qC.row 8 (M'.Stack.map qR.enc) true]).set id (.row w [.agg (pre++(Nec M' (h.length+1) hi++post))] true))[j]?=h[j]?:=fun j h1 h2 h3=>by
    rw [List.getElem?_set_ne (Ne.symm h2),List.getElem?_append_left (by simp;omega),List.getElem?_set_ne (Ne.symm h3),List.getElem?_append_left h1]
  refine ⟨⟨by rw [List.getElem?_set,if_pos rfl,if_pos (by simp;omega)], ?_,by rw [old hi hl3 (Ne.symm hN.d2) (Ne.symm hN.d3),ht];exact hN.t,by omega,hN.d2,by omega,hN.p1,fun hp=>by have:=hN.pl _ hp;omega,hN.p3,fun j hj=>by have:=hN.pl j hj;simp;omega⟩,by simp;omega,fun j hj=>old j (hN.pl j hj) ?_ ?_⟩
  · rw [List.getElem?_set_ne (by omega),List.getElem?_append_right (by simp)];simp
  · rintro rfl;exact hN.p1 hj
  · rintro rfl;exact hN.p2 hj
theorem NS.grow (hN:NS P w pre post id h M si hi js) {M':qD} {x:qC} (hs:M'.Stack=M.Stack):
    NS P w pre post id ((((h++[x]).set hi .dead)++[qC.row 6 (M'.Heap.map qT.enc) true]).set id (.row w [.agg (pre++(Nec M' si (h.length+1)++post))] true)) M' si (h.length+1) js∧
    Keep P h ((((h++[x]).set hi .dead)++[qC.row 6 (M'.Heap.map qT.enc) true]).set id (.row w [.agg (pre++(Nec M' si (h.length+1)++post))] true)):=by
  have hl:=qi hN.o;have hl2:=qi hN.s;have hl3:=qi hN.t;have old:∀j,j<h.length→j≠id→j≠hi→((((h++[x]).set hi .dead)++[qC.row 6 (M'.Heap.map qT.enc) true]).set id (.row w [.agg (pre++(Nec M' si (h.length+1)++post))] true))[j]?=h[j]?:=fun j h1 h2 h3=>by
    rw [List.getElem?_set_ne (Ne.symm h2),List.getElem?_append_left (by simp;omega),List.getElem?_set_ne (Ne.symm h3),List.getElem?_append_left h1]
  refine ⟨⟨by rw [List.getElem?_set,if_pos rfl,if_pos (by simp;omega)],by rw [old si hl2 (Ne.symm hN.d1) hN.d3,hs];exact hN.s, ?_,hN.d1,by omega,by omega,hN.p1,hN.p2,fun hp=>by have:=hN.pl _ hp;omega,fun j hj=>by have:=hN.pl j hj;simp;omega⟩,by simp;omega,fun j hj=>old j (hN.pl j hj) ?_ ?_⟩
  · rw [List.getElem?_set_ne (by omega),List.getElem?_append_right (by simp)];simp
  · rintro rfl;exact hN.p1 hj
  · rintro rfl;exact hN.p3 hj
theorem NS.cell (hN:NS P w pre post id h M si hi js) {M':qD} (hc:M'.Control=M.Control) (hs:M'.Stack=M.Stack) (hl:M'.Heap.length=M.Heap.length):
    NS P w pre post id (h.set hi (.row 6 (M'.Heap.map qT.enc) true)) M' si hi js∧Keep P h (h.set hi (.row 6 (M'.Heap.map qT.enc) true)):=by
  have hl3:=qi hN.t;have hn:Nec M' si hi=Nec M si hi:=by unfold Nec;rw [hc,hs,hl]
  refine ⟨⟨by rw [List.getElem?_set_ne (Ne.symm hN.d2),hn];exact hN.o,by rw [List.getElem?_set_ne (Ne.symm hN.d3),hs];exact hN.s,by rw [List.getElem?_set,if_pos rfl,if_pos hl3],hN.d1,hN.d2,hN.d3,hN.p1,hN.p2,hN.p3,by simpa using hN.pl⟩,by simp,fun j hj=> ?_⟩;rw [List.getElem?_set_ne];rintro rfl;exact hN.p3 hj
theorem NS.frame (hN:NS P w pre post id h M si hi js) {M':qD} (hc:M'.Control=M.Control) (ht:M'.Heap=M.Heap) (hl:M'.Stack.length=M.Stack.length):
    NS P w pre post id (h.set si (.row 8 (M'.Stack.map qR.enc++js) true)) M' si hi js∧Keep P h (h.set si (.row 8 (M'.Stack.map qR.enc++js) true)):=by
  have hl3:=qi hN.s;have hn:Nec M' si hi=Nec M si hi:=by unfold Nec;rw [hc,ht,hl]
  refine ⟨⟨by rw [List.getElem?_set_ne (Ne.symm hN.d1),hn];exact hN.o,by rw [List.getElem?_set,if_pos rfl,if_pos hl3],by rw [List.getElem?_set_ne hN.d3,ht];exact hN.t,hN.d1,hN.d2,hN.d3,hN.p1,hN.p2,hN.p3,by simpa using hN.pl⟩,by simp,fun j hj=> ?_⟩;rw [List.getElem?_set_ne];rintro rfl;exact hN.p2 hj
theorem NS.kp {Q:Nat→Prop} (hN:NS P w pre post id h M si hi js) (hq:∀j,Q j→P j):NS Q w pre post id h M si hi js:=
  ⟨hN.o,hN.s,hN.t,hN.d1,hN.d2,hN.d3,fun h=>hN.p1 (hq _ h),fun h=>hN.p2 (hq _ h),fun h=>hN.p3 (hq _ h),fun j hj=>hN.pl j (hq j hj)⟩
end
section
variable {e:AV} {pre post:List AV} {M:qD} {si hi j:Nat}
theorem ne0 (hj:pre.length=j):(AV.agg (pre++(Nec M si hi++post))).part j none=some (.int .i64 M.Control.Term.Kind):=Je (i:=0) hj rfl
theorem ne1 (hj:pre.length=j):(AV.agg (pre++(Nec M si hi++post))).part (j+1) none=some (.int .i64 M.Control.Term.Value):=Je hj rfl
theorem ne2 (hj:pre.length=j):(AV.agg (pre++(Nec M si hi++post))).part (j+2) none=some (.lst 1 (M.Control.Term.Data.map qE) false):=Je hj rfl
theorem ne3 (hj:pre.length=j):(AV.agg (pre++(Nec M si hi++post))).part (j+3) none=some (.lst 4 (M.Control.Term.Kids.map qA.enc) false):=Je hj rfl
theorem ne4 (hj:pre.length=j):(AV.agg (pre++(Nec M si hi++post))).part (j+4) none=some (.lst 1 (M.Control.Env.map qE) false):=Je hj rfl
theorem ne5 (hj:pre.length=j):(AV.agg (pre++(Nec M si hi++post))).part (j+5) none=some (.slice 8 si 0 M.Stack.length false):=Je hj rfl
theorem ne6 (hj:pre.length=j):(AV.agg (pre++(Nec M si hi++post))).part (j+6) none=some (.slice 6 hi 0 M.Heap.length false):=Je hj rfl
theorem neT (hj:pre.length=j):(AV.agg (pre++(Nec M si hi++post))).part j (some 4)=some M.Control.Term.enc:=by rw [qKR hj (by simp [Nec]),qA.enc_eq];rfl
theorem neC (hj:pre.length=j):(AV.agg (pre++(Nec M si hi++post))).part j (some 5)=some M.Control.enc:=by rw [qKR hj (by simp [Nec])];rfl
theorem Zk (hj:pre.length=j) {s':Nat} {n:Nat} {M':qD} (hc:M'.Control=M.Control) (hh:M'.Heap=M.Heap) (hn:n=M'.Stack.length):(AV.agg (pre++(Nec M si hi++post))).put (j+5) (.slice 8 s' 0 n false)=some (.agg (pre++(Nec M' s' hi++post))):=by
  subst hn;have:=qGU (pre:=pre) (post:=post) (v:=.slice 8 s' 0 M'.Stack.length false) (a:=(Nec M si hi).take 5) (b:=[.slice 8 si 0 M.Stack.length false]) (c:=[.slice 6 hi 0 M.Heap.length false]) (n:=j+5) hj rfl rfl rfl;rw [show Nec M' s' hi=(Nec M si hi).take 5++((AV.slice 8 s' 0 M'.Stack.length false).cells++[.slice 6 hi 0 M.Heap.length false]) by simp [Nec,hc,hh,AV.cells]];exact this
theorem qKD (hj:pre.length=j) {s':Nat} {n:Nat} {M':qD} (hc:M'.Control=M.Control) (hh:M'.Stack=M.Stack) (hn:n=M'.Heap.length):(AV.agg (pre++(Nec M si hi++post))).put (j+6) (.slice 6 s' 0 n false)=some (.agg (pre++(Nec M' si s'++post))):=by
  subst hn;have:=qGU (pre:=pre) (post:=post) (v:=.slice 6 s' 0 M'.Heap.length false) (a:=(Nec M si hi).take 6) (b:=[.slice 6 hi 0 M.Heap.length false]) (c:=[]) (n:=j+6) hj rfl rfl rfl;rw [show Nec M' si s'=(Nec M si hi).take 6++((AV.slice 6 s' 0 M'.Heap.length false).cells++[]) by simp [Nec,hc,hh,AV.cells]];exact this
theorem zg (hj:pre.length=j) {v:AV} (hv:v.cells.length=5):(AV.agg (pre++(Nec M si hi++post))).put j v=some (.agg (pre++((v.cells++[.slice 8 si 0 M.Stack.length false,.slice 6 hi 0 M.Heap.length false])++post))):=by
  have:=qGU (pre:=pre) (post:=post) (v:=v) (a:=[]) (b:=(Nec M si hi).take 5) (c:=[.slice 8 si 0 M.Stack.length false,.slice 6 hi 0 M.Heap.length false]) (n:=j) hj rfl (by rw [hv];rfl) rfl;exact this
end
end Go.Ab
namespace Go.Ab
open Go
set_option maxRecDepth 10000
theorem c338 (xs:List Int) (hx:xs.length≤140737488355328) (left:Nat) (hl:left≤1048576):Pure Gm 338 [.lst 1 (xs.map qE) false,.int .i64 left] (.int .i64 (jR xs.length left)):=
  qTW g338 shI.tree xs left hl hx
theorem c80 (x:qA):∀(_:x.bd) (left:Nat) (_:left≤1048576),Pure Gm 80 [x.enc,.int .i64 left] (.int .i64 (jR x.sz left)):=by
  induction x using qA.ind with
  | _ x ih=>
  intro hb left hl;refine Pure.intro [] [] g80 (by kernel_rfl) rfl (by simp [AV.trees,AV.tree,qA.tr]) rfl ?_;simp only [F80,qK,go_sem];refine qd qA.ln ?_;simp only [go_sem];rw [qA.bd_eq] at hb;refine qL (c338 _ hb.1 _ (by omega)) ?_;simp only [go_sem];refine qI ?_ ?_<;>intro hc<;>simp only [hc,go_sem]
  · have hq:=odT hc;rw [wF] at hq;exact qO rfl (by rw [wq (by rw [qA.sz_eq];omega)])
  have hq:=odF hc;rw [wF] at hq;rw [jp (by omega)];clear hc;refine qL (qL4 qA.isSh g337 qA.sz x.Kids (fun y hm lf hlf=>ih y hm (hb.2.2 y hm) lf hlf) _ (by omega) hb.2.1) ?_;simp only [go_sem];refine qI ?_ ?_<;>intro hc<;>simp only [hc,go_sem]
  · have hq:=odT hc;rw [wF] at hq;exact qO rfl (by rw [wq (by rw [qA.sz_eq];omega)])
  have hq:=odF hc;rw [wF] at hq;rw [jp (by omega)];clear hc;exact qO rfl (by rw [jp (by rw [qA.sz_eq];omega)];rw [qA.sz_eq];first | rfl | (congr 2;omega))
theorem c337 (xs:List qA) (hx:xs.length≤140737488355328∧(∀y∈xs,qA.bd y)) (left:Nat) (hl:left≤1048576):Pure Gm 337 [.lst 4 (xs.map qA.enc) false,.int .i64 left] (.int .i64 (jR (xs.length+qF qA.sz xs) left)):=
  qL4 qA.isSh g337 qA.sz xs (fun x hm lf hlf=>c80 x (hx.2 x hm) lf hlf) left hl hx.1
theorem c79 (x:qH) (hb:x.bd) (left:Nat) (hl:left≤1048576):Pure Gm 79 [x.enc,.int .i64 left] (.int .i64 (jR x.sz left)):=by
  refine Pure.intro [] [] g79 (by kernel_rfl) rfl (by simp [AV.trees,AV.tree,qH.tr]) rfl ?_;simp only [F79,qK,go_sem];refine qd rfl ?_;simp only [go_sem];unfold qH.bd at hb;refine qL (c337 _ ⟨hb.1,hb.2⟩ _ (by omega)) ?_;simp only [go_sem];refine qI ?_ ?_<;>intro hc<;>simp only [hc,go_sem]
  · have hq:=odT hc;rw [wF] at hq;exact qO rfl (by rw [wq (by unfold qH.sz;omega)])
  have hq:=odF hc;rw [wF] at hq;rw [jp (by omega)];clear hc;exact qO rfl (by rw [jp (by unfold qH.sz;omega)];unfold qH.sz;first | rfl | (congr 2;omega))
theorem c147 (xs:List Int) (hl:xs.length≤1048576):Pure Gm 147 [.lst 1 (xs.map qE) false] (.lst 1 (xs.map qE) false):=qT0 g147 xs hl
theorem c83 (x:qA):∀(_:x.sz≤1048576),Pure Gm 83 [x.enc] (x.enc):=by
  induction x using qA.ind with
  | _ x ih=>
  intro hz;refine Pure.intro [] [] g83 (by kernel_rfl) rfl (by simp [AV.trees,AV.tree,qA.tr]) qA.tr ?_;simp only [F83,qK,go_sem];refine qd qA.ln ?_;simp only [go_sem];rw [qA.sz_eq] at hz;refine qL (c147 _ (by omega)) ?_;simp only [go_sem];refine qL (qL8 qA.isSh rfl rfl (by simp) Yz x.Kids (fun y hm=>ih y hm (by have:=zu (f:=qA.sz) hm;omega)) (by omega)) ?_;simp only [go_sem];refine qY rfl rfl ⟨_,rfl⟩ (by decide) ?_;simp only [go_sem];exact qO qA.tr (by rw [qA.enc_eq])
theorem c342 (xs:List qA) (hl:xs.length+qF qA.sz xs≤1048576):Pure Gm 342 [.lst 4 (xs.map qA.enc) false] (.lst 4 (xs.map qA.enc) false):=
  qL8 qA.isSh rfl rfl (by simp) Yz xs (fun x hm=>c83 x (by have:=zu (f:=qA.sz) hm;omega)) (by omega)
theorem c82 (x:qH) (hz:x.sz≤1048576):Pure Gm 82 [x.enc] x.enc:=by
  refine Pure.intro [] [] g82 (by kernel_rfl) rfl (by simp [AV.trees,AV.tree,qH.tr]) qH.tr ?_;simp only [F82,qK,go_sem];refine qd rfl ?_;simp only [go_sem];unfold qH.sz at hz;refine qL (c342 _ (by omega)) ?_;simp only [go_sem];exact qO qH.tr rfl
theorem c86 (xs:List Int) (hl:xs.length≤2097152):Pure Gm 86 [.lst 1 (xs.map qE) false,.lst 1 (xs.map qE) false] (.bool true):=qOO g86 xs hl
theorem c85 (x:qA):∀(_:x.sz≤2097152),Pure Gm 85 [x.enc,x.enc] (.bool true):=by
  induction x using qA.ind with
  | _ x ih=>
  intro hz;refine Pure.intro [] [] g85 (by kernel_rfl) rfl (by simp [AV.trees,AV.tree,qA.tr]) rfl ?_;simp only [F85,qK,go_sem];refine qd qA.ln ?_;simp only [go_sem];refine qd qA.ln ?_;simp only [go_sem];rw [qA.sz_eq] at hz;refine qL (c86 _ (by omega)) ?_;simp only [go_sem];refine qL (qIX qA.isSh g346 x.Kids (fun y hm=>ih y hm (by have:=zu (f:=qA.sz) hm;omega)) (by omega)) ?_;simp only [go_sem];exact qO rfl rfl
theorem c346 (xs:List qA) (hl:xs.length+qF qA.sz xs≤2097152):Pure Gm 346 [.lst 4 (xs.map qA.enc) false,.lst 4 (xs.map qA.enc) false] (.bool true):=
  qIX qA.isSh g346 xs (fun x hm=>c85 x (by have:=zu (f:=qA.sz) hm;omega)) (by omega)
theorem c87 (x:qH) (hz:x.sz≤2097152):Pure Gm 87 [x.enc,x.enc] (.bool true):=by
  refine Pure.intro [] [] g87 (by kernel_rfl) rfl (by simp [AV.trees,AV.tree,qH.tr]) rfl ?_;simp only [F87,qK,go_sem];refine qd rfl ?_;simp only [go_sem];refine qd rfl ?_;simp only [go_sem];unfold qH.sz at hz;refine qL (c346 _ (by omega)) ?_;simp only [go_sem];exact qO rfl rfl
end Go.Ab
namespace Go.Ab
open Go
set_option maxRecDepth 10000
set_option maxHeartbeats 2000000
def inI (n lo hi:Int):Bool:=decide (lo≤n)&&decide (n≤hi)
theorem dlt (a b:Int):decide (a<b)= !decide (b≤a):=by rw [Bool.eq_iff_iff];simp
theorem nt {b:Bool} (h:(!b)=true):b=false:=by cases b<;>simp_all
theorem nf {b:Bool} (h:(!b)=false):b=true:=by cases b<;>simp_all
theorem jm {α:Type} {xs:List α} {i:Nat} (h:i<xs.length):xs.drop i=xs[i]::xs.drop (i+1):=by simp
def shp (k:Int):(Int×Int)×Int×Int:=
  if k=1∨k=2∨k=11 then ((0,0),0,0) else if k=3∨k=5∨k=7 then ((2,2),0,0) else if k=4∨k=6 then ((1,1),0,0)
  else if k=8 then ((0,3),0,0) else if k=9 then ((1,1),1,4) else if k=10 then ((1,1),2,2) else ((0,-1),0,0)
def jU (k v:Int):Bool:=
  if k=1 then inI v 0 255 else if k=2 then inI v (-2147483648) 2147483647 else if k=3 then inI v 1 6 else if k=8 then inI v 0 3 else if k=11 then inI v 0 23 else decide (v=0)
def jN (n:Int):Bool:=inI n 0 23
def zJ (x:qA):Bool:=inI x.Kids.length (shp x.Kind).1.1 (shp x.Kind).1.2&&inI x.Data.length (shp x.Kind).2.1 (shp x.Kind).2.2&&jU x.Kind x.Value&&x.Data.all jN
def qA.fold {β:Type} (f:qA→List β→β) (x:qA):β:=f x (x.Kids.attach.map fun y=>qA.fold f y.1)
termination_by SizeOf.sizeOf x
decreasing_by exact qA.lt_of_mem y.2
theorem qA.fold_eq {β:Type} (f:qA→List β→β) (x:qA):qA.fold f x=f x (x.Kids.map (qA.fold f)):=by
  rw [qA.fold];congr 1;rw [List.attach_map_val (l:=x.Kids) (f:=qA.fold f)]
@[go_sem] theorem qoC {α:Type} (f:α→Nat):qF f []=0:=rfl
theorem qHF {α:Type} {f:α→Nat} {xs:List α} {i:Nat} (h:i<xs.length):qF f (xs.take (i+1))=qF f (xs.take i)+f xs[i]:=by
  induction xs generalizing i with
  | nil=>simp at h
  | cons a xs ih=>
    cases i with
    | zero=>simp [qF]
    | succ i=>simp only [List.take_succ_cons,qF,List.getElem_cons_succ,ih (by simpa using h)];omega
def zE {α:Type} (f:α→Nat):List α→Nat
  |[]=>0
  | x::xs=>Nat.max (f x) (zE f xs)
def qA.ok:qA→Bool:=qA.fold fun x rs=>zJ x&&rs.all id
theorem qA.ok_eq (x:qA):x.ok=(zJ x&&x.Kids.all qA.ok):=by
  unfold qA.ok;rw [qA.fold_eq];simp
def qA.size:qA→Nat:=qA.fold fun _ rs=>1+qF id rs
theorem qL2 {α β:Type} (f:β→Nat) (g:α→β):∀xs:List α,qF f (xs.map g)=qF (fun x=>f (g x)) xs
  |[]=>rfl
  | x::xs=>by simp [qF,qL2 f g xs]
theorem qA.size_eq (x:qA):x.size=1+qF qA.size x.Kids:=by
  unfold qA.size;rw [qA.fold_eq,qL2];rfl
theorem qJ4 {α β:Type} (f:β→Nat) (g:α→β):∀xs:List α,zE f (xs.map g)=zE (fun x=>f (g x)) xs
  |[]=>rfl
  | x::xs=>by simp [zE,qJ4 f g xs]
def qA.dep:qA→Nat:=qA.fold fun _ rs=>1+zE id rs
theorem qA.dep_eq (x:qA):x.dep=1+zE qA.dep x.Kids:=by
  unfold qA.dep;rw [qA.fold_eq,qJ4];rfl
theorem qA.kid_sz {x y:qA} (h:y∈x.Kids):y.sz≤x.sz:=by
  have:=zu (f:=qA.sz) h;rw [qA.sz_eq x];omega
theorem qA.len_sz (x:qA):x.Kids.length≤x.sz∧x.Data.length≤x.sz:=by rw [qA.sz_eq x];omega
def wE (d:Int):List qA→Int→Option Int
  |[],n=>some n
  | x::xs,n=>if x.ok∧(x.dep:Int)≤d∧(x.size:Int)≤n then wE d xs (n-x.size) else none
def jd (x:qA) (d left:Int):Int:=if x.ok∧(x.dep:Int)≤d∧(x.size:Int)≤left then x.size else-1
theorem QH {n lo hi:Int}:Pure Gm 340 [.int .i64 n,.int .i64 lo,.int .i64 hi] (.bool (inI n lo hi)):=by
  refine Pure.intro [] [] g340 (by kernel_rfl) rfl (by simp [AV.trees,AV.tree,go_sem]) rfl ?_;simp only [Wi,qK,go_sem]
  repeat' (first | (refine qd rfl ?_;simp only [go_sem]) | (first | (refine qq ?_ ?_<;>intro hc<;>simp only [hc,go_sem]) | (refine qI ?_ ?_<;>intro hc<;>simp only [hc,go_sem])) | refine qO rfl ?_ | refine jG (by rfl) ?_)
  all_goals (simp_all [inI]<;>omega)
theorem qNB {k:Int}:Pure Gm 1023 [.int .i64 k] (.tup [.int .i64 (shp k).1.1,.int .i64 (shp k).1.2,.int .i64 (shp k).2.1,.int .i64 (shp k).2.2]):=by
  refine Pure.intro [] [] qO1 (by kernel_rfl) rfl (by simp [AV.trees,AV.tree,go_sem]) rfl ?_;simp only [Z3,qK,go_sem]
  repeat' (first | (refine qd rfl ?_;simp only [go_sem]) | (first | (refine qq ?_ ?_<;>intro hc<;>simp only [hc,go_sem]) | (refine qI ?_ ?_<;>intro hc<;>simp only [hc,go_sem])) | refine qO rfl ?_ | refine jG (by rfl) ?_)
  all_goals (simp_all [shp,zI])
theorem qNC {x:qA}:Pure Gm 1024 [.ept x.enc 0] (.bool (jU x.Kind x.Value)):=by
  refine Pure.intro [] [] qO2 (by kernel_rfl) rfl (by simp [AV.trees,AV.tree,go_sem]) rfl ?_;simp only [Z4,qK,go_sem]
  repeat' (first | (refine qd rfl ?_;simp only [go_sem]) | (first | (refine qq ?_ ?_<;>intro hc<;>simp only [hc,go_sem]) | (refine qI ?_ ?_<;>intro hc<;>simp only [hc,go_sem])) | (refine qL (QH) ?_;simp only [go_sem]) | refine qO rfl ?_ | refine jG (by rfl) ?_)
  all_goals (simp_all [jU])
theorem qA.size_pos (x:qA):1≤x.size:=by rw [qA.size_eq];omega
theorem qA.dep_pos (x:qA):1≤x.dep:=by rw [qA.dep_eq];omega
theorem qJK (d:Int):∀(xs:List qA) (n:Int),0≤n→wE d xs n=if xs.all qA.ok∧(∀y∈xs,(y.dep:Int)≤d)∧(qF qA.size xs:Int)≤n then some (n-qF qA.size xs) else none
  |[],n,hn=>by simp [wE,qF,hn]
  | x::xs,n,hn=>by
    unfold wE;have hp:=x.size_pos;by_cases h:x.ok∧(x.dep:Int)≤d∧(x.size:Int)≤n
    · rw [if_pos h,qJK d xs _ (by omega)];simp only [qF,List.all_cons,h.1,Bool.true_and,List.forall_mem_cons,h.2.1,true_and];by_cases h2:xs.all qA.ok∧(∀y∈xs,(y.dep:Int)≤d)∧(qF qA.size xs:Int)≤n-x.size
      · rw [if_pos h2,if_pos ⟨h2.1,h2.2.1,by omega⟩];congr 1;omega
      · rw [if_neg h2,if_neg (fun q=>h2 ⟨q.1,q.2.1,by omega⟩)]
    · rw [if_neg h,if_neg];simp only [qF,List.all_cons,bAt,List.forall_mem_cons];rintro ⟨⟨a,_⟩,⟨b,_⟩,c⟩;exact h ⟨a,b,by omega⟩
theorem VK {α:Type} (f:α→Nat) (n:Nat):∀xs:List α,zE f xs≤n↔∀y∈xs,f y≤n
  |[]=>by simp [zE]
  | x::xs=>by
    simp only [zE,List.forall_mem_cons,←VK f n xs];exact Nat.max_le
theorem qRU (x:qA) (d left:Int) (hd:1≤d) (hl:1≤left) (hn:zJ x=true):jd x d left=match wE (d-1) x.Kids (left-1) with | some r=>left-r | none=> -1:=by
  unfold jd;rw [qJK _ _ _ (by omega),x.ok_eq,hn,x.size_eq,x.dep_eq,Bool.true_and];have hm:((1+zE qA.dep x.Kids:Nat):Int)≤d↔∀y∈x.Kids,(y.dep:Int)≤d-1:=by
    have:=VK qA.dep (d-1).toNat x.Kids;constructor
    · intro h y hy;have:=this.1 (by omega) y hy;omega
    · intro h;have:=this.2 (fun y hy=>by have:=h y hy;omega);omega
  by_cases h:x.Kids.all qA.ok∧(∀y∈x.Kids,(y.dep:Int)≤d-1)∧(qF qA.size x.Kids:Int)≤left-1
  · rw [if_pos h,if_pos ⟨h.1,hm.2 h.2.1,by omega⟩];simp only [];omega
  · rw [if_neg h,if_neg (fun q=>h ⟨q.1,hm.1 q.2.1,by omega⟩)]
theorem qRT {x:qA} {d left:Int} (h:d<1∨left<1∨zJ x=false):jd x d left= -1:=by
  unfold jd;rw [if_neg];rintro ⟨h1,h2,h3⟩;have:=x.size_pos;have:=x.dep_pos;rcases h with h | h | h
  · omega
  · omega
  · rw [x.ok_eq,h] at h1;cases h1
theorem c643 (x:qA):∀(d left:Int) (hz:x.sz≤1048576) (hd:0≤d∧d≤1048576) (hl:0≤left∧left≤1048576),Pure Gm 643 [.ept x.enc 0,.int .i64 d,.int .i64 left] (.int .i64 (jd x d left)):=by
  induction x using qA.ind with
  | _ x ih=>
  intro d left hz hd hl;refine Pure.intro [] [] g643 (by kernel_rfl) rfl (by simp [AV.trees,AV.tree,go_sem]) rfl ?_;simp only [XX,qK,go_sem];have hL:=x.len_sz;refine qL qNB ?_;simp only [go_sem];have bad:∀{h:List qC},d<1∨left<1∨zJ x=false→Fin (some [.int .i64 (-1)]) h (.int .i64 (jd x d left)):=fun h=>qO rfl (by rw [qRT h])
  repeat' (first
    | (first | (refine qq ?_ ?_<;>intro hc<;>simp only [hc,go_sem]) | (refine qI ?_ ?_<;>intro hc<;>simp only [hc,go_sem]))
    | (refine qL QH ?_;simp only [go_sem])
    | (refine qL qNC ?_;simp only [go_sem])
    | refine bad ?_)
  all_goals try (first
    | (refine .inl ?_;simp_all;done)
    | (refine .inr (.inl ?_);simp_all;done)
    | (refine .inr (.inr ?_);simp_all [zJ];done))
  rename_i h1 h2 h3 h4;have hn0:x.Data.all jN=true→zJ x=true:=by intro h;simp_all [zJ]
  have hn1:x.Data.all jN=false→zJ x=false:=by intro h;simp_all [zJ]
  have d1:1≤d:=by have:=odF h1;omega
  have l1:1≤left:=by have:=odF h2;omega
  refine Sem.loop (fun i:Nat=>i≤x.Data.length∧x.Data.all jN=(x.Data.drop i).all jN) (fun i=>(⟨[(0,.ept x.enc 0),(1,.int .i64 d),(2,.int .i64 left),(11,.int .i64 (i:Nat))],[],[]⟩:VSt)) (fun i=>x.Data.length-i) 0 (by kernel_rfl) ⟨Nat.zero_le _,by simp⟩ (Can.sub (by simp [go_sem]) (by simp [go_sem])) ?_;rintro i ⟨hi,hI⟩;simp only [go_sem];refine qI ?_ ?_<;>intro hc<;>simp only [hc,go_sem]
  · have hlt:i<x.Data.length:=by have:=odT hc;omega
    simp only [List.getElem?_map,gEg hlt,Option.map_some,go_sem];simp only [qE];simp only [go_sem];refine qL QH ?_;simp only [go_sem];refine qI ?_ ?_<;>intro hc<;>simp only [hc,go_sem]
    · refine bad (.inr (.inr (hn1 ?_)));rw [hI,jm hlt,List.all_cons];simp_all [jN]
    · simp only [zA (show i<4611686018427387904 by omega)];refine qx (i+1) ⟨by omega, ?_⟩ (by omega) (Can.sub (by simp [go_sem]) (by simp [go_sem]));rw [hI,jm hlt,List.all_cons];simp_all [jN]
  · obtain rfl:i=x.Data.length:=by have:=odF hc;omega
    have hn:=hn0 (by rw [hI];simp);rw [qRU x d left d1 l1 hn];refine Sem.loop (fun i:Nat=>i≤x.Kids.length∧wE (d-1) x.Kids (left-1)=wE (d-1) (x.Kids.drop i) (left-((1+qF qA.size (x.Kids.take i):Nat):Int))∧((1+qF qA.size (x.Kids.take i):Nat):Int)≤left) (fun i=>(⟨[(0,.ept x.enc 0),(1,.int .i64 d),(2,.int .i64 left),(12,.int .i64 ((1+qF qA.size (x.Kids.take i):Nat):Int)),(13,.int .i64 (i:Nat))],[],[]⟩:VSt)) (fun i=>x.Kids.length-i) 0 (by kernel_rfl) ⟨Nat.zero_le _,by simp [qF];omega⟩ (Can.sub (by simp [go_sem]) (by simp [go_sem])) ?_;rintro i ⟨hi,hI⟩;simp only [go_sem];refine qI ?_ ?_<;>intro hc<;>simp only [hc,go_sem]
    · have hlt:i<x.Kids.length:=by have:=odT hc;omega
      simp only [List.getElem?_map,gEg hlt,Option.map_some,go_sem];have hm:=gMm hlt;have hk:=qA.kid_sz hm;have hp:=x.Kids[i].size_pos;have ht:=qHF (f:=qA.size) hlt;rw [zC (by omega) (by omega),zC (by omega) (by omega)];refine qL (ih _ hm (d-1) (left-((1+qF qA.size (x.Kids.take i):Nat):Int)) (by omega) (by omega) (by omega)) ?_;simp only [go_sem];rw [jm hlt] at hI;refine qI ?_ ?_<;>intro hc<;>simp only [hc,go_sem]
      · have hb:¬(x.Kids[i].ok∧(x.Kids[i].dep:Int)≤d-1∧(x.Kids[i].size:Int)≤left-((1+qF qA.size (x.Kids.take i):Nat):Int)):=by
          intro q;have:=odT hc;unfold jd at this;rw [if_pos q] at this;omega
        refine qO rfl ?_;rw [hI.1,wE,if_neg hb]
      · have hb:x.Kids[i].ok∧(x.Kids[i].dep:Int)≤d-1∧(x.Kids[i].size:Int)≤left-((1+qF qA.size (x.Kids.take i):Nat):Int):=by
          by_cases q:x.Kids[i].ok∧(x.Kids[i].dep:Int)≤d-1∧(x.Kids[i].size:Int)≤left-((1+qF qA.size (x.Kids.take i):Nat):Int)
          · exact q
          · have:=odF hc;unfold jd at this;rw [if_neg q] at this;omega
        have hv:jd x.Kids[i] (d-1) (left-((1+qF qA.size (x.Kids.take i):Nat):Int))=x.Kids[i].size:=by unfold jd;rw [if_pos hb]
        have e1:((1+qF qA.size (x.Kids.take i):Nat):Int)+x.Kids[i].size=((1+qF qA.size (x.Kids.take (i+1)):Nat):Int):=by omega
        rw [hv,zC (n:=((1+qF qA.size (x.Kids.take i):Nat):Int)+x.Kids[i].size) (by omega) (by omega),e1];simp only [zA (show i<4611686018427387904 by omega)];refine qx (i+1) ⟨by omega, ?_⟩ (by omega) (Can.sub (by simp [go_sem]) (by simp [go_sem]));rw [wE,if_pos hb] at hI;refine ⟨?_,by omega⟩;rw [hI.1];congr 1;omega
    · obtain rfl:i=x.Kids.length:=by have:=odF hc;omega
      refine qO rfl ?_;rw [hI.1];simp only [List.drop_length,wE,AV.int.injEq,true_and];exact (Int.sub_sub_self _ _).symm
theorem c642 {x:qA} (hz:x.sz≤1048576):Pure Gm 642 [.ept x.enc 0] (.bool (decide (0<jd x 80 400))):=by
  refine Pure.intro [] [] g642 (by kernel_rfl) rfl (by simp [AV.trees,AV.tree,go_sem]) rfl ?_;simp only [XW,qK,go_sem];refine qL (c643 x 80 400 hz (by omega) (by omega)) ?_;simp only [go_sem];exact qO rfl rfl
def qA.valid (x:qA):Bool:=x.ok&&decide (x.dep≤80)&&decide (x.size≤400)
theorem qRV (x:qA):decide (0<jd x 80 400)=x.valid:=by
  unfold jd qA.valid;have:=x.size_pos;by_cases h:x.ok∧(x.dep:Int)≤80∧(x.size:Int)≤400
  · rw [if_pos h];have h2:x.dep≤80:=by omega
    have h3:x.size≤400:=by omega
    simp [h.1,h2,h3];omega
  · rw [if_neg h];cases hv:(x.ok&&decide (x.dep≤80)&&decide (x.size≤400)) with
    | false=>rfl
    | true=>
      simp only [bAt,decide_eq_true_eq] at hv;exact absurd ⟨hv.1.1,by omega,by omega⟩ h
def qv (k:Int) (i:Nat):Int:=if k=4∨k=7∧i=1 then 1 else 0
theorem ZL (k:Int) (i:Nat):0≤qv k i∧qv k i≤1:=by unfold qv;split<;>omega
def zY {α:Type} (p:Nat→α→Bool):List α→Nat→Bool
  |[],_=>false
  | x::xs,i=>p i x || zY p xs (i+1)
theorem qHW {α β:Type} (p:Nat→β→Bool) (f:α→β):∀(xs:List α) (i:Nat),zY p (xs.map f) i=zY (fun k x=>p k (f x)) xs i
  |[],_=>rfl
  | x::xs,i=>by simp [zY,qHW p f xs]
def qA.above:qA→Int→Bool:=qA.fold fun x rs d=>if x.Kind=1 then decide (d≤x.Value) else zY (fun i (r:Int→Bool)=>r (d+qv x.Kind i)) rs 0
theorem qA.above_eq (x:qA) (d:Int):x.above d=if x.Kind=1 then decide (d≤x.Value) else zY (fun i y=>y.above (d+qv x.Kind i)) x.Kids 0:=by
  unfold qA.above;rw [qA.fold_eq,qHW]
theorem qA.dep_kid {x y:qA} (h:y∈x.Kids):y.dep+1≤x.dep:=by
  rw [x.dep_eq];have:=(VK qA.dep (zE qA.dep x.Kids) x.Kids).1 (Nat.le_refl _) y h;omega
theorem qNI {x:qA} {i:Nat}:Pure Gm 1129 [.ept x.enc 0,.int .i64 (i:Int)] (.int .i64 (qv x.Kind i)):=by
  refine Pure.intro [] [] qPB (by kernel_rfl) rfl (by simp [AV.trees,AV.tree,go_sem]) rfl ?_;simp only [WD,qK,go_sem]
  repeat' (first | (refine qd rfl ?_;simp only [go_sem]) | (first | (refine qq ?_ ?_<;>intro hc<;>simp only [hc,go_sem]) | (refine qI ?_ ?_<;>intro hc<;>simp only [hc,go_sem])) | refine qO rfl ?_ | refine jG (by rfl) ?_)
  all_goals (simp_all [qv]<;>omega)
theorem c878 (x:qA):∀(d:Int) (hz:x.sz≤1048576) (hd:0≤d∧d+x.dep≤4194304),Pure Gm 878 [.ept x.enc 0,.int .i64 d] (.bool (x.above d)):=by
  induction x using qA.ind with
  | _ x ih=>
  intro d hz hd;refine Pure.intro [] [] g878 (by kernel_rfl) rfl (by simp [AV.trees,AV.tree,go_sem]) rfl ?_;simp only [YJ,qK,go_sem];have hL:=x.len_sz;refine qI ?_ ?_<;>intro hc<;>simp only [hc,go_sem]
  · refine qO rfl ?_;rw [x.above_eq];simp_all
  have hk1:x.above d=zY (fun i y=>y.above (d+qv x.Kind i)) x.Kids 0:=by rw [x.above_eq,if_neg (odF hc)]
  refine Sem.loop (fun i:Nat=>i≤x.Kids.length∧x.above d=zY (fun i y=>y.above (d+qv x.Kind i)) (x.Kids.drop i) i) (fun i=>(⟨[(0,.ept x.enc 0),(1,.int .i64 d),(5,.int .i64 (i:Nat))],[],[]⟩:VSt)) (fun i=>x.Kids.length-i) 0 (by kernel_rfl) ⟨Nat.zero_le _,by simp [hk1]⟩ (Can.sub (by simp [go_sem]) (by simp [go_sem])) ?_;rintro i ⟨hi,hI⟩;simp only [go_sem];refine qI ?_ ?_<;>intro hc<;>simp only [hc,go_sem]
  · have hlt:i<x.Kids.length:=by have:=odT hc;omega
    simp only [List.getElem?_map,gEg hlt,Option.map_some,go_sem];refine qL qNI ?_;simp only [go_sem];have hm:=gMm hlt;have hk:=qA.kid_sz hm;have hp:=qA.dep_kid hm;have hb:=ZL x.Kind i;rw [zC (by omega) (by omega)];refine qL (ih _ hm _ (by omega) (by omega)) ?_;simp only [go_sem];rw [jm hlt,zY] at hI;refine qI ?_ ?_<;>intro hc<;>simp only [hc,go_sem]
    · refine qO rfl ?_;rw [hI,hc];rfl
    · simp only [zA (show i<4611686018427387904 by omega)];refine qx (i+1) ⟨by omega, ?_⟩ (by omega) (Can.sub (by simp [go_sem]) (by simp [go_sem]));rw [hI,hc];rfl
  · obtain rfl:i=x.Kids.length:=by have:=odF hc;omega
    refine qO rfl ?_;rw [hI];simp [zY]
def qA.closed (x:qA):Bool:=x.valid&& !x.above 0
def qA.refs (n:Int):qA→Bool:=qA.fold fun x rs=> !(decide (x.Kind=11)&&decide (n≤x.Value))&&x.Data.all (fun k=>decide (k<n))&&rs.all id
theorem qA.refs_eq (n:Int) (x:qA):x.refs n=(!(decide (x.Kind=11)&&decide (n≤x.Value))&&x.Data.all (fun k=>decide (k<n))&&x.Kids.all (qA.refs n)):=by
  unfold qA.refs;rw [qA.fold_eq];simp
def qH.ok (b:qH):Bool:=inI b.Defs.length 1 24&&b.Defs.all fun c=>c.closed&&c.refs b.Defs.length
theorem c519 {x:qA} (hz:x.sz≤1048576):Pure Gm 519 [.ept x.enc 0] (.bool x.closed):=by
  refine Pure.intro [] [] g519 (by kernel_rfl) rfl (by simp [AV.trees,AV.tree,go_sem]) rfl ?_;simp only [XP,qK,go_sem];refine qL (c642 hz) ?_;simp only [go_sem];rw [qRV];refine qq ?_ ?_<;>intro hc<;>simp only [hc,go_sem]
  · have hd:x.dep≤80:=by unfold qA.valid at hc;simp only [bAt,decide_eq_true_eq] at hc;omega
    refine qL (c878 x 0 hz (by omega)) ?_;simp only [go_sem];exact qO rfl (by simp [qA.closed,hc])
  · exact qO rfl (by simp [qA.closed,hc])
theorem c725 (x:qA):∀(n:Int) (hz:x.sz≤1048576),Pure Gm 725 [.ept x.enc 0,.int .i64 n] (.bool (x.refs n)):=by
  induction x using qA.ind with
  | _ x ih=>
  intro n hz;refine Pure.intro [] [] g725 (by kernel_rfl) rfl (by simp [AV.trees,AV.tree,go_sem]) rfl ?_;simp only [Xd,qK,go_sem];have hL:=x.len_sz;have bad:∀{h:List qC},x.refs n=false→Fin (some [.bool false]) h (.bool (x.refs n)):=fun h=>qO rfl (by rw [h])
  repeat' (first
    | (first | (refine qq ?_ ?_<;>intro hc<;>simp only [hc,go_sem]) | (refine qI ?_ ?_<;>intro hc<;>simp only [hc,go_sem]))
    | refine bad ?_)
  all_goals try (rw [x.refs_eq];simp_all;done)
  all_goals
    have hk1:x.refs n=(x.Data.all (fun k=>decide (k<n))&&x.Kids.all (qA.refs n)):=by rw [x.refs_eq];simp [*]
    refine Sem.loop (fun i:Nat=>i≤x.Data.length∧x.refs n=((x.Data.drop i).all (fun k=>decide (k<n))&&x.Kids.all (qA.refs n))) (fun i=>(⟨[(0,.ept x.enc 0),(1,.int .i64 n),(5,.int .i64 (i:Nat))],[],[]⟩:VSt)) (fun i=>x.Data.length-i) 0 (by kernel_rfl) ⟨Nat.zero_le _,by simp [hk1]⟩ (Can.sub (by simp [go_sem]) (by simp [go_sem])) ?_;rintro i ⟨hi,hI⟩;simp only [go_sem];refine qI ?_ ?_<;>intro hc<;>simp only [hc,go_sem]
    · have hlt:i<x.Data.length:=by have:=odT hc;omega
      simp only [List.getElem?_map,gEg hlt,Option.map_some,go_sem];simp only [qE];simp only [go_sem];rw [jm hlt,List.all_cons] at hI;refine qI ?_ ?_<;>intro hc<;>simp only [hc,go_sem]
      · exact bad (by rw [hI,dlt,hc];rfl)
      · simp only [zA (show i<4611686018427387904 by omega)];refine qx (i+1) ⟨by omega, ?_⟩ (by omega) (Can.sub (by simp [go_sem]) (by simp [go_sem]));rw [hI,dlt,hc];rfl
    · obtain rfl:i=x.Data.length:=by have:=odF hc;omega
      simp only [List.drop_length,List.all_nil,Bool.true_and] at hI;have hk2:=hI;clear hI hi;refine Sem.loop (fun i:Nat=>i≤x.Kids.length∧x.refs n=(x.Kids.drop i).all (qA.refs n)) (fun i=>(⟨[(0,.ept x.enc 0),(1,.int .i64 n),(6,.int .i64 (i:Nat))],[],[]⟩:VSt)) (fun i=>x.Kids.length-i) 0 (by kernel_rfl) ⟨Nat.zero_le _,by simp [hk2]⟩ (Can.sub (by simp [go_sem]) (by simp [go_sem])) ?_;rintro i ⟨hi,hI⟩;simp only [go_sem];refine qI ?_ ?_<;>intro hc<;>simp only [hc,go_sem]
      · have hlt:i<x.Kids.length:=by have:=odT hc;omega
        simp only [List.getElem?_map,gEg hlt,Option.map_some,go_sem];have hm:=gMm hlt;have hk:=qA.kid_sz hm;refine qL (ih _ hm _ (by omega)) ?_;simp only [go_sem];rw [jm hlt,List.all_cons] at hI;refine qI ?_ ?_<;>intro hc<;>simp only [hc,go_sem]
        · exact bad (by rw [hI,nt hc];rfl)
        · simp only [zA (show i<4611686018427387904 by omega)];refine qx (i+1) ⟨by omega, ?_⟩ (by omega) (Can.sub (by simp [go_sem]) (by simp [go_sem]));rw [hI,nf hc];rfl
      · obtain rfl:i=x.Kids.length:=by have:=odF hc;omega
        exact qO rfl (by rw [hI];simp)
end Go.Ab
namespace Go.Ab
open Go
set_option maxRecDepth 10000
set_option maxHeartbeats 2000000
theorem c579 {b:qH} (hz:b.sz≤1048576):Pure Gm 579 [.ept b.enc 0] (.bool b.ok):=by
  refine Pure.intro [] [] g579 (by kernel_rfl) rfl (by simp [AV.trees,AV.tree,go_sem]) rfl ?_;simp only [XS,qK,go_sem];have hz':b.Defs.length+qF qA.sz b.Defs≤1048576:=hz;refine qL QH ?_;simp only [go_sem];refine qI ?_ ?_<;>intro hc<;>simp only [hc,go_sem]
  · exact qO rfl (by simp_all [qH.ok])
  have hk1:b.ok=b.Defs.all (fun c=>c.closed&&c.refs b.Defs.length):=by simp_all [qH.ok]
  refine Sem.loop (fun i:Nat=>i≤b.Defs.length∧b.ok=(b.Defs.drop i).all (fun c=>c.closed&&c.refs b.Defs.length)) (fun i=>(⟨[(0,.ept b.enc 0),(3,.int .i64 (i:Nat))],[],[]⟩:VSt)) (fun i=>b.Defs.length-i) 0 (by kernel_rfl) ⟨Nat.zero_le _,by simp [hk1]⟩ (Can.sub (by simp [go_sem]) (by simp [go_sem])) ?_;rintro i ⟨hi,hI⟩;simp only [go_sem];refine qI ?_ ?_<;>intro hc<;>simp only [hc,go_sem]
  · have hlt:i<b.Defs.length:=by have:=odT hc;omega
    simp only [List.getElem?_map,gEg hlt,Option.map_some,go_sem];have hm:=gMm hlt;have hk:=zu (f:=qA.sz) hm;rw [jm hlt,List.all_cons] at hI;refine qL (c519 (x:=b.Defs[i]) (by omega)) ?_;simp only [go_sem]
    repeat' (first
      | (first | (refine qq ?_ ?_<;>intro hc<;>simp only [hc,go_sem]) | (refine qI ?_ ?_<;>intro hc<;>simp only [hc,go_sem]))
      | (refine qL (c725 b.Defs[i] _ (by omega)) ?_;simp only [go_sem])
      | (simp only [List.getElem?_map,gEg hlt,Option.map_some,go_sem]))
    · rename_i h0;exact qO rfl (by rw [hI,nf h0,nt hc];rfl)
    · rename_i h0;simp only [zA (show i<4611686018427387904 by omega)];refine qx (i+1) ⟨by omega, ?_⟩ (by omega) (Can.sub (by simp [go_sem]) (by simp [go_sem]));rw [hI,nf h0,nf hc];rfl
    · exact qO rfl (by rw [hI,nt hc];rfl)
  · obtain rfl:i=b.Defs.length:=by have:=odF hc;omega
    exact qO rfl (by rw [hI];simp)
def QP {α:Type} (f:Nat→α→List Int):List α→Nat→List Int
  |[],_=>[]
  | x::xs,i=>f i x++QP f xs (i+1)
def boxI (k:Int):Int:=if k=6 then 1 else 0
def qA.levels:qA→Int→Int→List Int:=qA.fold fun x rs v l=>if x.Kind=1 then (if x.Value=v then [l] else []) else QP (fun i (r:Int→Int→List Int)=>r (v+qv x.Kind i) (l+boxI x.Kind)) rs 0
end Go.Ab
namespace Go.Ab
open Go
set_option maxRecDepth 10000
set_option maxHeartbeats 2000000
def fil (e:Env) (w:Nat) (el:List AV) (i:Nat) (v:Option AV) (r:List (Nat×Ao)):Option (List AV):=match v with
  | some v=>if v.cells.length=w∧i<el.length then zQ e w (el.set i v) r else none
  | none=>none
section
variable {e:Env} {w i:Nat} {el:List AV} {v:AV} {x:Ao} {r:List (Nat×Ao)}
@[go_sem] theorem qhM:zQ e w el []=some el:=nr (by unfold zQ;rfl)
@[go_sem] theorem qhL:zQ e w el ((i,x)::r)=fil e w el i (ev e x) r:=nr (by unfold zQ;rfl)
@[go_sem] theorem qhN {el0:AV} (h:v.cells.length=w):fil e w [el0] 0 (some v) r=zQ e w [v] r:=by
  show (if v.cells.length=w∧0<1 then _ else _)=_;rw [if_pos ⟨h,by omega⟩];rfl
@[go_sem] theorem rep0 {v:AV}:List.replicate 0 v=[]:=nr rfl
@[go_sem] theorem rep1 {v:AV}:List.replicate 1 v=[v]:=nr rfl
end
theorem qA.size_sz:∀x:qA,x.size≤x.sz+1:=qA.ind fun x ih=>by
  rw [x.size_eq,x.sz_eq];have:∀xs:List qA,(∀y∈xs,y.size≤y.sz+1)→qF qA.size xs≤xs.length+qF qA.sz xs:=by
    intro xs
    induction xs with
    | nil=>intro _;simp [qF]
    | cons a xs ihx=>intro h;simp only [qF,List.length_cons];have:=h a (by simp);have:=ihx (fun y hy=>h y (by simp [hy]));omega
  have:=this _ ih;omega
end Go.Ab
namespace Go.Ab
open Go
set_option maxRecDepth 10000
set_option maxHeartbeats 2000000
theorem qTL {w id n m:Nat} {s l:Env} {h:AH} {x y:Ao} {k:IntKind} (hx:ev s x=some (.slice w id 0 n false)) (hy:ev s y=some (.int k (m:Nat))) (hm:m≤n):val (.slc w x none (some y) none) s l h=some (.slice w id 0 m false):=by
  simp only [val,hx,bnd,hy];rw [if_pos ⟨by omega,by omega⟩];simp
theorem V0 {n:Nat} (h0:0<n) (h:n<4611686018427387904):IntKind.i64.wrap ((n:Int)-1)=((n-1:Nat):Int):=by
  rw [zC (by omega) (by omega)];omega
theorem qRM {α:Type} (f:α→AV) {xs:List α} {js:List AV} (h:0<xs.length):∃x,xs.dropLast.map f++(x::js)=xs.map f++js:=by
  refine ⟨f (xs.getLast (by intro e;subst e;simp at h)), ?_⟩;have e:=List.dropLast_concat_getLast (l:=xs) (by intro e;subst e;simp at h);have:xs.map f=xs.dropLast.map f++[f (xs.getLast (by intro e;subst e;simp at h))]:=by
    rw [←List.map_singleton,←List.map_append,e]
  rw [this];simp
theorem jl {E:Ev} {l:List qB} {ks:List Fr1} {s m:qZ} {h:List qC} {Q:qS→VSt→Prop} {w k id id2 len:Nat} {c2:Bool} {x:AV} {xs js:List AV} (h2:h[id2]?=some (.row w [x] true)) (ho:h[id]?=some (.row w (xs++js) true)) (he:xs.length=len) (hl:len<4294967296)
    (hr:R E (.ops l::ks) ⟨(k,.slice w h.length 0 (len+1) false)::s,m,h.set id .dead++[.row w (xs++[x]) true]⟩ Q):jE E w (some k) (some (.slice w id 0 len false)) (some (.slice w id2 0 1 c2)) l ks ⟨s,m,h⟩ Q:=by
  have hy:Els h w (.slice w id2 0 1 c2) [x]:=Els.row h2 rfl;unfold jE;refine ⟨hy.1, ?_⟩;simp only [hy.2];refine ⟨rfl,by have:LIM=4294967296:=rfl;simp;omega, ?_⟩;rw [ho];refine ⟨rfl,by simp;omega,.inr (.inl ⟨by simp,rfl, ?_⟩)⟩;have e:((xs++js).drop 0).take len=xs:=by rw [List.drop_zero];exact List.take_left' he
  rw [e];exact hr
section
variable {P:Nat→Prop} {w:Nat} {pre post:List AV} {id j:Nat} {h:List qC} {M:qD} {K:AV→List qC→Prop}
theorem Jf {g:Nat} (hg:Gm g=some (.fn Q5)) (hj:pre.length=j) (hN:NSx P w pre post id h M) (h0:0<M.Stack.length) (h1:M.Stack.length≤1000000)
    (hK:∀h',NSx P w pre post id h' {M with Stack:=M.Stack.dropLast}→Keep P h h'→K (.tup []) h'):SCall Gm g [.ptr id 0 j] h K:=by
  obtain ⟨si,hi,js,hN⟩:=hN;refine SCall.run [] [] hg (by kernel_rfl) rfl ?_;simp only [Q5,qK,go_sem];simp only [hN.o,ne5 hj,go_sem];refine qGW (qTL (id:=si) (n:=M.Stack.length) (m:=M.Stack.length-1) (k:=.i64) (by simp only [go_sem]) (by simp only [go_sem,V0 h0 (show M.Stack.length<4611686018427387904 by omega)]) (Nat.sub_le _ _)) ?_;simp only [go_sem];refine qo rfl hN.o rfl (Zk hj (M':={M with Stack:=M.Stack.dropLast}) rfl rfl (by simp)) ?_;simp only [go_sem];obtain ⟨x,hx⟩:=qRM qR.enc (js:=js) h0;obtain ⟨n1,n2⟩:=hN.struct (post':=post) (M':={M with Stack:=M.Stack.dropLast}) hx rfl;exact hK _ ⟨_,_,_,n1⟩ n2
theorem Jg {g:Nat} (hg:Gm g=some (.fn Q6)) (hj:pre.length=j) (hN:NSx P w pre post id h M) (h1:M.Stack.length≤1000000) (f:qR)
    (hK:∀h',NSx P w pre post id h' {M with Stack:=M.Stack++[f]}→Keep P h h'→K (.tup []) h'):SCall Gm g [.ptr id 0 j,f.enc] h K:=by
  obtain ⟨si,hi,js,hN⟩:=hN;refine SCall.run [] [] hg (by kernel_rfl) rfl ?_;simp only [Q6,qK,go_sem];refine qd rfl ?_;simp only [go_sem];simp only [hN.o,ne5 hj,go_sem];have o1:(h++[qC.row 8 [f.enc] true])[h.length]?=some (.row 8 [f.enc] true):=List.getElem?_concat_length;have o2:(h++[qC.row 8 [f.enc] true])[si]?=some (.row 8 (M.Stack.map qR.enc++js) true):=by rw [List.getElem?_append_left (qi hN.s)];exact hN.s
  have hl:(h++[qC.row 8 [f.enc] true]).length=h.length+1:=by simp
  refine jl o1 o2 (by simp) (by omega) ?_;simp only [hl,go_sem];have e:M.Stack.map qR.enc++[f.enc]=(M.Stack++[f]).map qR.enc:=by simp
  rw [e];obtain ⟨n1,n2⟩:=hN.push (M':={M with Stack:=M.Stack++[f]}) (x:=.row 8 [f.enc] true) rfl;have o3:(((h++[qC.row 8 [f.enc] true]).set si .dead)++[qC.row 8 ((M.Stack++[f]).map qR.enc) true])[id]?=some (.row w [.agg (pre++(Nec M si hi++post))] true):=by
    have:=qi hN.o;rw [List.getElem?_append_left (by simp;omega),List.getElem?_set_ne (Ne.symm hN.d1),List.getElem?_append_left this];exact hN.o
  refine qo rfl o3 rfl (Zk hj (M':={M with Stack:=M.Stack++[f]}) rfl rfl (by simp)) ?_;simp only [go_sem];exact hK _ ⟨_,_,_,n1⟩ n2
end
end Go.Ab
namespace Go.Ab
open Go
set_option maxRecDepth 10000
set_option maxHeartbeats 2000000
def lvOk (x:qA) (l:Int):Bool:=
  if x.Kind=4 then (match x.Kids[0]? with
    | some y=>decide ((y.levels 0 l).length≤1)&&(y.levels 0 l).all (fun n=>decide (n=l))
    | none=>true)
  else if x.Kind=7 then (match x.Kids[1]? with
    | some y=>(y.levels 0 l).all (fun n=>decide (n=l)) || (y.levels 0 l).all (fun n=>decide (n=l+1))
    | none=>true)
  else true
def qA.strat:qA→Int→Bool:=qA.fold fun x rs l=>decide (l≤8)&&lvOk x l&&rs.all fun r=>r (l+boxI x.Kind)
theorem Zn {x y:qA} (h:x.ok=true) (hy:y∈x.Kids):y.ok=true:=by
  rw [x.ok_eq,bAt,List.all_eq_true] at h;exact h.2 y hy
theorem Qj {x:qA} (h:x.ok=true):zJ x=true:=by rw [x.ok_eq,bAt] at h;exact h.1
theorem VW {x:qA} (h:x.ok=true):((x.Kind=3∨x.Kind=5∨x.Kind=7)→x.Kids.length=2)∧((x.Kind=4∨x.Kind=6∨x.Kind=9∨x.Kind=10)→x.Kids.length=1):=by
  have h:=Qj h;unfold zJ inI at h;simp only [bAt,decide_eq_true_eq] at h;obtain ⟨⟨⟨⟨h1,h2⟩,_⟩,_⟩,_⟩:=h;constructor
  · rintro (hk | hk | hk)<;>simp [shp,hk] at h1 h2<;>omega
  · rintro (hk | hk | hk | hk)<;>simp [shp,hk] at h1 h2<;>omega
end Go.Ab
namespace Go.Ab
open Go
set_option maxRecDepth 10000
set_option maxHeartbeats 2000000
end Go.Ab
namespace Go.Ab
open Go
set_option maxRecDepth 10000
set_option maxHeartbeats 2000000
theorem VR2s.of_eq {μ:List (Option Nat)} {a b:List AV} (h:a=b) (ht:AV.trees b=true):VR2s μ a b:=by subst h;exact VR2s.trees ht
theorem qk (xs:List Int):AV.trees (xs.map qE)=true:=zD shI.tree xs
def wJ:List Int→Int→List Int
  |[],n=>[n]
  | x::xs,n=>if x<n then x::wJ xs n else if x=n then x::xs else n::x::xs
end Go.Ab
namespace Go.Ab
open Go
set_option maxRecDepth 10000
set_option maxHeartbeats 2000000
def qA.names:qA→List Int→List Int:=qA.fold fun x rs out=>rs.foldl (fun o r=>r o) (x.Data.foldl wJ (if x.Kind=11 then wJ out x.Value else out))
end Go.Ab
namespace Go.Ab
open Go
set_option maxRecDepth 10000
set_option maxHeartbeats 2000000
def Ed (U:List (List Int)) (a b:Int):Prop:=b∈U.getD a.toNat []
open Classical in
noncomputable def recB (U:List (List Int)) (d:Int):Bool:=decide (Relation.TransGen (Ed U) d d)
def qFC (U:List (List Int)):Prop:=∀ys∈U,∀k∈ys,0≤k∧k<U.length
theorem VS:∀(n:Nat) (xs:List Int),xs.Nodup→(∀x∈xs,0≤x∧x<n)→xs.length≤n
  | 0,[],_,_=>Nat.le_refl _
  | 0,x::xs,_,h=>by have:=h x (by simp);omega
  | n+1,xs,hd,h=>by
    by_cases hm:(n:Int)∈xs
    · have h1:=VS n (xs.erase n) (hd.erase _) (fun x hx=>by
        have h2:=h x (List.mem_of_mem_erase hx);have h3:x≠n:=by rintro rfl;exact (hd.not_mem_erase) hx
        omega)
      rw [List.length_erase_of_mem hm] at h1;omega
    · have:=VS n xs hd (fun x hx=>by
        have h2:=h x hx;have h3:x≠n:=by rintro rfl;exact hm hx
        omega)
      omega
structure jj (U:List (List Int)) (d:Int) (i:Nat) (seen:List Int):Prop where
  nd:seen.Nodup
  rng:∀s∈seen,0≤s∧s<U.length
  rch:∀s∈seen,Relation.TransGen (Ed U) d s
  beg:∀s,Ed U d s→s∈seen
  cls:∀j,j<i→∀s,seen[j]?=some s→∀k,Ed U s k→k∈seen
theorem jj.len {U:List (List Int)} {d:Int} {i:Nat} {seen:List Int} (h:jj U d i seen):seen.length≤U.length:=VS _ _ h.nd h.rng
theorem jj.done {U:List (List Int)} {d:Int} {seen:List Int} (h:jj U d seen.length seen):(seen.any fun k=>decide (k=d))=recB U d:=by
  unfold recB;rw [Bool.eq_iff_iff];simp only [List.any_eq_true,decide_eq_true_eq];constructor
  · rintro ⟨k,hk,rfl⟩;exact h.rch _ hk
  · intro hr;refine ⟨d, ?_,rfl⟩;have key:∀{b:Int},Relation.TransGen (Ed U) d b→b∈seen:=by
      intro b hb
      induction hb with
      | single h1=>exact h.beg _ h1
      | tail _ h2 ih=>
        obtain ⟨j,hj,e⟩:=List.getElem_of_mem ih;exact h.cls j hj _ (by rw [gEg hj,e]) _ h2
    exact key hr
theorem jj.next {U:List (List Int)} {d:Int} {i:Nat} {seen':List Int} {e:Int} (h:jj U d i seen') (hp:seen'[i]?=some e) (he:∀k,Ed U e k→k∈seen'):jj U d (i+1) seen':=
  ⟨h.nd,h.rng,h.rch,h.beg,fun j hj s hs k hk=>by
    rcases Nat.lt_succ_iff_lt_or_eq.1 hj with hj | rfl
    · exact h.cls j hj s hs k hk
    · rw [hp] at hs;cases hs;exact he k hk⟩
theorem jj.push {U:List (List Int)} (hU:qFC U) {d:Int} {i:Nat} {seen:List Int} {e k:Int} (h:jj U d i seen) (hi:i≤seen.length) (he:e∈seen) (hk:Ed U e k) (hn:k∉seen):jj U d i (seen++[k]) where
  nd:=by
    rw [List.nodup_append];refine ⟨h.nd,by simp, ?_⟩;intro a ha b hb;simp at hb;rintro rfl;rw [hb] at ha;exact hn ha
  rng:=fun s hs=>by
    rcases List.mem_append.1 hs with hs | hs
    · exact h.rng s hs
    · simp at hs;subst hs;unfold Ed at hk;rw [List.getD_eq_getElem?_getD] at hk;cases hq:U[e.toNat]? with
      | none=>rw [hq] at hk;simp at hk
      | some ys=>rw [hq] at hk;exact hU ys (List.mem_of_getElem? hq) _ hk
  rch:=fun s hs=>by
    rcases List.mem_append.1 hs with hs | hs
    · exact h.rch s hs
    · simp at hs;subst hs;exact .tail (h.rch e he) hk
  beg:=fun s hs=>List.mem_append.2 (.inl (h.beg s hs))
  cls:=fun j hj s hs k' hk'=>by
    rw [List.getElem?_append_left (by omega)] at hs;exact List.mem_append.2 (.inl (h.cls j hj s hs k' hk'))
end Go.Ab
namespace Go.Ab
open Go
set_option maxRecDepth 10000
set_option maxHeartbeats 2000000
theorem jj.start {U:List (List Int)} (hU:qFC U) {d:Nat} (hd:d<U.length) (hn:U[d].Nodup):jj U d 0 U[d] where
  nd:=hn
  rng:=fun s hs=>hU _ (gMm hd) s hs
  rch:=fun s hs=>.single (by unfold Ed;rw [List.getD_eq_getElem?_getD,Int.toNat_natCast,gEg hd];exact hs)
  beg:=fun s hs=>by unfold Ed at hs;rw [List.getD_eq_getElem?_getD,Int.toNat_natCast,gEg hd] at hs;exact hs
  cls:=fun j hj=>by omega
end Go.Ab
namespace Go.Ab
open Go
set_option maxRecDepth 10000
set_option maxHeartbeats 2000000
def jr {α β:Type} (f:Nat→α→β):List α→Nat→List β
  |[],_=>[]
  | x::xs,i=>f i x::jr f xs (i+1)
theorem qGJ {α β γ:Type} (f:Nat→β→γ) (g:α→β):∀(xs:List α) (i:Nat),jr f (xs.map g) i=jr (fun k x=>f k (g x)) xs i
  |[],_=>rfl
  | x::xs,i=>by simp [jr,qGJ f g xs]
theorem VJ {α β:Type} (f:Nat→α→β):∀(xs:List α) (i:Nat),(jr f xs i).length=xs.length
  |[],_=>rfl
  | x::xs,i=>by simp [jr,VJ f xs]
def qA.vb (m:Int):qA→Bool:=qA.fold fun x rs=>(!decide (x.Kind=1) || inI x.Value 0 m)&&rs.all id
theorem qA.vb_eq (m:Int) (x:qA):x.vb m=((!decide (x.Kind=1) || inI x.Value 0 m)&&x.Kids.all (qA.vb m)):=by
  unfold qA.vb;rw [qA.fold_eq];simp
theorem qT5 {x y:qA} {m:Int} (h:x.vb m=true) (hy:y∈x.Kids):y.vb m=true:=by
  rw [x.vb_eq,bAt,List.all_eq_true] at h;exact h.2 y hy
def Vp (k v a f:Int):Int:=if k=1∧f≤v then v+a else v
def qA.shift (a:Int):qA→Int→qA:=qA.fold fun x rs f=>.mk x.Kind (Vp x.Kind x.Value a f) x.Data (jr (fun i (r:Int→qA)=>r (f+qv x.Kind i)) rs 0)
theorem qA.shift_eq (a:Int) (x:qA) (f:Int):x.shift a f=.mk x.Kind (Vp x.Kind x.Value a f) x.Data (jr (fun i y=>y.shift a (f+qv x.Kind i)) x.Kids 0):=by
  unfold qA.shift;rw [qA.fold_eq,qGJ]
theorem qn (xs:List qA):AV.trees (xs.map qA.enc)=true:=zD qA.isSh.tree xs
end Go.Ab
namespace Go.Ab
open Go
set_option maxRecDepth 10000
set_option maxHeartbeats 2000000
theorem qJ5 {α:Type} {f:α→Nat} {xs:List α} {i:Nat} (h:i<xs.length):zE f (xs.take (i+1))=max (zE f (xs.take i)) (f xs[i]):=by
  induction xs generalizing i with
  | nil=>simp at h
  | cons a xs ih=>
    cases i with
    | zero=>simp [zE]
    | succ i=>
      simp only [List.take_succ_cons,zE,List.getElem_cons_succ,ih (by simpa using h)];show max _ _=max (max _ _) _;rw [Nat.max_assoc]
theorem qHG {α:Type} (f:α→Nat):∀(xs:List α) (i:Nat),qF f (xs.take i)≤qF f xs
  |[],i=>by simp
  | a::xs,0=>by simp [qF]
  | a::xs,i+1=>by simp only [List.take_succ_cons,qF];have:=qHG f xs i;omega
@[go_sem] theorem qlF {α:Type} (f:α→Nat):zE f []=0:=rfl
theorem qA.dep_size:∀x:qA,x.dep≤x.size:=qA.ind fun x ih=>by
  rw [x.dep_eq,x.size_eq];have:∀xs:List qA,(∀y∈xs,y.dep≤y.size)→zE qA.dep xs≤qF qA.size xs:=by
    intro xs
    induction xs with
    | nil=>intro _;simp [zE]
    | cons a xs ihx=>
      intro h;have h1:=h a (by simp);have h2:=ihx (fun y hy=>h y (by simp [hy]));simp only [zE,qF];show max _ _≤_;omega
  have:=this _ ih;omega
def qA.fits (x:qA):Bool:=decide (x.size≤400)&&decide (x.dep≤80)
def qA.left:qA→Int→Int:=qA.fold fun _ rs l=>rs.foldl (fun l (r:Int→Int)=>if l<0 then l else r l) (l-1)
def qA.boxes:qA→Nat:=qA.fold fun x rs=>zE id rs+if x.Kind=6 then 1 else 0
end Go.Ab
namespace Go.Ab
open Go
set_option maxRecDepth 10000
set_option maxHeartbeats 2000000
def sumK {α:Type} (f:Nat→α→Nat):List α→Nat→Nat
  |[],_=>0
  | x::xs,i=>f i x+sumK f xs (i+1)
@[go_sem] theorem qoB {α:Type} (f:Nat→α→Nat) (k:Nat):sumK f [] k=0:=rfl
def Vc (v d:Int):Int:=if d<v then v-1 else v
def qA.put (arg:qA):qA→Int→qA:=qA.fold fun x rs d=>
  if x.Kind=1 then (if x.Value=d then arg.shift d 0 else .mk 1 (Vc x.Value d) [] []) else .mk x.Kind x.Value x.Data (jr (fun i (r:Int→qA)=>r (d+qv x.Kind i)) rs 0)
theorem qA.put_eq (arg x:qA) (d:Int):qA.put arg x d=if x.Kind=1 then (if x.Value=d then arg.shift d 0 else .mk 1 (Vc x.Value d) [] []) else .mk x.Kind x.Value x.Data (jr (fun i y=>qA.put arg y (d+qv x.Kind i)) x.Kids 0):=by
  unfold qA.put;rw [qA.fold_eq,qGJ]
theorem Yi {h:List qC} {k v:Int} {d:List Int} {ks:List qA} {D K:AV} (hd:Cv h D (.lst 1 (d.map qE) false)) (hk:Cv h K (.lst 4 (ks.map qA.enc) false)):
    Cv h (.agg [.int .i64 k,.int .i64 v,D,K]) (qA.mk k v d ks).enc:=by
  rw [qA.enc_eq];refine .agg rfl ?_;simp only [List.zip_cons_cons,List.zip_nil_left,List.mem_cons,List.not_mem_nil,or_false,qA.Kind,qA.Value,qA.Data,qA.Kids];rintro p (rfl | rfl | rfl | rfl)
  · exact .refl rfl
  · exact .refl rfl
  · exact hd
  · exact hk
theorem qA.isAgg (x:qA):∃cs,x.enc=.agg cs:=⟨_,x.enc_eq⟩
theorem JS {h:List qC} {k v:Int}:Cv h (.agg [.int .i64 k,.int .i64 v,.nils,.nils]) (qA.mk k v [] []).enc:=Yi .nils .nils
end Go.Ab
namespace Go.Ab
open Go
set_option maxRecDepth 10000
set_option maxHeartbeats 2000000
end Go.Ab
namespace Go.Ab
open Go
set_option maxRecDepth 10000
set_option maxHeartbeats 2000000
def qA.d4:qA→Bool:=qA.fold fun x rs=>decide (x.Data.length≤4)&&rs.all id
theorem qA.d4_eq (x:qA):x.d4=(decide (x.Data.length≤4)&&x.Kids.all qA.d4):=by
  unfold qA.d4;rw [qA.fold_eq];simp
theorem qN5 {x y:qA} (h:x.d4=true) (hy:y∈x.Kids):y.d4=true:=by
  rw [x.d4_eq,bAt,List.all_eq_true] at h;exact h.2 y hy
theorem qA.sz_d4:∀x:qA,x.d4=true→x.sz+1≤5*x.size:=qA.ind fun x ih h=>by
  have h0:=h;rw [x.d4_eq,bAt,decide_eq_true_eq] at h0;rw [x.sz_eq,x.size_eq];have:∀xs:List qA,(∀y∈xs,y.sz+1≤5*y.size)→xs.length+qF qA.sz xs≤5*qF qA.size xs:=by
    intro xs
    induction xs with
    | nil=>intro _;simp [qF]
    | cons a xs ihx=>
      intro h;have h1:=h a (by simp);have h2:=ihx (fun y hy=>h y (by simp [hy]));simp only [qF,List.length_cons];omega
  have:=this x.Kids (fun y hy=>ih y hy (qN5 h hy));omega
theorem qR2:∀x:qA,x.ok=true→x.d4=true:=qA.ind fun x ih h=>by
  have h0:=Qj h;unfold zJ inI at h0;simp only [bAt,decide_eq_true_eq] at h0;rw [x.d4_eq,bAt,decide_eq_true_eq,List.all_eq_true];refine ⟨?_,fun y hy=>ih y hy (Zn h hy)⟩;have h1:=h0.1.1.2;have:(shp x.Kind).2.2≤4:=by
    unfold shp
    repeat' split
    all_goals decide
  omega
theorem qR3:∀x:qA,x.ok=true→x.vb 255=true:=qA.ind fun x ih h=>by
  have h0:=Qj h;unfold zJ at h0;simp only [bAt] at h0;rw [x.vb_eq,bAt,List.all_eq_true];refine ⟨?_,fun y hy=>ih y hy (Zn h hy)⟩;by_cases hk:x.Kind=1
  · have h1:=h0.1.2;unfold jU at h1;rw [if_pos hk] at h1;rw [h1];simp
  · simp [hk]
theorem qT6 {m n:Int} (hmn:m≤n):∀x:qA,x.vb m=true→x.vb n=true:=qA.ind fun x ih h=>by
  have h0:=h;rw [x.vb_eq,bAt] at h0;rw [x.vb_eq,bAt,List.all_eq_true];refine ⟨?_,fun y hy=>ih y hy (qT5 h hy)⟩;have h1:=h0.1;simp only [inI,Bool.or_eq_true,Bool.not_eq_true',decide_eq_false_iff_not,bAt,decide_eq_true_eq] at h1⊢;rcases h1 with h1 | h1
  · exact .inl h1
  · exact .inr ⟨h1.1,by omega⟩
@[go_sem] theorem qA.mk_kids {k v:Int} {d:List Int} {ks:List qA}:(qA.mk k v d ks).Kids=ks:=rfl
@[go_sem] theorem qA.mk_data {k v:Int} {d:List Int} {ks:List qA}:(qA.mk k v d ks).Data=d:=rfl
@[go_sem] theorem qA.mk_kind {k v:Int} {d:List Int} {ks:List qA}:(qA.mk k v d ks).Kind=k:=rfl
@[go_sem] theorem qA.mk_value {k v:Int} {d:List Int} {ks:List qA}:(qA.mk k v d ks).Value=v:=rfl
theorem qKH {x:qA} (h:x.ok=true) (hk:x.Kind=1):x.Kids=[]:=by
  have h:=Qj h;unfold zJ inI at h;simp only [bAt,decide_eq_true_eq] at h;obtain ⟨⟨⟨⟨h1,h2⟩,_⟩,_⟩,_⟩:=h;simp [shp,hk] at h1 h2;exact h2
def zd:qA:=.mk 0 0 [] []
theorem qUC {h:List qC}:Cv h (.agg [.int .i64 0,.int .i64 0,.nils,.nils]) zd.enc:=JS
theorem Vw {x:qA} (h:x.valid=true):x.ok=true∧x.dep≤80∧x.size≤400∧x.sz≤2000∧x.vb 4294967296=true:=by
  unfold qA.valid at h;simp only [bAt,decide_eq_true_eq] at h;have h1:=qA.sz_d4 x (qR2 x h.1.1);exact ⟨h.1.1,h.1.2,h.2,by omega,qT6 (by omega) x (qR3 x h.1.1)⟩
end Go.Ab
namespace Go.Ab
open Go
set_option maxRecDepth 10000
set_option maxHeartbeats 2000000
def w32 (x:Int):Int:=IntKind.i64.wrap (IntKind.i32.wrap (IntKind.u32.wrap (IntKind.u64.wrap x)))
def opI (k a b:Int):Int:=
  if k=1 then w32 (IntKind.i64.wrap (w32 a+w32 b)) else if k=2 then w32 (IntKind.i64.wrap (w32 a-w32 b)) else if k=3 then w32 (IntKind.i64.wrap (w32 a*w32 b))
  else if k=4 then (if w32 b=0 then 0 else w32 (IntKind.i64.wrap ((w32 a).tdiv (w32 b)))) else if k=5 then (if w32 a<w32 b then 1 else 0) else if k=6 then (if w32 a=w32 b then 1 else 0) else 0
def appC (f a:qA):qA:=.mk 5 0 [] [f,a]
def qNS (d:Int) (as:List qA):qA:=as.foldl appC (.mk 11 d [] [])
attribute [local simp] qn
section
variable {e:Env} {w i:Nat} {el:List AV} {v:AV} {x:Ao} {r:List (Nat×Ao)}
@[go_sem] theorem qhJ {a b:AV} (h:v.cells.length=w):fil e w [a,b] 0 (some v) r=zQ e w [v,b] r:=by
  show (if v.cells.length=w∧0<2 then _ else _)=_;rw [if_pos ⟨h,by omega⟩];rfl
@[go_sem] theorem qhK {a b:AV} (h:v.cells.length=w):fil e w [a,b] 1 (some v) r=zQ e w [a,v] r:=by
  show (if v.cells.length=w∧1<2 then _ else _)=_;rw [if_pos ⟨h,by omega⟩];rfl
@[go_sem] theorem rep2 {v:AV}:List.replicate 2 v=[v,v]:=nr rfl
end
theorem QF {x:Int}:Pure Gm 1125 [.int .i64 x] (.int .i64 (w32 x)):=by
  refine Pure.intro [] [] qO8 (by kernel_rfl) rfl (by simp [AV.trees,AV.tree,go_sem]) rfl ?_;simp only [WA,qK,go_sem];exact qO rfl rfl
theorem qIA {b:Bool}:Pure Gm 1126 [.bool b] (.int .i64 (if b then 1 else 0)):=by
  refine Pure.intro [] [] qO9 (by kernel_rfl) rfl (by simp [AV.trees,AV.tree,go_sem]) rfl ?_;simp only [WB,qK,go_sem];refine qI ?_ ?_<;>intro hc<;>simp only [hc,go_sem]
  · exact qO rfl rfl
  · exact qO rfl rfl
theorem c762 {k a b:Int}:Pure Gm 762 [.int .i64 k,.int .i64 a,.int .i64 b] (.int .i64 (opI k a b)):=by
  refine Pure.intro [] [] g762 (by kernel_rfl) rfl (by simp [AV.trees,AV.tree,go_sem]) rfl ?_;simp only [Xg,qK,go_sem];refine qL QF ?_;simp only [go_sem];refine qL QF ?_;simp only [go_sem];unfold opI;refine qI ?_ ?_<;>intro hc<;>simp only [hc,go_sem]
  · rw [if_pos (odT hc)];refine qL QF ?_;simp only [go_sem];exact qO rfl rfl
  rw [if_neg (odF hc)];refine qI ?_ ?_<;>intro hc<;>simp only [hc,go_sem]
  · rw [if_pos (odT hc)];refine qL QF ?_;simp only [go_sem];exact qO rfl rfl
  rw [if_neg (odF hc)];refine qI ?_ ?_<;>intro hc<;>simp only [hc,go_sem]
  · rw [if_pos (odT hc)];refine qL QF ?_;simp only [go_sem];exact qO rfl rfl
  rw [if_neg (odF hc)];refine qI ?_ ?_<;>intro hc<;>simp only [hc,go_sem]
  · rw [if_pos (odT hc)];refine qI ?_ ?_<;>intro hc<;>simp only [hc,go_sem]
    · rw [if_pos (odT hc)];exact qO rfl rfl
    rw [if_neg (odF hc)];have hq:=odF hc;simp only [if_neg hq,go_sem];refine qL QF ?_;simp only [go_sem];exact qO rfl rfl
  rw [if_neg (odF hc)];refine qI ?_ ?_<;>intro hc<;>simp only [hc,go_sem]
  · rw [if_pos (odT hc)];refine qL qIA ?_;simp only [go_sem];exact qO rfl (by simp)
  rw [if_neg (odF hc)];refine qI ?_ ?_<;>intro hc<;>simp only [hc,go_sem]
  · rw [if_pos (odT hc)];refine qL qIA ?_;simp only [go_sem];exact qO rfl (by simp)
  rw [if_neg (odF hc)];exact qO rfl rfl
theorem c381 {x:Int}:Pure Gm 381 [.int .i64 x] ((qA.mk 2 x [] []).enc):=by
  refine Pure.intro [] [] g381 (by kernel_rfl) rfl (by simp [AV.trees,AV.tree,go_sem]) (by simp [go_sem]) ?_;simp only [XC,qK,go_sem];refine qY (k:=4) (by rfl) (by rfl) (by exact ⟨_,rfl⟩) (by decide) ?_;simp only [go_sem];exact wD JS
theorem qNH {x:Int}:Pure Gm 1127 [.int .i64 x] ((qA.mk 11 x [] []).enc):=by
  refine Pure.intro [] [] qPA (by kernel_rfl) rfl (by simp [AV.trees,AV.tree,go_sem]) (by simp [go_sem]) ?_;simp only [WC,qK,go_sem];refine qY (k:=4) (by rfl) (by rfl) (by exact ⟨_,rfl⟩) (by decide) ?_;simp only [go_sem];exact wD JS
theorem c382 {k v:Int} {ks:List qA}:Pure Gm 382 [.int .i64 k,.int .i64 v,.lst 4 (ks.map qA.enc) false] ((qA.mk k v [] ks).enc):=by
  refine Pure.intro [] [] g382 (by kernel_rfl) rfl (by simp [AV.trees,AV.tree,go_sem]) (by simp [go_sem]) ?_;simp only [XD,qK,go_sem];refine qY (k:=4) (by rfl) (by simp [AV.tree,AV.trees,go_sem]) (by exact ⟨_,rfl⟩) (by decide) ?_;simp only [go_sem];exact wD (Yi .nils (.refl (by simp [AV.tree,go_sem])))
def redK (x:qA):Int:=match x.Kids with
  |[]=>0
  | y::ys=>
    if x.Kind=5 then (if y.Kind=4 then 1 else if y.Kind=11 then 4 else 0)
    else if x.Kind=3 then (if y.Kind=11 then 4 else if y.Kind=2 then (match ys with | z::_=>if z.Kind=2 then 2 else if z.Kind=11 then 4 else 0 |[]=>0) else 0)
    else if x.Kind=9 then (if y.Kind=8∧y.Value<(x.Data.length:Nat) then 3 else if y.Kind=11 then 4 else 0)
    else if x.Kind=10 then (if y.Kind=2 then 3 else if y.Kind=11 then 4 else 0) else 0
def redD (x:qA):Int:=match x.Kids with
  |[]=>0
  | y::_=>if x.Kind=10 then (if y.Value=0 then x.Data.getD 1 0 else x.Data.getD 0 0) else x.Data.getD y.Value.toNat 0
theorem qGP {x:qA} (h:x.ok=true):jU x.Kind x.Value=true:=by
  have h:=Qj h;unfold zJ at h;simp only [bAt] at h;exact h.1.2
end Go.Ab
namespace Go.Ab
open Go
set_option maxRecDepth 10000
set_option maxHeartbeats 2000000
attribute [local simp] qn qk
def ZS (b:qH) (R:List Int) (lim:Int):AV:=.agg [.ept b.enc 0,.lst 1 (R.map qE) false,.int .i64 lim]
@[go_sem] theorem qg5 {b:qH} {R:List Int} {lim:Int}:(ZS b R lim).part 0 none=some (.ept b.enc 0):=nr rfl
@[go_sem] theorem qg6 {b:qH} {R:List Int} {lim:Int}:(ZS b R lim).part 1 none=some (.lst 1 (R.map qE) false):=nr rfl
@[go_sem] theorem qg7 {b:qH} {R:List Int} {lim:Int}:(ZS b R lim).part 2 none=some (.int .i64 lim):=nr rfl
@[go_sem] theorem qg8 {b:qH} {R:List Int} {lim:Int}:(ZS b R lim).tree=true:=by simp [ZS,AV.tree,AV.trees,go_sem]
def kid0 (a:qA):qA:=a.Kids.headD zd
def let1 (a:qA) (L:List Int) (l:Int):qA×Int:=
  if L.length=0 then (a,0) else if a.Kind=2 then (a,0) else if a.Kind=6∧(kid0 a).Kind=2 then (kid0 a,0)
  else if L.length=1∧L.head?=some l then (a,0) else if L.length=1∧a.Kind=6 then (kid0 a,0) else (zd,3)
def letC (x:qA) (l:Int):qA×Int:=match x.Kids with
  | a::c::_=>let1 a (c.levels 0 l) l
  | _=>(zd,3)
@[go_sem] theorem qkA {w id:Nat} {cl:Bool} {k:IntKind}:idx w (some (.slice w id 0 1 cl)) (some (.int k 0))=some (.ptr id 0 0):=qF8 (by omega) (by omega)
end Go.Ab
namespace Go.Ab
open Go
set_option maxRecDepth 10000
set_option maxHeartbeats 2000000
attribute [local simp] qn qk
abbrev OutC:=qA×Int×Int
def outE (r:OutC):AV:=.tup [r.1.enc,.int .i64 r.2.1,.int .i64 r.2.2]
@[go_sem] theorem qmV {r:OutC}:(outE r).tree=true:=by simp [outE,AV.tree,AV.trees,go_sem]
end Go.Ab
namespace Go.Ab
open Go
set_option maxRecDepth 10000
set_option maxHeartbeats 2000000
attribute [local simp] qn qk
end Go.Ab
namespace Go.Ab
open Go
set_option maxRecDepth 10000
set_option maxHeartbeats 2000000
attribute [local simp] qn qk
def Asc (n:Int) (xs:List Int):Prop:=xs.Pairwise (· < ·)∧∀k∈xs,0≤k∧k<n
theorem qGS:∀{xs:List Int} {n k:Int},k∈wJ xs n→k=n∨k∈xs
  |[],n,k,h=>by simp [wJ] at h;exact .inl h
  | x::xs,n,k,h=>by
    unfold wJ at h;split at h
    · rcases List.mem_cons.1 h with rfl | h
      · simp
      · rcases qGS h with h | h
        · exact .inl h
        · simp [h]
    · split at h
      · exact .inr h
      · rcases List.mem_cons.1 h with rfl | h
        · exact .inl rfl
        · exact .inr h
theorem qKW:∀{xs:List Int} {n:Int},xs.Pairwise (· < ·)→(wJ xs n).Pairwise (· < ·)
  |[],n,_=>by simp [wJ]
  | x::xs,n,h=>by
    rw [List.pairwise_cons] at h;unfold wJ;split
    · rw [List.pairwise_cons];refine ⟨fun k hk=> ?_,qKW h.2⟩;rcases qGS hk with rfl | hk
      · assumption
      · exact h.1 k hk
    · split
      · rw [List.pairwise_cons];exact h
      · rw [List.pairwise_cons,List.pairwise_cons];refine ⟨fun k hk=> ?_,h⟩;rcases List.mem_cons.1 hk with rfl | hk
        · omega
        · have:=h.1 k hk;omega
theorem Asc.put {n:Int} {xs:List Int} (h:Asc n xs) {k:Int} (hk:0≤k∧k<n):Asc n (wJ xs k):=
  ⟨qKW h.1,fun j hj=>by rcases qGS hj with rfl | hj;exact hk;exact h.2 j hj⟩
end Go.Ab
namespace Go.Ab
open Go
set_option maxRecDepth 10000
set_option maxHeartbeats 2000000
attribute [local simp] qn qk
def fzp (n id:Nat) (o:Option qC) (st:VSt):VSt:=match o with
  | some (.row w [v] true)=>if w=0 then st else {s:=(n,.ept v 0)::st.s,l:=st.l,h:=st.h.set id .dead}
  | _=>st
def fzo (n:Nat) (v:Option AV) (st:VSt):VSt:=match v with
  | none=>st
  | some (.ept _ _)=>st
  | some (.lst _ _ _)=>st
  | some (.int _ _)=>st
  | some (.bool _)=>st
  | some .nils=>st
  | some (.agg _)=>st
  | some (.ptr id 0 0)=>fzp n id st.h[id]? st
  | _=>wj n st
section
variable {n id:Nat} {s m:qZ} {h:List qC} {v x:AV} {st:VSt}
@[go_sem] theorem qh5:wj n ⟨s,m,h⟩=fzo n (get s n) ⟨s,m,h⟩:=by
  unfold fzo;split<;>rename_i e<;>try (simp only [wj,e];done)
  · simp only [wj,e,fzp];split<;>rename_i e2<;>simp only [e2]
    · split<;>split<;>first | rfl | omega
@[go_sem] theorem qiE:get [] n=none:=nr rfl
@[go_sem] theorem qiA:fzo n none st=st:=nr rfl
@[go_sem] theorem qh6 {j:Nat}:fzo n (some (.ept v j)) st=st:=nr rfl
@[go_sem] theorem qh8 {w:Nat} {xs:List AV} {c:Bool}:fzo n (some (.lst w xs c)) st=st:=nr rfl
@[go_sem] theorem qh9:fzo n (some .nils) st=st:=nr rfl
@[go_sem] theorem qh7 {k:IntKind} {i:Int}:fzo n (some (.int k i)) st=st:=nr rfl
@[go_sem] theorem qiB:fzo n (some (.ptr id 0 0)) ⟨s,m,h⟩=fzp n id h[id]? ⟨s,m,h⟩:=nr rfl
@[go_sem] theorem qiC {w:Nat}:fzp n id (some (.row w [v] true)) ⟨s,m,h⟩=if w=0 then ⟨s,m,h⟩ else ⟨(n,.ept v 0)::s,m,h.set id .dead⟩:=nr rfl
end
theorem qFF {α:Type} (p:α→Bool) (xs:List α):(!xs.any fun x=> !p x)=xs.all p:=by
  induction xs with
  | nil=>rfl
  | cons x xs ih=>simp only [List.any_cons,List.all_cons,Bool.not_or,Bool.not_not,ih]
theorem c397 {f:AV} (p:Int→Bool) (hft:f.tree=true) (xs:List Int) (hf:∀x∈xs,YQ Gm f [qE x] (.bool (p x))) (hl:xs.length≤1048576):Pure Gm 397 [.lst 1 (xs.map qE) false,f] (.bool (xs.any p)):=
  qIR shI (gc:=774) g397 g774 f p hft xs hf hl
theorem c581 {f:AV} (p:qA→Bool) (hft:f.tree=true) (xs:List qA) (hf:∀x∈xs,YQ Gm f [x.enc] (.bool (p x))) (hl:xs.length≤1048576):Pure Gm 581 [.lst 4 (xs.map qA.enc) false,f] (.bool (xs.any p)):=
  qIR qA.isSh (gc:=958) g581 g958 f p hft xs hf hl
theorem n401 (xs:List Int) (hz:xs.length≤4194304):Fresh Gm 401 [.lst 1 (xs.map qE) false] (.lst 1 (xs.map qE) false):=
  qNT (w:=1) g401 (lI xs) (jK (fun _=>rfl) xs) (zD shI.tree xs) (by simpa using hz)
theorem c796 {n:Int}:Pure Gm 796 [.int .i64 n] (.bool (jN n)):=by
  refine Pure.intro [] [] g796 (by kernel_rfl) rfl (by simp [AV.trees,AV.tree,go_sem]) rfl ?_;simp only [Xk,qK,go_sem]
  repeat' (first | (refine qd rfl ?_;simp only [go_sem]) | (first | (refine qq ?_ ?_<;>intro hc<;>simp only [hc,go_sem]) | (refine qI ?_ ?_<;>intro hc<;>simp only [hc,go_sem])) | refine qO rfl ?_ | refine jG (by rfl) ?_)
  all_goals ((simp only [jN,inI,AV.bool.injEq];rw [Bool.eq_iff_iff];simp at*;try omega))
theorem qNE {n:Int}:Pure Gm 1050 [.int .i64 n] (.bool (inI n 1 6)):=by
  refine Pure.intro [] [] qO4 (by kernel_rfl) rfl (by simp [AV.trees,AV.tree,go_sem]) rfl ?_;simp only [Z6,qK,go_sem]
  repeat' (first | (refine qd rfl ?_;simp only [go_sem]) | (first | (refine qq ?_ ?_<;>intro hc<;>simp only [hc,go_sem]) | (refine qI ?_ ?_<;>intro hc<;>simp only [hc,go_sem])) | refine qO rfl ?_ | refine jG (by rfl) ?_)
  all_goals ((simp only [inI,AV.bool.injEq];rw [Bool.eq_iff_iff];simp at*;try omega))
theorem qNF {n:Int}:Pure Gm 1051 [.int .i64 n] (.bool (inI n (-2147483648) 2147483647)):=by
  refine Pure.intro [] [] qO5 (by kernel_rfl) rfl (by simp [AV.trees,AV.tree,go_sem]) rfl ?_;simp only [Z7,qK,go_sem]
  repeat' (first | (refine qd rfl ?_;simp only [go_sem]) | (first | (refine qq ?_ ?_<;>intro hc<;>simp only [hc,go_sem]) | (refine qI ?_ ?_<;>intro hc<;>simp only [hc,go_sem])) | refine qO rfl ?_ | refine jG (by rfl) ?_)
  all_goals ((simp only [inI,AV.bool.injEq];rw [Bool.eq_iff_iff];simp at*;try omega))
theorem qNL {n:Int}:Pure Gm 1402 [.int .i64 n] (.bool (!jN n)):=by
  refine Pure.intro [] [] qPT (by kernel_rfl) rfl (by simp [AV.trees,AV.tree,go_sem]) rfl ?_;simp only [We,qK,go_sem]
  repeat' (first | (refine qd rfl ?_;simp only [go_sem]) | (first | (refine qq ?_ ?_<;>intro hc<;>simp only [hc,go_sem]) | (refine qI ?_ ?_<;>intro hc<;>simp only [hc,go_sem])) | (refine qL (c796) ?_;simp only [go_sem]) | refine qO rfl ?_ | refine jG (by rfl) ?_)
  all_goals (simp_all<;>omega)
theorem c665 (x:qA):∀(hz:x.sz≤1048576) (hd:x.dep≤2097152) (hs:x.size≤2097152),Pure Gm 665 [x.enc] (.tup [.int .i64 (x.dep:Nat),.int .i64 (x.size:Nat)]):=by
  induction x using qA.ind with
  | _ x ih=>
  intro hz hd hs;refine Pure.intro [] [] g665 (by kernel_rfl) rfl (by simp [AV.trees,AV.tree,go_sem]) rfl ?_;simp only [XY,qK,go_sem];have hL:=x.len_sz;have hde:=x.dep_eq;have hse:=x.size_eq;refine qd qA.ln ?_;simp only [go_sem];refine Sem.loop (fun i:Nat=>i≤x.Kids.length∧True) (fun i=>(⟨[(2,.int .i64 ((1+zE qA.dep (x.Kids.take i):Nat):Int)),(3,.int .i64 ((1+qF qA.size (x.Kids.take i):Nat):Int)),(9,.lst 4 (x.Kids.map qA.enc) false),(10,.int .i64 (x.Kids.length:Nat)),(11,.int .i64 (i:Nat))],[(1,x.enc)],[]⟩:VSt)) (fun i=>x.Kids.length-i) 0 (by kernel_rfl) ⟨Nat.zero_le _,by trivial⟩ (Can.sub (by simp [go_sem]) (by simp [go_sem])) ?_;rintro i ⟨hi,hI⟩;simp only [go_sem];refine qI ?_ ?_<;>intro hc<;>simp only [hc,go_sem]
  · have hlt:i<x.Kids.length:=by have:=odT hc;omega
    simp only [List.getElem?_map,gEg hlt,Option.map_some,go_sem];have hm:=gMm hlt;have hk:=qA.kid_sz hm;have hp:=qA.dep_kid hm;refine qY (k:=4) (by rfl) (by simp [go_sem]) (qA.isAgg _) (by decide) ?_;simp only [go_sem];refine qL (ih _ hm (by omega) (by omega) (by have:=zu (f:=qA.size) hm;omega)) ?_;simp only [go_sem];have ht:=qHF (f:=qA.size) hlt;have hle:=qHG qA.size x.Kids (i+1);have e1:((1+qF qA.size (x.Kids.take i):Nat):Int)+x.Kids[i].size=((1+qF qA.size (x.Kids.take (i+1)):Nat):Int):=by omega
    have e2:max ((1+zE qA.dep (x.Kids.take i):Nat):Int) ((x.Kids[i].dep:Int)+1)=((1+zE qA.dep (x.Kids.take (i+1)):Nat):Int):=by rw [qJ5 hlt];omega
    rw [zC (n:=(x.Kids[i].dep:Int)+1) (by omega) (by omega),e1,e2,zC (n:=((1+qF qA.size (x.Kids.take (i+1)):Nat):Int)) (by omega) (by omega)];simp only [zA (show i<4611686018427387904 by omega)];refine qx (i+1) ⟨by omega, ?_⟩ (by omega) (Can.sub (by simp [go_sem]) (by simp [go_sem]));trivial
  · obtain rfl:i=x.Kids.length:=by have:=odF hc;omega
    rw [List.take_length,←hde,←hse];exact jG (by rfl) rfl
theorem c495 {x:qA} (hz:x.sz≤1048576) (hd:x.dep≤2097152) (hs:x.size≤2097152):Pure Gm 495 [x.enc] (.bool x.fits):=by
  refine Pure.intro [] [] g495 (by kernel_rfl) rfl (by simp [AV.trees,AV.tree,go_sem]) rfl ?_;simp only [XN,qK,go_sem];refine qd qA.ln ?_;simp only [go_sem];refine qL (c665 x hz hd hs) ?_;simp only [go_sem];refine qq ?_ ?_<;>intro hc<;>simp only [hc,go_sem]
  · exact qO rfl (by unfold qA.fits;rw [decide_eq_true (p:=x.dep≤80) (by have:=odT hc;omega),Bool.and_true];simp;omega)
  · exact qO rfl (by unfold qA.fits;rw [decide_eq_false (p:=x.dep≤80) (by simp at hc;omega),Bool.and_false])
theorem qNJ {x:qA} (hz:x.sz≤1048576):Pure Gm 1130 [x.enc] (.bool (zJ x)):=by
  refine Pure.intro [] [] qPC (by kernel_rfl) rfl (by simp [AV.trees,AV.tree,go_sem]) rfl ?_;simp only [WE,qK,go_sem];have hL:=x.len_sz;refine qd qA.ln ?_;simp only [go_sem]
  repeat' (first | (first | (refine qq ?_ ?_<;>intro hc<;>simp only [hc,go_sem]) | (refine qI ?_ ?_<;>intro hc<;>simp only [hc,go_sem])) | (refine qL qNF ?_;simp only [go_sem]) | (refine qL qNE ?_;simp only [go_sem]) | (refine qL c796 ?_;simp only [go_sem]) | (refine qL (c397 (f:=.fn 1402 []) (fun n=> !jN n) rfl x.Data (fun y _=>⟨1402,[],rfl,qNL⟩) (by omega)) ?_;simp only [go_sem]) | refine qO rfl ?_)
  all_goals (try rw [qFF])
  all_goals (refine congrArg AV.bool ?_;unfold zJ jU shp;simp_all [inI,jN]<;>first | omega | (intros;omega))
end Go.Ab
namespace Go.Ab
open Go
set_option maxRecDepth 10000
set_option maxHeartbeats 2000000
attribute [local simp] qn qk
def wv (x:qA):AV:=if x.ok=true then .tup [.int .i64 (x.dep:Nat),.int .i64 (x.size:Nat),.bool true] else .tup [.int .i64 0,.int .i64 0,.bool false]
theorem qTJ (x:qA):(wv x).tree=true:=by unfold wv;split<;>rfl
theorem qMF (x:qA):x.valid=(x.ok&&x.fits):=by
  unfold qA.valid qA.fits;cases x.ok<;>cases decide (x.dep≤80)<;>cases decide (x.size≤400)<;>rfl
theorem c770 (x:qA):∀(hz:x.sz≤1048576) (hd:x.dep≤2097152) (hs:x.size≤2097152),Pure Gm 770 [x.enc] (wv x):=by
  induction x using qA.ind with
  | _ x ih=>
  intro hz hd hs;refine Pure.intro [] [] g770 (by kernel_rfl) rfl (by simp [AV.trees,AV.tree,go_sem]) (by exact qTJ _) ?_;simp only [Xh,qK,go_sem];have hL:=x.len_sz;have hde:=x.dep_eq;have hse:=x.size_eq;have hoe:=x.ok_eq;refine qd qA.ln ?_;simp only [go_sem];refine qL (qNJ hz) ?_;simp only [go_sem];refine qI ?_ ?_<;>intro hc<;>simp only [hc,go_sem]
  · have hn:x.ok=false:=by rw [hoe];simp at hc;simp [hc]
    rw [show wv x=_ from if_neg (by simp [hn])];exact jG (by rfl) rfl
  have hn:x.ok=x.Kids.all qA.ok:=by rw [hoe];simp at hc;simp [hc]
  refine Sem.loop (fun i:Nat=>i≤x.Kids.length∧x.ok=(x.Kids.drop i).all qA.ok) (fun i=>(⟨[(2,.int .i64 ((1+zE qA.dep (x.Kids.take i):Nat):Int)),(3,.int .i64 ((1+qF qA.size (x.Kids.take i):Nat):Int)),(14,.lst 4 (x.Kids.map qA.enc) false),(15,.int .i64 (x.Kids.length:Nat)),(16,.int .i64 (i:Nat))],[(1,x.enc)],[]⟩:VSt)) (fun i=>x.Kids.length-i) 0 (by kernel_rfl) ⟨Nat.zero_le _,by simp [hn]⟩ (Can.sub (by simp [go_sem]) (by simp [go_sem])) ?_;rintro i ⟨hi,hI⟩;simp only [go_sem];refine qI ?_ ?_<;>intro hc<;>simp only [hc,go_sem]
  · have hlt:i<x.Kids.length:=by have:=odT hc;omega
    simp only [List.getElem?_map,gEg hlt,Option.map_some,go_sem];have hm:=gMm hlt;have hk:=qA.kid_sz hm;have hp:=qA.dep_kid hm;rw [List.drop_eq_getElem_cons hlt,List.all_cons] at hI;refine qY (k:=4) (by rfl) (by simp [go_sem]) (qA.isAgg _) (by decide) ?_;simp only [go_sem];refine qL (ih _ hm (by omega) (by omega) (by have:=zu (f:=qA.size) hm;omega)) ?_;cases hko:x.Kids[i].ok
    · rw [hko,Bool.false_and] at hI;simp only [wv,hko,go_sem];rw [if_neg (by simp [hI])];exact jG (by rfl) rfl
    · rw [hko,Bool.true_and] at hI;simp only [wv,hko,go_sem];have ht:=qHF (f:=qA.size) hlt;have hle:=qHG qA.size x.Kids (i+1);have e1:((1+qF qA.size (x.Kids.take i):Nat):Int)+x.Kids[i].size=((1+qF qA.size (x.Kids.take (i+1)):Nat):Int):=by omega
      have e2:max ((1+zE qA.dep (x.Kids.take i):Nat):Int) ((x.Kids[i].dep:Int)+1)=((1+zE qA.dep (x.Kids.take (i+1)):Nat):Int):=by rw [qJ5 hlt];omega
      rw [zC (n:=(x.Kids[i].dep:Int)+1) (by omega) (by omega),e1,e2,zC (n:=((1+qF qA.size (x.Kids.take (i+1)):Nat):Int)) (by omega) (by omega)];simp only [zA (show i<4611686018427387904 by omega)];refine qx (i+1) ⟨by omega, ?_⟩ (by omega) (Can.sub (by simp [go_sem]) (by simp [go_sem]));exact hI
  · obtain rfl:i=x.Kids.length:=by have:=odF hc;omega
    rw [List.take_length,←hde,←hse];rw [show wv x=_ from if_pos (by rw [hI];simp)];exact jG (by rfl) rfl
theorem c391 {x:qA} (hz:x.sz≤1048576) (hd:x.dep≤2097152) (hs:x.size≤2097152):Pure Gm 391 [x.enc] (.bool x.valid):=by
  refine Pure.intro [] [] g391 (by kernel_rfl) rfl (by simp [AV.trees,AV.tree,go_sem]) rfl ?_;simp only [XG,qK,go_sem];refine qd qA.ln ?_;simp only [go_sem];refine qL (c770 x hz hd hs) ?_;cases hko:x.ok
  · simp only [wv,hko,go_sem];exact qO rfl (by rw [qMF,hko];rfl)
  · simp only [wv,hko,go_sem];refine qL (c495 hz hd hs) ?_;simp only [go_sem];exact qO rfl (by rw [qMF,hko];rfl)
theorem YZ {b:Bool}:Pure Gm 566 [.bool b] (.int .i64 (if b then 1 else 0)):=by
  refine Pure.intro [] [] g566 (by kernel_rfl) rfl (by simp [AV.trees,AV.tree,go_sem]) rfl ?_;simp only [XR,qK,go_sem];refine qI ?_ ?_<;>intro hc<;>simp only [hc,go_sem]
  · exact qO rfl rfl
  · exact qO rfl rfl
theorem qIC {x:qA} {i:Nat}:Pure Gm 1193 [x.enc,.int .i64 (i:Int)] (.int .i64 (qv x.Kind i)):=by
  refine Pure.intro [] [] qPR (by kernel_rfl) rfl (by simp [AV.trees,AV.tree,go_sem]) rfl ?_;simp only [Wc,qK,go_sem];refine qd qA.ln ?_;simp only [go_sem]
  repeat' (first | (first | (refine qq ?_ ?_<;>intro hc<;>simp only [hc,go_sem]) | (refine qI ?_ ?_<;>intro hc<;>simp only [hc,go_sem])) | (refine qL YZ ?_;simp only [go_sem]) | refine qO rfl ?_)
  all_goals (simp_all [qv]<;>omega)
theorem c880 (x:qA):∀(d:Int) (ho:x.ok=true) (hz:x.sz≤1048576) (hd:0≤d∧d+x.dep≤4194304),Pure Gm 880 [x.enc,.int .i64 d] (.bool (!x.above d)):=by
  induction x using qA.ind with
  | _ x ih=>
  intro d ho hz hd;refine Pure.intro [] [] g880 (by kernel_rfl) rfl (by simp [AV.trees,AV.tree,go_sem]) rfl ?_;simp only [YK,qK,go_sem];have hL:=x.len_sz;have hae:=x.above_eq d;refine qd qA.ln ?_;simp only [go_sem];refine qq ?_ ?_<;>intro hc<;>simp only [hc,go_sem]
  · have h1:=odT hc;rw [if_pos h1] at hae;refine qI ?_ ?_<;>intro hc<;>simp only [hc,go_sem]
    · exact qO rfl (by rw [hae,decide_eq_true (by have:=odT hc;omega)];rfl)
    have hg:x.above d=zY (fun i y=>y.above (d+qv x.Kind i)) x.Kids 0:=by
      rw [hae,qKH ho h1,decide_eq_false (by have:=odF hc;omega)];rfl
    refine Sem.loop (fun i:Nat=>i≤x.Kids.length∧x.above d=zY (fun i y=>y.above (d+qv x.Kind i)) (x.Kids.drop i) i) (fun i=>(⟨[(1,.int .i64 d),(17,.lst 4 (x.Kids.map qA.enc) false),(18,.int .i64 (x.Kids.length:Nat)),(19,.int .i64 (i:Nat))],[(2,x.enc)],[]⟩:VSt)) (fun i=>x.Kids.length-i) 0 (by kernel_rfl) ⟨Nat.zero_le _,by simpa using hg⟩ (Can.sub (by simp [go_sem]) (by simp [go_sem])) ?_;rintro i ⟨hi,hI⟩;simp only [go_sem];refine qI ?_ ?_<;>intro hc<;>simp only [hc,go_sem]
    · have hlt:i<x.Kids.length:=by have:=odT hc;omega
      simp only [List.getElem?_map,gEg hlt,Option.map_some,go_sem];refine qY (k:=4) (by rfl) (by simp [go_sem]) (qA.isAgg _) (by decide) ?_;simp only [go_sem];refine qL qIC ?_;simp only [go_sem];have hm:=gMm hlt;have hk:=qA.kid_sz hm;have hp:=qA.dep_kid hm;have hb:=ZL x.Kind i;rw [zC (n:=d+qv x.Kind i) (by omega) (by omega)];refine qL (ih _ hm _ (Zn ho hm) (by omega) (by omega)) ?_;simp only [go_sem];rw [jm hlt,zY] at hI;refine qI ?_ ?_<;>intro hc<;>simp only [hc,go_sem]
      · exact qO rfl (by rw [hI];simp at hc;simp [hc])
      · simp only [zA (show i<4611686018427387904 by omega)];refine qx (i+1) ⟨by omega, ?_⟩ (by omega) (Can.sub (by simp [go_sem]) (by simp [go_sem]));rw [hI];simp at hc;simp [hc]
    · obtain rfl:i=x.Kids.length:=by have:=odF hc;omega
      exact qO rfl (by rw [hI];simp [zY])
  · rw [if_neg (by simpa using hc)] at hae;have hg:=hae;refine Sem.loop (fun i:Nat=>i≤x.Kids.length∧x.above d=zY (fun i y=>y.above (d+qv x.Kind i)) (x.Kids.drop i) i) (fun i=>(⟨[(1,.int .i64 d),(17,.lst 4 (x.Kids.map qA.enc) false),(18,.int .i64 (x.Kids.length:Nat)),(19,.int .i64 (i:Nat))],[(2,x.enc)],[]⟩:VSt)) (fun i=>x.Kids.length-i) 0 (by kernel_rfl) ⟨Nat.zero_le _,by simpa using hg⟩ (Can.sub (by simp [go_sem]) (by simp [go_sem])) ?_;rintro i ⟨hi,hI⟩;simp only [go_sem];refine qI ?_ ?_<;>intro hc<;>simp only [hc,go_sem]
    · have hlt:i<x.Kids.length:=by have:=odT hc;omega
      simp only [List.getElem?_map,gEg hlt,Option.map_some,go_sem];refine qY (k:=4) (by rfl) (by simp [go_sem]) (qA.isAgg _) (by decide) ?_;simp only [go_sem];refine qL qIC ?_;simp only [go_sem];have hm:=gMm hlt;have hk:=qA.kid_sz hm;have hp:=qA.dep_kid hm;have hb:=ZL x.Kind i;rw [zC (n:=d+qv x.Kind i) (by omega) (by omega)];refine qL (ih _ hm _ (Zn ho hm) (by omega) (by omega)) ?_;simp only [go_sem];rw [jm hlt,zY] at hI;refine qI ?_ ?_<;>intro hc<;>simp only [hc,go_sem]
      · exact qO rfl (by rw [hI];simp at hc;simp [hc])
      · simp only [zA (show i<4611686018427387904 by omega)];refine qx (i+1) ⟨by omega, ?_⟩ (by omega) (Can.sub (by simp [go_sem]) (by simp [go_sem]));rw [hI];simp at hc;simp [hc]
    · obtain rfl:i=x.Kids.length:=by have:=odF hc;omega
      exact qO rfl (by rw [hI];simp [zY])
theorem c521 {x:qA} (hz:x.sz≤1048576) (hd:x.dep≤2097152) (hs:x.size≤2097152):Pure Gm 521 [x.enc] (.bool x.closed):=by
  refine Pure.intro [] [] g521 (by kernel_rfl) rfl (by simp [AV.trees,AV.tree,go_sem]) rfl ?_;simp only [XQ,qK,go_sem];refine qd qA.ln ?_;simp only [go_sem];refine qL (c391 hz hd hs) ?_;simp only [go_sem];refine qq ?_ ?_<;>intro hc<;>simp only [hc,go_sem]
  · refine qL (c880 x 0 (Vw hc).1 hz (by omega)) ?_;simp only [go_sem];exact qO rfl (by unfold qA.closed;rw [hc];rfl)
  · exact qO rfl (by unfold qA.closed;rw [hc];rfl)
end Go.Ab
namespace Go.Ab
open Go
set_option maxRecDepth 10000
set_option maxHeartbeats 2000000
attribute [local simp] qn qk
def JQ (p:qA→Bool):qA→Bool:=qA.fold fun x rs=>p x || rs.any id
theorem YT (p:qA→Bool) (x:qA):JQ p x=(p x || x.Kids.any (JQ p)):=by
  unfold JQ;rw [qA.fold_eq];simp
@[go_sem] theorem qh2 {g:Nat} {cs:List AV}:(AV.fn g cs).part 0 none=some (.fn g cs):=nr rfl
def qMQ (g:Nat) (cs:List AV) (p:qA→Bool):Prop:=∀y:qA,y.sz≤1048576→Pure Gm g (y.enc::cs) (.bool (p y))
theorem c993 {g:Nat} {cs:List AV} {y:qA} {b:Bool} (ht:AV.trees cs=true) (h:Pure Gm 615 [y.enc,.fn g cs] (.bool b)):Pure Gm 993 [y.enc,.ept (.fn g cs) 0] (.bool b):=by
  refine Pure.intro [] [] g993 (by kernel_rfl) rfl (by simp [AV.trees,AV.tree,go_sem,ht]) rfl ?_;simp only [YL,qK,go_sem];refine qd qA.ln ?_;simp only [go_sem];refine qL h ?_;simp only [go_sem];exact qO rfl rfl
theorem c615 (x:qA):∀(g:Nat) (cs:List AV) (p:qA→Bool) (ht:AV.trees cs=true) (hp:qMQ g cs p) (hz:x.sz≤1048576),Pure Gm 615 [x.enc,.fn g cs] (.bool (JQ p x)):=by
  induction x using qA.ind with
  | _ x ih=>
  intro g cs p ht hp hz;refine Pure.intro [3] [] g615 (by kernel_rfl) rfl (by simp [AV.trees,AV.tree,go_sem,ht]) rfl ?_;simp only [XU,qK,go_sem];have hL:=x.len_sz;refine qd qA.ln ?_;simp only [go_sem];refine wm rfl ?_;simp only [go_sem];simp only [go_sem,List.nil_append,List.cons_append,List.set_cons_zero,List.set_cons_succ];refine qL (hp x hz) ?_;simp only [go_sem];refine qq ?_ ?_<;>intro hc<;>simp only [hc,go_sem]
  · refine qL (c581 (f:=.fn 993 [.ept (.fn g cs) 0]) (JQ p) (by simp [AV.trees,AV.tree,ht]) x.Kids (fun y hy=>⟨993,_,rfl,c993 ht (ih y hy g cs p ht hp (by have:=qA.kid_sz hy;omega))⟩) (by omega)) ?_;simp only [go_sem];exact qO rfl (by rw [YT,hc];rfl)
  · exact qO rfl (by rw [YT];simp at hc;simp [hc])
theorem qIB {n m:Int}:Pure Gm 1169 [.int .i64 n,.ept (.int .i64 m) 0] (.bool (decide (m≤n))):=by
  refine Pure.intro [] [] qPQ (by kernel_rfl) rfl (by simp [AV.trees,AV.tree,go_sem]) rfl ?_;simp only [Wb,qK,go_sem];exact qO rfl rfl
def Ja (n:Int) (x:qA):Bool:=(decide (x.Kind=11)&&decide (n≤x.Value)) || x.Data.any fun k=>decide (n≤k)
theorem qMX (n:Int) (xs:List Int):(xs.all fun k=>decide (k<n))= !(xs.any fun k=>decide (n≤k)):=by
  induction xs with
  | nil=>rfl
  | cons a xs ih=>
    simp only [List.all_cons,List.any_cons,ih,Bool.not_or];congr 1;rw [Bool.eq_iff_iff];simp
theorem qFE {α:Type} {p q:α→Bool}:∀{xs:List α},(∀x∈xs,p x= !q x)→xs.all p= !xs.any q
  |[],_=>rfl
  | x::xs,h=>by simp only [List.all_cons,List.any_cons,Bool.not_or];rw [h x (by simp),qFE (fun y hy=>h y (by simp [hy]))]
theorem qSO (n:Int):∀x:qA,x.refs n= !JQ (Ja n) x:=qA.ind fun x ih=>by
  rw [qA.refs_eq,YT,Ja,qMX,Bool.not_or,Bool.not_or,qFE ih]
theorem qNK {x:qA} {m:Int} (hz:x.sz≤1048576):Pure Gm 1168 [x.enc,.ept (.int .i64 m) 0] (.bool (Ja m x)):=by
  refine Pure.intro [] [] qPP (by kernel_rfl) rfl (by simp [AV.trees,AV.tree,go_sem]) rfl ?_;simp only [Wa,qK,go_sem];have hL:=x.len_sz;refine qd qA.ln ?_;simp only [go_sem];refine qq ?_ ?_<;>intro hc<;>simp only [hc,go_sem]
  · have h11:=hc;refine qq ?_ ?_<;>intro hc<;>simp only [hc,go_sem]
    · refine qL (c397 (f:=.fn 1169 [.ept (.int .i64 m) 0]) (fun n=>decide (m≤n)) rfl x.Data (fun y _=>⟨1169,_,rfl,qIB⟩) (by omega)) ?_;simp only [go_sem];exact qO rfl (by unfold Ja;rw [h11,hc];rfl)
    · exact qO rfl (by unfold Ja;rw [h11];simp at hc;simp [hc])
  · refine qL (c397 (f:=.fn 1169 [.ept (.int .i64 m) 0]) (fun n=>decide (m≤n)) rfl x.Data (fun y _=>⟨1169,_,rfl,qIB⟩) (by omega)) ?_;simp only [go_sem];exact qO rfl (by unfold Ja;simp at hc;simp [hc])
theorem c847 {x:qA} {n:Int} (hz:x.sz≤1048576):Pure Gm 847 [x.enc,.int .i64 n] (.bool (x.refs n)):=by
  refine Pure.intro [3] [] g847 (by kernel_rfl) rfl (by simp [AV.trees,AV.tree,go_sem]) rfl ?_;simp only [YG,qK,go_sem];refine qd qA.ln ?_;simp only [go_sem];refine wm rfl ?_;simp only [go_sem];simp only [go_sem,List.nil_append,List.cons_append,List.set_cons_zero,List.set_cons_succ];refine qL (c615 x 1168 [.ept (.int .i64 n) 0] (Ja n) rfl (fun y hy=>qNK hy) hz) ?_;simp only [go_sem];exact qO rfl (by rw [qSO])
theorem c851 {x:qA} {b:qH} (hz:x.sz≤1048576) (hd:x.dep≤2097152) (hs:x.size≤2097152):Pure Gm 851 [x.enc,.ept b.enc 0] (.bool (!(x.closed&&x.refs b.Defs.length))):=by
  refine Pure.intro [] [] g851 (by kernel_rfl) rfl (by simp [AV.trees,AV.tree,go_sem]) rfl ?_;simp only [YI,qK,go_sem];refine qd qA.ln ?_;simp only [go_sem];refine qL (c521 hz hd hs) ?_;simp only [go_sem];refine qq ?_ ?_<;>intro hc<;>simp only [hc,go_sem]
  · refine qL (c847 hz) ?_;simp only [go_sem];exact qO rfl (by simp at hc;simp [hc])
  · exact qO rfl (by simp at hc;simp [hc])
theorem c498 {b:qH} (hz:b.sz≤1048576):Pure Gm 498 [b.enc] (.bool b.ok):=by
  refine Pure.intro [1] [] g498 (by kernel_rfl) rfl (by simp [AV.trees,AV.tree,go_sem]) rfl ?_;simp only [XO,qK,go_sem];have hz':b.Defs.length+qF qA.sz b.Defs≤1048576:=hz;refine wm rfl ?_;simp only [go_sem];simp only [go_sem,List.nil_append,List.cons_append,List.set_cons_zero,List.set_cons_succ];refine qq ?_ ?_<;>intro hc<;>simp only [hc,go_sem]
  · have h1:=odF hc;refine qI ?_ ?_<;>intro hc<;>simp only [hc,go_sem]
    · exact qO rfl (by have:=odT hc;unfold qH.ok inI;rw [decide_eq_false (p:=(b.Defs.length:Int)≤24) (by omega)];simp)
    have h2:=odF hc;refine qL (c581 (f:=.fn 851 [.ept b.enc 0]) (fun x=> !(x.closed&&x.refs b.Defs.length)) (by simp [AV.trees,AV.tree,go_sem]) b.Defs (fun y hy=>⟨851,_,rfl,c851 (by have:=zu (f:=qA.sz) hy;omega) (by have:=zu (f:=qA.sz) hy;have:=y.dep_size;have:=y.size_sz;omega) (by have:=zu (f:=qA.sz) hy;have:=y.size_sz;omega)⟩) (by omega)) ?_;simp only [go_sem];exact qO rfl (by unfold qH.ok inI;rw [qFF,decide_eq_true (p:=(1:Int)≤b.Defs.length) (by omega),decide_eq_true (p:=(b.Defs.length:Int)≤24) (by omega)];rfl)
  · exact qO rfl (by simp at hc;unfold qH.ok inI;rw [decide_eq_false (p:=(1:Int)≤b.Defs.length) (by omega)];simp)
end Go.Ab
namespace Go.Ab
open Go
set_option maxRecDepth 10000
set_option maxHeartbeats 2000000
attribute [local simp] qn qk
end Go.Ab
namespace Go.Ab
open Go
set_option maxRecDepth 10000
set_option maxHeartbeats 2000000
end Go.Ab
namespace Go.Ab
open Go
set_option maxRecDepth 10000
set_option maxHeartbeats 2000000
attribute [local simp] qn qk
end Go.Ab
namespace Go.Ab
open Go
set_option maxRecDepth 10000
set_option maxHeartbeats 2000000
attribute [local simp] qn qk
theorem c834 {xs:List Int} {n:Int} (hl:xs.length≤4194304):Pure Gm 834 [.lst 1 (xs.map qE) false,.int .i64 n] (.int .i64 (jH (fun k=>decide (n=k)) xs 0)):=by
  refine Pure.intro [] [] g834 (by kernel_rfl) rfl (by simp [AV.trees,AV.tree,go_sem]) rfl ?_;simp only [YF,qK,go_sem];refine Sem.loop (fun i:Nat=>i≤xs.length∧jH (fun k=>decide (n=k)) xs 0=jH (fun k=>decide (n=k)) (xs.drop i) i) (fun i=>(⟨[(0,.lst 1 (xs.map qE) false),(1,.int .i64 n),(7,.int .i64 (xs.length:Nat)),(8,.int .i64 (i:Nat))],[],[]⟩:VSt)) (fun i=>xs.length-i) 0 (by kernel_rfl) ⟨Nat.zero_le _,by simp⟩ (Can.sub (by simp [go_sem]) (by simp [go_sem])) ?_;rintro i ⟨hi,hI⟩;simp only [go_sem];refine qI ?_ ?_<;>intro hc<;>simp only [hc,go_sem]
  · have hlt:i<xs.length:=by have:=odT hc;omega
    simp only [List.getElem?_map,gEg hlt,Option.map_some,go_sem];rw [List.drop_eq_getElem_cons hlt,jH] at hI;simp only [qE,go_sem];refine qI ?_ ?_<;>intro hc<;>simp only [hc,go_sem]
    · exact qO rfl (by rw [hI,hc];rfl)
    · rw [hc] at hI;simp only [zA (show i<4611686018427387904 by omega)];refine qx (i+1) ⟨by omega, ?_⟩ (by omega) (Can.sub (by simp [go_sem]) (by simp [go_sem]));exact hI
  · obtain rfl:i=xs.length:=by have:=odF hc;omega
    exact qO rfl (by rw [hI,List.drop_length];rfl)
theorem qMJ (x:Int):w32 x=IntKind.i64.wrap (IntKind.i32.wrap x):=by
  unfold w32;congr 1;simp only [IntKind.wrap,IntKind.bits,IntKind.signed];simp
theorem QG {x:Int}:Pure Gm 1400 [.int .i64 x] (.int .i64 (w32 x)):=by
  refine Pure.intro [] [] qPS (by kernel_rfl) rfl (by simp [AV.trees,AV.tree,go_sem]) rfl ?_;simp only [Wd,qK,go_sem];exact qO rfl (by rw [qMJ])
theorem qFK {x:Int}:Pure Gm 1120 [.int .i64 x] ((qA.mk 11 x [] []).enc):=by
  refine Pure.intro [] [] qO7 (by kernel_rfl) rfl (by simp [AV.trees,AV.tree,go_sem]) (by simp [go_sem]) ?_;simp only [Z9,qK,go_sem];refine qY (k:=4) (by rfl) (by rfl) (by exact ⟨_,rfl⟩) (by decide) ?_;simp only [go_sem];exact wD JS
theorem c726 {x:Int}:Pure Gm 726 [.int .i64 x] ((qA.mk 2 x [] []).enc):=by
  refine Pure.intro [] [] g726 (by kernel_rfl) rfl (by simp [AV.trees,AV.tree,go_sem]) (by simp [go_sem]) ?_;simp only [ZE,qK,go_sem];refine qY (k:=4) (by rfl) (by rfl) (by exact ⟨_,rfl⟩) (by decide) ?_;simp only [go_sem];exact wD JS
theorem qNG {k a b:Int}:Pure Gm 1118 [.int .i64 k,.int .i64 a,.int .i64 b] (.int .i64 (opI k a b)):=by
  refine Pure.intro [] [] qO6 (by kernel_rfl) rfl (by simp [AV.trees,AV.tree,go_sem]) rfl ?_;simp only [Z8,qK,go_sem];refine qL QG ?_;simp only [go_sem];refine qL QG ?_;simp only [go_sem];unfold opI;refine qI ?_ ?_<;>intro hc<;>simp only [hc,go_sem]
  · rw [if_pos (odT hc)];refine qL QG ?_;simp only [go_sem];exact qO rfl rfl
  rw [if_neg (odF hc)];refine qI ?_ ?_<;>intro hc<;>simp only [hc,go_sem]
  · rw [if_pos (odT hc)];refine qL QG ?_;simp only [go_sem];exact qO rfl rfl
  rw [if_neg (odF hc)];refine qI ?_ ?_<;>intro hc<;>simp only [hc,go_sem]
  · rw [if_pos (odT hc)];refine qL QG ?_;simp only [go_sem];exact qO rfl rfl
  rw [if_neg (odF hc)];refine qI ?_ ?_<;>intro hc<;>simp only [hc,go_sem]
  · rw [if_pos (odT hc)];refine qI ?_ ?_<;>intro hc<;>simp only [hc,go_sem]
    · rw [if_pos (odT hc)];exact qO rfl rfl
    rw [if_neg (odF hc)];have hq:=odF hc;simp only [if_neg hq,go_sem];refine qL QG ?_;simp only [go_sem];exact qO rfl rfl
  rw [if_neg (odF hc)];refine qI ?_ ?_<;>intro hc<;>simp only [hc,go_sem]
  · rw [if_pos (odT hc)];refine qL YZ ?_;simp only [go_sem];exact qO rfl (by simp)
  rw [if_neg (odF hc)];refine qI ?_ ?_<;>intro hc<;>simp only [hc,go_sem]
  · rw [if_pos (odT hc)];refine qL YZ ?_;simp only [go_sem];exact qO rfl (by simp)
  rw [if_neg (odF hc)];exact qO rfl rfl
end Go.Ab
namespace Go.Ab
open Go
set_option maxRecDepth 10000
set_option maxHeartbeats 2000000
def jV:List qA→Nat→Bool
  |[],_=>true
  | k::ks,i=>decide (k.Kind=1)&&decide (k.Value=i)&&jV ks (i+1)
def qW.fields (c:qW):Bool:=decide (c.Term.Kids.length=c.Env.length)&&jV c.Term.Kids 0
def qW.val (c:qW):Bool:=if c.Term.Kind=4∨c.Term.Kind=2 then true else if c.Term.Kind=8 then c.fields else false
namespace qD
def done (M:qD):Bool:=decide (M.Stack.length=0)&&M.Control.val
end qD
def noT:qA:=.mk 0 0 [] []
def noC:qW:=⟨noT,[]⟩
def fr (k v:Int):qR:=⟨k,v,[],noC⟩
namespace qD
def ctl (M:qD) (c:qW):qD:={M with Control:=c}
def push (M:qD) (f:qR):qD:={M with Stack:=M.Stack++[f]}
def pop (M:qD):qD:={M with Stack:=M.Stack.dropLast}
def addr (M:qD) (t:qA):Int×qD:=if t.Kind=1 then (M.Control.Env.getD t.Value.toNat 0,M) else (M.Heap.length,{M with Heap:=M.Heap++[⟨false,⟨t,M.Control.Env⟩⟩]})
def addrs:List qA→qD→List Int×qD
  |[],M=>([],M)
  | k::ks,M=>((M.addr k).1::(addrs ks (M.addr k).2).1,(addrs ks (M.addr k).2).2)
end qD
def vars (n:Nat):List qA:=(List.range n).map fun i:Nat=>.mk 1 (i:Int) [] []
def qA.kid (t:qA) (i:Nat):qA:=t.Kids.getD i noT
namespace qD
def build (M:qD) (t:qA):qD:={(addrs t.Kids M).2 with Control:=⟨.mk 8 t.Value [] (vars t.Kids.length),(addrs t.Kids M).1⟩}
def toRef (M:qD) (d:Int):qD:=M.ctl ⟨.mk 11 d [] [],[]⟩
def cellAt (M:qD) (a:Int):qT:=M.Heap.getD a.toNat ⟨false,noC⟩
def enter (M:qD) (a:Int):qD:=(if (M.cellAt a).Done then M else M.push (fr 1 a)).ctl (M.cellAt a).Closure
def top (M:qD):qR:=M.Stack.getD (M.Stack.length-1) (fr 0 0)
def eval (b:qH) (M:qD):Int×qD:=
  if M.Control.Term.Kind=1 then (2,M.enter (M.Control.Env.getD M.Control.Term.Value.toNat 0))
  else if M.Control.Term.Kind=5 then (1,(((M.addr (M.Control.Term.kid 1)).2).push (fr 2 (M.addr (M.Control.Term.kid 1)).1)).ctl ⟨M.Control.Term.kid 0,M.Control.Env⟩)
  else if M.Control.Term.Kind=3 then (1,(M.push ⟨3,M.Control.Term.Value,[],⟨M.Control.Term.kid 1,M.Control.Env⟩⟩).ctl ⟨M.Control.Term.kid 0,M.Control.Env⟩)
  else if M.Control.Term.Kind=9 then (1,(M.push ⟨5,0,M.Control.Term.Data,noC⟩).ctl ⟨M.Control.Term.kid 0,M.Control.Env⟩)
  else if M.Control.Term.Kind=10 then (1,(M.push ⟨6,0,M.Control.Term.Data,noC⟩).ctl ⟨M.Control.Term.kid 0,M.Control.Env⟩)
  else if M.Control.Term.Kind=11 then (7,M.ctl ⟨b.Defs.getD M.Control.Term.Value.toNat noT,[]⟩)
  else (8,M.build M.Control.Term)
def meet (M:qD):Int×qD:=
  if M.top.Kind=1 then (3,{M with Heap:=M.Heap.set M.top.Value.toNat ⟨true,M.Control⟩,Stack:=M.Stack.dropLast})
  else if M.Control.Term.Kind=4∧M.top.Kind=2 then (4,M.pop.ctl ⟨M.Control.Term.kid 0,M.top.Value::M.Control.Env⟩)
  else if M.Control.Term.Kind=2∧M.top.Kind=3 then (1,(M.pop.push ⟨4,M.top.Value,[M.Control.Term.Value],noC⟩).ctl M.top.Closure)
  else if M.Control.Term.Kind=2∧M.top.Kind=4 then (5,M.pop.ctl ⟨.mk 2 (opI M.top.Value (M.top.Data.getD 0 0) M.Control.Term.Value) [] [],[]⟩)
  else if M.Control.Term.Kind=2∧M.top.Kind=6 then (6,M.pop.toRef (M.top.Data.getD (if M.Control.Term.Value=0 then 1 else 0) 0))
  else if M.Control.Term.Kind=8∧M.top.Kind=5∧M.Control.Term.Value<M.top.Data.length then
    (6,({M.pop with Stack:=M.pop.Stack++M.Control.Env.reverse.map (fr 2)}).toRef (M.top.Data.getD M.Control.Term.Value.toNat 0))
  else (0,M)
def move (b:qH) (M:qD):Int×qD:=if M.Control.val then M.meet else M.eval b
def step (b:qH) (M:qD):Int×Int×qD:=
  if (M.move b).1=0 then (0,5,(M.move b).2)
  else if 2000<(M.move b).2.Heap.length∨400<(M.move b).2.Stack.length∨256<(M.move b).2.Control.Env.length then (0,4,(M.move b).2)
  else ((M.move b).1,0,(M.move b).2)
end qD
def cnt (cs:List Int) (k:Int):List Int:=if 4≤k∧k≤7 then cs.set (k-4).toNat (IntKind.i64.wrap (cs.getD (k-4).toNat 0+1)) else cs
def qU (b:qH):Nat→qD→List Int→Int×qD×List Int×Nat
  | 0,M,cs=>if M.done then (0,M,cs,0) else (12,M,cs,0)
  | n+1,M,cs=>if M.done then (0,M,cs,n+1) else if (M.step b).2.1≠0 then ((M.step b).2.1,(M.step b).2.2,cs,n+1) else qU b n (M.step b).2.2 (cnt cs (M.step b).1)
end Go.Ab
namespace Go.Ab
open Go
def qA.er:qA→Bool:=qA.fold fun x rs=> !(decide (x.Kind=6) || decide (x.Kind=7))&&rs.all id
theorem qA.er_eq (x:qA):x.er=(!(decide (x.Kind=6) || decide (x.Kind=7))&&x.Kids.all qA.er):=by
  unfold qA.er;rw [qA.fold_eq];simp
structure TI (nb n:Nat) (t:qA):Prop where
  v:t.valid=true
  e:t.er=true
  r:t.refs nb=true
  a:t.above n=false
structure CI (nb hl L:Nat) (c:qW):Prop where
  t:TI nb c.Env.length c.Term
  l:c.Env.length≤L
  e:∀a∈c.Env,0≤a∧a<(hl:Int)
structure FI (nb hl:Nat) (f:qR):Prop where
  a:f.Kind=1∨f.Kind=2→0≤f.Value∧f.Value<(hl:Int)
  c:f.Kind=3→CI nb hl 256 f.Closure
  d:f.Kind=4→f.Data.length=1
  r:f.Kind=5∨f.Kind=6→∀d∈f.Data,0≤d∧d<(nb:Int)
  l:f.Kind=6→f.Data.length=2
structure MI0 (L:Nat) (b:qH) (M:qD):Prop where
  c:CI b.Defs.length M.Heap.length L M.Control
  s:∀f∈M.Stack,FI b.Defs.length M.Heap.length f
  h:∀t∈M.Heap,CI b.Defs.length M.Heap.length 256 t.Closure
structure MI (b:qH) (M:qD):Prop extends MI0 256 b M where
  sl:M.Stack.length≤400
  hl:M.Heap.length≤2000
structure BI (b:qH):Prop where
  l:b.Defs.length≤24
  d:∀d∈b.Defs,TI b.Defs.length 0 d
section
variable {nb n hl hl' L:Nat} {t y:qA} {c:qW} {f:qR} {b:qH} {M:qD}
theorem CI.up (h:CI nb hl L c) (q:hl≤hl'):CI nb hl' L c:=⟨h.t,h.l,fun a ha=>by have:=h.e a ha;omega⟩
theorem CI.up2 {L':Nat} (h:CI nb hl L c) (q:L≤L'):CI nb hl L' c:=⟨h.t,Nat.le_trans h.l q,h.e⟩
theorem FI.up (h:FI nb hl f) (q:hl≤hl'):FI nb hl' f:=⟨fun k=>by have:=h.a k;omega,fun k=>(h.c k).up q,h.d,h.r,h.l⟩
theorem qHV {α:Type} {p:Nat→α→Bool}:∀{xs:List α} {k i:Nat} (h:i<xs.length),zY p xs k=false→p (k+i) xs[i]=false
  | x::xs,k,0,_,h=>by simp only [zY,Bool.or_eq_false_iff] at h;exact h.1
  | x::xs,k,i+1,hi,h=>by
    simp only [zY,Bool.or_eq_false_iff] at h;have:=qHV (i:=i) (by simpa using hi) h.2;rw [show k+(i+1)=k+1+i by omega];exact this
theorem TI.ok (h:TI nb n t):t.ok=true:=(Vw h.v).1
theorem TI.sz (h:TI nb n t):t.sz≤2000:=(Vw h.v).2.2.2.1
theorem TI.not6 (h:TI nb n t):¬t.Kind=6∧¬t.Kind=7:=by
  have:=h.e;rw [qA.er_eq] at this;simp only [bAt,Bool.not_eq_true',Bool.or_eq_false_iff,decide_eq_false_iff_not] at this;exact this.1
theorem TI.node (h:TI nb n t):zJ t=true:=Qj h.ok
theorem TI.lens (h:TI nb n t):t.Kids.length≤3∧t.Data.length≤4:=by
  have:=h.node;simp only [zJ,bAt,inI,decide_eq_true_eq] at this;have h1:(shp t.Kind).1.2≤3∧(shp t.Kind).2.2≤4:=by
    unfold shp
    repeat' split
    all_goals simp
  omega
theorem TI.kinds (h:TI nb n t):t.Kind=1∨t.Kind=2∨t.Kind=3∨t.Kind=4∨t.Kind=5∨t.Kind=8∨t.Kind=9∨t.Kind=10∨t.Kind=11:=by
  have h6:=h.not6;have:=h.node;simp only [zJ,bAt,inI,decide_eq_true_eq] at this;have h0:=this.1.1.1;clear this;unfold shp at h0;split at h0
  · rename_i q;rcases q with q | q | q<;>simp [q]
  split at h0
  · rename_i q;rcases q with q | q | q<;>simp [q]<;>exact absurd q h6.2
  split at h0
  · rename_i q;rcases q with q | q<;>simp [q]<;>exact absurd q h6.1
  split at h0
  · rename_i q;simp [q]
  split at h0
  · rename_i q;simp [q]
  split at h0
  · rename_i q;simp [q]
  · simp at h0;omega
theorem TI.mem (h:TI nb n t) (hy:y∈t.Kids):y.valid=true∧y.er=true∧y.refs nb=true:=by
  refine ⟨?_, ?_, ?_⟩
  · obtain ⟨h1,h2,h3,_,_⟩:=Vw h.v;have hd:=qA.dep_kid hy;have hs:=zu (f:=qA.size) hy;have:=t.size_eq;unfold qA.valid;rw [Zn h1 hy];simp only [Bool.true_and,bAt,decide_eq_true_eq];omega
  · have:=h.e;rw [qA.er_eq,bAt,List.all_eq_true] at this;exact this.2 y hy
  · have:=h.r;rw [qA.refs_eq,bAt,List.all_eq_true] at this;exact this.2 y hy
theorem TI.kid (h:TI nb n t) {i:Nat} (hi:i<t.Kids.length):TI nb (n+(qv t.Kind i).toNat) t.Kids[i]:=by
  obtain ⟨h1,h2,h3⟩:=h.mem (gMm hi);refine ⟨h1,h2,h3, ?_⟩;have ha:=h.a;rw [qA.above_eq,if_neg (fun q=>by rw [qKH h.ok q] at hi;simp at hi)] at ha;have hb:=ZL t.Kind i;have:=qHV hi ha;simp only [Nat.zero_add] at this;rw [show ((n+(qv t.Kind i).toNat:Nat):Int)=n+qv t.Kind i by omega];exact this
theorem TI.kid0 (h:TI nb n t) (h4:¬t.Kind=4) {i:Nat} (hi:i<t.Kids.length):TI nb n t.Kids[i]:=by
  have:=h.kid hi;have e:qv t.Kind i=0:=by unfold qv;rw [if_neg];rintro (q | q);exact h4 q;exact h.not6.2 q.1
  rw [e] at this;exact this
theorem TI.lam (h:TI nb n t) (h4:t.Kind=4):∃hi:0<t.Kids.length,TI nb (n+1) t.Kids[0]:=by
  have hl:=(VW h.ok).2 (.inl h4);have hi:0<t.Kids.length:=by omega
  refine ⟨hi, ?_⟩;have:=h.kid hi;rw [h4] at this;exact this
theorem TI.var (h:TI nb n t) (h1:t.Kind=1):0≤t.Value∧t.Value.toNat<n:=by
  have ha:=h.a;rw [qA.above_eq,if_pos h1,decide_eq_false_iff_not] at ha;have hv:=qGP h.ok;unfold jU inI at hv;rw [if_pos h1] at hv;simp at hv;omega
theorem TI.val8 (h:TI nb n t) (h1:t.Kind=8):0≤t.Value∧t.Value≤3:=by
  have hv:=qGP h.ok;unfold jU inI at hv;rw [h1] at hv;simpa using hv
theorem TI.ref (h:TI nb n t) (h1:t.Kind=11):0≤t.Value∧t.Value<nb:=by
  have hv:=qGP h.ok;unfold jU inI at hv;rw [h1] at hv;have hr:=h.r;rw [qA.refs_eq,h1] at hr;simp at hv hr;omega
theorem TI.data (h:TI nb n t):∀d∈t.Data,0≤d∧d<(nb:Int):=fun d hd=>by
  have hr:=h.r;rw [qA.refs_eq] at hr;simp only [bAt,List.all_eq_true,decide_eq_true_eq] at hr;have:=h.node;simp only [zJ,bAt,List.all_eq_true] at this;have q:=this.2 d hd;simp only [jN,inI,bAt,decide_eq_true_eq] at q;exact ⟨q.1,hr.1.2 d hd⟩
theorem TI.data10 (h:TI nb n t) (h1:t.Kind=10):t.Data.length=2:=by
  have:=h.node;simp only [zJ,bAt,inI,decide_eq_true_eq] at this;have h0:=this.1.1.2;rw [h1] at h0;simp [shp] at h0;omega
theorem TI.mkVar {i:Int} (h0:0≤i) (h1:i<n) (h2:i≤255):TI nb n (.mk 1 i [] []):=by
  refine ⟨?_, ?_, ?_, ?_⟩
  · unfold qA.valid;rw [qA.ok_eq,qA.dep_eq,qA.size_eq];simp [qA.Kids,zJ,qA.Kind,qA.Data,qA.Value,shp,inI,jU,zE,qF,h0,h2]
  · rw [qA.er_eq];simp [qA.Kids,qA.Kind]
  · rw [qA.refs_eq];simp [qA.Kids,qA.Kind,qA.Data]
  · rw [qA.above_eq,if_pos (by rfl)];exact decide_eq_false (by show ¬(n:Int)≤i;omega)
theorem TI.mkRef {i:Int} (h0:0≤i) (h1:i<nb) (h2:nb≤24):TI nb n (.mk 11 i [] []):=by
  have h3:i≤23:=by omega
  refine ⟨?_, ?_, ?_, ?_⟩
  · unfold qA.valid;rw [qA.ok_eq,qA.dep_eq,qA.size_eq];simp [qA.Kids,zJ,qA.Kind,qA.Data,qA.Value,shp,inI,jU,zE,qF,h0,h3]
  · rw [qA.er_eq];simp [qA.Kids,qA.Kind]
  · rw [qA.refs_eq];have q:decide ((nb:Int)≤(qA.mk 11 i [] []).Value)=false:=decide_eq_false (by show ¬(nb:Int)≤i;omega);rw [q];simp [qA.Kids,qA.Data]
  · rw [qA.above_eq];simp [qA.Kind,qA.Value,qA.Kids,zY]
theorem TI.mkNum {i:Int} (h0: -2147483648≤i) (h1:i≤2147483647):TI nb n (.mk 2 i [] []):=by
  refine ⟨?_, ?_, ?_, ?_⟩
  · unfold qA.valid;rw [qA.ok_eq,qA.dep_eq,qA.size_eq];simp [qA.Kids,zJ,qA.Kind,qA.Data,qA.Value,shp,inI,jU,zE,qF,h0,h1]
  · rw [qA.er_eq];simp [qA.Kids,qA.Kind]
  · rw [qA.refs_eq];simp [qA.Kids,qA.Kind,qA.Data,qA.Value]
  · rw [qA.above_eq];simp [qA.Kind,qA.Value,qA.Kids,zY]
theorem TI.mkCon {v:Int} {ks:List qA} (h0:0≤v) (h1:v≤3) (hl:ks.length≤3) (hk:∀(i:Nat) (h:i<ks.length),TI nb n ks[i]∧ks[i].size=1∧ks[i].dep=1):TI nb n (.mk 8 v [] ks):=by
  have hm:∀k∈ks,TI nb n k∧k.size=1∧k.dep=1:=fun k hk'=>by obtain ⟨i,hi,rfl⟩:=List.mem_iff_getElem.1 hk';exact hk i hi
  refine ⟨?_, ?_, ?_, ?_⟩
  · unfold qA.valid;rw [qA.ok_eq,qA.dep_eq,qA.size_eq];have e1:(ks.all qA.ok)=true:=List.all_eq_true.2 fun k hk=>(hm k hk).1.ok;have e2:zE qA.dep ks≤1:=(VK _ _ _).2 fun k hk=>by rw [(hm k hk).2.2];exact Nat.le_refl _
    have e3:qF qA.size ks≤3:=by
      have:∀xs:List qA,(∀k∈xs,k.size=1)→qF qA.size xs=xs.length:=by
        intro xs
        induction xs with
        | nil=>intro _;rfl
        | cons a xs ih=>intro h;simp only [qF,List.length_cons,h a (by simp),ih fun k hk=>h k (by simp [hk])];omega
      rw [this ks fun k hk=>(hm k hk).2.1];exact hl
    have e4:zJ (.mk 8 v [] ks)=true:=by simp [qA.Kids,zJ,qA.Kind,qA.Data,qA.Value,shp,inI,jU,h0,h1];omega
    show ((zJ (.mk 8 v [] ks)&&ks.all qA.ok)&&decide (1+zE qA.dep ks≤80)&&decide (1+qF qA.size ks≤400))=true;rw [e4,e1,decide_eq_true (by omega),decide_eq_true (by omega)];rfl
  · rw [qA.er_eq];simp [qA.Kids,qA.Kind];exact fun k hk=>(hm k hk).1.e
  · rw [qA.refs_eq];simp [qA.Kids,qA.Kind,qA.Data,qA.Value];exact fun k hk=>(hm k hk).1.r
  · rw [qA.above_eq,if_neg (by show ¬(8:Int)=1;decide)];have:∀(xs:List qA) (k:Nat),(∀y∈xs,TI nb n y)→zY (fun i (y:qA)=>y.above (n+qv 8 i)) xs k=false:=by
      intro xs
      induction xs with
      | nil=>intro _ _;rfl
      | cons a xs ih=>
        intro k h;simp only [zY,Bool.or_eq_false_iff];refine ⟨?_,ih _ fun y hy=>h y (by simp [hy])⟩;have:=(h a (by simp)).a;rw [show qv 8 k=0 by unfold qv;rw [if_neg];simp,Int.add_zero];exact this
    exact this ks 0 fun y hy=>(hm y hy).1
theorem qT4 {i:Nat} (h:i<(vars n).length):(vars n)[i]=.mk 1 i [] []:=by simp [vars]
theorem qMH:(vars n).length=n:=by simp [vars]
theorem qT3 {i:Int}:(qA.mk 1 i [] []).size=1∧(qA.mk 1 i [] []).dep=1:=by rw [qA.size_eq,qA.dep_eq];simp [qA.Kids,qF,zE]
theorem MI0.push (h:MI0 L b M) (hf:FI b.Defs.length M.Heap.length f):MI0 L b (M.push f):=
  ⟨h.c,fun g hg=>by
    simp only [qD.push,List.mem_append,List.mem_singleton] at hg;rcases hg with hg | rfl
    · exact h.s g hg
    · exact hf,h.h⟩
theorem MI0.pop (h:MI0 L b M):MI0 L b M.pop:=⟨h.c,fun g hg=>h.s g (List.dropLast_subset _ hg),h.h⟩
theorem MI0.ctl {L':Nat} (h:MI0 L b M) (hc:CI b.Defs.length M.Heap.length L' c):MI0 L' b (M.ctl c):=⟨hc,h.s,h.h⟩
theorem qF0 {k a:Int} (hk:k=1∨k=2) (h:0≤a∧a<(hl:Int)):FI nb hl (fr k a):=
  ⟨fun _=>h,fun q=>by rcases hk with rfl | rfl<;>simp [fr] at q,fun q=>by rcases hk with rfl | rfl<;>simp [fr] at q,fun q d hd=>by simp [fr] at hd,fun q=>by rcases hk with rfl | rfl<;>simp [fr] at q⟩
theorem MI0.addr (h:MI0 256 b M) (ht:TI b.Defs.length M.Control.Env.length t):MI0 256 b (M.addr t).2∧(M.addr t).2.Control=M.Control∧M.Heap.length≤(M.addr t).2.Heap.length∧(M.addr t).2.Heap.length≤M.Heap.length+1∧0≤(M.addr t).1∧(M.addr t).1<(M.addr t).2.Heap.length∧(M.addr t).2.Stack=M.Stack:=by
  unfold qD.addr;split
  · rename_i h1;obtain ⟨v0,v1⟩:=ht.var h1;have hm:M.Control.Env.getD t.Value.toNat 0∈M.Control.Env:=by rw [List.getD_eq_getElem?_getD,gEg v1];exact gMm v1
    have:=h.c.e _ hm;exact ⟨h,rfl,Nat.le_refl _,by simp only;omega,this.1,this.2,rfl⟩
  · have hc:=h.c;refine ⟨⟨?_,fun f hf=> ?_,fun x hx=> ?_⟩,rfl,by simp,by simp,by simp only;omega,by simp only [lAp,List.length_cons,List.length_nil];omega,rfl⟩
    · exact hc.up (by simp)
    · exact (h.s f hf).up (by simp)
    · simp only [List.mem_append,List.mem_singleton] at hx;rcases hx with hx | rfl
      · exact (h.h x hx).up (by simp)
      · exact ⟨ht,hc.l,fun a ha=>by have:=hc.e a ha;simp;omega⟩
theorem MI0.addrs:∀(ks:List qA) {M:qD},MI0 256 b M→(∀k∈ks,TI b.Defs.length M.Control.Env.length k)→MI0 256 b (qD.addrs ks M).2∧(qD.addrs ks M).2.Control=M.Control∧M.Heap.length≤(qD.addrs ks M).2.Heap.length∧
    (∀a∈(qD.addrs ks M).1,0≤a∧a<((qD.addrs ks M).2.Heap.length:Int))∧(qD.addrs ks M).1.length=ks.length
  |[],M,h,_=>⟨h,rfl,Nat.le_refl _,fun a ha=>by simp [qD.addrs] at ha,rfl⟩
  | k::ks,M,h,hk=>by
    obtain ⟨q1,q2,q3,q4,q5,q6,_⟩:=h.addr (hk k (by simp));obtain ⟨r1,r2,r3,r4,r5⟩:=MI0.addrs ks q1 (fun k' hk'=>by rw [q2];exact hk k' (by simp [hk']));refine ⟨r1,r2.trans q2,Nat.le_trans q3 r3,fun a ha=> ?_,by simp [qD.addrs,r5]⟩;simp only [qD.addrs,List.mem_cons] at ha;rcases ha with rfl | ha
    · exact ⟨q5,by simp only [qD.addrs];omega⟩
    · exact r4 a ha
theorem MI0.build (h:MI0 256 b M) (h8:M.Control.Term.Kind=8):MI0 256 b (M.build M.Control.Term):=by
  have ht:=h.c.t;have hl:=ht.lens.1;obtain ⟨r1,r2,r3,r4,r5⟩:=MI0.addrs M.Control.Term.Kids h fun k hk=>by
    obtain ⟨i,hi,rfl⟩:=List.mem_iff_getElem.1 hk;exact ht.kid0 (by rw [h8];decide) hi
  obtain ⟨v0,v1⟩:=ht.val8 h8;refine r1.ctl ⟨?_,by simp only [r5];omega,r4⟩;simp only [r5];refine .mkCon v0 v1 (by rw [qMH];exact hl) fun i hi=> ?_;rw [qMH] at hi;rw [qT4];exact ⟨.mkVar (by omega) (by omega) (by omega),qT3⟩
theorem zZ {α:Type} {xs:List α} {i:Nat} {d:α} (h:i<xs.length):xs.getD i d=xs[i]:=by simp [List.getD,h]
theorem MI0.enter (h:MI0 256 b M) {a:Int} (h0:0≤a) (h1:a<M.Heap.length):MI0 256 b (M.enter a):=by
  have hi:a.toNat<M.Heap.length:=by omega
  have e:M.cellAt a=M.Heap[a.toNat]:=zZ hi;have hc:=h.h _ (gMm hi);unfold qD.enter;rw [e];split
  · exact h.ctl hc
  · exact (h.push (qF0 (.inl rfl) ⟨h0,h1⟩)).ctl hc
theorem MI0.toRef (h:MI0 L b M) (hb:BI b) {d:Int} (h0:0≤d) (h1:d<b.Defs.length):MI0 256 b (M.toRef d):=h.ctl ⟨.mkRef h0 h1 hb.l,by simp,fun a ha=>by simp at ha⟩
theorem z6 {i:Nat} (h:i<t.Kids.length):t.kid i=t.Kids[i]:=zZ h
theorem MI0.eval (hb:BI b) (h:MI0 256 b M) (hv:M.Control.val=false):MI0 256 b (M.eval b).2:=by
  have ht:=h.c.t;have hk2:=VW ht.ok;unfold qD.eval;split
  · rename_i h1;obtain ⟨v0,v1⟩:=ht.var h1;have hm:M.Control.Env.getD M.Control.Term.Value.toNat 0∈M.Control.Env:=by rw [zZ v1];exact gMm v1
    have:=h.c.e _ hm;exact h.enter this.1 this.2
  have foc:∀{N:qD},MI0 256 b N→N.Control=M.Control→¬M.Control.Term.Kind=4→0<M.Control.Term.Kids.length→MI0 256 b (N.ctl ⟨M.Control.Term.kid 0,M.Control.Env⟩):=fun {N} hN e h4 hl=>by
    refine hN.ctl ⟨?_, ?_, ?_⟩
    · rw [z6 hl];exact ht.kid0 h4 hl
    · exact h.c.l
    · have:=hN.c.e;rw [e] at this;exact this
  split
  · rename_i h5;have hl:=hk2.1 (.inr (.inl h5));have h4:¬M.Control.Term.Kind=4:=by rw [h5];decide
    have hl1:1<M.Control.Term.Kids.length:=by omega
    obtain ⟨q1,q2,q3,q4,q5,q6,_⟩:=h.addr (t:=M.Control.Term.kid 1) (by rw [z6 hl1];exact ht.kid0 h4 hl1);exact foc (q1.push (qF0 (.inr rfl) ⟨q5,q6⟩)) q2 h4 (by omega)
  split
  · rename_i h5;have hl:=hk2.1 (.inl h5);have h4:¬M.Control.Term.Kind=4:=by rw [h5];decide
    have hl1:1<M.Control.Term.Kids.length:=by omega
    exact foc (h.push ⟨fun q=>by simp at q,fun _=>⟨by rw [z6 hl1];exact ht.kid0 h4 hl1,h.c.l,h.c.e⟩,fun q=>by simp at q,fun q=>by simp at q,fun q=>by simp at q⟩) rfl h4 (by omega)
  split
  · rename_i h5;have hl:=hk2.2 (.inr (.inr (.inl h5)));have h4:¬M.Control.Term.Kind=4:=by rw [h5];decide
    exact foc (h.push ⟨fun q=>by simp at q,fun q=>by simp at q,fun q=>by simp at q,fun q=>ht.data,fun q=>by simp at q⟩) rfl h4 (by omega)
  split
  · rename_i h5;have hl:=hk2.2 (.inr (.inr (.inr h5)));have h4:¬M.Control.Term.Kind=4:=by rw [h5];decide
    exact foc (h.push ⟨fun q=>by simp at q,fun q=>by simp at q,fun q=>by simp at q,fun q=>ht.data,fun q=>ht.data10 h5⟩) rfl h4 (by omega)
  split
  · rename_i h5;obtain ⟨v0,v1⟩:=ht.ref h5;have hi:M.Control.Term.Value.toNat<b.Defs.length:=by omega
    exact h.ctl ⟨by simp only [zZ hi];exact hb.d _ (gMm hi),by simp,fun a ha=>by simp at ha⟩
  · have h8:M.Control.Term.Kind=8:=by
      unfold qW.val at hv;have:=ht.kinds;split at hv
      · cases hv
      · omega
    exact h.build h8
theorem qKN {k a b:Int}: -2147483648≤opI k a b∧opI k a b≤2147483647:=by
  have hw:∀n:Int,-2147483648≤w32 n∧w32 n≤2147483647:=fun n=>by
    have h3: -2147483648≤IntKind.i32.wrap n∧IntKind.i32.wrap n≤2147483647:=by
      simp only [IntKind.wrap,IntKind.bits,IntKind.signed,Bool.true_and,decide_eq_true_eq,Nat.reduceSub,Int.reducePow,ge_iff_le];split<;>constructor<;>omega
    rw [qMJ,zC (by omega) (by omega)];exact h3
  unfold opI
  repeat' split
  all_goals first | exact hw _ | omega
theorem wQ (h:0<M.Stack.length):M.top=M.Stack[M.Stack.length-1]∧M.top∈M.Stack:=by
  have:M.top=M.Stack[M.Stack.length-1]:=zZ (by omega);exact ⟨this,by rw [this];exact gMm _⟩
theorem MI0.meet (hb:BI b) (h:MI0 256 b M) (hv:M.Control.val=true) (hs:0<M.Stack.length):MI0 257 b M.meet.2:=by
  have ht:=h.c.t;obtain ⟨te,tm⟩:=wQ hs;have hf:=h.s _ tm;have up:∀{N:qD},MI0 256 b N→MI0 257 b N:=fun q=>⟨q.c.up2 (by omega),q.s,q.h⟩;unfold qD.meet;split
  · rename_i h1;refine up ⟨?_,fun f hf=> ?_,fun x hx=> ?_⟩
    · simp only [List.length_set];exact h.c
    · simp only [List.length_set];exact h.s f (List.dropLast_subset _ hf)
    · simp only [List.length_set];rcases List.mem_or_eq_of_mem_set hx with hx | rfl
      · exact h.h x hx
      · exact h.c
  split
  · rename_i h1;obtain ⟨hl,hk⟩:=ht.lam h1.1;have ha:=hf.a (.inr h1.2);refine h.pop.ctl ⟨?_, ?_,fun a hm=> ?_⟩
    · simp only [List.length_cons,z6 hl];exact hk
    · simp only [List.length_cons];have:=h.c.l;omega
    · simp only [List.mem_cons] at hm;rcases hm with rfl | hm
      · exact ha
      · exact h.c.e a hm
  split
  · rename_i h1;exact up ((h.pop.push ⟨fun q=>by simp at q,fun q=>by simp at q,fun q=>rfl,fun q=>by simp at q,fun q=>by simp at q⟩).ctl (hf.c h1.2))
  split
  · rename_i h1;exact up (h.pop.ctl ⟨.mkNum qKN.1 qKN.2,by simp,fun a ha=>by simp at ha⟩)
  split
  · rename_i h1;have hl:=hf.l h1.2;have hi:(if M.Control.Term.Value=0 then 1 else 0)<M.top.Data.length:=by split<;>omega
    have:=hf.r (.inr h1.2) _ (gMm hi);refine up (h.pop.toRef hb ?_ ?_)
    · rw [zZ hi];exact this.1
    · rw [zZ hi];exact this.2
  split
  · rename_i h1;obtain ⟨v0,v1⟩:=ht.val8 h1.1;have hi:M.Control.Term.Value.toNat<M.top.Data.length:=by omega
    have:=hf.r (.inl h1.2.1) _ (gMm hi);refine up (MI0.toRef (L:=256) (M:={M.pop with Stack:=M.pop.Stack++M.Control.Env.reverse.map (fr 2)}) ⟨h.c,fun f hf=> ?_,h.h⟩ hb ?_ ?_)
    · simp only [List.mem_append,List.mem_map,List.mem_reverse] at hf;rcases hf with hf | ⟨a,ha,rfl⟩
      · exact h.pop.s f hf
      · exact qF0 (.inr rfl) (h.c.e a ha)
    · rw [zZ hi];exact this.1
    · rw [zZ hi];exact this.2
  · exact up h
theorem MI.pos (hd:M.done=false) (hv:M.Control.val=true):0<M.Stack.length:=by
  unfold qD.done at hd;rw [hv,Bool.and_true,decide_eq_false_iff_not] at hd;omega
theorem MI.step (hb:BI b) (h:MI b M) (hd:M.done=false) (hc:(M.step b).2.1=0):MI b (M.step b).2.2:=by
  have hm:MI0 257 b (M.move b).2:=by
    unfold qD.move;split
    · rename_i hv;exact h.toMI0.meet hb hv (MI.pos hd hv)
    · rename_i hv;have:=h.toMI0.eval hb (by simpa using hv);exact ⟨this.c.up2 (by omega),this.s,this.h⟩
  unfold qD.step at hc⊢;split at hc
  · simp at hc
  rename_i h1;split at hc
  · simp at hc
  rename_i h2;rw [if_neg h1,if_neg h2];exact ⟨⟨⟨hm.c.t,by simp only;omega,hm.c.e⟩,hm.s,hm.h⟩,by simp only;omega,by simp only;omega⟩
end
end Go.Ab
namespace Go.Ab
open Go
set_option maxRecDepth 10000
set_option maxHeartbeats 2000000
theorem c727 {x:Int}:Pure Gm 727 [.int .i64 x] ((qA.mk 1 x [] []).enc):=by
  refine Pure.intro [] [] g727 (by kernel_rfl) rfl (by simp [AV.trees,AV.tree,go_sem]) (by simp [go_sem]) ?_;simp only [Xe,qK,go_sem];refine qY (k:=4) (by rfl) (by rfl) (by exact ⟨_,rfl⟩) (by decide) ?_;simp only [go_sem];exact wD JS
theorem c612 {x:Int}:Pure Gm 612 [.int .i64 x] ((qA.mk 1 x [] []).enc):=by
  refine Pure.intro [] [] g612 (by kernel_rfl) rfl (by simp [AV.trees,AV.tree,go_sem]) (by simp [go_sem]) ?_;simp only [XT,qK,go_sem];refine qY (k:=4) (by rfl) (by rfl) (by exact ⟨_,rfl⟩) (by decide) ?_;simp only [go_sem];exact wD JS
theorem qMG {ks:List qA} {i:Nat} (h:i<ks.length):jV (ks.drop i) i=(decide (ks[i].Kind=1)&&decide (ks[i].Value=i)&&jV (ks.drop (i+1)) (i+1)):=by
  rw [jm h];rfl
theorem c673 {x:qW} (hz:x.sz≤1048576):Pure Gm 673 [x.enc] (.bool x.val):=by
  refine Pure.intro [] [] g673 (by kernel_rfl) rfl (by simp [AV.trees,AV.tree,go_sem]) rfl ?_;simp only [Xb,qK,go_sem];have hz':=hz;unfold qW.sz at hz';have hk:=x.Term.sz_eq;refine qd rfl ?_;simp only [go_sem];refine qI ?_ ?_<;>intro hc<;>simp only [hc,go_sem]
  · exact qO rfl (by unfold qW.val;simp at hc;simp [hc])
  refine qI ?_ ?_<;>intro hc<;>simp only [hc,go_sem]
  · exact qO rfl (by unfold qW.val;simp at hc;simp [hc])
  rename_i h4;have h2:=hc;clear hc;refine qI ?_ ?_<;>intro hc<;>simp only [hc,go_sem];rotate_left
  · exact qO rfl (by unfold qW.val;simp at hc h4 h2;simp [hc,h4,h2])
  have hv:x.val=(decide (x.Term.Kids.length=x.Env.length)&&jV x.Term.Kids 0):=by unfold qW.val qW.fields;simp at hc h4 h2;simp [hc]
  rw [hv];clear hc h4 h2 hv;refine Sem.loop (fun i:Nat=>i≤x.Term.Kids.length∧jV x.Term.Kids 0=jV (x.Term.Kids.drop i) i) (fun i=>(⟨[(15,.lst 4 (x.Term.Kids.map qA.enc) false),(16,.int .i64 (x.Term.Kids.length:Nat)),(17,.int .i64 (i:Nat))],[(1,x.enc)],[]⟩:VSt)) (fun i=>x.Term.Kids.length-i) 0 (by kernel_rfl) ⟨Nat.zero_le _,by simp⟩ (Can.sub (by simp [go_sem]) (by simp [go_sem])) ?_;rintro i ⟨hi,hI⟩;simp only [go_sem];refine qI ?_ ?_<;>intro hc<;>simp only [hc,go_sem]
  · have hlt:i<x.Term.Kids.length:=by have:=odT hc;omega
    rw [qMG hlt] at hI;clear hc;simp only [List.getElem?_map,gEg hlt,Option.map_some,go_sem];refine qY (k:=4) (by rfl) (by simp [go_sem]) (qA.isAgg _) (by decide) ?_;simp only [go_sem];refine qq ?_ ?_<;>intro hc<;>simp only [hc,go_sem]
    · have hc1:=hc;refine qI ?_ ?_<;>intro hc<;>simp only [hc,go_sem]
      · exact qO rfl (by simp at hc hc1;simp [hI,hc,hc1])
      · simp only [zA (show i<4611686018427387904 by omega)];refine qx (i+1) ⟨by omega, ?_⟩ (by omega) (Can.sub (by simp [go_sem]) (by simp [go_sem]));simp at hc hc1;rw [hI];simp [hc,hc1]
    · exact qO rfl (by simp at hc;simp [hI,hc])
  · obtain rfl:i=x.Term.Kids.length:=by have:=odF hc;omega
    have h1:jV (x.Term.Kids.drop x.Term.Kids.length) x.Term.Kids.length=true:=by rw [List.drop_length];rfl
    rw [h1] at hI;exact qO rfl (by rw [hI,Bool.and_true,AV.bool.injEq,decide_eq_decide];omega)
section
variable {P:Nat→Prop} {w:Nat} {pre post:List AV} {id j:Nat} {h:List qC} {M:qD} {K:AV→List qC→Prop}
theorem qLH (hj:pre.length=j) (hN:NSx P w pre post id h M) (hz:M.Control.sz≤1048576) (hK:K (.bool M.Control.fields) h):SCall Gm 1149 [.ptr id 0 j] h K:=by
  obtain ⟨si,hi,js,hN⟩:=hN;have hz':=hz;unfold qW.sz at hz';have hk:=M.Control.Term.sz_eq;refine SCall.run [] [] qPE (by kernel_rfl) rfl ?_;simp only [WH,qK,go_sem];simp only [hN.o,Nat.add_zero,ne3 hj,ne4 hj,go_sem];refine qI ?_ ?_<;>intro hc<;>simp only [hc,go_sem]
  · have:M.Control.fields=false:=by unfold qW.fields;simp at hc;simp;intro q;omega
    rw [this] at hK;exact hK
  have hf:M.Control.fields=jV M.Control.Term.Kids 0:=by
    unfold qW.fields;have:M.Control.Term.Kids.length=M.Control.Env.length:=by simp at hc;omega
    simp [this]
  rw [hf] at hK;clear hc hf;refine Sem.loop (fun i:Nat=>i≤M.Control.Term.Kids.length∧jV M.Control.Term.Kids 0=jV (M.Control.Term.Kids.drop i) i) (fun i=>(⟨[(0,.ptr id 0 j),(3,.int .i64 (i:Nat))],[],h⟩:VSt)) (fun i=>M.Control.Term.Kids.length-i) 0 (by kernel_rfl) ⟨Nat.zero_le _,by simp⟩ (Can.sub (by simp [go_sem]) (by simp [go_sem])) ?_;rintro i ⟨hi',hI⟩;simp only [go_sem];simp only [hN.o,Nat.add_zero,ne0 hj,ne1 hj,ne2 hj,ne3 hj,ne4 hj,ne5 hj,ne6 hj,neT hj,neC hj,go_sem];refine qI ?_ ?_<;>intro hc<;>simp only [hc,go_sem]
  · have hlt:i<M.Control.Term.Kids.length:=by have:=odT hc;omega
    rw [qMG hlt] at hI;clear hc;simp only [hN.o,Nat.add_zero,ne0 hj,ne1 hj,ne2 hj,ne3 hj,ne4 hj,ne5 hj,ne6 hj,neT hj,neC hj,go_sem];simp only [List.getElem?_map,gEg hlt,Option.map_some,go_sem];refine qq ?_ ?_<;>intro hc<;>simp only [hc,go_sem]
    · have hc1:=hc;simp only [hN.o,Nat.add_zero,ne0 hj,ne1 hj,ne2 hj,ne3 hj,ne4 hj,ne5 hj,ne6 hj,neT hj,neC hj,go_sem];simp only [List.getElem?_map,gEg hlt,Option.map_some,go_sem];refine qI ?_ ?_<;>intro hc<;>simp only [hc,go_sem]
      · have:jV M.Control.Term.Kids 0=false:=by simp at hc hc1;simp [hI,hc,hc1]
        rw [this] at hK;exact hK
      · simp only [zA (show i<4611686018427387904 by omega)];refine qx (i+1) ⟨by omega, ?_⟩ (by omega) (Can.sub (by simp [go_sem]) (by simp [go_sem]));simp at hc hc1;rw [hI];simp [hc,hc1]
    · have:jV M.Control.Term.Kids 0=false:=by simp at hc;simp [hI,hc]
      rw [this] at hK;exact hK
  · obtain rfl:i=M.Control.Term.Kids.length:=by have:=odF hc;omega
    have h1:jV (M.Control.Term.Kids.drop M.Control.Term.Kids.length) M.Control.Term.Kids.length=true:=by rw [List.drop_length];rfl
    rw [h1] at hI;rw [hI] at hK;exact hK
theorem s822 (hj:pre.length=j) (hN:NSx P w pre post id h M) (hz:M.Control.sz≤1048576) (hK:K (.bool M.Control.val) h):SCall Gm 822 [.ptr id 0 j] h K:=by
  obtain ⟨si,hi,js,hN'⟩:=hN;have hN:=hN';refine SCall.run [] [] g822 (by kernel_rfl) rfl ?_;simp only [Xm,qK,go_sem];simp only [hN.o,Nat.add_zero,ne0 hj,ne1 hj,ne2 hj,ne3 hj,ne4 hj,ne5 hj,ne6 hj,neT hj,neC hj,go_sem];refine qI ?_ ?_<;>intro hc<;>simp only [hc,go_sem]
  · have:M.Control.val=true:=by unfold qW.val;simp at hc;simp [hc]
    rw [this] at hK;exact hK
  refine qI ?_ ?_<;>intro hc<;>simp only [hc,go_sem]
  · have:M.Control.val=true:=by unfold qW.val;simp at hc;simp [hc]
    rw [this] at hK;exact hK
  rename_i h4;have h2:=hc;clear hc;refine qI ?_ ?_<;>intro hc<;>simp only [hc,go_sem]
  · have:M.Control.val=M.Control.fields:=by unfold qW.val;simp at hc h2 h4;simp [hc]
    rw [this] at hK;refine qc (qLH hj ⟨_,_,_,hN⟩ hz ?_);simp only [go_sem];exact hK
  · have:M.Control.val=false:=by unfold qW.val;simp at hc h2 h4;simp [hc,h2,h4]
    rw [this] at hK;exact hK
theorem s459 (hj:pre.length=j) (hN:NSx P w pre post id h M) (hz:M.Control.sz≤1048576) (hK:K (.bool M.done) h):SCall Gm 459 [.ptr id 0 j] h K:=by
  obtain ⟨si,hi,js,hN⟩:=hN;refine SCall.run [] [] g459 (by kernel_rfl) rfl ?_;simp only [XH,qK,go_sem];simp only [hN.o,Nat.add_zero,ne0 hj,ne1 hj,ne2 hj,ne3 hj,ne4 hj,ne5 hj,ne6 hj,neT hj,neC hj,go_sem];refine qq ?_ ?_<;>intro hc<;>simp only [hc,go_sem]
  · refine qc (s822 hj ⟨_,_,_,hN⟩ hz ?_);simp only [go_sem];have:M.done=M.Control.val:=by unfold qD.done;simp at hc;simp [hc]
    rw [this] at hK;exact hK
  · have:M.done=false:=by unfold qD.done;simp at hc;simp [hc]
    rw [this] at hK;exact hK
theorem s670 (hj:pre.length=j) (hN:NSx P w pre post id h M) (hz:M.Control.sz≤1048576) (hK:K (.bool M.done) h):SCall Gm 670 [.ptr id 0 j] h K:=by
  obtain ⟨si,hi,js,hN⟩:=hN;refine SCall.run [] [] g670 (by kernel_rfl) rfl ?_;simp only [XZ,qK,go_sem];simp only [hN.o,Nat.add_zero,ne0 hj,ne1 hj,ne2 hj,ne3 hj,ne4 hj,ne5 hj,ne6 hj,neT hj,neC hj,go_sem];refine qq ?_ ?_<;>intro hc<;>simp only [hc,go_sem]
  · simp only [hN.o,Nat.add_zero,ne0 hj,ne1 hj,ne2 hj,ne3 hj,ne4 hj,ne5 hj,ne6 hj,neT hj,neC hj,go_sem];refine qL (c673 hz) ?_;simp only [go_sem];have:M.done=M.Control.val:=by unfold qD.done;simp at hc;simp [hc]
    rw [this] at hK;exact hK
  · have:M.done=false:=by unfold qD.done;simp at hc;simp [hc]
    rw [this] at hK;exact hK
end
end Go.Ab
