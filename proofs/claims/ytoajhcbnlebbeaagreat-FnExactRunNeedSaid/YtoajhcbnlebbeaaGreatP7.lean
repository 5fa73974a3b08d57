/- Texts Cor0 .. Cor22: the abstract machine, its laws and contracts of functions: lemmas for the statement. No condition. -/
import Derived.Test.YtoajhcbnlebbeaaGreatP5
set_option linter.unusedSimpArgs false
set_option linter.unusedVariables false
namespace Go.Ab
open Go
inductive qA where
 | mk (Kind Value:Int) (Data:List Int) (Kids:List qA)
def qA.Kind:qA→Int |.mk a _ _ _=>a
def qA.Value:qA→Int |.mk _ a _ _=>a
def qA.Data:qA→List Int |.mk _ _ a _=>a
def qA.Kids:qA→List qA |.mk _ _ _ a=>a
theorem qA.ext {x y:qA} (h1:x.Kind=y.Kind) (h2:x.Value=y.Value) (h3:x.Data=y.Data) (h4:x.Kids=y.Kids):x=y:=by
 cases x;cases y;simp_all [qA.Kind,qA.Value,qA.Data,qA.Kids]
theorem qA.eta (x:qA):qA.mk x.Kind x.Value x.Data x.Kids=x:=by cases x;rfl
theorem qA.lt_of_mem {x:qA} {y:qA} (h:y∈x.Kids):SizeOf.sizeOf y<SizeOf.sizeOf x:=by
 cases x with
 | mk a b c d=>
  have:=List.sizeOf_lt_of_mem (show y∈d from h);simp only [qA.mk.sizeOf_spec];omega
theorem qA.ind {P:qA→Prop} (h:∀x,(∀y,y∈x.Kids→P y)→P x) (x:qA):P x:=
 h x fun y hy=>qA.ind h y
termination_by SizeOf.sizeOf x
decreasing_by exact qA.lt_of_mem hy
mutual
def qA.enc:qA→AV
 |.mk k v d ks=>.agg [.int .i64 k,.int .i64 v,.lst 1 (d.map qD) false,.lst 4 (qA.encs ks) false]
def qA.encs:List qA→List AV
 |[]=>[]
 | x::xs=>x.enc::qA.encs xs
end
theorem qA.encs_eq:∀xs,qA.encs xs=xs.map qA.enc
 |[]=>by simp [qA.encs]
 | x::xs=>by simp [qA.encs,qA.encs_eq xs]
theorem qA.enc_eq (x:qA):x.enc=.agg [.int .i64 x.Kind,.int .i64 x.Value,.lst 1 (x.Data.map qD) false,.lst 4 (x.Kids.map qA.enc) false]:=by
 cases x;simp [qA.enc,qA.encs_eq,qA.Kind,qA.Value,qA.Data,qA.Kids]
theorem qA.trx:∀x:qA,x.enc.tree=true:=qA.ind fun x ih=>by
 rw [qA.enc_eq];have h:∀xs:List qA,(∀y∈xs,y.enc.tree=true)→AV.trees (xs.map qA.enc)=true:=by
  intro xs
  induction xs with
  | nil=>intro _;rfl
  | cons a xs ihx=>intro h;simp only [List.map_cons,AV.trees,bAt];exact ⟨h a (by simp),ihx fun y hy=>h y (by simp [hy])⟩
 simp [AV.tree,AV.trees,zA shI.tree,h _ ih]
theorem qA.isSh:Sh qA.enc 4 (some 4):=⟨qA.trx,fun x=>by rw [qA.enc_eq];rfl,fun x=>by rw [qA.enc_eq];rfl,by decide,fun x=>by rw [qA.enc_eq];simp⟩
section
variable {x:qA}
@[go_sem] theorem qA.tr:x.enc.tree=true:=qA.trx x
@[go_sem] theorem qA.ln:x.enc.cells.length=4:=by rw [qA.enc_eq];rfl
@[go_sem] theorem qA.all:x.enc.part 0 (some 4)=some x.enc:=by rw [qA.enc_eq];rfl
@[go_sem] theorem qA.cs:x.enc.cells=[.int .i64 x.Kind,.int .i64 x.Value,.lst 1 (x.Data.map qD) false,.lst 4 (x.Kids.map qA.enc) false]:=by rw [qA.enc_eq];rfl
@[go_sem] theorem qA.p0:x.enc.part 0 none=some (.int .i64 x.Kind):=by rw [qA.enc_eq];rfl
@[go_sem] theorem qA.p1:x.enc.part 1 none=some (.int .i64 x.Value):=by rw [qA.enc_eq];rfl
@[go_sem] theorem qA.p2:x.enc.part 2 none=some (.lst 1 (x.Data.map qD) false):=by rw [qA.enc_eq];rfl
@[go_sem] theorem qA.p3:x.enc.part 3 none=some (.lst 4 (x.Kids.map qA.enc) false):=by rw [qA.enc_eq];rfl
end
mutual
def qA.sz:qA→Nat
 |.mk _ _ d ks=>d.length+(ks.length+qA.szs ks)
def qA.szs:List qA→Nat
 |[]=>0
 | x::xs=>x.sz+qA.szs xs
end
theorem qA.szs_eq:∀xs,qA.szs xs=qE qA.sz xs
 |[]=>by simp [qA.szs,qE]
 | x::xs=>by simp [qA.szs,qE,qA.szs_eq xs]
theorem qA.sz_eq (x:qA):x.sz=x.Data.length+(x.Kids.length+qE qA.sz x.Kids):=by
 cases x;simp [qA.sz,qA.szs_eq,qA.Data,qA.Kids]
mutual
def qA.bd:qA→Prop
 |.mk _ _ d ks=>d.length≤140737488355328∧ks.length≤140737488355328∧qA.bds ks
def qA.bds:List qA→Prop
 |[]=>True
 | x::xs=>x.bd∧qA.bds xs
end
theorem qA.bds_eq:∀xs,qA.bds xs↔∀y∈xs,qA.bd y
 |[]=>by simp [qA.bds]
 | x::xs=>by simp [qA.bds,qA.bds_eq xs]
theorem qA.bd_eq (x:qA):x.bd↔x.Data.length≤140737488355328∧x.Kids.length≤140737488355328∧∀y∈x.Kids,y.bd:=by
 cases x;simp [qA.bd,qA.bds_eq,qA.Data,qA.Kids]
structure qO where
 Defs:List qA
def qO.enc (x:qO):AV:=.agg [.lst 4 (x.Defs.map qA.enc) false]
theorem qO.isSh:Sh qO.enc 1 (some 1):=⟨fun x=>by simp [qO.enc,AV.tree,AV.trees,zA qA.isSh.tree],fun _=>rfl,fun _=>rfl,by decide,fun x=>by simp [qO.enc]⟩
section
variable {x:qO}
@[go_sem] theorem qO.tr:x.enc.tree=true:=qO.isSh.tree x
@[go_sem] theorem qO.ln:x.enc.cells.length=1:=nr rfl
@[go_sem] theorem qO.all:x.enc.part 0 (some 1)=some x.enc:=nr rfl
@[go_sem] theorem qO.cs:x.enc.cells=[.lst 4 (x.Defs.map qA.enc) false]:=nr rfl
@[go_sem] theorem qO.p0:x.enc.part 0 none=some (.lst 4 (x.Defs.map qA.enc) false):=nr rfl
@[go_sem] theorem qO.lst1 {E:Ev} {t off:Nat} {cs:List AV} {l:List qB} {ks:List Fr1} {s m:qb} {h:List qC} {Q:qX→VSt→Prop}:Lst E t off 1 (some (.agg cs)) (some x.enc) l ks ⟨s,m,h⟩ Q=jH E t (zd cs off (.lst 4 (x.Defs.map qA.enc) false)) l ks ⟨s,m,h⟩ Q:=jq rfl
end
def qO.sz (x:qO):Nat:=(x.Defs.length+qE qA.sz x.Defs)
def qO.bd (x:qO):Prop:=x.Defs.length≤140737488355328∧(∀y∈x.Defs,qA.bd y)
structure qI where
 Term:qA
 Env:List Int
def qI.enc (x:qI):AV:=.agg [.int .i64 x.Term.Kind,.int .i64 x.Term.Value,.lst 1 (x.Term.Data.map qD) false,.lst 4 (x.Term.Kids.map qA.enc) false,.lst 1 (x.Env.map qD) false]
theorem qI.isSh:Sh qI.enc 5 (some 5):=⟨fun x=>by simp [qI.enc,AV.tree,AV.trees,zA qA.isSh.tree,zA shI.tree],fun _=>rfl,fun _=>rfl,by decide,fun x=>by simp [qI.enc]⟩
section
variable {x:qI}
@[go_sem] theorem qI.tr:x.enc.tree=true:=qI.isSh.tree x
@[go_sem] theorem qI.ln:x.enc.cells.length=5:=nr rfl
@[go_sem] theorem qI.all:x.enc.part 0 (some 5)=some x.enc:=nr rfl
@[go_sem] theorem qI.cs:x.enc.cells=[.int .i64 x.Term.Kind,.int .i64 x.Term.Value,.lst 1 (x.Term.Data.map qD) false,.lst 4 (x.Term.Kids.map qA.enc) false,.lst 1 (x.Env.map qD) false]:=nr rfl
@[go_sem] theorem qI.p0:x.enc.part 0 none=some (.int .i64 x.Term.Kind):=nr rfl
@[go_sem] theorem qI.p1:x.enc.part 1 none=some (.int .i64 x.Term.Value):=nr rfl
@[go_sem] theorem qI.p2:x.enc.part 2 none=some (.lst 1 (x.Term.Data.map qD) false):=nr rfl
@[go_sem] theorem qI.p3:x.enc.part 3 none=some (.lst 4 (x.Term.Kids.map qA.enc) false):=nr rfl
@[go_sem] theorem qI.p4:x.enc.part 4 none=some (.lst 1 (x.Env.map qD) false):=nr rfl
@[go_sem] theorem qI.q0_4:x.enc.part 0 (some 4)=some (qA.enc x.Term):=by rw [qA.enc_eq];rfl
end
def qI.sz (x:qI):Nat:=qA.sz x.Term+x.Env.length
def qI.bd (x:qI):Prop:=qA.bd x.Term∧x.Env.length≤140737488355328
structure qF where
 Kind:Int
 Value:Int
 Data:List Int
 Closure:qI
def qF.enc (x:qF):AV:=.agg [.int .i64 x.Kind,.int .i64 x.Value,.lst 1 (x.Data.map qD) false,.int .i64 x.Closure.Term.Kind,.int .i64 x.Closure.Term.Value,.lst 1 (x.Closure.Term.Data.map qD) false,.lst 4 (x.Closure.Term.Kids.map qA.enc) false,.lst 1 (x.Closure.Env.map qD) false]
theorem qF.isSh:Sh qF.enc 8 (some 8):=⟨fun x=>by simp [qF.enc,AV.tree,AV.trees,zA qA.isSh.tree,zA shI.tree],fun _=>rfl,fun _=>rfl,by decide,fun x=>by simp [qF.enc]⟩
section
variable {x:qF}
@[go_sem] theorem qF.tr:x.enc.tree=true:=qF.isSh.tree x
@[go_sem] theorem qF.ln:x.enc.cells.length=8:=nr rfl
@[go_sem] theorem qF.all:x.enc.part 0 (some 8)=some x.enc:=nr rfl
@[go_sem] theorem qF.cs:x.enc.cells=[.int .i64 x.Kind,.int .i64 x.Value,.lst 1 (x.Data.map qD) false,.int .i64 x.Closure.Term.Kind,.int .i64 x.Closure.Term.Value,.lst 1 (x.Closure.Term.Data.map qD) false,.lst 4 (x.Closure.Term.Kids.map qA.enc) false,.lst 1 (x.Closure.Env.map qD) false]:=nr rfl
@[go_sem] theorem qF.p0:x.enc.part 0 none=some (.int .i64 x.Kind):=nr rfl
@[go_sem] theorem qF.p1:x.enc.part 1 none=some (.int .i64 x.Value):=nr rfl
@[go_sem] theorem qF.p2:x.enc.part 2 none=some (.lst 1 (x.Data.map qD) false):=nr rfl
@[go_sem] theorem qF.p3:x.enc.part 3 none=some (.int .i64 x.Closure.Term.Kind):=nr rfl
@[go_sem] theorem qF.p4:x.enc.part 4 none=some (.int .i64 x.Closure.Term.Value):=nr rfl
@[go_sem] theorem qF.p5:x.enc.part 5 none=some (.lst 1 (x.Closure.Term.Data.map qD) false):=nr rfl
@[go_sem] theorem qF.p6:x.enc.part 6 none=some (.lst 4 (x.Closure.Term.Kids.map qA.enc) false):=nr rfl
@[go_sem] theorem qF.p7:x.enc.part 7 none=some (.lst 1 (x.Closure.Env.map qD) false):=nr rfl
@[go_sem] theorem qF.q3_5:x.enc.part 3 (some 5)=some (qI.enc x.Closure):=nr rfl
@[go_sem] theorem qF.q3_4:x.enc.part 3 (some 4)=some (qA.enc x.Closure.Term):=by rw [qA.enc_eq];rfl
end
def qF.sz (x:qF):Nat:=x.Data.length+qI.sz x.Closure
def qF.bd (x:qF):Prop:=x.Data.length≤140737488355328∧qI.bd x.Closure
structure qH where
 Done:Bool
 Closure:qI
def qH.enc (x:qH):AV:=.agg [.bool x.Done,.int .i64 x.Closure.Term.Kind,.int .i64 x.Closure.Term.Value,.lst 1 (x.Closure.Term.Data.map qD) false,.lst 4 (x.Closure.Term.Kids.map qA.enc) false,.lst 1 (x.Closure.Env.map qD) false]
theorem qH.isSh:Sh qH.enc 6 (some 6):=⟨fun x=>by simp [qH.enc,AV.tree,AV.trees,zA qA.isSh.tree,zA shI.tree],fun _=>rfl,fun _=>rfl,by decide,fun x=>by simp [qH.enc]⟩
section
variable {x:qH}
@[go_sem] theorem qH.tr:x.enc.tree=true:=qH.isSh.tree x
@[go_sem] theorem qH.ln:x.enc.cells.length=6:=nr rfl
@[go_sem] theorem qH.all:x.enc.part 0 (some 6)=some x.enc:=nr rfl
@[go_sem] theorem qH.cs:x.enc.cells=[.bool x.Done,.int .i64 x.Closure.Term.Kind,.int .i64 x.Closure.Term.Value,.lst 1 (x.Closure.Term.Data.map qD) false,.lst 4 (x.Closure.Term.Kids.map qA.enc) false,.lst 1 (x.Closure.Env.map qD) false]:=nr rfl
@[go_sem] theorem qH.p0:x.enc.part 0 none=some (.bool x.Done):=nr rfl
@[go_sem] theorem qH.p1:x.enc.part 1 none=some (.int .i64 x.Closure.Term.Kind):=nr rfl
@[go_sem] theorem qH.p2:x.enc.part 2 none=some (.int .i64 x.Closure.Term.Value):=nr rfl
@[go_sem] theorem qH.p3:x.enc.part 3 none=some (.lst 1 (x.Closure.Term.Data.map qD) false):=nr rfl
@[go_sem] theorem qH.p4:x.enc.part 4 none=some (.lst 4 (x.Closure.Term.Kids.map qA.enc) false):=nr rfl
@[go_sem] theorem qH.p5:x.enc.part 5 none=some (.lst 1 (x.Closure.Env.map qD) false):=nr rfl
@[go_sem] theorem qH.q1_5:x.enc.part 1 (some 5)=some (qI.enc x.Closure):=nr rfl
@[go_sem] theorem qH.q1_4:x.enc.part 1 (some 4)=some (qA.enc x.Closure.Term):=by rw [qA.enc_eq];rfl
end
def qH.sz (x:qH):Nat:=qI.sz x.Closure
def qH.bd (x:qH):Prop:=qI.bd x.Closure
structure qG where
 Control:qI
 Stack:List qF
 Heap:List qH
def qG.enc (x:qG):AV:=.agg [.int .i64 x.Control.Term.Kind,.int .i64 x.Control.Term.Value,.lst 1 (x.Control.Term.Data.map qD) false,.lst 4 (x.Control.Term.Kids.map qA.enc) false,.lst 1 (x.Control.Env.map qD) false,.lst 8 (x.Stack.map qF.enc) false,.lst 6 (x.Heap.map qH.enc) false]
theorem qG.isSh:Sh qG.enc 7 (some 7):=⟨fun x=>by simp [qG.enc,AV.tree,AV.trees,zA qA.isSh.tree,zA qF.isSh.tree,zA qH.isSh.tree,zA shI.tree],fun _=>rfl,fun _=>rfl,by decide,fun x=>by simp [qG.enc]⟩
section
variable {x:qG}
@[go_sem] theorem qG.tr:x.enc.tree=true:=qG.isSh.tree x
@[go_sem] theorem qG.ln:x.enc.cells.length=7:=nr rfl
@[go_sem] theorem qG.all:x.enc.part 0 (some 7)=some x.enc:=nr rfl
@[go_sem] theorem qG.cs:x.enc.cells=[.int .i64 x.Control.Term.Kind,.int .i64 x.Control.Term.Value,.lst 1 (x.Control.Term.Data.map qD) false,.lst 4 (x.Control.Term.Kids.map qA.enc) false,.lst 1 (x.Control.Env.map qD) false,.lst 8 (x.Stack.map qF.enc) false,.lst 6 (x.Heap.map qH.enc) false]:=nr rfl
@[go_sem] theorem qG.p0:x.enc.part 0 none=some (.int .i64 x.Control.Term.Kind):=nr rfl
@[go_sem] theorem qG.p1:x.enc.part 1 none=some (.int .i64 x.Control.Term.Value):=nr rfl
@[go_sem] theorem qG.p2:x.enc.part 2 none=some (.lst 1 (x.Control.Term.Data.map qD) false):=nr rfl
@[go_sem] theorem qG.p3:x.enc.part 3 none=some (.lst 4 (x.Control.Term.Kids.map qA.enc) false):=nr rfl
@[go_sem] theorem qG.p4:x.enc.part 4 none=some (.lst 1 (x.Control.Env.map qD) false):=nr rfl
@[go_sem] theorem qG.p5:x.enc.part 5 none=some (.lst 8 (x.Stack.map qF.enc) false):=nr rfl
@[go_sem] theorem qG.p6:x.enc.part 6 none=some (.lst 6 (x.Heap.map qH.enc) false):=nr rfl
@[go_sem] theorem qG.q0_5:x.enc.part 0 (some 5)=some (qI.enc x.Control):=nr rfl
@[go_sem] theorem qG.q0_4:x.enc.part 0 (some 4)=some (qA.enc x.Control.Term):=by rw [qA.enc_eq];rfl
end
def qG.sz (x:qG):Nat:=qI.sz x.Control+(x.Stack.length+qE qF.sz x.Stack)+(x.Heap.length+qE qH.sz x.Heap)
def qG.bd (x:qG):Prop:=qI.bd x.Control∧x.Stack.length≤140737488355328∧(∀y∈x.Stack,qF.bd y)∧x.Heap.length≤140737488355328∧(∀y∈x.Heap,qH.bd y)
set_option maxRecDepth 10000
def sr (l:List qB) (c:qL):qL:=.seq (.reg true l) c
@[go_sem] theorem qzK {l:List qB} {c:qL}:sr l c=.seq (.reg true l) c:=nr rfl
def oL (i d t:Nat):qB:=.mk i (some d) none (.load none (.t t)) []
@[go_sem] theorem qxB {i d t:Nat}:oL i d t=.mk i (some d) none (.load none (.t t)) []:=nr rfl
def oC (i d:Nat) (n:Int):qB:=.mk i (some d) none (.mov (.c (.int .i64 n))) []
@[go_sem] theorem qw2 {i d:Nat} {n:Int}:oC i d n=.mk i (some d) none (.mov (.c (.int .i64 n))) []:=nr rfl
def oQ (i d:Nat) (b:Bool):qB:=.mk i (some d) none (.mov (.c (.bool b))) []
@[go_sem] theorem qxH {i d:Nat} {b:Bool}:oQ i d b=.mk i (some d) none (.mov (.c (.bool b))) []:=nr rfl
def oE (i d:Nat) (op:BinOp) (a:Nat) (n:Int):qB:=.mk i (some d) none (.bin op (.t a) (.c (.int .i64 n))) []
@[go_sem] theorem qw5 {i d:Nat} {op:BinOp} {a:Nat} {n:Int}:oE i d op a n=.mk i (some d) none (.bin op (.t a) (.c (.int .i64 n))) []:=nr rfl
def oB (i d:Nat) (op:BinOp) (a b:Nat):qB:=.mk i (some d) none (.bin op (.t a) (.t b)) []
@[go_sem] theorem qw1 {i d:Nat} {op:BinOp} {a b:Nat}:oB i d op a b=.mk i (some d) none (.bin op (.t a) (.t b)) []:=nr rfl
def oA (i d w a b:Nat):qB:=.mk i (some d) none (.iaddr w (.t a) (.t b)) []
@[go_sem] theorem qw0 {i d w a b:Nat}:oA i d w a b=.mk i (some d) none (.iaddr w (.t a) (.t b)) []:=nr rfl
def oX (i d t k:Nat):qB:=.mk i (some d) none (.lload t k none) []
@[go_sem] theorem qxN {i d t k:Nat}:oX i d t k=.mk i (some d) none (.lload t k none) []:=nr rfl
def oY (i d t k w:Nat):qB:=.mk i (some d) none (.lload t k (some w)) []
@[go_sem] theorem qxO {i d t k w:Nat}:oY i d t k w=.mk i (some d) none (.lload t k (some w)) []:=nr rfl
def oS (i t k w x:Nat):qB:=.mk i none none (.lstore t k w (.t x)) []
@[go_sem] theorem qxI {i t k w x:Nat}:oS i t k w x=.mk i none none (.lstore t k w (.t x)) []:=nr rfl
def oT (i w a b:Nat):qB:=.mk i none none (.store w (.t a) (.t b)) []
@[go_sem] theorem qxJ {i w a b:Nat}:oT i w a b=.mk i none none (.store w (.t a) (.t b)) []:=nr rfl
def oF (i d k a:Nat):qB:=.mk i (some d) none (.faddr k (.t a)) []
@[go_sem] theorem qw6 {i d k a:Nat}:oF i d k a=.mk i (some d) none (.faddr k (.t a)) []:=nr rfl
def oK (i d a:Nat):qB:=.mk i (some d) none (.nilchk (.t a)) []
@[go_sem] theorem qxA {i d a:Nat}:oK i d a=.mk i (some d) none (.nilchk (.t a)) []:=nr rfl
def oV (i d a k:Nat):qB:=.mk i (some d) none (.ext (.t a) k) []
@[go_sem] theorem qxL {i d a k:Nat}:oV i d a k=.mk i (some d) none (.ext (.t a) k) []:=nr rfl
def oU (i d a:Nat):qB:=.mk i (some d) none (.nop a) []
@[go_sem] theorem qxK {i d a:Nat}:oU i d a=.mk i (some d) none (.nop a) []:=nr rfl
def oJ (i d a:Nat):qB:=.mk i (some d) none (.not (.t a)) []
@[go_sem] theorem qw9 {i d a:Nat}:oJ i d a=.mk i (some d) none (.not (.t a)) []:=nr rfl
def oW (i d a:Nat):qB:=.mk i (some d) none (.len (.t a)) []
@[go_sem] theorem qxM {i d a:Nat}:oW i d a=.mk i (some d) none (.len (.t a)) []:=nr rfl
def oH (i d k:Nat) (b:Bool) (a:Nat):qB:=.mk i (some d) (some (k,b)) (.mov (.t a)) []
@[go_sem] theorem qw8 {i d k:Nat} {b:Bool} {a:Nat}:oH i d k b a=.mk i (some d) (some (k,b)) (.mov (.t a)) []:=nr rfl
def oZ (i d:Nat):qB:=.mk i (some d) none (.lalloc (.agg [.int .i64 0,.int .i64 0,.nils,.nils])) []
@[go_sem] theorem qxP {i d:Nat}:oZ i d=.mk i (some d) none (.lalloc (.agg [.int .i64 0,.int .i64 0,.nils,.nils])) []:=nr rfl
def oD1 (i d g a:Nat):qB:=.mk i (some d) none (.call g [.t a]) []
@[go_sem] theorem qw3 {i d g a:Nat}:oD1 i d g a=.mk i (some d) none (.call g [.t a]) []:=nr rfl
def oD2 (i d g a b:Nat):qB:=.mk i (some d) none (.call g [.t a,.t b]) []
@[go_sem] theorem qw4 {i d g a b:Nat}:oD2 i d g a b=.mk i (some d) none (.call g [.t a,.t b]) []:=nr rfl
def oPf (i d a b:Nat):qB:=.mk i (some d) none (.pick (.t a) (.t b) (.c (.bool false))) []
@[go_sem] theorem qxF {i d a b:Nat}:oPf i d a b=.mk i (some d) none (.pick (.t a) (.t b) (.c (.bool false))) []:=nr rfl
def oPt (i d a b:Nat):qB:=.mk i (some d) none (.pick (.t a) (.c (.bool true)) (.t b)) []
@[go_sem] theorem qxG {i d a b:Nat}:oPt i d a b=.mk i (some d) none (.pick (.t a) (.c (.bool true)) (.t b)) []:=nr rfl
def F338:qN:=szS0
def qIM:List qB:=[oU 0 5 2,oX 1 6 2 2,oM 2 7 1,oD2 3 8 338 6 7,oM 4 1 8]
@[go_sem] theorem qnV:OE qIM.eq_1:=OEM qIM.eq_1
def qIN:List qB:=[oU 0 11 2,oX 1 12 2 3,oM 2 13 1,oD2 3 14 337 12 13,oM 4 1 14]
@[go_sem] theorem qnW:OE qIN.eq_1:=OEM qIN.eq_1
def qIL:qL:=sr qIN (.seq (sr [oM 0 15 1,oE 1 16 .lss 15 0] (.cond (.t 16) (sr [oP 0 4 (.mov (.c (.int .i64 (-1))))] .ret) .skip)) (sr [oM 0 17 1,oM 1 4 17] .ret))
@[go_sem] theorem qnU:CE qIL.eq_1:=CEM qIL.eq_1
def F80:qN:=⟨2,18,[.t 4],sr [oP 0 2 (.lbox 4 (.t 0)),oC 1 4 0] (sr qIM (.seq (sr [oM 0 9 1,oE 1 10 .lss 9 0] (.cond (.t 10) (sr [oP 0 4 (.mov (.c (.int .i64 (-1))))] .ret) .skip)) qIL))⟩
def F337:qN:=szS 4 (some 4) 80
def qIK:List qB:=[oU 0 5 2,oX 1 6 2 0,oM 2 7 1,oD2 3 8 337 6 7,oM 4 1 8]
@[go_sem] theorem qnT:OE qIK.eq_1:=OEM qIK.eq_1
def qIJ:qL:=sr qIK (.seq (sr [oM 0 9 1,oE 1 10 .lss 9 0] (.cond (.t 10) (sr [oP 0 4 (.mov (.c (.int .i64 (-1))))] .ret) .skip)) (sr [oM 0 11 1,oM 1 4 11] .ret))
@[go_sem] theorem qnS:CE qIJ.eq_1:=CEM qIJ.eq_1
def F79:qN:=⟨2,12,[.t 4],sr [oP 0 2 (.lbox 1 (.t 0)),oC 1 4 0] qIJ⟩
def F147:qN:=WQ
def qKJ:List qB:=[oU 0 4 1,oX 1 5 1 0,oU 2 6 3,oS 3 3 0 1 5]
@[go_sem] theorem qqT:OE qKJ.eq_1:=OEM qKJ.eq_1
def qKK:List qB:=[oU 0 7 1,oX 1 8 1 1,oU 2 9 3,oS 3 3 1 1 8]
@[go_sem] theorem qqU:OE qKK.eq_1:=OEM qKK.eq_1
def qKL:List qB:=[oU 0 10 1,oX 1 11 1 2,oD1 2 12 147 11,oU 3 13 3,oS 4 3 2 1 12]
@[go_sem] theorem qqV:OE qKL.eq_1:=OEM qKL.eq_1
def qKM:List qB:=[oU 0 14 1,oX 1 15 1 3,oD1 2 16 342 15,oU 3 17 3,oS 4 3 3 1 16]
@[go_sem] theorem qqW:OE qKM.eq_1:=OEM qKM.eq_1
def qKI:qL:=sr [oZ 0 3] (sr qKJ (sr qKK (sr qKL (sr qKM (sr [oY 0 18 3 0 4,oS 1 2 0 4 18] .ret)))))
@[go_sem] theorem qqS:CE qKI.eq_1:=CEM qKI.eq_1
def F83:qN:=⟨1,19,[.l 2 (some 4)],sr [oP 0 1 (.lbox 4 (.t 0)),oZ 1 2] qKI⟩
def F342:qN:=toS 4 (some 4) (.agg [.int .i64 0,.int .i64 0,.nils,.nils]) 83
def qJU:List qB:=[oU 0 4 1,oX 1 5 1 0,oD1 2 6 342 5,oU 3 7 3,oS 4 3 0 1 6]
@[go_sem] theorem qp4:OE qJU.eq_1:=OEM qJU.eq_1
def F82:qN:=⟨1,9,[.l 2 (some 1)],sr [oP 0 1 (.lbox 1 (.t 0)),oP 1 2 (.lalloc (.agg [.nils]))] (sr [oP 0 3 (.lalloc (.agg [.nils]))] (sr qJU (sr [oY 0 8 3 0 1,oS 1 2 0 1 8] .ret)))⟩
def F86:qN:=eqS0
def F346:qN:=eqS 4 (some 4) 85
def qKQ:List qB:=[oU 0 5 2,oX 1 6 2 0,oU 2 7 3,oX 3 8 3 0,oB 4 9 .neq 6 8]
@[go_sem] theorem qq0:OE qKQ.eq_1:=OEM qKQ.eq_1
def qKR:List qB:=[oU 0 10 2,oX 1 11 2 1,oU 2 12 3,oX 3 13 3 1,oB 4 14 .neq 11 13]
@[go_sem] theorem qq1:OE qKR.eq_1:=OEM qKR.eq_1
def qKS:List qB:=[oU 0 15 2,oX 1 16 2 2,oU 2 17 3,oX 3 18 3 2,oD2 4 19 86 16 18,oJ 5 20 19]
@[go_sem] theorem qq2:OE qKS.eq_1:=OEM qKS.eq_1
def qKT:List qB:=[oU 0 21 2,oX 1 22 2 3,oU 2 23 3,oX 3 24 3 3,oD2 4 25 346 22 24,oJ 5 26 25]
@[go_sem] theorem qq3:OE qKT.eq_1:=OEM qKT.eq_1
def qKP:qL:=.seq (sr qKR (.cond (.t 14) (sr [oQ 0 4 false] .ret) .skip)) (.seq (sr qKS (.cond (.t 20) (sr [oQ 0 4 false] .ret) .skip)) (.seq (sr qKT (.cond (.t 26) (sr [oQ 0 4 false] .ret) .skip)) (sr [oQ 0 4 true] .ret)))
@[go_sem] theorem qqZ:CE qKP.eq_1:=CEM qKP.eq_1
def F85:qN:=⟨2,27,[.t 4],sr [oP 0 2 (.lbox 4 (.t 0)),oP 1 3 (.lbox 4 (.t 1)),oQ 2 4 false] (.seq (sr qKQ (.cond (.t 9) (sr [oQ 0 4 false] .ret) .skip)) qKP)⟩
def qKZ:List qB:=[oU 0 5 2,oX 1 6 2 0,oU 2 7 3,oX 3 8 3 0,oD2 4 9 346 6 8,oJ 5 10 9]
@[go_sem] theorem qq9:OE qKZ.eq_1:=OEM qKZ.eq_1
def F87:qN:=⟨2,11,[.t 4],sr [oP 0 2 (.lbox 1 (.t 0)),oP 1 3 (.lbox 1 (.t 1)),oQ 2 4 false] (.seq (sr qKZ (.cond (.t 10) (sr [oQ 0 4 false] .ret) .skip)) (sr [oQ 0 4 true] .ret))⟩
def qB9:List qB:=[oM 0 7 0,oM 1 8 1,oB 2 9 .geq 7 8,oM 3 10 9,oH 4 11 10 true 0,oH 5 12 10 true 2,oG 6 13 10 true (.bin .leq (.t 11) (.t 12)),oPf 7 14 10 13,oM 8 6 14]
@[go_sem] theorem qhB:OE qB9.eq_1:=OEM qB9.eq_1
def Xd:qN:=⟨3,15,[.t 6],sr [oQ 0 6 false] (sr qB9 .ret)⟩
def U7:List qB:=[oC 0 2 0,oC 1 3 0,oC 2 4 0,oC 3 5 0]
@[go_sem] theorem qbO:OE U7.eq_1:=OEM U7.eq_1
def U3:qL:=sr [oE 0 8 .eql 6 1,oM 1 7 8] (.cond (.t 7) .skip (sr [oE 0 9 .eql 6 2,oM 1 7 9] (.cond (.t 7) .skip (.reg true [oE 0 10 .eql 6 11,oM 1 7 10]))))
@[go_sem] theorem qbL:CE U3.eq_1:=CEM U3.eq_1
def U9:List qB:=[oC 0 2 0,oC 1 3 0,oC 2 4 0,oC 3 5 0]
@[go_sem] theorem qbQ:OE U9.eq_1:=OEM U9.eq_1
def U5:qL:=sr [oE 0 12 .eql 6 3,oM 1 11 12] (.cond (.t 11) .skip (sr [oE 0 13 .eql 6 5,oM 1 11 13] (.cond (.t 11) .skip (.reg true [oE 0 14 .eql 6 7,oM 1 11 14]))))
@[go_sem] theorem qbM:CE U5.eq_1:=CEM U5.eq_1
def KA:List qB:=[oC 0 2 2,oC 1 3 2,oC 2 4 0,oC 3 5 0]
@[go_sem] theorem qbR:OE KA.eq_1:=OEM KA.eq_1
def KB:List qB:=[oC 0 2 1,oC 1 3 1,oC 2 4 0,oC 3 5 0]
@[go_sem] theorem qbS:OE KB.eq_1:=OEM KB.eq_1
def KC:List qB:=[oC 0 2 0,oC 1 3 3,oC 2 4 0,oC 3 5 0]
@[go_sem] theorem qbT:OE KC.eq_1:=OEM KC.eq_1
def KD:List qB:=[oC 0 2 1,oC 1 3 1,oC 2 4 1,oC 3 5 4]
@[go_sem] theorem qbU:OE KD.eq_1:=OEM KD.eq_1
def KE:List qB:=[oC 0 2 1,oC 1 3 1,oC 2 4 2,oC 3 5 2]
@[go_sem] theorem qbV:OE KE.eq_1:=OEM KE.eq_1
def U6:qL:=.cond (.t 18) (sr KC .ret) (sr [oE 0 21 .eql 6 9,oM 1 20 21] (.cond (.t 20) (sr KD .ret) (sr [oE 0 23 .eql 6 10,oM 1 22 23] (.cond (.t 22) (sr KE .ret) .skip))))
@[go_sem] theorem qbN:CE U6.eq_1:=CEM U6.eq_1
def U4:qL:=.seq (sr [oE 0 16 .eql 6 4,oM 1 15 16] (.cond (.t 15) .skip (.reg true [oE 0 17 .eql 6 6,oM 1 15 17]))) (.cond (.t 15) (sr KB .ret) (sr [oE 0 19 .eql 6 8,oM 1 18 19] U6))
@[go_sem] theorem qbK:CE U4.eq_1:=CEM U4.eq_1
def U8:List qB:=[oC 0 2 0,oP 1 3 (.mov (.c (.int .i64 (-1)))),oC 2 4 0,oC 3 5 0]
@[go_sem] theorem qbP:OE U8.eq_1:=OEM U8.eq_1
def WY:qN:=⟨1,24,[.t 2,.t 3,.t 4,.t 5],sr U7 (.seq (sr [oM 0 6 0] (.blk 0 (.seq U3 (.cond (.t 7) (sr U9 .ret) (.seq U5 (.cond (.t 11) (sr KA .ret) U4)))))) (sr U8 .ret))⟩
def KH:List qB:=[oM 0 3 0,oK 1 4 3,oF 2 5 0 4,oL 3 6 5]
@[go_sem] theorem qbY:OE KH.eq_1:=OEM KH.eq_1
def KI:List qB:=[oM 0 9 0,oK 1 10 9,oF 2 11 1 10,oL 3 12 11,oP 4 13 (.call 340 [.t 12,.c (.int .i64 0),.c (.int .i64 255)]),oM 5 2 13]
@[go_sem] theorem qbZ:OE KI.eq_1:=OEM KI.eq_1
def KJ:List qB:=[oM 0 16 0,oK 1 17 16,oF 2 18 1 17,oL 3 19 18,oP 4 20 (.call 340 [.t 19,.c (.int .i64 (-2147483648)),.c (.int .i64 2147483647)]),oM 5 2 20]
@[go_sem] theorem qb0:OE KJ.eq_1:=OEM KJ.eq_1
def KM:List qB:=[oM 0 23 0,oK 1 24 23,oF 2 25 1 24,oL 3 26 25,oP 4 27 (.call 340 [.t 26,.c (.int .i64 1),.c (.int .i64 6)]),oM 5 2 27]
@[go_sem] theorem qb1:OE KM.eq_1:=OEM KM.eq_1
def KN:List qB:=[oM 0 30 0,oK 1 31 30,oF 2 32 1 31,oL 3 33 32,oP 4 34 (.call 340 [.t 33,.c (.int .i64 0),.c (.int .i64 3)]),oM 5 2 34]
@[go_sem] theorem qb2:OE KN.eq_1:=OEM KN.eq_1
def KO:List qB:=[oM 0 37 0,oK 1 38 37,oF 2 39 1 38,oL 3 40 39,oP 4 41 (.call 340 [.t 40,.c (.int .i64 0),.c (.int .i64 23)]),oM 5 2 41]
@[go_sem] theorem qb3:OE KO.eq_1:=OEM KO.eq_1
def KF:qL:=.cond (.t 21) (sr KM .ret) (sr [oE 0 29 .eql 6 8,oM 1 28 29] (.cond (.t 28) (sr KN .ret) (sr [oE 0 36 .eql 6 11,oM 1 35 36] (.cond (.t 35) (sr KO .ret) .skip))))
@[go_sem] theorem qbW:CE KF.eq_1:=CEM KF.eq_1
def KG:qL:=sr [oE 0 8 .eql 6 1,oM 1 7 8] (.cond (.t 7) (sr KI .ret) (sr [oE 0 15 .eql 6 2,oM 1 14 15] (.cond (.t 14) (sr KJ .ret) (sr [oE 0 22 .eql 6 3,oM 1 21 22] KF))))
@[go_sem] theorem qbX:CE KG.eq_1:=CEM KG.eq_1
def KP:List qB:=[oM 0 42 0,oK 1 43 42,oF 2 44 1 43,oL 3 45 44,oE 4 46 .eql 45 0,oM 5 2 46]
@[go_sem] theorem qb4:OE KP.eq_1:=OEM KP.eq_1
def WZ:qN:=⟨1,47,[.t 2],sr [oQ 0 2 false] (.seq (sr KH (.blk 0 KG)) (sr KP .ret))⟩
def qGB:List qB:=[oM 0 16 0,oK 1 17 16,oF 2 18 0 17,oL 3 19 18,oD1 4 20 1023 19,oM 5 15 20,oV 6 21 15 0,oV 7 22 15 1,oV 8 23 15 2,oV 9 24 15 3,oM 10 7 21,oM 11 8 22,oM 12 9 23,oM 13 10 24]
@[go_sem] theorem qlI:OE qGB.eq_1:=OEM qGB.eq_1
def qGC:List qB:=[oM 0 25 1,oE 1 26 .lss 25 1,oM 2 27 26,oH 3 28 27 false 2,oG 4 29 27 false (.bin .lss (.t 28) (.c (.int .i64 1))),oPt 5 30 27 29,oM 6 31 30,oH 7 32 31 false 0,oG 8 33 31 false (.nilchk (.t 32)),oG 9 34 31 false (.faddr 3 (.t 33)),oG 10 35 31 false (.load none (.t 34)),oG 11 36 31 false (.len (.t 35)),oH 12 37 31 false 7,oH 13 38 31 false 8,oG 14 39 31 false (.call 340 [.t 36,.t 37,.t 38]),oG 15 40 31 false (.not (.t 39)),oPt 16 41 31 40,oM 17 42 41,oH 18 43 42 false 0,oG 19 44 42 false (.nilchk (.t 43)),oG 20 45 42 false (.faddr 2 (.t 44)),oG 21 46 42 false (.load none (.t 45)),oG 22 47 42 false (.len (.t 46)),oH 23 48 42 false 9,oH 24 49 42 false 10,oG 25 50 42 false (.call 340 [.t 47,.t 48,.t 49]),oG 26 51 42 false (.not (.t 50)),oPt 27 52 42 51,oM 28 53 52,oH 29 54 53 false 0,oG 30 55 53 false (.call 1024 [.t 54]),oG 31 56 53 false (.not (.t 55)),oPt 32 57 53 56]
@[go_sem] theorem qlJ:OE qGC.eq_1:=OEM qGC.eq_1
def qGD:List qB:=[oM 0 58 11,oM 1 59 0,oK 2 60 59,oF 3 61 2 60,oL 4 62 61,oW 5 63 62,oB 6 64 .lss 58 63]
@[go_sem] theorem qlK:OE qGD.eq_1:=OEM qGD.eq_1
def qGE:List qB:=[oM 0 67 0,oK 1 68 67,oF 2 69 2 68,oL 3 70 69,oM 4 71 11,oA 5 72 1 70 71,oL 6 73 72,oP 7 74 (.call 340 [.t 73,.c (.int .i64 0),.c (.int .i64 23)]),oJ 8 75 74]
@[go_sem] theorem qlL:OE qGE.eq_1:=OEM qGE.eq_1
def qF8:qL:=.loop (.seq (sr qGD (.cond (.t 64) .skip (.exit 0))) (.seq (.blk 1 (sr qGE (.cond (.t 75) (sr [oP 0 6 (.mov (.c (.int .i64 (-1))))] .ret) .skip))) (.reg true [oM 0 65 11,oE 1 66 .add 65 1,oM 2 11 66])))
@[go_sem] theorem qlF:CE qF8.eq_1:=CEM qF8.eq_1
def qGF:List qB:=[oM 0 76 13,oM 1 77 0,oK 2 78 77,oF 3 79 3 78,oL 4 80 79,oW 5 81 80,oB 6 82 .lss 76 81]
@[go_sem] theorem qlM:OE qGF.eq_1:=OEM qGF.eq_1
def qGG:List qB:=[oM 0 85 0,oK 1 86 85,oF 2 87 3 86,oL 3 88 87,oM 4 89 13,oA 5 90 4 88 89,oM 6 91 1,oE 7 92 .sub 91 1,oM 8 93 2,oM 9 94 12,oB 10 95 .sub 93 94,oP 11 96 (.call 643 [.t 90,.t 92,.t 95]),oM 12 14 96]
@[go_sem] theorem qlN:OE qGG.eq_1:=OEM qGG.eq_1
def qGH:List qB:=[oM 0 99 12,oM 1 100 14,oB 2 101 .add 99 100,oM 3 12 101]
@[go_sem] theorem qlO:OE qGH.eq_1:=OEM qGH.eq_1
def qF9:qL:=.seq (.blk 3 (sr qGG (.seq (sr [oM 0 97 14,oE 1 98 .lss 97 0] (.cond (.t 98) (sr [oP 0 6 (.mov (.c (.int .i64 (-1))))] .ret) .skip)) (.reg true qGH)))) (.reg true [oM 0 83 13,oE 1 84 .add 83 1,oM 2 13 84])
@[go_sem] theorem qlG:CE qF9.eq_1:=CEM qF9.eq_1
def qGA:qL:=sr [oC 0 12 1] (.seq (sr [oC 0 13 0] (.blk 2 (.loop (.seq (sr qGF (.cond (.t 82) .skip (.exit 2))) qF9)))) (sr [oM 0 102 12,oM 1 6 102] .ret))
@[go_sem] theorem qlH:CE qGA.eq_1:=CEM qGA.eq_1
def YJ:qN:=⟨3,103,[.t 6],sr [oC 0 6 0] (sr qGB (.seq (sr qGC (.cond (.t 57) (sr [oP 0 6 (.mov (.c (.int .i64 (-1))))] .ret) .skip)) (.seq (sr [oC 0 11 0] (.blk 0 qF8)) qGA)))⟩
def qF7:List qB:=[oM 0 3 0,oP 1 4 (.call 643 [.t 3,.c (.int .i64 80),.c (.int .i64 400)]),oE 2 5 .gtr 4 0,oM 3 2 5]
@[go_sem] theorem qlE:OE qF7.eq_1:=OEM qF7.eq_1
def YI:qN:=⟨1,6,[.t 2],sr [oQ 0 2 false] (sr qF7 .ret)⟩
def Kj:List qB:=[oM 0 5 0,oK 1 6 5,oF 2 7 0 6,oL 3 8 7,oE 4 9 .eql 8 4,oM 5 10 9,oH 6 11 10 false 0,oG 7 12 10 false (.nilchk (.t 11)),oG 8 13 10 false (.faddr 0 (.t 12)),oG 9 14 10 false (.load none (.t 13)),oG 10 15 10 false (.bin .eql (.t 14) (.c (.int .i64 7))),oH 11 16 10 false 15,oH 12 17 16 true 1,oG 13 18 16 true (.bin .eql (.t 17) (.c (.int .i64 1))),oG 14 19 10 false (.pick (.t 16) (.t 18) (.c (.bool false))),oPt 15 20 10 19]
@[go_sem] theorem qcN:OE Kj.eq_1:=OEM Kj.eq_1
def Wn:qN:=⟨2,21,[.t 4],sr [oC 0 4 0] (.seq (sr Kj (.cond (.t 20) (sr [oC 0 4 1] .ret) .skip)) (sr [oC 0 4 0] .ret))⟩
def qKV:List qB:=[oM 0 6 0,oK 1 7 6,oF 2 8 0 7,oL 3 9 8,oE 4 10 .eql 9 1]
@[go_sem] theorem qq5:OE qKV.eq_1:=OEM qKV.eq_1
def qKW:List qB:=[oM 0 11 0,oK 1 12 11,oF 2 13 1 12,oL 3 14 13,oM 4 15 1,oB 5 16 .geq 14 15,oM 6 4 16]
@[go_sem] theorem qq6:OE qKW.eq_1:=OEM qKW.eq_1
def qKX:List qB:=[oM 0 17 5,oM 1 18 0,oK 2 19 18,oF 3 20 3 19,oL 4 21 20,oW 5 22 21,oB 6 23 .lss 17 22]
@[go_sem] theorem qq7:OE qKX.eq_1:=OEM qKX.eq_1
def qKY:List qB:=[oM 0 26 0,oK 1 27 26,oF 2 28 3 27,oL 3 29 28,oM 4 30 5,oA 5 31 4 29 30,oM 6 32 1,oM 7 33 0,oM 8 34 5,⟨9,some 35,none,.call 1129 [.t 33,.t 34],[⟨3,some 29,none,.load none (.t 28),[]⟩]⟩,oB 10 36 .add 32 35,oD2 11 37 878 31 36]
@[go_sem] theorem qq8:OE qKY.eq_1:=OEM qKY.eq_1
def qKU:qL:=.loop (.seq (sr qKX (.cond (.t 23) .skip (.exit 0))) (.seq (.blk 1 (sr qKY (.cond (.t 37) (sr [oQ 0 4 true] .ret) .skip))) (.reg true [oM 0 24 5,oE 1 25 .add 24 1,oM 2 5 25])))
@[go_sem] theorem qq4:CE qKU.eq_1:=CEM qKU.eq_1
def VJ:qN:=⟨2,38,[.t 4],sr [oQ 0 4 false] (.seq (sr qKV (.cond (.t 10) (sr qKW .ret) .skip)) (.seq (sr [oC 0 5 0] (.blk 0 qKU)) (sr [oQ 0 4 false] .ret)))⟩
def qFZ:List qB:=[oM 0 3 0,oD1 1 4 642 3,oM 2 5 4,oH 3 6 5 true 0,oG 4 7 5 true (.call 878 [.t 6,.c (.int .i64 0)]),oG 5 8 5 true (.not (.t 7)),oPf 6 9 5 8,oM 7 2 9]
@[go_sem] theorem qk6:OE qFZ.eq_1:=OEM qFZ.eq_1
def YB:qN:=⟨1,10,[.t 2],sr [oQ 0 2 false] (sr qFZ .ret)⟩
def qHG:List qB:=[oM 0 7 0,oK 1 8 7,oF 2 9 0 8,oL 3 10 9,oE 4 11 .eql 10 11,oM 5 12 11,oH 6 13 12 true 0,oG 7 14 12 true (.nilchk (.t 13)),oG 8 15 12 true (.faddr 1 (.t 14)),oG 9 16 12 true (.load none (.t 15)),oH 10 17 12 true 1,oG 11 18 12 true (.bin .geq (.t 16) (.t 17)),oPf 12 19 12 18]
@[go_sem] theorem qmO:OE qHG.eq_1:=OEM qHG.eq_1
def qHH:List qB:=[oM 0 20 5,oM 1 21 0,oK 2 22 21,oF 3 23 2 22,oL 4 24 23,oW 5 25 24,oB 6 26 .lss 20 25]
@[go_sem] theorem qmP:OE qHH.eq_1:=OEM qHH.eq_1
def qHI:List qB:=[oM 0 29 0,oK 1 30 29,oF 2 31 2 30,oL 3 32 31,oM 4 33 5,oA 5 34 1 32 33,oL 6 35 34,oM 7 36 1,oB 8 37 .geq 35 36]
@[go_sem] theorem qmQ:OE qHI.eq_1:=OEM qHI.eq_1
def qHD:qL:=.loop (.seq (sr qHH (.cond (.t 26) .skip (.exit 0))) (.seq (.blk 1 (sr qHI (.cond (.t 37) (sr [oQ 0 4 false] .ret) .skip))) (.reg true [oM 0 27 5,oE 1 28 .add 27 1,oM 2 5 28])))
@[go_sem] theorem qmL:CE qHD.eq_1:=CEM qHD.eq_1
def qHJ:List qB:=[oM 0 38 6,oM 1 39 0,oK 2 40 39,oF 3 41 3 40,oL 4 42 41,oW 5 43 42,oB 6 44 .lss 38 43]
@[go_sem] theorem qmR:OE qHJ.eq_1:=OEM qHJ.eq_1
def qHK:List qB:=[oM 0 47 0,oK 1 48 47,oF 2 49 3 48,oL 3 50 49,oM 4 51 6,oA 5 52 4 50 51,oM 6 53 1,oD2 7 54 725 52 53,oJ 8 55 54]
@[go_sem] theorem qmS:OE qHK.eq_1:=OEM qHK.eq_1
def qHE:qL:=.loop (.seq (sr qHJ (.cond (.t 44) .skip (.exit 2))) (.seq (.blk 3 (sr qHK (.cond (.t 55) (sr [oQ 0 4 false] .ret) .skip))) (.reg true [oM 0 45 6,oE 1 46 .add 45 1,oM 2 6 46])))
@[go_sem] theorem qmM:CE qHE.eq_1:=CEM qHE.eq_1
def qHF:qL:=.seq (sr qHG (.cond (.t 19) (sr [oQ 0 4 false] .ret) .skip)) (.seq (sr [oC 0 5 0] (.blk 0 qHD)) (.seq (sr [oC 0 6 0] (.blk 2 qHE)) (sr [oQ 0 4 true] .ret)))
@[go_sem] theorem qmN:CE qHF.eq_1:=CEM qHF.eq_1
def YU:qN:=⟨2,56,[.t 4],sr [oQ 0 4 false] qHF⟩
def qF2:List qB:=[oM 0 4 0,oK 1 5 4,oF 2 6 0 5,oL 3 7 6,oW 4 8 7,oP 5 9 (.call 340 [.t 8,.c (.int .i64 1),.c (.int .i64 24)]),oJ 6 10 9]
@[go_sem] theorem qk9:OE qF2.eq_1:=OEM qF2.eq_1
def qF3:List qB:=[oM 0 11 3,oM 1 12 0,oK 2 13 12,oF 3 14 0 13,oL 4 15 14,oW 5 16 15,oB 6 17 .lss 11 16]
@[go_sem] theorem qlA:OE qF3.eq_1:=OEM qF3.eq_1
def qF4:List qB:=[oM 0 20 0,oK 1 21 20,oF 2 22 0 21,oL 3 23 22,oM 4 24 3,oA 5 25 4 23 24,oD1 6 26 519 25,oJ 7 27 26,oM 8 28 27,oH 9 29 28 false 0,oG 10 30 28 false (.nilchk (.t 29)),oG 11 31 28 false (.faddr 0 (.t 30)),oG 12 32 28 false (.load none (.t 31)),oH 13 33 28 false 3,oG 14 34 28 false (.iaddr 4 (.t 32) (.t 33)),oH 15 35 28 false 0,oG 16 36 28 false (.nilchk (.t 35)),oG 17 37 28 false (.faddr 0 (.t 36)),oG 18 38 28 false (.load none (.t 37)),oG 19 39 28 false (.len (.t 38)),oG 20 40 28 false (.call 725 [.t 34,.t 39]),oG 21 41 28 false (.not (.t 40)),oPt 22 42 28 41]
@[go_sem] theorem qlB:OE qF4.eq_1:=OEM qF4.eq_1
def qF1:qL:=.loop (.seq (sr qF3 (.cond (.t 17) .skip (.exit 0))) (.seq (.blk 1 (sr qF4 (.cond (.t 42) (sr [oQ 0 2 false] .ret) .skip))) (.reg true [oM 0 18 3,oE 1 19 .add 18 1,oM 2 3 19])))
@[go_sem] theorem qk8:CE qF1.eq_1:=CEM qF1.eq_1
def YE:qN:=⟨1,43,[.t 2],sr [oQ 0 2 false] (.seq (sr qF2 (.cond (.t 10) (sr [oQ 0 2 false] .ret) .skip)) (.seq (sr [oC 0 3 0] (.blk 0 qF1)) (sr [oQ 0 2 true] .ret)))⟩
def qCZ:List qB:=[oP 0 3 (.mov (.c (.lst 1 [] true))),oM 1 4 0,oP 2 5 (.app 1 (.t 3) (.t 4)),oM 3 2 5]
@[go_sem] theorem qh1:OE qCZ.eq_1:=OEM qCZ.eq_1
def Xm:qN:=⟨1,6,[.t 2],sr [oP 0 2 (.mov (.c (.nils)))] (sr qCZ .ret)⟩
def Xh:qN:=⟨1,5,[.l 2 (some 4)],sr [oZ 0 2] (sr [oM 0 3 0,oP 1 4 (.build (.agg [.int .i64 0,.int .i64 0,.nils,.nils]) [(0,1,.c (.int .i64 2)),(1,1,.t 3)]),oS 2 2 0 4 4] .ret)⟩
def qHV:List qB:=[oM 0 9 0,oK 1 10 9,oF 2 11 0 10,oL 3 12 11,oM 4 13 0,oK 5 14 13,oF 6 15 1 14,oL 7 16 15,oM 8 17 0,oK 9 18 17,oF 10 19 2 18,oL 11 20 19,oZ 14 7,⟨12,some 21,none,.call 402 [.t 20],[⟨3,some 12,none,.load none (.t 11),[]⟩,⟨7,some 16,none,.load none (.t 15),[]⟩]⟩,oP 13 22 (.build (.agg [.int .i64 0,.int .i64 0,.nils,.nils]) [(0,1,.t 12),(1,1,.t 16),(2,1,.t 21)]),oS 15 7 0 4 22]
@[go_sem] theorem qm3:OE qHV.eq_1:=OEM qHV.eq_1
def qHW:List qB:=[oM 0 23 0,oK 1 24 23,oF 2 25 0 24,oL 3 26 25,oE 4 27 .eql 26 1,oM 5 28 27,oH 6 29 28 true 0,oG 7 30 28 true (.nilchk (.t 29)),oG 8 31 28 true (.faddr 1 (.t 30)),oG 9 32 28 true (.load none (.t 31)),oH 10 33 28 true 2,oG 11 34 28 true (.bin .geq (.t 32) (.t 33)),oPf 12 35 28 34]
@[go_sem] theorem qm4:OE qHW.eq_1:=OEM qHW.eq_1
def qHX:List qB:=[oU 0 36 7,oX 1 37 7 1,oM 2 38 1,oB 3 39 .add 37 38,oU 4 40 7,oS 5 7 1 1 39]
@[go_sem] theorem qm5:OE qHX.eq_1:=OEM qHX.eq_1
def qHY:List qB:=[oM 0 41 8,oM 1 42 0,oK 2 43 42,oF 3 44 3 43,oL 4 45 44,oW 5 46 45,oB 6 47 .lss 41 46]
@[go_sem] theorem qm6:OE qHY.eq_1:=OEM qHY.eq_1
def qHZ:List qB:=[oU 0 50 7,oX 1 51 7 3,oM 2 52 0,oK 3 53 52,oF 4 54 3 53,oL 5 55 54,oM 6 56 8,oA 7 57 4 55 56,oM 8 58 1,oM 9 59 2,oM 10 60 0,oM 11 61 8,⟨12,some 62,none,.call 1129 [.t 60,.t 61],[⟨5,some 55,none,.load none (.t 54),[]⟩]⟩,oB 13 63 .add 59 62,oP 14 64 (.call 766 [.t 57,.t 58,.t 63]),oP 15 65 (.bslice 4 (.agg [.int .i64 0,.int .i64 0,.nils,.nils]) 1 [(0,.t 64)]),oP 16 66 (.app 4 (.t 51) (.t 65)),oU 17 67 7,oS 18 7 3 1 66]
@[go_sem] theorem qm7:OE qHZ.eq_1:=OEM qHZ.eq_1
def qHU:qL:=sr [oC 0 8 0] (.blk 0 (.loop (.seq (sr qHY (.cond (.t 47) .skip (.exit 0))) (.seq (.blk 1 (.reg true qHZ)) (.reg true [oM 0 48 8,oE 1 49 .add 48 1,oM 2 8 49])))))
@[go_sem] theorem qm2:CE qHU.eq_1:=CEM qHU.eq_1
def YY:qN:=⟨3,69,[.l 6 (some 4)],sr [oZ 0 6] (sr qHV (.seq (sr qHW (.cond (.t 35) (.reg true qHX) .skip)) (.seq qHU (sr [oY 0 68 7 0 4,oS 1 6 0 4 68] .ret))))⟩
def Ki:List qB:=[oM 0 3 0,oP 1 4 (.conv .u64 (.t 3)),oP 2 5 (.conv .u32 (.t 4)),oP 3 6 (.conv .i32 (.t 5)),oP 4 7 (.conv .i64 (.t 6)),oM 5 2 7]
@[go_sem] theorem qcM:OE Ki.eq_1:=OEM Ki.eq_1
def Wj:qN:=⟨1,8,[.t 2],sr [oC 0 2 0] (sr Ki .ret)⟩
def Wl:qN:=⟨1,4,[.t 2],sr [oC 0 2 0] (.seq (sr [oM 0 3 0] (.cond (.t 3) (sr [oC 0 2 1] .ret) .skip)) (sr [oC 0 2 0] .ret))⟩
def qHO:List qB:=[oM 0 16 7,oM 1 17 8,oB 2 18 .add 16 17,oD1 3 19 1125 18,oM 4 6 19]
@[go_sem] theorem qmW:OE qHO.eq_1:=OEM qHO.eq_1
def qHP:List qB:=[oM 0 22 7,oM 1 23 8,oB 2 24 .sub 22 23,oD1 3 25 1125 24,oM 4 6 25]
@[go_sem] theorem qmX:OE qHP.eq_1:=OEM qHP.eq_1
def qHQ:List qB:=[oM 0 28 7,oM 1 29 8,oB 2 30 .mul 28 29,oD1 3 31 1125 30,oM 4 6 31]
@[go_sem] theorem qmY:OE qHQ.eq_1:=OEM qHQ.eq_1
def qHR:List qB:=[oM 0 36 7,oM 1 37 8,oB 2 38 .quo 36 37,oD1 3 39 1125 38,oM 4 6 39]
@[go_sem] theorem qmZ:OE qHR.eq_1:=OEM qHR.eq_1
def qHS:List qB:=[oM 0 42 7,oM 1 43 8,oB 2 44 .lss 42 43,oD1 3 45 1126 44,oM 4 6 45]
@[go_sem] theorem qm0:OE qHS.eq_1:=OEM qHS.eq_1
def qHT:List qB:=[oM 0 48 7,oM 1 49 8,oB 2 50 .eql 48 49,oD1 3 51 1126 50,oM 4 6 51]
@[go_sem] theorem qm1:OE qHT.eq_1:=OEM qHT.eq_1
def qHL:qL:=.cond (.t 32) (.seq (sr [oM 0 34 8,oE 1 35 .eql 34 0] (.cond (.t 35) (sr [oC 0 6 0] .ret) .skip)) (sr qHR .ret)) (sr [oE 0 41 .eql 13 5,oM 1 40 41] (.cond (.t 40) (sr qHS .ret) (sr [oE 0 47 .eql 13 6,oM 1 46 47] (.cond (.t 46) (sr qHT .ret) .skip))))
@[go_sem] theorem qmT:CE qHL.eq_1:=CEM qHL.eq_1
def qHM:qL:=sr [oE 0 21 .eql 13 2,oM 1 20 21] (.cond (.t 20) (sr qHP .ret) (sr [oE 0 27 .eql 13 3,oM 1 26 27] (.cond (.t 26) (sr qHQ .ret) (sr [oE 0 33 .eql 13 4,oM 1 32 33] qHL))))
@[go_sem] theorem qmU:CE qHM.eq_1:=CEM qHM.eq_1
def qHN:qL:=sr [oM 0 11 2,oD1 1 12 1125 11,oM 2 8 12] (.seq (sr [oM 0 13 0] (.blk 0 (sr [oE 0 15 .eql 13 1,oM 1 14 15] (.cond (.t 14) (sr qHO .ret) qHM)))) (sr [oC 0 6 0] .ret))
@[go_sem] theorem qmV:CE qHN.eq_1:=CEM qHN.eq_1
def YX:qN:=⟨3,52,[.t 6],sr [oC 0 6 0] (sr [oM 0 9 1,oD1 1 10 1125 9,oM 2 7 10] qHN)⟩
def qCQ:List qB:=[oM 0 7 0,oM 1 8 1,oM 2 9 2,oP 3 10 (.build (.agg [.int .i64 0,.int .i64 0,.nils,.nils]) [(0,1,.t 7),(1,1,.t 8),(3,1,.t 9)]),oS 4 6 0 4 10]
@[go_sem] theorem qhS:OE qCQ.eq_1:=OEM qCQ.eq_1
def Xi:qN:=⟨3,11,[.l 6 (some 4)],sr [oZ 0 6] (sr qCQ .ret)⟩
def Wm:qN:=⟨1,5,[.l 2 (some 4)],sr [oZ 0 2] (sr [oM 0 3 0,oP 1 4 (.build (.agg [.int .i64 0,.int .i64 0,.nils,.nils]) [(0,1,.c (.int .i64 11)),(1,1,.t 3)]),oS 2 2 0 4 4] .ret)⟩
def qCY:List qB:=[oP 0 5 (.mov (.c (.lst 1 [] true))),oM 1 6 0,oP 2 7 (.app 1 (.t 5) (.t 6)),oM 3 2 7]
@[go_sem] theorem qh0:OE qCY.eq_1:=OEM qCY.eq_1
def F401:qN:=⟨1,8,[.t 2],sr [oP 0 2 (.mov (.c (.nils)))] (.seq (sr [oM 0 3 0,oP 1 4 (.isnil 1 false (.t 3))] (.cond (.t 4) (sr [oP 0 2 (.mov (.c (.nils)))] .ret) .skip)) (sr qCY .ret))⟩
def qCS:List qB:=[oU 0 6 1,oX 1 7 1 0,oU 2 8 1,oX 3 9 1 1,oU 4 10 1,oX 5 11 1 2,oZ 8 3,oD1 6 12 401 11,oP 7 13 (.build (.agg [.int .i64 0,.int .i64 0,.nils,.nils]) [(0,1,.t 7),(1,1,.t 9),(2,1,.t 12)]),oS 9 3 0 4 13]
@[go_sem] theorem qhU:OE qCS.eq_1:=OEM qCS.eq_1
def qCT:List qB:=[oU 0 14 1,oX 1 15 1 3,oW 2 16 15,oC 3 17 0]
@[go_sem] theorem qhV:OE qCT.eq_1:=OEM qCT.eq_1
def qCU:List qB:=[oA 0 19 4 15 17,oP 1 20 (.load (some 4) (.t 19)),oZ 2 5,oS 3 5 0 4 20]
@[go_sem] theorem qhW:OE qCU.eq_1:=OEM qCU.eq_1
def qCV:List qB:=[oU 0 21 3,oX 1 22 3 3,oY 2 23 5 0 4,oD1 3 24 385 23,oP 4 25 (.bslice 4 (.agg [.int .i64 0,.int .i64 0,.nils,.nils]) 1 [(0,.t 24)]),oP 5 26 (.app 4 (.t 22) (.t 25)),oU 6 27 3,oS 7 3 3 1 26]
@[go_sem] theorem qhX:OE qCV.eq_1:=OEM qCV.eq_1
def qCR:qL:=.loop (sr [oB 0 18 .lss 17 16] (.seq (.cond (.t 18) .skip (.exit 0)) (.seq (.blk 1 (sr qCU (.reg true qCV))) (.reg true [oE 0 28 .add 17 1,oM 1 17 28]))))
@[go_sem] theorem qhT:CE qCR.eq_1:=CEM qCR.eq_1
def Xj:qN:=⟨1,30,[.l 2 (some 4)],sr [oP 0 1 (.lbox 4 (.t 0)),oZ 1 2] (sr qCS (.seq (sr qCT (.blk 0 qCR)) (sr [oY 0 29 3 0 4,oS 1 2 0 4 29] .ret)))⟩
def F774:qN:=Qo 1 none
def F397:qN:=Zo 774
def F958:qN:=Qo 4 (some 4)
def F581:qN:=Zo 958
def qGJ:List qB:=[oU 0 8 1,oX 1 9 1 3,oW 2 10 9,oC 3 11 0]
@[go_sem] theorem qlQ:OE qGJ.eq_1:=OEM qGJ.eq_1
def qGK:List qB:=[oA 0 13 4 9 11,oP 1 14 (.load (some 4) (.t 13)),oZ 2 5,oS 3 5 0 4 14]
@[go_sem] theorem qlR:OE qGK.eq_1:=OEM qGK.eq_1
def qGL:List qB:=[oY 0 16 5 0 4,oD1 1 17 665 16,oM 2 15 17,oV 3 18 15 0,oV 4 19 15 1,oM 5 6 18,oM 6 7 19]
@[go_sem] theorem qlS:OE qGL.eq_1:=OEM qGL.eq_1
def qGM:List qB:=[oM 0 20 2,oM 1 21 6,oE 2 22 .add 21 1,oP 3 23 (.max (.t 20) (.t 22)),oM 4 24 3,oM 5 25 7,oB 6 26 .add 24 25,oM 7 2 23,oM 8 3 26]
@[go_sem] theorem qlT:OE qGM.eq_1:=OEM qGM.eq_1
def qGI:qL:=.loop (sr [oB 0 12 .lss 11 10] (.seq (.cond (.t 12) .skip (.exit 0)) (.seq (.blk 1 (sr qGK (sr qGL (.reg true qGM)))) (.reg true [oE 0 27 .add 11 1,oM 1 11 27]))))
@[go_sem] theorem qlP:CE qGI.eq_1:=CEM qGI.eq_1
def qGN:List qB:=[oM 0 28 2,oM 1 29 3,oM 2 2 28,oM 3 3 29]
@[go_sem] theorem qlU:OE qGN.eq_1:=OEM qGN.eq_1
def YK:qN:=⟨1,30,[.t 2,.t 3],sr [oP 0 1 (.lbox 4 (.t 0)),oC 1 2 0,oC 2 3 0] (sr [oC 0 2 1,oC 1 3 1] (.seq (sr qGJ (.blk 0 qGI)) (sr qGN .ret)))⟩
def qFV:List qB:=[oY 0 6 1 0 4,oD1 1 7 665 6,oM 2 5 7,oV 3 8 5 0,oV 4 9 5 1,oM 5 3 8,oM 6 4 9]
@[go_sem] theorem qk2:OE qFV.eq_1:=OEM qFV.eq_1
def qFW:List qB:=[oM 0 10 3,oE 1 11 .leq 10 80,oM 2 12 11,oH 3 13 12 true 4,oG 4 14 12 true (.bin .leq (.t 13) (.c (.int .i64 400))),oPf 5 15 12 14,oM 6 2 15]
@[go_sem] theorem qk3:OE qFW.eq_1:=OEM qFW.eq_1
def X9:qN:=⟨1,16,[.t 2],sr [oP 0 1 (.lbox 4 (.t 0)),oQ 1 2 false] (sr qFV (sr qFW .ret))⟩
def qII:List qB:=[oM 0 3 0,oE 1 4 .geq 3 0,oM 2 5 4,oH 3 6 5 true 0,oG 4 7 5 true (.bin .lss (.t 6) (.c (.int .i64 24))),oPf 5 8 5 7,oM 6 2 8]
@[go_sem] theorem qnR:OE qII.eq_1:=OEM qII.eq_1
def Yd:qN:=⟨1,9,[.t 2],sr [oQ 0 2 false] (sr qII .ret)⟩
def KV:List qB:=[oM 0 3 0,oE 1 4 .geq 3 1,oM 2 5 4,oH 3 6 5 true 0,oG 4 7 5 true (.bin .leq (.t 6) (.c (.int .i64 6))),oPf 5 8 5 7,oM 6 2 8]
@[go_sem] theorem qb9:OE KV.eq_1:=OEM KV.eq_1
def We:qN:=⟨1,9,[.t 2],sr [oQ 0 2 false] (sr KV .ret)⟩
def KW:List qB:=[oM 0 3 0,oP 1 4 (.bin .geq (.t 3) (.c (.int .i64 (-2147483648)))),oM 2 5 4,oH 3 6 5 true 0,oG 4 7 5 true (.bin .leq (.t 6) (.c (.int .i64 2147483647))),oPf 5 8 5 7,oM 6 2 8]
@[go_sem] theorem qcA:OE KW.eq_1:=OEM KW.eq_1
def Wf:qN:=⟨1,9,[.t 2],sr [oQ 0 2 false] (sr KW .ret)⟩
def k8:List qB:=[oM 0 3 0,oD1 1 4 796 3,oJ 2 5 4,oM 3 2 5]
@[go_sem] theorem qe1:OE k8.eq_1:=OEM k8.eq_1
def XJ:qN:=⟨1,6,[.t 2],sr [oQ 0 2 false] (sr k8 .ret)⟩
def Kp:List qB:=[oU 0 7 1,oX 1 8 1 3,oW 2 9 8,oM 3 3 9]
@[go_sem] theorem qcT:OE Kp.eq_1:=OEM Kp.eq_1
def Kq:List qB:=[oU 0 10 1,oX 1 11 1 2,oW 2 12 11,oE 3 13 .eql 12 0,oQ 4 4 true,oM 5 5 13]
@[go_sem] theorem qcW:OE Kq.eq_1:=OEM Kq.eq_1
def Kt:List qB:=[oU 0 18 1,oX 1 19 1 1,oE 2 20 .geq 19 0,oM 3 21 20,oG 4 22 21 true (.nop 1),oG 5 23 21 true (.lload 1 1 none),oG 6 24 21 true (.bin .leq (.t 23) (.c (.int .i64 255))),oPf 7 25 21 24,oM 8 4 25]
@[go_sem] theorem qcX:OE Kt.eq_1:=OEM Kt.eq_1
def Ku:List qB:=[oU 0 28 1,oX 1 29 1 1,oD1 2 30 1051 29,oM 3 4 30]
@[go_sem] theorem qcY:OE Ku.eq_1:=OEM Ku.eq_1
def Kv:List qB:=[oU 0 33 1,oX 1 34 1 1,oD1 2 35 1050 34,oM 3 4 35,oC 4 6 2]
@[go_sem] theorem qcZ:OE Kv.eq_1:=OEM Kv.eq_1
def Kw:List qB:=[oU 0 39 1,oX 1 40 1 1,oE 2 41 .eql 40 0,oM 3 4 41,oC 4 6 1]
@[go_sem] theorem qc0:OE Kw.eq_1:=OEM Kw.eq_1
def Kx:List qB:=[oU 0 45 1,oX 1 46 1 1,oE 2 47 .eql 46 0,oM 3 4 47,oC 4 6 2]
@[go_sem] theorem qc1:OE Kx.eq_1:=OEM Kx.eq_1
def Ky:List qB:=[oM 0 50 5,oM 1 51 50,oG 2 52 51 true (.nop 1),oG 3 53 51 true (.lload 1 1 none),oG 4 54 51 true (.bin .geq (.t 53) (.c (.int .i64 0))),oPf 5 55 51 54,oM 6 56 55,oG 7 57 56 true (.nop 1),oG 8 58 56 true (.lload 1 1 none),oG 9 59 56 true (.bin .lss (.t 58) (.c (.int .i64 4))),oPf 10 60 56 59,oM 11 61 60,oH 12 62 61 true 3,oG 13 63 61 true (.bin .leq (.t 62) (.c (.int .i64 3))),oPf 14 64 61 63,oM 15 2 64]
@[go_sem] theorem qc2:OE Ky.eq_1:=OEM Ky.eq_1
def Kz:List qB:=[oU 0 67 1,oX 1 68 1 1,oE 2 69 .eql 68 0,oU 3 70 1,oX 4 71 1 2,oW 5 72 71,oE 6 73 .geq 72 1,oM 7 74 73,oG 8 75 74 true (.nop 1),oG 9 76 74 true (.lload 1 2 none),oG 10 77 74 true (.len (.t 76)),oG 11 78 74 true (.bin .leq (.t 77) (.c (.int .i64 4))),oPf 12 79 74 78,oM 13 4 69,oC 14 6 1,oM 15 5 79]
@[go_sem] theorem qc3:OE Kz.eq_1:=OEM Kz.eq_1
def K0:List qB:=[oU 0 82 1,oX 1 83 1 1,oE 2 84 .eql 83 0,oU 3 85 1,oX 4 86 1 2,oW 5 87 86,oE 6 88 .eql 87 2,oM 7 4 84,oC 8 6 1,oM 9 5 88]
@[go_sem] theorem qc4:OE K0.eq_1:=OEM K0.eq_1
def Kr:List qB:=[oU 0 91 1,oX 1 92 1 1,oD1 2 93 796 92,oM 3 4 93]
@[go_sem] theorem qcU:OE Kr.eq_1:=OEM Kr.eq_1
def Kk:qL:=sr [oE 0 81 .eql 15 10,oM 1 80 81] (.cond (.t 80) (.reg true K0) (sr [oE 0 90 .eql 15 11,oM 1 89 90] (.cond (.t 89) (.reg true Kr) (sr [oQ 0 2 false] .ret))))
@[go_sem] theorem qcO:CE Kk.eq_1:=CEM Kk.eq_1
def Kl:qL:=.cond (.t 42) (.reg true Kx) (sr [oE 0 49 .eql 15 8,oM 1 48 49] (.cond (.t 48) (sr Ky .ret) (sr [oE 0 66 .eql 15 9,oM 1 65 66] (.cond (.t 65) (.reg true Kz) Kk))))
@[go_sem] theorem qcP:CE Kl.eq_1:=CEM Kl.eq_1
def Km:qL:=.seq (sr [oE 0 37 .eql 15 4,oM 1 36 37] (.cond (.t 36) .skip (.reg true [oE 0 38 .eql 15 6,oM 1 36 38]))) (.cond (.t 36) (.reg true Kw) (.seq (sr [oE 0 43 .eql 15 5,oM 1 42 43] (.cond (.t 42) .skip (.reg true [oE 0 44 .eql 15 7,oM 1 42 44]))) Kl))
@[go_sem] theorem qcQ:CE Km.eq_1:=CEM Km.eq_1
def Kn:qL:=.cond (.t 16) (.reg true Kt) (sr [oE 0 27 .eql 15 2,oM 1 26 27] (.cond (.t 26) (.reg true Ku) (sr [oE 0 32 .eql 15 3,oM 1 31 32] (.cond (.t 31) (.reg true Kv) Km))))
@[go_sem] theorem qcR:CE Kn.eq_1:=CEM Kn.eq_1
def Ks:List qB:=[oM 0 94 4,oM 1 95 94,oH 2 96 95 true 5,oPf 3 97 95 96,oM 4 98 97,oH 5 99 98 true 3,oH 6 100 98 true 6,oG 7 101 98 true (.bin .eql (.t 99) (.t 100)),oPf 8 102 98 101,oM 9 103 102,oG 10 104 103 true (.nop 1),oG 11 105 103 true (.lload 1 2 none),oG 12 106 103 true (.call 397 [.t 105,.f 1402]),oG 13 107 103 true (.not (.t 106)),oPf 14 108 103 107,oM 15 2 108]
@[go_sem] theorem qcV:OE Ks.eq_1:=OEM Ks.eq_1
def Ko:qL:=sr [oC 0 6 0] (.seq (sr [oU 0 14 1,oX 1 15 1 0] (.blk 0 (sr [oE 0 17 .eql 15 1,oM 1 16 17] Kn))) (sr Ks .ret))
@[go_sem] theorem qcS:CE Ko.eq_1:=CEM Ko.eq_1
def Wo:qN:=⟨1,109,[.t 2],sr [oP 0 1 (.lbox 4 (.t 0)),oQ 1 2 false] (sr Kp (sr Kq Ko))⟩
def qH3:List qB:=[oP 0 1 (.lbox 4 (.t 0)),oC 1 2 0,oC 2 3 0,oQ 3 4 false]
@[go_sem] theorem qnB:OE qH3.eq_1:=OEM qH3.eq_1
def qH4:List qB:=[oU 0 13 1,oX 1 14 1 3,oW 2 15 14,oC 3 16 0]
@[go_sem] theorem qnC:OE qH4.eq_1:=OEM qH4.eq_1
def qH5:List qB:=[oA 0 18 4 14 16,oP 1 19 (.load (some 4) (.t 18)),oZ 2 6,oS 3 6 0 4 19]
@[go_sem] theorem qnD:OE qH5.eq_1:=OEM qH5.eq_1
def qH6:List qB:=[oY 0 21 6 0 4,oD1 1 22 770 21,oM 2 20 22,oV 3 23 20 0,oV 4 24 20 1,oV 5 25 20 2,oM 6 7 23,oM 7 8 24,oM 8 9 25]
@[go_sem] theorem qnE:OE qH6.eq_1:=OEM qH6.eq_1
def qH7:List qB:=[oM 0 28 2,oM 1 29 7,oE 2 30 .add 29 1,oP 3 31 (.max (.t 28) (.t 30)),oM 4 32 3,oM 5 33 8,oB 6 34 .add 32 33,oM 7 2 31,oM 8 3 34]
@[go_sem] theorem qnF:OE qH7.eq_1:=OEM qH7.eq_1
def qH0:qL:=sr qH6 (.seq (sr [oM 0 26 9,oJ 1 27 26] (.cond (.t 27) (sr [oC 0 2 0,oC 1 3 0,oQ 2 4 false] .ret) .skip)) (.reg true qH7))
@[go_sem] theorem qm8:CE qH0.eq_1:=CEM qH0.eq_1
def qH1:qL:=sr qH4 (.blk 0 (.loop (sr [oB 0 17 .lss 16 15] (.seq (.cond (.t 17) .skip (.exit 0)) (.seq (.blk 1 (sr qH5 qH0)) (.reg true [oE 0 35 .add 16 1,oM 1 16 35]))))))
@[go_sem] theorem qm9:CE qH1.eq_1:=CEM qH1.eq_1
def qH8:List qB:=[oM 0 36 2,oM 1 37 3,oM 2 2 36,oM 3 3 37,oQ 4 4 true]
@[go_sem] theorem qnG:OE qH8.eq_1:=OEM qH8.eq_1
def qH2:qL:=.seq (sr [oY 0 10 1 0 4,oD1 1 11 1130 10,oJ 2 12 11] (.cond (.t 12) (sr [oC 0 2 0,oC 1 3 0,oQ 2 4 false] .ret) .skip)) (sr [oC 0 2 1,oC 1 3 1] (.seq qH1 (sr qH8 .ret)))
@[go_sem] theorem qnA:CE qH2.eq_1:=CEM qH2.eq_1
def YZ:qN:=⟨1,38,[.t 2,.t 3,.t 4],sr qH3 qH2⟩
def qCW:List qB:=[oY 0 7 1 0 4,oD1 1 8 770 7,oM 2 6 8,oV 3 9 6 0,oV 4 10 6 1,oV 5 11 6 2,oM 6 3 9,oM 7 4 10,oM 8 5 11]
@[go_sem] theorem qhY:OE qCW.eq_1:=OEM qCW.eq_1
def qCX:List qB:=[oM 0 12 5,oM 1 13 12,oG 2 14 13 true (.lload 1 0 (some 4)),oG 3 15 13 true (.call 495 [.t 14]),oPf 4 16 13 15,oM 5 2 16]
@[go_sem] theorem qhZ:OE qCX.eq_1:=OEM qCX.eq_1
def Xl:qN:=⟨1,17,[.t 2],sr [oP 0 1 (.lbox 4 (.t 0)),oQ 1 2 false] (sr qCW (sr qCX .ret))⟩
def YD:qN:=⟨1,4,[.t 2],sr [oC 0 2 0] (.seq (sr [oM 0 3 0] (.cond (.t 3) (sr [oC 0 2 1] .ret) .skip)) (sr [oC 0 2 0] .ret))⟩
def ku:List qB:=[oU 0 5 2,oX 1 6 2 0,oE 2 7 .eql 6 4,oM 3 8 7,oG 4 9 8 false (.nop 2),oG 5 10 8 false (.lload 2 0 none),oG 6 11 8 false (.bin .eql (.t 10) (.c (.int .i64 7))),oH 7 12 8 false 11,oH 8 13 12 true 1,oG 9 14 12 true (.bin .eql (.t 13) (.c (.int .i64 1))),oG 10 15 8 false (.pick (.t 12) (.t 14) (.c (.bool false))),oPt 11 16 8 15,oD1 12 17 566 16,oM 13 4 17]
@[go_sem] theorem qeX:OE ku.eq_1:=OEM ku.eq_1
def XF:qN:=⟨2,18,[.t 4],sr [oP 0 2 (.lbox 4 (.t 0)),oC 1 4 0] (sr ku .ret)⟩
def qK1:List qB:=[oU 0 7 2,oX 1 8 2 0,oE 2 9 .eql 8 1,oM 3 10 9,oG 4 11 10 true (.nop 2),oG 5 12 10 true (.lload 2 1 none),oH 6 13 10 true 1,oG 7 14 10 true (.bin .geq (.t 12) (.t 13)),oPf 8 15 10 14]
@[go_sem] theorem qrB:OE qK1.eq_1:=OEM qK1.eq_1
def qK2:List qB:=[oU 0 16 2,oX 1 17 2 3,oW 2 18 17,oC 3 19 0]
@[go_sem] theorem qrC:OE qK2.eq_1:=OEM qK2.eq_1
def qK3:List qB:=[oM 0 21 19,oA 1 22 4 17 19,oP 2 23 (.load (some 4) (.t 22)),oZ 3 6,oM 4 5 21,oS 5 6 0 4 23]
@[go_sem] theorem qrD:OE qK3.eq_1:=OEM qK3.eq_1
def qK4:List qB:=[oY 0 24 6 0 4,oM 1 25 1,oY 2 26 2 0 4,oM 3 27 5,oD2 4 28 1193 26 27,oB 5 29 .add 25 28,oD2 6 30 880 24 29,oJ 7 31 30]
@[go_sem] theorem qrE:OE qK4.eq_1:=OEM qK4.eq_1
def qK0:qL:=sr [oB 0 20 .lss 19 18] (.seq (.cond (.t 20) .skip (.exit 0)) (.seq (.blk 1 (sr qK3 (sr qK4 (.cond (.t 31) (sr [oQ 0 4 false] .ret) .skip)))) (.reg true [oE 0 32 .add 19 1,oM 1 19 32])))
@[go_sem] theorem qrA:CE qK0.eq_1:=CEM qK0.eq_1
def VK:qN:=⟨2,33,[.t 4],sr [oP 0 2 (.lbox 4 (.t 0)),oQ 1 4 false] (.seq (sr qK1 (.cond (.t 15) (sr [oQ 0 4 false] .ret) .skip)) (.seq (sr qK2 (.blk 0 (.loop qK0))) (sr [oQ 0 4 true] .ret)))⟩
def qF0:List qB:=[oY 0 3 1 0 4,oD1 1 4 391 3,oM 2 5 4,oG 3 6 5 true (.lload 1 0 (some 4)),oG 4 7 5 true (.call 880 [.t 6,.c (.int .i64 0)]),oPf 5 8 5 7,oM 6 2 8]
@[go_sem] theorem qk7:OE qF0.eq_1:=OEM qF0.eq_1
def YC:qN:=⟨1,9,[.t 2],sr [oP 0 1 (.lbox 4 (.t 0)),oQ 1 2 false] (sr qF0 .ret)⟩
def qLH:List qB:=[oY 0 4 2 0 4,oL 1 5 1,oD2 2 6 615 4 5,oM 3 3 6]
@[go_sem] theorem qrR:OE qLH.eq_1:=OEM qLH.eq_1
def VL:qN:=⟨2,7,[.t 3],sr [oP 0 2 (.lbox 4 (.t 0)),oQ 1 3 false] (sr qLH .ret)⟩
def qF5:List qB:=[oL 0 5 3,oY 1 6 2 0 4,oP 2 7 (.callv (.t 5) [.t 6]),oM 3 8 7,oG 4 9 8 false (.nop 2),oG 5 10 8 false (.lload 2 3 none),oG 6 11 8 false (.mkfn 993 [.t 3]),oG 7 12 8 false (.call 581 [.t 10,.t 11]),oPt 8 13 8 12,oM 9 4 13]
@[go_sem] theorem qlC:OE qF5.eq_1:=OEM qF5.eq_1
def YG:qN:=⟨2,14,[.t 4],sr [oP 0 2 (.lbox 4 (.t 0)),oP 1 3 (.hbox 1 (.t 1)),oQ 2 4 false] (sr qF5 .ret)⟩
def kt:List qB:=[oM 0 4 0,oL 1 5 1,oB 2 6 .geq 4 5,oM 3 3 6]
@[go_sem] theorem qeW:OE kt.eq_1:=OEM kt.eq_1
def XE:qN:=⟨2,7,[.t 3],sr [oQ 0 3 false] (sr kt .ret)⟩
def kq:List qB:=[oU 0 4 2,oX 1 5 2 0,oE 2 6 .eql 5 11,oM 3 7 6,oG 4 8 7 true (.nop 2),oG 5 9 7 true (.lload 2 1 none),oG 6 10 7 true (.load none (.t 1)),oG 7 11 7 true (.bin .geq (.t 9) (.t 10)),oPf 8 12 7 11,oM 9 13 12,oG 10 14 13 false (.nop 2),oG 11 15 13 false (.lload 2 2 none),oG 12 16 13 false (.mkfn 1169 [.t 1]),oG 13 17 13 false (.call 397 [.t 15,.t 16]),oPt 14 18 13 17,oM 15 3 18]
@[go_sem] theorem qeV:OE kq.eq_1:=OEM kq.eq_1
def XD:qN:=⟨2,19,[.t 3],sr [oP 0 2 (.lbox 4 (.t 0)),oQ 1 3 false] (sr kq .ret)⟩
def qKN:List qB:=[oY 0 5 2 0 4,oP 1 6 (.mkfn 1168 [.t 3]),oD2 2 7 615 5 6,oJ 3 8 7,oM 4 4 8]
@[go_sem] theorem qqX:OE qKN.eq_1:=OEM qKN.eq_1
def VH:qN:=⟨2,9,[.t 4],sr [oP 0 2 (.lbox 4 (.t 0)),oP 1 3 (.hbox 1 (.t 1)),oQ 2 4 false] (sr qKN .ret)⟩
def qKO:List qB:=[oY 0 4 2 0 4,oD1 1 5 521 4,oJ 2 6 5,oM 3 7 6,oG 4 8 7 false (.lload 2 0 (some 4)),oG 5 9 7 false (.faddr 0 (.t 1)),oG 6 10 7 false (.load none (.t 9)),oG 7 11 7 false (.len (.t 10)),oG 8 12 7 false (.call 847 [.t 8,.t 11]),oG 9 13 7 false (.not (.t 12)),oPt 10 14 7 13,oM 11 3 14]
@[go_sem] theorem qqY:OE qKO.eq_1:=OEM qKO.eq_1
def VI:qN:=⟨2,15,[.t 3],sr [oP 0 2 (.lbox 4 (.t 0)),oQ 1 3 false] (sr qKO .ret)⟩
def qFX:List qB:=[oF 0 3 0 1,oL 1 4 3,oW 2 5 4,oE 3 6 .lss 5 1,oM 4 7 6,oG 5 8 7 false (.faddr 0 (.t 1)),oG 6 9 7 false (.load none (.t 8)),oG 7 10 7 false (.len (.t 9)),oG 8 11 7 false (.bin .gtr (.t 10) (.c (.int .i64 24))),oPt 9 12 7 11]
@[go_sem] theorem qk4:OE qFX.eq_1:=OEM qFX.eq_1
def qFY:List qB:=[oF 0 13 0 1,oL 1 14 13,oP 2 15 (.mkfn 851 [.t 1]),oD2 3 16 581 14 15,oJ 4 17 16,oM 5 2 17]
@[go_sem] theorem qk5:OE qFY.eq_1:=OEM qFY.eq_1
def YA:qN:=⟨1,18,[.t 2],sr [oP 0 1 (.hbox 1 (.t 0)),oQ 1 2 false] (.seq (sr qFX (.cond (.t 12) (sr [oQ 0 2 false] .ret) .skip)) (sr qFY .ret))⟩
def qKH:List qB:=[oM 0 11 1,oM 1 12 0,oM 2 13 5,oA 3 14 1 12 13,oL 4 15 14,oB 5 16 .eql 11 15]
@[go_sem] theorem qqR:OE qKH.eq_1:=OEM qKH.eq_1
def qKF:qL:=.seq (.blk 1 (sr [oM 0 10 8,oM 1 5 10] (sr qKH (.cond (.t 16) (sr [oM 0 17 5,oM 1 4 17] .ret) .skip)))) (.reg true [oE 0 18 .add 8 1,oM 1 8 18])
@[go_sem] theorem qqP:CE qKF.eq_1:=CEM qKF.eq_1
def qKG:qL:=.seq (sr [oM 0 6 0,oW 1 7 6,oC 2 8 0] (.blk 0 (.loop (sr [oB 0 9 .lss 8 7] (.seq (.cond (.t 9) .skip (.exit 0)) qKF))))) (sr [oP 0 4 (.mov (.c (.int .i64 (-1))))] .ret)
@[go_sem] theorem qqQ:CE qKG.eq_1:=CEM qKG.eq_1
def VG:qN:=⟨2,19,[.t 4],sr [oC 0 4 0] qKG⟩
def YV:qN:=⟨1,5,[.l 2 (some 4)],sr [oZ 0 2] (sr [oM 0 3 0,oP 1 4 (.build (.agg [.int .i64 0,.int .i64 0,.nils,.nils]) [(0,1,.c (.int .i64 2)),(1,1,.t 3)]),oS 2 2 0 4 4] .ret)⟩
def kz:List qB:=[oM 0 3 0,oP 1 4 (.conv .i32 (.t 3)),oP 2 5 (.conv .i64 (.t 4)),oM 3 2 5]
@[go_sem] theorem qe0:OE kz.eq_1:=OEM kz.eq_1
def XI:qN:=⟨1,6,[.t 2],sr [oC 0 2 0] (sr kz .ret)⟩
def Kb:List qB:=[oM 0 9 1,oD1 1 10 1400 9,oM 2 11 2,oD1 3 12 1400 11,oM 4 7 10,oM 5 8 12]
@[go_sem] theorem qcF:OE Kb.eq_1:=OEM Kb.eq_1
def Kc:List qB:=[oM 0 16 7,oM 1 17 8,oB 2 18 .add 16 17,oD1 3 19 1400 18,oM 4 6 19]
@[go_sem] theorem qcG:OE Kc.eq_1:=OEM Kc.eq_1
def Kd:List qB:=[oM 0 22 7,oM 1 23 8,oB 2 24 .sub 22 23,oD1 3 25 1400 24,oM 4 6 25]
@[go_sem] theorem qcH:OE Kd.eq_1:=OEM Kd.eq_1
def Ke:List qB:=[oM 0 28 7,oM 1 29 8,oB 2 30 .mul 28 29,oD1 3 31 1400 30,oM 4 6 31]
@[go_sem] theorem qcI:OE Ke.eq_1:=OEM Ke.eq_1
def Kf:List qB:=[oM 0 36 7,oM 1 37 8,oB 2 38 .quo 36 37,oD1 3 39 1400 38,oM 4 6 39]
@[go_sem] theorem qcJ:OE Kf.eq_1:=OEM Kf.eq_1
def Kg:List qB:=[oM 0 42 7,oM 1 43 8,oB 2 44 .lss 42 43,oD1 3 45 566 44,oM 4 6 45]
@[go_sem] theorem qcK:OE Kg.eq_1:=OEM Kg.eq_1
def Kh:List qB:=[oM 0 48 7,oM 1 49 8,oB 2 50 .eql 48 49,oD1 3 51 566 50,oM 4 6 51]
@[go_sem] theorem qcL:OE Kh.eq_1:=OEM Kh.eq_1
def KY:qL:=.cond (.t 32) (.seq (sr [oM 0 34 8,oE 1 35 .eql 34 0] (.cond (.t 35) (sr [oC 0 6 0] .ret) .skip)) (sr Kf .ret)) (sr [oE 0 41 .eql 13 5,oM 1 40 41] (.cond (.t 40) (sr Kg .ret) (sr [oE 0 47 .eql 13 6,oM 1 46 47] (.cond (.t 46) (sr Kh .ret) .skip))))
@[go_sem] theorem qcC:CE KY.eq_1:=CEM KY.eq_1
def KZ:qL:=sr [oE 0 21 .eql 13 2,oM 1 20 21] (.cond (.t 20) (sr Kd .ret) (sr [oE 0 27 .eql 13 3,oM 1 26 27] (.cond (.t 26) (sr Ke .ret) (sr [oE 0 33 .eql 13 4,oM 1 32 33] KY))))
@[go_sem] theorem qcD:CE KZ.eq_1:=CEM KZ.eq_1
def Ka:qL:=sr Kb (.seq (sr [oM 0 13 0] (.blk 0 (sr [oE 0 15 .eql 13 1,oM 1 14 15] (.cond (.t 14) (sr Kc .ret) KZ)))) (sr [oC 0 6 0] .ret))
@[go_sem] theorem qcE:CE Ka.eq_1:=CEM Ka.eq_1
def Wh:qN:=⟨3,52,[.t 6],sr [oC 0 6 0] Ka⟩
def Wi:qN:=⟨1,5,[.l 2 (some 4)],sr [oZ 0 2] (sr [oM 0 3 0,oP 1 4 (.build (.agg [.int .i64 0,.int .i64 0,.nils,.nils]) [(0,1,.c (.int .i64 11)),(1,1,.t 3)]),oS 2 2 0 4 4] .ret)⟩
def qK9:List qB:=[oM 0 6 5,oM 1 7 0,oW 2 8 7,oB 3 9 .lss 6 8]
@[go_sem] theorem qrJ:OE qK9.eq_1:=OEM qK9.eq_1
def qLA:List qB:=[oM 0 12 0,oM 1 13 5,oM 2 14 1,oA 3 15 1 12 13,oT 4 1 15 14]
@[go_sem] theorem qrK:OE qLA.eq_1:=OEM qLA.eq_1
def qK8:qL:=.seq (.blk 1 (sr qLA (.reg true [oM 0 16 1,oE 1 17 .add 16 1,oM 2 1 17]))) (.reg true [oM 0 10 5,oE 1 11 .add 10 1,oM 2 5 11])
@[go_sem] theorem qrI:CE qK8.eq_1:=CEM qK8.eq_1
def F90:qN:=⟨2,19,[.t 4],sr [oC 0 4 0] (.seq (sr [oC 0 5 0] (.blk 0 (.loop (.seq (sr qK9 (.cond (.t 9) .skip (.exit 0))) qK8)))) (sr [oM 0 18 1,oM 1 4 18] .ret))⟩
def qCD:List qB:=[oM 0 6 5,oM 1 7 0,oW 2 8 7,oB 3 9 .lss 6 8]
@[go_sem] theorem qhF:OE qCD.eq_1:=OEM qCD.eq_1
def qCE:List qB:=[oM 0 12 0,oM 1 13 5,oM 2 14 1,oA 3 15 4 12 13,oF 4 16 0 15,oT 5 1 16 14]
@[go_sem] theorem qhG:OE qCE.eq_1:=OEM qCE.eq_1
def qCF:List qB:=[oM 0 19 0,oM 1 20 5,oM 2 21 1,oA 3 22 4 19 20,oF 4 23 1 22,oT 5 1 23 21]
@[go_sem] theorem qhH:OE qCF.eq_1:=OEM qCF.eq_1
def qCG:List qB:=[oM 0 26 0,oM 1 27 5,oA 2 28 4 26 27,oF 3 29 2 28,oL 4 30 29,oM 5 31 1,oD2 6 32 90 30 31,oM 7 1 32]
@[go_sem] theorem qhI:OE qCG.eq_1:=OEM qCG.eq_1
def qCH:List qB:=[oM 0 33 0,oM 1 34 5,oA 2 35 4 33 34,oF 3 36 3 35,oL 4 37 36,oM 5 38 1,oD2 6 39 347 37 38,oM 7 1 39]
@[go_sem] theorem qhJ:OE qCH.eq_1:=OEM qCH.eq_1
def qCB:qL:=sr [oM 0 17 1,oE 1 18 .add 17 1,oM 2 1 18] (sr qCF (sr [oM 0 24 1,oE 1 25 .add 24 1,oM 2 1 25] (sr qCG (.reg true qCH))))
@[go_sem] theorem qhD:CE qCB.eq_1:=CEM qCB.eq_1
def qCC:qL:=sr [oC 0 5 0] (.blk 0 (.loop (.seq (sr qCD (.cond (.t 9) .skip (.exit 0))) (.seq (.blk 1 (sr qCE qCB)) (.reg true [oM 0 10 5,oE 1 11 .add 10 1,oM 2 5 11])))))
@[go_sem] theorem qhE:CE qCC.eq_1:=CEM qCC.eq_1
def Xf:qN:=⟨2,41,[.t 4],sr [oC 0 4 0] (.seq qCC (sr [oM 0 40 1,oM 1 4 40] .ret))⟩
def qK5:List qB:=[oU 0 5 2,oX 1 6 2 0,oM 2 7 1,oD2 3 8 347 6 7,oM 4 1 8]
@[go_sem] theorem qrF:OE qK5.eq_1:=OEM qK5.eq_1
def F88:qN:=⟨2,10,[.t 4],sr [oP 0 2 (.lbox 1 (.t 0)),oC 1 4 0] (sr qK5 (sr [oM 0 9 1,oM 1 4 9] .ret))⟩
def qK6:List qB:=[oU 0 5 2,oX 1 6 2 2,oM 2 7 1,oD2 3 8 90 6 7,oM 4 1 8]
@[go_sem] theorem qrG:OE qK6.eq_1:=OEM qK6.eq_1
def qK7:List qB:=[oU 0 9 2,oX 1 10 2 3,oM 2 11 1,oD2 3 12 347 10 11,oM 4 1 12]
@[go_sem] theorem qrH:OE qK7.eq_1:=OEM qK7.eq_1
def F89:qN:=⟨2,14,[.t 4],sr [oP 0 2 (.lbox 4 (.t 0)),oC 1 4 0] (sr qK6 (sr qK7 (sr [oM 0 13 1,oM 1 4 13] .ret)))⟩
def qLF:List qB:=[oM 0 6 5,oM 1 7 0,oW 2 8 7,oB 3 9 .lss 6 8]
@[go_sem] theorem qrP:OE qLF.eq_1:=OEM qLF.eq_1
def qLG:List qB:=[oM 0 12 0,oM 1 13 5,oA 2 14 1 12 13,oL 3 15 14,oM 4 16 1,oB 5 17 .neq 15 16]
@[go_sem] theorem qrQ:OE qLG.eq_1:=OEM qLG.eq_1
def qLE:qL:=.seq (.blk 1 (.seq (sr qLG (.cond (.t 17) (sr [oP 0 4 (.mov (.c (.int .i64 (-1))))] .ret) .skip)) (.reg true [oM 0 18 1,oE 1 19 .add 18 1,oM 2 1 19]))) (.reg true [oM 0 10 5,oE 1 11 .add 10 1,oM 2 5 11])
@[go_sem] theorem qrO:CE qLE.eq_1:=CEM qLE.eq_1
def F92:qN:=⟨2,21,[.t 4],sr [oC 0 4 0] (.seq (sr [oC 0 5 0] (.blk 0 (.loop (.seq (sr qLF (.cond (.t 9) .skip (.exit 0))) qLE)))) (sr [oM 0 20 1,oM 1 4 20] .ret))⟩
def qCL:List qB:=[oM 0 6 5,oM 1 7 0,oW 2 8 7,oB 3 9 .lss 6 8]
@[go_sem] theorem qhN:OE qCL.eq_1:=OEM qCL.eq_1
def qCM:List qB:=[oM 0 12 0,oM 1 13 5,oA 2 14 4 12 13,oF 3 15 0 14,oL 4 16 15,oM 5 17 1,oB 6 18 .neq 16 17]
@[go_sem] theorem qhO:OE qCM.eq_1:=OEM qCM.eq_1
def qCN:List qB:=[oM 0 21 0,oM 1 22 5,oA 2 23 4 21 22,oF 3 24 1 23,oL 4 25 24,oM 5 26 1,oB 6 27 .neq 25 26]
@[go_sem] theorem qhP:OE qCN.eq_1:=OEM qCN.eq_1
def qCO:List qB:=[oM 0 30 0,oM 1 31 5,oA 2 32 4 30 31,oF 3 33 2 32,oL 4 34 33,oM 5 35 1,oD2 6 36 92 34 35,oM 7 1 36]
@[go_sem] theorem qhQ:OE qCO.eq_1:=OEM qCO.eq_1
def qCP:List qB:=[oM 0 39 0,oM 1 40 5,oA 2 41 4 39 40,oF 3 42 3 41,oL 4 43 42,oM 5 44 1,oD2 6 45 348 43 44,oM 7 1 45]
@[go_sem] theorem qhR:OE qCP.eq_1:=OEM qCP.eq_1
def qCI:qL:=.seq (sr [oM 0 37 1,oE 1 38 .lss 37 0] (.cond (.t 38) (sr [oP 0 4 (.mov (.c (.int .i64 (-1))))] .ret) .skip)) (sr qCP (sr [oM 0 46 1,oE 1 47 .lss 46 0] (.cond (.t 47) (sr [oP 0 4 (.mov (.c (.int .i64 (-1))))] .ret) .skip)))
@[go_sem] theorem qhK:CE qCI.eq_1:=CEM qCI.eq_1
def qCJ:qL:=sr [oM 0 19 1,oE 1 20 .add 19 1,oM 2 1 20] (.seq (sr qCN (.cond (.t 27) (sr [oP 0 4 (.mov (.c (.int .i64 (-1))))] .ret) .skip)) (sr [oM 0 28 1,oE 1 29 .add 28 1,oM 2 1 29] (sr qCO qCI)))
@[go_sem] theorem qhL:CE qCJ.eq_1:=CEM qCJ.eq_1
def qCK:qL:=.loop (.seq (sr qCL (.cond (.t 9) .skip (.exit 0))) (.seq (.blk 1 (.seq (sr qCM (.cond (.t 18) (sr [oP 0 4 (.mov (.c (.int .i64 (-1))))] .ret) .skip)) qCJ)) (.reg true [oM 0 10 5,oE 1 11 .add 10 1,oM 2 5 11])))
@[go_sem] theorem qhM:CE qCK.eq_1:=CEM qCK.eq_1
def Xg:qN:=⟨2,49,[.t 4],sr [oC 0 4 0] (.seq (sr [oC 0 5 0] (.blk 0 qCK)) (sr [oM 0 48 1,oM 1 4 48] .ret))⟩
def qLC:List qB:=[oU 0 5 2,oX 1 6 2 2,oM 2 7 1,oD2 3 8 92 6 7,oM 4 1 8]
@[go_sem] theorem qrM:OE qLC.eq_1:=OEM qLC.eq_1
def qLD:List qB:=[oU 0 11 2,oX 1 12 2 3,oM 2 13 1,oD2 3 14 348 12 13,oM 4 1 14]
@[go_sem] theorem qrN:OE qLD.eq_1:=OEM qLD.eq_1
def qLB:qL:=sr qLD (.seq (sr [oM 0 15 1,oE 1 16 .lss 15 0] (.cond (.t 16) (sr [oP 0 4 (.mov (.c (.int .i64 (-1))))] .ret) .skip)) (sr [oM 0 17 1,oM 1 4 17] .ret))
@[go_sem] theorem qrL:CE qLB.eq_1:=CEM qLB.eq_1
def F91:qN:=⟨2,18,[.t 4],sr [oP 0 2 (.lbox 4 (.t 0)),oC 1 4 0] (sr qLC (.seq (sr [oM 0 9 1,oE 1 10 .lss 9 0] (.cond (.t 10) (sr [oP 0 4 (.mov (.c (.int .i64 (-1))))] .ret) .skip)) qLB))⟩
def Xk:qN:=⟨1,5,[.l 2 (some 4)],sr [oZ 0 2] (sr [oM 0 3 0,oP 1 4 (.call 766 [.t 3,.c (.int .i64 0),.c (.int .i64 0)]),oS 2 2 0 4 4] .ret)⟩
def qHA:List qB:=[oM 0 4 0,oK 1 5 4,oF 2 6 0 5,oL 3 7 6,oE 4 8 .eql 7 6,oM 5 9 8,oH 6 10 9 false 0,oG 7 11 9 false (.nilchk (.t 10)),oG 8 12 9 false (.faddr 0 (.t 11)),oG 9 13 9 false (.load none (.t 12)),oG 10 14 9 false (.bin .eql (.t 13) (.c (.int .i64 7))),oPt 11 15 9 14]
@[go_sem] theorem qmI:OE qHA.eq_1:=OEM qHA.eq_1
def qHB:List qB:=[oM 0 16 3,oM 1 17 0,oK 2 18 17,oF 3 19 3 18,oL 4 20 19,oW 5 21 20,oB 6 22 .lss 16 21]
@[go_sem] theorem qmJ:OE qHB.eq_1:=OEM qHB.eq_1
def qHC:List qB:=[oM 0 25 0,oK 1 26 25,oF 2 27 3 26,oL 3 28 27,oM 4 29 3,oA 5 30 4 28 29,oD1 6 31 724 30,oJ 7 32 31]
@[go_sem] theorem qmK:OE qHC.eq_1:=OEM qHC.eq_1
def qG9:qL:=.loop (.seq (sr qHB (.cond (.t 22) .skip (.exit 0))) (.seq (.blk 1 (sr qHC (.cond (.t 32) (sr [oQ 0 2 false] .ret) .skip))) (.reg true [oM 0 23 3,oE 1 24 .add 23 1,oM 2 3 24])))
@[go_sem] theorem qmH:CE qG9.eq_1:=CEM qG9.eq_1
def YT:qN:=⟨1,33,[.t 2],sr [oQ 0 2 false] (.seq (sr qHA (.cond (.t 15) (sr [oQ 0 2 false] .ret) .skip)) (.seq (sr [oC 0 3 0] (.blk 0 qG9)) (sr [oQ 0 2 true] .ret)))⟩
def K9:List qB:=[oM 0 4 0,oK 1 5 4,oF 2 6 0 5,oF 3 7 3 6,oL 4 8 7,oW 5 9 8,oM 6 10 0,oK 7 11 10,oF 8 12 4 11,oL 9 13 12,oW 10 14 13,oB 11 15 .neq 9 14]
@[go_sem] theorem qdD:OE K9.eq_1:=OEM K9.eq_1
def kA:List qB:=[oM 0 16 3,oM 1 17 0,oK 2 18 17,oF 3 19 0 18,oF 4 20 3 19,oL 5 21 20,oW 6 22 21,oB 7 23 .lss 16 22]
@[go_sem] theorem qdE:OE kA.eq_1:=OEM kA.eq_1
def kB:List qB:=[oM 0 26 0,oK 1 27 26,oF 2 28 0 27,oF 3 29 3 28,oL 4 30 29,oM 5 31 3,oA 6 32 4 30 31,oF 7 33 0 32,oL 8 34 33,oE 9 35 .neq 34 1,oM 10 36 35,oH 11 37 36 false 0,oG 12 38 36 false (.nilchk (.t 37)),oG 13 39 36 false (.faddr 0 (.t 38)),oG 14 40 36 false (.faddr 3 (.t 39)),oG 15 41 36 false (.load none (.t 40)),oH 16 42 36 false 3,oG 17 43 36 false (.iaddr 4 (.t 41) (.t 42)),oG 18 44 36 false (.faddr 1 (.t 43)),oG 19 45 36 false (.load none (.t 44)),oH 20 46 36 false 3,oG 21 47 36 false (.bin .neq (.t 45) (.t 46)),oPt 22 48 36 47]
@[go_sem] theorem qdF:OE kB.eq_1:=OEM kB.eq_1
def K8:qL:=.loop (.seq (sr kA (.cond (.t 23) .skip (.exit 0))) (.seq (.blk 1 (sr kB (.cond (.t 48) (sr [oQ 0 2 false] .ret) .skip))) (.reg true [oM 0 24 3,oE 1 25 .add 24 1,oM 2 3 25])))
@[go_sem] theorem qdC:CE K8.eq_1:=CEM K8.eq_1
def ZQ:qN:=⟨1,49,[.t 2],sr [oQ 0 2 false] (.seq (sr K9 (.cond (.t 15) (sr [oQ 0 2 false] .ret) .skip)) (.seq (sr [oC 0 3 0] (.blk 0 K8)) (sr [oQ 0 2 true] .ret)))⟩
def qJD:List qB:=[oM 0 3 0,oK 1 4 3,oF 2 5 0 4,oF 3 6 0 5,oL 4 7 6]
@[go_sem] theorem qoM:OE qJD.eq_1:=OEM qJD.eq_1
def qJB:qL:=.cond (.t 8) (sr [oQ 0 2 true] .ret) (sr [oE 0 12 .eql 7 8,oM 1 11 12] (.cond (.t 11) (sr [oM 0 13 0,oD1 1 14 1149 13,oM 2 2 14] .ret) .skip))
@[go_sem] theorem qoK:CE qJB.eq_1:=CEM qJB.eq_1
def qJC:qL:=.seq (sr qJD (.blk 0 (.seq (sr [oE 0 9 .eql 7 4,oM 1 8 9] (.cond (.t 8) .skip (.reg true [oE 0 10 .eql 7 2,oM 1 8 10]))) qJB))) (sr [oQ 0 2 false] .ret)
@[go_sem] theorem qoL:CE qJC.eq_1:=CEM qJC.eq_1
def Zb:qN:=⟨1,15,[.t 2],sr [oQ 0 2 false] qJC⟩
def qDD:List qB:=[oM 0 3 0,oK 1 4 3,oF 2 5 5 4,oL 3 6 5,oW 4 7 6,oE 5 8 .eql 7 0,oM 6 9 8,oH 7 10 9 true 0,oG 8 11 9 true (.nilchk (.t 10)),oG 9 12 9 true (.faddr 0 (.t 11)),oG 10 13 9 true (.call 822 [.t 12]),oPf 11 14 9 13,oM 12 2 14]
@[go_sem] theorem qiF:OE qDD.eq_1:=OEM qDD.eq_1
def Xp:qN:=⟨1,15,[.t 2],sr [oQ 0 2 false] (sr qDD .ret)⟩
def kC:List qB:=[oM 0 5 1,oK 1 6 5,oF 2 7 0 6,oL 3 8 7,oE 4 9 .eql 8 1]
@[go_sem] theorem qdG:OE kC.eq_1:=OEM kC.eq_1
def kD:List qB:=[oM 0 10 0,oK 1 11 10,oF 2 12 0 11,oF 3 13 4 12,oL 4 14 13,oM 5 15 1,oK 6 16 15,oF 7 17 1 16,oL 8 18 17,oA 9 19 1 14 18,oL 10 20 19,oM 11 4 20]
@[go_sem] theorem qdH:OE kD.eq_1:=OEM kD.eq_1
def kE:List qB:=[oM 0 21 0,oM 1 22 0,oK 2 23 22,oF 3 24 6 23,oL 4 25 24,oM 5 26 1,oK 6 27 26,oP 7 28 (.load (some 4) (.t 27)),oM 8 29 0,oK 9 30 29,oF 10 31 0 30,oF 11 32 4 31,oL 12 33 32,oP 13 34 (.build (.agg [.int .i64 0,.int .i64 0,.nils,.nils,.nils]) [(0,4,.t 28),(4,1,.t 33)]),oP 14 35 (.build (.agg [.bool false,.int .i64 0,.int .i64 0,.nils,.nils,.nils]) [(1,5,.t 34)]),oP 15 36 (.bslice 6 (.agg [.bool false,.int .i64 0,.int .i64 0,.nils,.nils,.nils]) 1 [(0,.t 35)]),oP 16 37 (.app 6 (.t 25) (.t 36)),oK 17 38 21,oF 18 39 6 38,oT 19 1 39 37]
@[go_sem] theorem qdI:OE kE.eq_1:=OEM kE.eq_1
def kF:List qB:=[oM 0 40 0,oK 1 41 40,oF 2 42 6 41,oL 3 43 42,oW 4 44 43,oE 5 45 .sub 44 1,oM 6 4 45]
@[go_sem] theorem qdJ:OE kF.eq_1:=OEM kF.eq_1
def Ws:qN:=⟨2,46,[.t 4],sr [oC 0 4 0] (.seq (sr kC (.cond (.t 9) (sr kD .ret) .skip)) (sr kE (sr kF .ret)))⟩
def kG:List qB:=[oM 0 6 0,oM 1 7 0,oK 2 8 7,oF 3 9 5 8,oL 4 10 9,oY 5 11 4 0 8,oP 6 12 (.bslice 8 (.agg [.int .i64 0,.int .i64 0,.nils,.int .i64 0,.int .i64 0,.nils,.nils,.nils]) 1 [(0,.t 11)]),oP 7 13 (.app 8 (.t 10) (.t 12)),oK 8 14 6,oF 9 15 5 14,oT 10 1 15 13]
@[go_sem] theorem qdK:OE kG.eq_1:=OEM kG.eq_1
def kH:List qB:=[oM 0 16 0,oM 1 17 2,oK 2 18 17,oP 3 19 (.load (some 4) (.t 18)),oM 4 20 0,oK 5 21 20,oF 6 22 0 21,oF 7 23 4 22,oL 8 24 23,oP 9 25 (.build (.agg [.int .i64 0,.int .i64 0,.nils,.nils,.nils]) [(0,4,.t 19),(4,1,.t 24)]),oK 10 26 16,oF 11 27 0 26,oT 12 5 27 25]
@[go_sem] theorem qdL:OE kH.eq_1:=OEM kH.eq_1
def Wu:qN:=⟨3,28,[],sr [oP 0 4 (.lbox 8 (.t 1))] (sr kG (.reg true kH))⟩
def YF:qN:=⟨1,5,[.l 2 (some 4)],sr [oZ 0 2] (sr [oM 0 3 0,oP 1 4 (.build (.agg [.int .i64 0,.int .i64 0,.nils,.nils]) [(0,1,.c (.int .i64 1)),(1,1,.t 3)]),oS 2 2 0 4 4] .ret)⟩
def kK:List qB:=[oM 0 6 0,oK 1 7 6,oF 2 8 0 7,oF 3 9 0 8,oP 4 10 (.load (some 4) (.t 9)),oZ 5 2,oS 6 2 0 4 10]
@[go_sem] theorem qdO:OE kK.eq_1:=OEM kK.eq_1
def kL:List qB:=[oM 0 13 5,oU 1 14 2,oX 2 15 2 3,oW 3 16 15,oB 4 17 .lss 13 16]
@[go_sem] theorem qdP:OE kL.eq_1:=OEM kL.eq_1
def kM:List qB:=[oM 0 20 4,oM 1 21 0,oU 2 22 2,oX 3 23 2 3,oM 4 24 5,oA 5 25 4 23 24,oD2 6 26 1150 21 25,oP 7 27 (.bslice 1 (.int .i64 0) 1 [(0,.t 26)]),oP 8 28 (.app 1 (.t 20) (.t 27)),oM 9 4 28]
@[go_sem] theorem qdQ:OE kM.eq_1:=OEM kM.eq_1
def kN:List qB:=[oM 0 29 3,oM 1 30 5,oD1 2 31 612 30,oP 3 32 (.bslice 4 (.agg [.int .i64 0,.int .i64 0,.nils,.nils]) 1 [(0,.t 31)]),oP 4 33 (.app 4 (.t 29) (.t 32)),oM 5 3 33]
@[go_sem] theorem qdR:OE kN.eq_1:=OEM kN.eq_1
def kI:qL:=.loop (.seq (sr kL (.cond (.t 17) .skip (.exit 0))) (.seq (.blk 1 (sr kM (.reg true kN))) (.reg true [oM 0 18 5,oE 1 19 .add 18 1,oM 2 5 19])))
@[go_sem] theorem qdM:CE kI.eq_1:=CEM kI.eq_1
def kO:List qB:=[oM 0 34 0,oU 1 35 2,oX 2 36 2 1,oM 3 37 3,oP 4 38 (.call 382 [.c (.int .i64 8),.t 36,.t 37]),oM 5 39 4,oP 6 40 (.build (.agg [.int .i64 0,.int .i64 0,.nils,.nils,.nils]) [(0,4,.t 38),(4,1,.t 39)]),oK 7 41 34,oF 8 42 0 41,oT 9 5 42 40]
@[go_sem] theorem qdS:OE kO.eq_1:=OEM kO.eq_1
def kJ:qL:=sr [oP 0 11 (.mov (.c (.lst 4 [] true))),oM 1 3 11] (sr [oP 0 12 (.mov (.c (.lst 1 [] true))),oM 1 4 12] (.seq (sr [oC 0 5 0] (.blk 0 kI)) (.reg true kO)))
@[go_sem] theorem qdN:CE kJ.eq_1:=CEM kJ.eq_1
def Wv:qN:=⟨1,43,[],sr kK kJ⟩
def kQ:List qB:=[oM 0 2 0,oM 1 3 0,oK 2 4 3,oF 3 5 5 4,oL 4 6 5,oM 5 7 0,oK 6 8 7,oF 7 9 5 8,oL 8 10 9,oW 9 11 10,oE 10 12 .sub 11 1,oP 11 13 (.slc 8 (.t 6) none (some (.t 12)) none),oK 12 14 2,oF 13 15 5 14,oT 14 1 15 13]
@[go_sem] theorem qdT:OE kQ.eq_1:=OEM kQ.eq_1
def kP:qN:=⟨1,16,[],.reg true kQ⟩
def k9:List qB:=[oM 0 4 0,oM 1 5 1,oD1 2 6 1127 5,oP 3 7 (.build (.agg [.int .i64 0,.int .i64 0,.nils,.nils,.nils]) [(0,4,.t 6)]),oK 4 8 4,oF 5 9 0 8,oT 6 5 9 7]
@[go_sem] theorem qe2:OE k9.eq_1:=OEM k9.eq_1
def XK:qN:=⟨2,10,[],.reg true k9⟩
def Wz:List qB:=[oM 0 6 0,oK 1 7 6,oF 2 8 0 7,oP 3 9 (.load (some 5) (.t 8)),oP 4 3 (.lalloc (.agg [.int .i64 0,.int .i64 0,.nils,.nils,.nils])),oS 5 3 0 5 9]
@[go_sem] theorem qdY:OE Wz.eq_1:=OEM Wz.eq_1
def W0:List qB:=[oM 0 10 0,oK 1 11 10,oF 2 12 5 11,oL 3 13 12,oM 4 14 0,oK 5 15 14,oF 6 16 5 15,oL 7 17 16,oW 8 18 17,oE 9 19 .sub 18 1,oA 10 20 8 13 19,oP 11 21 (.load (some 8) (.t 20)),oP 12 4 (.lalloc (.agg [.int .i64 0,.int .i64 0,.nils,.int .i64 0,.int .i64 0,.nils,.nils,.nils])),oS 13 4 0 8 21]
@[go_sem] theorem qd6:OE W0.eq_1:=OEM W0.eq_1
def QE:List qB:=[oU 0 23 3,oU 1 24 3,oX 2 25 3 0,oE 3 26 .eql 25 4,oM 4 27 26,oG 5 28 27 true (.nop 4),oG 6 29 27 true (.lload 4 0 none),oG 7 30 27 true (.bin .eql (.t 29) (.c (.int .i64 2))),oPf 8 31 27 30,oM 9 22 31]
@[go_sem] theorem qd7:OE QE.eq_1:=OEM QE.eq_1
def W7:List qB:=[oM 0 34 0,oU 1 35 3,oU 2 36 3,oX 3 37 3 3,oP 4 38 (.iaddr 4 (.t 37) (.c (.int .i64 0))),oP 5 39 (.load (some 4) (.t 38)),oU 6 40 4,oX 7 41 4 1,oU 9 43 3,oX 10 44 3 4,oP 8 42 (.bslice 1 (.int .i64 0) 1 [(0,.t 41)]),⟨11,some 45,none,.app 1 (.t 42) (.t 44),[⟨5,some 39,none,.load (some 4) (.t 38),[]⟩]⟩,oP 12 46 (.build (.agg [.int .i64 0,.int .i64 0,.nils,.nils,.nils]) [(0,4,.t 39),(4,1,.t 45)]),oK 13 47 34,oF 14 48 0 47,oT 15 5 48 46]
@[go_sem] theorem qd8:OE W7.eq_1:=OEM W7.eq_1
def QG:List qB:=[oU 0 50 3,oU 1 51 3,oX 2 52 3 0,oE 3 53 .eql 52 2,oM 4 54 53,oG 5 55 54 true (.nop 4),oG 6 56 54 true (.lload 4 0 none),oG 7 57 54 true (.bin .eql (.t 56) (.c (.int .i64 3))),oPf 8 58 54 57,oM 9 49 58]
@[go_sem] theorem qd9:OE QG.eq_1:=OEM QG.eq_1
def ZU:List qB:=[oM 0 59 0,oK 1 60 59,oF 2 61 5 60,oL 3 62 61,oM 4 63 0,oK 5 64 63,oF 6 65 5 64,oL 7 66 65,oW 8 67 66,oE 9 68 .sub 67 1,oU 10 69 4,oX 11 70 4 1,oU 12 71 3,oU 13 72 3,oX 14 73 3 1,oP 15 74 (.bslice 1 (.int .i64 0) 1 [(0,.t 73)]),oP 16 75 (.build (.agg [.int .i64 0,.int .i64 0,.nils,.int .i64 0,.int .i64 0,.nils,.nils,.nils]) [(0,1,.c (.int .i64 4)),(1,1,.t 70),(2,1,.t 74)]),oA 17 76 8 62 68,oT 18 8 76 75]
@[go_sem] theorem qeA:OE ZU.eq_1:=OEM ZU.eq_1
def ZV:List qB:=[oM 0 77 0,oU 1 78 4,oY 2 79 4 3 5,oK 3 80 77,oF 4 81 0 80,oT 5 5 81 79]
@[go_sem] theorem qeB:OE ZV.eq_1:=OEM ZV.eq_1
def QH:List qB:=[oU 0 83 3,oU 1 84 3,oX 2 85 3 0,oE 3 86 .eql 85 2,oM 4 87 86,oG 5 88 87 true (.nop 4),oG 6 89 87 true (.lload 4 0 none),oG 7 90 87 true (.bin .eql (.t 89) (.c (.int .i64 4))),oPf 8 91 87 90,oM 9 82 91]
@[go_sem] theorem qeC:OE QH.eq_1:=OEM QH.eq_1
def ZW:List qB:=[oM 0 94 0,oU 1 95 4,oX 2 96 4 1,oU 3 97 4,oX 4 98 4 2,oP 5 99 (.iaddr 1 (.t 98) (.c (.int .i64 0))),oL 6 100 99,oU 7 101 3,oU 8 102 3,oX 9 103 3 1,oP 10 104 (.call 762 [.t 96,.t 100,.t 103]),oD1 11 105 381 104,oP 12 106 (.build (.agg [.int .i64 0,.int .i64 0,.nils,.nils,.nils]) [(0,4,.t 105)]),oK 13 107 94,oF 14 108 0 107,oT 15 5 108 106]
@[go_sem] theorem qeD:OE ZW.eq_1:=OEM ZW.eq_1
def QI:List qB:=[oU 0 110 3,oU 1 111 3,oX 2 112 3 0,oE 3 113 .eql 112 2,oM 4 114 113,oG 5 115 114 true (.nop 4),oG 6 116 114 true (.lload 4 0 none),oG 7 117 114 true (.bin .eql (.t 116) (.c (.int .i64 6))),oPf 8 118 114 117,oM 9 109 118]
@[go_sem] theorem qeE:OE QI.eq_1:=OEM QI.eq_1
def ZR:List qB:=[oU 0 121 3,oU 1 122 3,oX 2 123 3 1,oE 3 124 .neq 123 0]
@[go_sem] theorem qdZ:OE ZR.eq_1:=OEM ZR.eq_1
def ZS:List qB:=[oM 0 125 0,oU 1 126 4,oX 2 127 4 2,oP 3 128 (.iaddr 1 (.t 127) (.c (.int .i64 0))),oL 4 129 128,oD2 5 130 1405 125 129]
@[go_sem] theorem qd0:OE ZS.eq_1:=OEM ZS.eq_1
def ZT:List qB:=[oM 0 131 0,oU 1 132 4,oX 2 133 4 2,oP 3 134 (.iaddr 1 (.t 133) (.c (.int .i64 1))),oL 4 135 134,oD2 5 136 1405 131 135]
@[go_sem] theorem qd1:OE ZT.eq_1:=OEM ZT.eq_1
def QD:List qB:=[oU 0 138 3,oU 1 139 3,oX 2 140 3 0,oE 3 141 .eql 140 8,oM 4 142 141,oG 5 143 142 true (.nop 4),oG 6 144 142 true (.lload 4 0 none),oG 7 145 142 true (.bin .eql (.t 144) (.c (.int .i64 5))),oPf 8 146 142 145,oM 9 147 146,oG 10 148 147 true (.nop 3),oG 11 149 147 true (.nop 3),oG 12 150 147 true (.lload 3 1 none),oG 13 151 147 true (.nop 4),oG 14 152 147 true (.lload 4 2 none),oG 15 153 147 true (.len (.t 152)),oG 16 154 147 true (.bin .lss (.t 150) (.t 153)),oPf 17 155 147 154,oM 18 137 155]
@[go_sem] theorem qd2:OE QD.eq_1:=OEM QD.eq_1
def W4:List qB:=[oU 0 158 3,oX 1 159 3 4,oW 2 160 159,oE 3 161 .sub 160 1,oM 4 5 161]
@[go_sem] theorem qd3:OE W4.eq_1:=OEM W4.eq_1
def W5:List qB:=[oM 0 166 0,oM 1 167 0,oK 2 168 167,oF 3 169 5 168,oL 4 170 169,oU 5 171 3,oX 6 172 3 4,oM 7 173 5,oA 8 174 1 172 173,oL 9 175 174,oP 10 176 (.build (.agg [.int .i64 0,.int .i64 0,.nils,.int .i64 0,.int .i64 0,.nils,.nils,.nils]) [(0,1,.c (.int .i64 2)),(1,1,.t 175)]),oP 11 177 (.bslice 8 (.agg [.int .i64 0,.int .i64 0,.nils,.int .i64 0,.int .i64 0,.nils,.nils,.nils]) 1 [(0,.t 176)]),oP 12 178 (.app 8 (.t 170) (.t 177)),oK 13 179 166,oF 14 180 5 179,oT 15 1 180 178]
@[go_sem] theorem qd4:OE W5.eq_1:=OEM W5.eq_1
def Wx:qL:=.loop (.seq (sr [oM 0 162 5,oE 1 163 .geq 162 0] (.cond (.t 163) .skip (.exit 1))) (.seq (.blk 2 (.reg true W5)) (.reg true [oM 0 164 5,oE 1 165 .sub 164 1,oM 2 5 165])))
@[go_sem] theorem qdU:CE Wx.eq_1:=CEM Wx.eq_1
def W6:List qB:=[oM 0 181 0,oU 1 182 4,oX 2 183 4 2,oU 3 184 3,oU 4 185 3,oX 5 186 3 1,oA 6 187 1 183 186,oL 7 188 187,oD2 8 189 1405 181 188]
@[go_sem] theorem qd5:OE W6.eq_1:=OEM W6.eq_1
def QB:qL:=.cond (.t 109) (sr [oM 0 119 0,oD1 1 120 1153 119] (.seq (sr ZR (.cond (.t 124) (.reg true ZS) (.reg true ZT))) (sr [oC 0 2 6] .ret))) (sr QD (.cond (.t 137) (sr [oM 0 156 0,oD1 1 157 1153 156] (.seq (sr W4 (.blk 1 Wx)) (sr W6 (sr [oC 0 2 6] .ret)))) .skip))
@[go_sem] theorem qdV:CE QB.eq_1:=CEM QB.eq_1
def QC:qL:=.cond (.t 49) (sr ZU (sr ZV (sr [oC 0 2 1] .ret))) (sr QH (.cond (.t 82) (sr [oM 0 92 0,oD1 1 93 1153 92] (sr ZW (sr [oC 0 2 5] .ret))) (sr QI QB)))
@[go_sem] theorem qdW:CE QC.eq_1:=CEM QC.eq_1
def Wy:qL:=.seq (.blk 0 (sr QE (.cond (.t 22) (sr [oM 0 32 0,oD1 1 33 1153 32] (sr W7 (sr [oC 0 2 4] .ret))) (sr QG QC)))) (sr [oC 0 2 0] .ret)
@[go_sem] theorem qdX:CE Wy.eq_1:=CEM Wy.eq_1
def Ww:qN:=⟨1,190,[.t 2],sr [oC 0 2 0] (sr Wz (sr W0 Wy))⟩
def qJJ:List qB:=[oM 0 9 1,oK 1 10 9,oF 2 11 0 10,oF 3 12 0 11,oP 4 13 (.load (some 4) (.t 12)),oZ 5 5,oS 6 5 0 4 13]
@[go_sem] theorem qoX:OE qJJ.eq_1:=OEM qJJ.eq_1
def Ym:List qB:=[oM 0 18 1,oK 1 19 18,oF 2 20 0 19,oF 3 21 4 20,oL 4 22 21,oU 5 23 5,oX 6 24 5 1,oA 7 25 1 22 24,oL 8 26 25,oM 9 6 26]
@[go_sem] theorem qo2:OE Ym.eq_1:=OEM Ym.eq_1
def Yp:List qB:=[oM 0 27 1,oK 1 28 27,oF 2 29 6 28,oL 3 30 29,oM 4 31 6,oA 5 32 6 30 31,oF 6 33 0 32,oL 7 34 33,oJ 8 35 34]
@[go_sem] theorem qo3:OE Yp.eq_1:=OEM Yp.eq_1
def Yq:List qB:=[oM 0 36 1,oM 1 37 1,oK 2 38 37,oF 3 39 5 38,oL 4 40 39,oM 5 41 6,oP 6 42 (.build (.agg [.int .i64 0,.int .i64 0,.nils,.int .i64 0,.int .i64 0,.nils,.nils,.nils]) [(0,1,.c (.int .i64 1)),(1,1,.t 41)]),oP 7 43 (.bslice 8 (.agg [.int .i64 0,.int .i64 0,.nils,.int .i64 0,.int .i64 0,.nils,.nils,.nils]) 1 [(0,.t 42)]),oP 8 44 (.app 8 (.t 40) (.t 43)),oK 9 45 36,oF 10 46 5 45,oT 11 1 46 44]
@[go_sem] theorem qo4:OE Yq.eq_1:=OEM Yq.eq_1
def Yr:List qB:=[oM 0 47 1,oM 1 48 1,oK 2 49 48,oF 3 50 6 49,oL 4 51 50,oM 5 52 6,oA 6 53 6 51 52,oF 7 54 1 53,oP 8 55 (.load (some 5) (.t 54)),oK 9 56 47,oF 10 57 0 56,oT 11 5 57 55]
@[go_sem] theorem qo5:OE Yr.eq_1:=OEM Yr.eq_1
def Ys:List qB:=[oM 0 60 1,oU 1 61 5,oX 2 62 5 3,oP 3 63 (.iaddr 4 (.t 62) (.c (.int .i64 1))),oD2 4 64 1150 60 63,oM 5 7 64]
@[go_sem] theorem qo6:OE Ys.eq_1:=OEM Ys.eq_1
def Yt:List qB:=[oM 0 65 1,oM 1 66 7,oP 2 67 (.build (.agg [.int .i64 0,.int .i64 0,.nils,.int .i64 0,.int .i64 0,.nils,.nils,.nils]) [(0,1,.c (.int .i64 2)),(1,1,.t 66)]),oU 3 68 5,oX 4 69 5 3,oP 5 70 (.iaddr 4 (.t 69) (.c (.int .i64 0))),oP 6 71 (.call 1151 [.t 65,.t 67,.t 70])]
@[go_sem] theorem qo7:OE Yt.eq_1:=OEM Yt.eq_1
def Yu:List qB:=[oM 0 74 1,oU 1 75 5,oX 2 76 5 1,oU 3 77 5,oX 4 78 5 3,oP 5 79 (.iaddr 4 (.t 78) (.c (.int .i64 1))),oP 6 80 (.load (some 4) (.t 79)),oM 7 81 1,oK 8 82 81,oF 9 83 0 82,oF 10 84 4 83,oL 11 85 84,oP 12 86 (.build (.agg [.int .i64 0,.int .i64 0,.nils,.nils,.nils]) [(0,4,.t 80),(4,1,.t 85)]),oP 13 87 (.build (.agg [.int .i64 0,.int .i64 0,.nils,.int .i64 0,.int .i64 0,.nils,.nils,.nils]) [(0,1,.c (.int .i64 3)),(1,1,.t 76),(3,5,.t 86)]),oU 14 88 5,oX 15 89 5 3,oP 16 90 (.iaddr 4 (.t 89) (.c (.int .i64 0))),oP 17 91 (.call 1151 [.t 74,.t 87,.t 90])]
@[go_sem] theorem qo8:OE Yu.eq_1:=OEM Yu.eq_1
def Yv:List qB:=[oM 0 94 1,oU 1 95 5,oX 2 96 5 2,oP 3 97 (.build (.agg [.int .i64 0,.int .i64 0,.nils,.int .i64 0,.int .i64 0,.nils,.nils,.nils]) [(0,1,.c (.int .i64 5)),(2,1,.t 96)]),oU 4 98 5,oX 5 99 5 3,oP 6 100 (.iaddr 4 (.t 99) (.c (.int .i64 0))),oP 7 101 (.call 1151 [.t 94,.t 97,.t 100])]
@[go_sem] theorem qo9:OE Yv.eq_1:=OEM Yv.eq_1
def Yw:List qB:=[oM 0 104 1,oU 1 105 5,oX 2 106 5 2,oP 3 107 (.build (.agg [.int .i64 0,.int .i64 0,.nils,.int .i64 0,.int .i64 0,.nils,.nils,.nils]) [(0,1,.c (.int .i64 6)),(2,1,.t 106)]),oU 4 108 5,oX 5 109 5 3,oP 6 110 (.iaddr 4 (.t 109) (.c (.int .i64 0))),oP 7 111 (.call 1151 [.t 104,.t 107,.t 110])]
@[go_sem] theorem qpA:OE Yw.eq_1:=OEM Yw.eq_1
def Yn:List qB:=[oM 0 114 1,oM 1 115 0,oK 2 116 115,oF 3 117 0 116,oL 4 118 117,oU 5 119 5,oX 6 120 5 1,oA 7 121 4 118 120,oP 8 122 (.load (some 4) (.t 121)),oP 9 123 (.build (.agg [.int .i64 0,.int .i64 0,.nils,.nils,.nils]) [(0,4,.t 122)]),oK 10 124 114,oF 11 125 0 124,oT 12 5 125 123]
@[go_sem] theorem qoY:OE Yn.eq_1:=OEM Yn.eq_1
def Yo:List qB:=[oM 0 128 1,oK 1 129 128,oF 2 130 0 129,oD1 3 131 1149 130,oJ 4 132 131]
@[go_sem] theorem qoZ:OE Yo.eq_1:=OEM Yo.eq_1
def Yl:qL:=sr [oE 0 127 .eql 15 8,oM 1 126 127] (.cond (.t 126) (sr Yo (.cond (.t 132) (sr [oM 0 133 1,oD1 1 134 1152 133] (sr [oC 0 4 8] .ret)) .skip)) .skip)
@[go_sem] theorem qoQ:CE Yl.eq_1:=CEM Yl.eq_1
def QJ:qL:=.cond (.t 102) (sr Yw (sr [oC 0 4 1] .ret)) (sr [oE 0 113 .eql 15 11,oM 1 112 113] (.cond (.t 112) (sr Yn (sr [oC 0 4 7] .ret)) Yl))
@[go_sem] theorem qoR:CE QJ.eq_1:=CEM QJ.eq_1
def Jg:qL:=sr [oE 0 93 .eql 15 9,oM 1 92 93] (.cond (.t 92) (sr Yv (sr [oC 0 4 1] .ret)) (sr [oE 0 103 .eql 15 10,oM 1 102 103] QJ))
@[go_sem] theorem qoS:CE Jg.eq_1:=CEM Jg.eq_1
def wn:qL:=.cond (.t 58) (sr Ys (sr Yt (sr [oC 0 4 1] .ret))) (sr [oE 0 73 .eql 15 3,oM 1 72 73] (.cond (.t 72) (sr Yu (sr [oC 0 4 1] .ret)) Jg))
@[go_sem] theorem qoT:CE wn.eq_1:=CEM wn.eq_1
def qJH:qL:=.cond (.t 16) (sr Ym (.seq (sr Yp (.cond (.t 35) (.reg true Yq) .skip)) (sr Yr (sr [oC 0 4 2] .ret)))) (sr [oE 0 59 .eql 15 5,oM 1 58 59] wn)
@[go_sem] theorem qoU:CE qJH.eq_1:=CEM qJH.eq_1
def QL:List qB:=[oM 0 135 1,oK 1 136 135,oF 2 137 5 136,oL 3 138 137,oM 4 139 1,oK 5 140 139,oF 6 141 5 140,oL 7 142 141,oW 8 143 142,oE 9 144 .sub 143 1,oA 10 145 8 138 144,oP 11 146 (.load (some 8) (.t 145)),oP 12 8 (.lalloc (.agg [.int .i64 0,.int .i64 0,.nils,.int .i64 0,.int .i64 0,.nils,.nils,.nils])),oS 13 8 0 8 146]
@[go_sem] theorem qo0:OE QL.eq_1:=OEM QL.eq_1
def QM:List qB:=[oM 0 150 1,oK 1 151 150,oF 2 152 6 151,oL 3 153 152,oU 4 154 8,oX 5 155 8 1,oM 6 156 1,oK 7 157 156,oF 8 158 0 157,oP 9 159 (.load (some 5) (.t 158)),oP 10 160 (.build (.agg [.bool false,.int .i64 0,.int .i64 0,.nils,.nils,.nils]) [(0,1,.c (.bool true)),(1,5,.t 159)]),oA 11 161 6 153 155,oT 12 6 161 160]
@[go_sem] theorem qo1:OE QM.eq_1:=OEM QM.eq_1
def QK:qL:=sr [oU 0 147 8,oX 1 148 8 0,oE 2 149 .eql 148 1] (.cond (.t 149) (sr QM (sr [oM 0 162 1,oD1 1 163 1153 162] (sr [oC 0 4 3] .ret))) .skip)
@[go_sem] theorem qoV:CE QK.eq_1:=CEM QK.eq_1
def qJI:qL:=.seq (sr [oU 0 14 5,oX 1 15 5 0] (.blk 0 (sr [oE 0 17 .eql 15 1,oM 1 16 17] qJH))) (sr QL (.seq QK (sr [oM 0 164 1,oD1 1 165 1154 164,oM 2 4 165] .ret)))
@[go_sem] theorem qoW:CE qJI.eq_1:=CEM qJI.eq_1
def Yk:qN:=⟨2,166,[.t 4],sr [oC 0 4 0] (sr qJJ qJI)⟩
def qDM:List qB:=[oM 0 7 0,oM 1 8 1,oD2 2 9 824 7 8,oM 3 6 9]
@[go_sem] theorem qiP:OE qDM.eq_1:=OEM qDM.eq_1
def qDN:List qB:=[oM 0 12 1,oK 1 13 12,oF 2 14 6 13,oL 3 15 14,oW 4 16 15,oE 5 17 .gtr 16 2000,oM 6 18 17,oH 7 19 18 false 1,oG 8 20 18 false (.nilchk (.t 19)),oG 9 21 18 false (.faddr 5 (.t 20)),oG 10 22 18 false (.load none (.t 21)),oG 11 23 18 false (.len (.t 22)),oG 12 24 18 false (.bin .gtr (.t 23) (.c (.int .i64 400))),oPt 13 25 18 24,oM 14 26 25,oH 15 27 26 false 1,oG 16 28 26 false (.nilchk (.t 27)),oG 17 29 26 false (.faddr 0 (.t 28)),oG 18 30 26 false (.faddr 4 (.t 29)),oG 19 31 26 false (.load none (.t 30)),oG 20 32 26 false (.len (.t 31)),oG 21 33 26 false (.bin .gtr (.t 32) (.c (.int .i64 256))),oPt 22 34 26 33]
@[go_sem] theorem qiQ:OE qDN.eq_1:=OEM qDN.eq_1
def qDL:qL:=.seq (sr [oM 0 10 6,oE 1 11 .eql 10 0] (.cond (.t 11) (sr [oC 0 4 0,oC 1 5 5] .ret) .skip)) (.seq (sr qDN (.cond (.t 34) (sr [oC 0 4 0,oC 1 5 4] .ret) .skip)) (sr [oM 0 35 6,oM 1 4 35,oC 2 5 0] .ret))
@[go_sem] theorem qiO:CE qDL.eq_1:=CEM qDL.eq_1
def Xs:qN:=⟨2,36,[.t 4,.t 5],sr [oC 0 4 0,oC 1 5 0] (sr qDM qDL)⟩
def qKE:List qB:=[oM 0 6 0,oM 1 7 1,oE 2 8 .sub 7 4,oA 3 9 1 6 8,oL 4 10 9,oE 5 11 .add 10 1,oA 6 12 1 6 8,oT 7 1 12 11]
@[go_sem] theorem qqO:OE qKE.eq_1:=OEM qKE.eq_1
def VF:qN:=⟨2,13,[],sr [oM 0 4 1,oP 1 5 (.call 340 [.t 4,.c (.int .i64 4),.c (.int .i64 7)])] (.cond (.t 5) (.reg true qKE) .skip)⟩
def qFM:List qB:=[oM 0 14 3,oK 1 15 14,oL 2 16 15,oE 3 17 .eql 16 0]
@[go_sem] theorem qkS:OE qFM.eq_1:=OEM qFM.eq_1
def qFN:List qB:=[oM 0 19 0,oM 1 20 1,oD2 2 21 461 19 20,oM 3 18 21,oV 4 22 18 0,oV 5 23 18 1,oM 6 9 22,oM 7 10 23]
@[go_sem] theorem qkT:OE qFN.eq_1:=OEM qFN.eq_1
def qFO:List qB:=[oM 0 27 3,oK 1 28 27,oL 2 29 28,oE 3 30 .sub 29 1,oK 4 31 27,oT 5 1 31 30]
@[go_sem] theorem qkU:OE qFO.eq_1:=OEM qFO.eq_1
def qFK:qL:=.seq (sr [oM 0 24 10,oE 1 25 .neq 24 0] (.cond (.t 25) (sr [oM 0 26 10,oM 1 8 26] .ret) .skip)) (sr qFO (.reg true [oM 0 32 2,oM 1 33 9,oD2 2 34 833 32 33]))
@[go_sem] theorem qkQ:CE qFK.eq_1:=CEM qFK.eq_1
def qFL:qL:=.loop (.seq (sr [oM 0 11 1,oD1 1 12 459 11,oJ 2 13 12] (.cond (.t 13) .skip (.exit 0))) (.blk 1 (.seq (sr qFM (.cond (.t 17) (sr [oC 0 8 12] .ret) .skip)) (sr qFN qFK))))
@[go_sem] theorem qkR:CE qFL.eq_1:=CEM qFL.eq_1
def X6:qN:=⟨4,35,[.t 8],sr [oC 0 8 0] (.seq (.blk 0 qFL) (sr [oC 0 8 0] .ret))⟩
def qF6:List qB:=[oU 0 3 1,oX 1 4 1 0,oE 2 5 .eql 4 6,oM 3 6 5,oG 4 7 6 false (.nop 1),oG 5 8 6 false (.lload 1 0 none),oG 6 9 6 false (.bin .eql (.t 8) (.c (.int .i64 7))),oPt 7 10 6 9,oM 8 2 10]
@[go_sem] theorem qlD:OE qF6.eq_1:=OEM qF6.eq_1
def YH:qN:=⟨1,11,[.t 2],sr [oP 0 1 (.lbox 4 (.t 0)),oQ 1 2 false] (sr qF6 .ret)⟩
def qB5:List qB:=[oY 0 3 1 0 4,oD1 1 4 391 3,oM 2 5 4,oG 3 6 5 true (.lload 1 0 (some 4)),oG 4 7 5 true (.call 615 [.t 6,.f 616]),oG 5 8 5 true (.not (.t 7)),oPf 6 9 5 8,oM 7 2 9]
@[go_sem] theorem qg4:OE qB5.eq_1:=OEM qB5.eq_1
def XY:qN:=⟨1,10,[.t 2],sr [oP 0 1 (.lbox 4 (.t 0)),oQ 1 2 false] (sr qB5 .ret)⟩
def KQ:List qB:=[oY 0 3 1 0 4,oD1 1 4 259 3,oJ 2 5 4,oM 3 2 5]
@[go_sem] theorem qb5:OE KQ.eq_1:=OEM KQ.eq_1
def Wa:qN:=⟨1,6,[.t 2],sr [oP 0 1 (.lbox 4 (.t 0)),oQ 1 2 false] (sr KQ .ret)⟩
def qGP:List qB:=[oY 0 3 1 0 1,oD1 1 4 498 3,oM 2 5 4,oG 3 6 5 true (.nop 1),oG 4 7 5 true (.lload 1 0 none),oG 5 8 5 true (.call 581 [.t 7,.f 1045]),oG 6 9 5 true (.not (.t 8)),oPf 7 10 5 9,oM 8 2 10]
@[go_sem] theorem qlW:OE qGP.eq_1:=OEM qGP.eq_1
def YM:qN:=⟨1,11,[.t 2],sr [oP 0 1 (.lbox 1 (.t 0)),oQ 1 2 false] (sr qGP .ret)⟩
def qCA:List qB:=[oM 0 3 0,oE 1 4 .geq 3 0,oM 2 5 4,oH 3 6 5 true 0,oG 4 7 5 true (.bin .leq (.t 6) (.c (.int .i64 20000))),oPf 5 8 5 7,oM 6 2 8]
@[go_sem] theorem qhC:OE qCA.eq_1:=OEM qCA.eq_1
def Xe:qN:=⟨1,9,[.t 2],sr [oQ 0 2 false] (sr qCA .ret)⟩
def qGW:List qB:=[oU 0 13 1,oU 1 14 1,oX 2 15 1 3,oW 3 16 15,oC 4 17 0]
@[go_sem] theorem ql3:OE qGW.eq_1:=OEM qGW.eq_1
def qGX:List qB:=[oM 0 19 17,oA 1 20 4 15 17,oP 2 21 (.load (some 4) (.t 20)),oZ 3 4,oM 4 3 19,oS 5 4 0 4 21]
@[go_sem] theorem ql4:OE qGX.eq_1:=OEM qGX.eq_1
def qGY:List qB:=[oU 0 22 4,oX 1 23 4 0,oE 2 24 .neq 23 1,oM 3 25 24,oG 4 26 25 false (.nop 4),oG 5 27 25 false (.lload 4 1 none),oH 6 28 25 false 3,oG 7 29 25 false (.bin .neq (.t 27) (.t 28)),oPt 8 30 25 29]
@[go_sem] theorem ql5:OE qGY.eq_1:=OEM qGY.eq_1
def qGT:qL:=sr [oB 0 18 .lss 17 16] (.seq (.cond (.t 18) .skip (.exit 1)) (.seq (.blk 2 (sr qGX (sr qGY (.cond (.t 30) (sr [oQ 0 2 false] .ret) .skip)))) (.reg true [oE 0 31 .add 17 1,oM 1 17 31])))
@[go_sem] theorem ql0:CE qGT.eq_1:=CEM qGT.eq_1
def qGZ:List qB:=[oU 0 32 1,oX 1 33 1 4,oW 2 34 33,oU 3 35 1,oU 4 36 1,oX 5 37 1 3,oW 6 38 37,oB 7 39 .eql 34 38,oM 8 2 39]
@[go_sem] theorem ql6:OE qGZ.eq_1:=OEM qGZ.eq_1
def qGU:qL:=.cond (.t 8) (sr [oQ 0 2 true] .ret) (sr [oE 0 12 .eql 7 8,oM 1 11 12] (.cond (.t 11) (.seq (sr qGW (.blk 1 (.loop qGT))) (sr qGZ .ret)) .skip))
@[go_sem] theorem ql1:CE qGU.eq_1:=CEM qGU.eq_1
def qGV:qL:=sr [oU 0 5 1,oU 1 6 1,oX 2 7 1 0] (.blk 0 (.seq (sr [oE 0 9 .eql 7 4,oM 1 8 9] (.cond (.t 8) .skip (.reg true [oE 0 10 .eql 7 2,oM 1 8 10]))) qGU))
@[go_sem] theorem ql2:CE qGV.eq_1:=CEM qGV.eq_1
def YO:qN:=⟨1,40,[.t 2],sr [oP 0 1 (.lbox 5 (.t 0)),oQ 1 2 false] (.seq qGV (sr [oQ 0 2 false] .ret))⟩
def qGO:List qB:=[oM 0 3 0,oK 1 4 3,oF 2 5 5 4,oL 3 6 5,oW 4 7 6,oE 5 8 .eql 7 0,oM 6 9 8,oH 7 10 9 true 0,oG 8 11 9 true (.nilchk (.t 10)),oG 9 12 9 true (.faddr 0 (.t 11)),oG 10 13 9 true (.load (some 5) (.t 12)),oG 11 14 9 true (.call 673 [.t 13]),oPf 12 15 9 14,oM 13 2 15]
@[go_sem] theorem qlV:OE qGO.eq_1:=OEM qGO.eq_1
def YL:qN:=⟨1,16,[.t 2],sr [oQ 0 2 false] (sr qGO .ret)⟩
def K2:List qB:=[oM 0 8 1,oM 1 9 0,oP 2 10 (.cap (.t 9)),oM 3 11 0,oW 4 12 11,oB 5 13 .sub 10 12,oB 6 14 .sub 8 13,oM 7 1 14]
@[go_sem] theorem qc6:OE K2.eq_1:=OEM K2.eq_1
def K3:List qB:=[oM 0 17 0,oM 1 18 0,oP 2 19 (.cap (.t 18)),oP 3 20 (.slc 1 (.t 17) none (some (.t 19)) none),oM 4 21 1,oP 5 22 (.appz 1 (.int .i64 0) (.t 20) (.t 21)),oM 6 23 0,oW 7 24 23,oP 8 25 (.slc 1 (.t 22) none (some (.t 24)) none),oM 9 0 25]
@[go_sem] theorem qc7:OE K3.eq_1:=OEM K3.eq_1
def K1:qL:=.seq (sr [oM 0 5 1,oE 1 6 .lss 5 0] (.cond (.t 6) (.reg true [oP 0 7 (.mkif 9 (.c (.str [99,97,110,110,111,116,32,98,101,32,110,101,103,97,116,105,118,101]))),oN 1 (.panic (.t 7))]) .skip)) (.seq (sr K2 (sr [oM 0 15 1,oE 1 16 .gtr 15 0] (.cond (.t 16) (.reg true K3) .skip))) (sr [oM 0 26 0,oM 1 4 26] .ret))
@[go_sem] theorem qc5:CE K1.eq_1:=CEM K1.eq_1
def Wp:qN:=⟨2,27,[.t 4],sr [oP 0 4 (.mov (.c (.nils)))] K1⟩
def qIC:List qB:=[oM 0 15 3,oM 1 16 5,oW 2 17 16,oB 3 18 .add 15 17,oM 4 3 18]
@[go_sem] theorem qnL:OE qIC.eq_1:=OEM qIC.eq_1
def qH9:qL:=sr [oA 0 13 1 9 11,oL 1 14 13,oM 2 5 14] (sr qIC (sr [oM 0 19 3,oE 1 20 .lss 19 0] (.cond (.t 20) (.reg true [oP 0 21 (.mkif 9 (.c (.str [108,101,110,32,111,117,116,32,111,102,32,114,97,110,103,101]))),oN 1 (.panic (.t 21))]) .skip)))
@[go_sem] theorem qnH:CE qH9.eq_1:=CEM qH9.eq_1
def qIA:qL:=sr [oM 0 9 0,oW 1 10 9,oC 2 11 0] (.blk 0 (.loop (sr [oB 0 12 .lss 11 10] (.seq (.cond (.t 12) .skip (.exit 0)) (.seq (.blk 1 qH9) (.reg true [oE 0 22 .add 11 1,oM 1 11 22]))))))
@[go_sem] theorem qnI:CE qIA.eq_1:=CEM qIA.eq_1
def qID:List qB:=[oM 0 31 6,oM 1 32 8,oP 2 33 (.app 1 (.t 31) (.t 32)),oM 3 6 33]
@[go_sem] theorem qnM:OE qID.eq_1:=OEM qID.eq_1
def Yb:qL:=sr [oB 0 28 .lss 27 26] (.seq (.cond (.t 28) .skip (.exit 2)) (.seq (.blk 3 (sr [oA 0 29 1 25 27,oL 1 30 29,oM 2 8 30] (.reg true qID))) (.reg true [oE 0 34 .add 27 1,oM 1 27 34])))
@[go_sem] theorem qnJ:CE Yb.eq_1:=CEM Yb.eq_1
def qIB:qL:=.seq (sr [oM 0 25 0,oW 1 26 25,oC 2 27 0] (.blk 2 (.loop Yb))) (sr [oM 0 35 6,oM 1 2 35] .ret)
@[go_sem] theorem qnK:CE qIB.eq_1:=CEM qIB.eq_1
def Ya:qN:=⟨1,36,[.t 2],sr [oP 0 2 (.mov (.c (.nils)))] (sr [oC 0 3 0] (.seq qIA (sr [oM 0 23 3,oP 1 24 (.call 1138 [.c (.nils),.t 23]),oM 2 6 24] qIB)))⟩
def kR:List qB:=[oM 0 2 0,oM 1 3 0,oK 2 4 3,oF 3 5 5 4,oL 4 6 5,oM 5 7 0,oK 6 8 7,oF 7 9 5 8,oL 8 10 9,oW 9 11 10,oE 10 12 .sub 11 1,oP 11 13 (.slc 8 (.t 6) none (some (.t 12)) none),oK 12 14 2,oF 13 15 5 14,oT 14 1 15 13]
@[go_sem] theorem qeF:OE kR.eq_1:=OEM kR.eq_1
def ZX:qN:=⟨1,16,[],.reg true kR⟩
def kS:List qB:=[oM 0 4 0,oM 1 5 0,oK 2 6 5,oF 3 7 5 6,oL 4 8 7,oY 5 9 3 0 8,oP 6 10 (.bslice 8 (.agg [.int .i64 0,.int .i64 0,.nils,.int .i64 0,.int .i64 0,.nils,.nils,.nils]) 1 [(0,.t 9)]),oP 7 11 (.app 8 (.t 8) (.t 10)),oK 8 12 4,oF 9 13 5 12,oT 10 1 13 11]
@[go_sem] theorem qeG:OE kS.eq_1:=OEM kS.eq_1
def ZY:qN:=⟨2,14,[],sr [oP 0 3 (.lbox 8 (.t 1))] (.reg true kS)⟩
def qAB:List qB:=[oL 0 4 1,oW 1 5 4,oE 2 6 .sub 5 1,oM 3 3 6]
@[go_sem] theorem qe4:OE qAB.eq_1:=OEM qAB.eq_1
def qAC:List qB:=[oM 0 11 0,oM 1 12 3,oL 2 13 1,oM 3 14 3,oA 4 15 1 13 14,oL 5 16 15,oP 6 17 (.callv (.t 11) [.t 12,.t 16]),oJ 7 18 17]
@[go_sem] theorem qe5:OE qAC.eq_1:=OEM qAC.eq_1
def qAA:qL:=.loop (.seq (sr [oM 0 7 3,oE 1 8 .geq 7 0] (.cond (.t 8) .skip (.exit 0))) (.seq (.blk 1 (sr qAC (.cond (.t 18) .ret .skip))) (.reg true [oM 0 9 3,oE 1 10 .sub 9 1,oM 2 3 10])))
@[go_sem] theorem qe3:CE qAA.eq_1:=CEM qAA.eq_1
def qN4:qN:=⟨2,19,[],sr qAB (.blk 0 qAA)⟩
def W8:qN:=⟨1,4,[.t 2],sr [oP 0 1 (.hbox 1 (.t 0)),oP 1 2 (.mov (.c (.nilf)))] (sr [oP 0 3 (.mkfn 1406 [.t 1]),oM 1 2 3] .ret)⟩
def Y1:List qB:=[oL 0 7 1,oK 1 8 7,oF 2 9 0 8,oF 3 10 0 9,oP 4 11 (.load (some 4) (.t 10)),oL 5 12 1,oK 6 13 12,oF 7 14 5 13,oL 8 15 14,oL 9 16 1,oK 10 17 16,oF 11 18 5 17,oL 12 19 18,oW 13 20 19,oE 14 21 .sub 20 1,oA 15 22 8 15 21,oP 16 23 (.load (some 8) (.t 22)),oZ 17 3,oP 18 4 (.lalloc (.agg [.int .i64 0,.int .i64 0,.nils,.int .i64 0,.int .i64 0,.nils,.nils,.nils])),oS 19 3 0 4 11,oS 20 4 0 8 23]
@[go_sem] theorem qpO:OE Y1.eq_1:=OEM Y1.eq_1
def Y2:List qB:=[oU 0 25 4,oX 1 26 4 0,oE 2 27 .eql 26 1,oM 3 24 27]
@[go_sem] theorem qpV:OE Y2.eq_1:=OEM Y2.eq_1
def Y7:List qB:=[oL 0 28 1,oK 1 29 28,oF 2 30 6 29,oL 3 31 30,oU 4 32 4,oX 5 33 4 1,oL 6 34 1,oK 7 35 34,oF 8 36 0 35,oP 9 37 (.load (some 5) (.t 36)),oP 10 38 (.build (.agg [.bool false,.int .i64 0,.int .i64 0,.nils,.nils,.nils]) [(0,1,.c (.bool true)),(1,5,.t 37)]),oA 11 39 6 31 33,oT 12 6 39 38]
@[go_sem] theorem qpW:OE Y7.eq_1:=OEM Y7.eq_1
def QR:List qB:=[oU 0 43 3,oX 1 44 3 0,oE 2 45 .eql 44 4,oM 3 46 45,oG 4 47 46 true (.nop 4),oG 5 48 46 true (.lload 4 0 none),oG 6 49 46 true (.bin .eql (.t 48) (.c (.int .i64 2))),oPf 7 50 46 49,oM 8 42 50]
@[go_sem] theorem qpX:OE QR.eq_1:=OEM QR.eq_1
def Y8:List qB:=[oL 0 53 1,oU 1 54 3,oX 2 55 3 3,oP 3 56 (.iaddr 4 (.t 55) (.c (.int .i64 0))),oP 4 57 (.load (some 4) (.t 56)),oU 5 58 4,oX 6 59 4 1,oL 8 61 1,oK 9 62 61,oF 10 63 0 62,oF 11 64 4 63,oL 12 65 64,oP 7 60 (.bslice 1 (.int .i64 0) 1 [(0,.t 59)]),oP 13 66 (.bslice 1 (.nils) 2 [(0,.t 60),(1,.t 65)]),⟨14,some 67,none,.call 786 [.t 66],[⟨0,some 53,none,.load none (.t 1),[]⟩,⟨4,some 57,none,.load (some 4) (.t 56),[]⟩]⟩,oP 15 68 (.build (.agg [.int .i64 0,.int .i64 0,.nils,.nils,.nils]) [(0,4,.t 57),(4,1,.t 67)]),oK 16 69 53,oF 17 70 0 69,oT 18 5 70 68]
@[go_sem] theorem qpY:OE Y8.eq_1:=OEM Y8.eq_1
def QS:List qB:=[oU 0 72 3,oX 1 73 3 0,oE 2 74 .eql 73 2,oM 3 75 74,oG 4 76 75 true (.nop 4),oG 5 77 75 true (.lload 4 0 none),oG 6 78 75 true (.bin .eql (.t 77) (.c (.int .i64 3))),oPf 7 79 75 78,oM 8 71 79]
@[go_sem] theorem qpZ:OE QS.eq_1:=OEM QS.eq_1
def Y9:List qB:=[oL 0 82 1,oU 1 83 4,oX 2 84 4 1,oU 3 85 3,oX 4 86 3 1,oP 5 87 (.bslice 1 (.int .i64 0) 1 [(0,.t 86)]),oP 6 88 (.build (.agg [.int .i64 0,.int .i64 0,.nils,.int .i64 0,.int .i64 0,.nils,.nils,.nils]) [(0,1,.c (.int .i64 4)),(1,1,.t 84),(2,1,.t 87)]),oD2 7 89 1156 82 88]
@[go_sem] theorem qp0:OE Y9.eq_1:=OEM Y9.eq_1
def VA:List qB:=[oL 0 90 1,oU 1 91 4,oY 2 92 4 3 5,oK 3 93 90,oF 4 94 0 93,oT 5 5 94 92]
@[go_sem] theorem qp1:OE VA.eq_1:=OEM VA.eq_1
def QT:List qB:=[oU 0 96 3,oX 1 97 3 0,oE 2 98 .eql 97 2,oM 3 99 98,oG 4 100 99 true (.nop 4),oG 5 101 99 true (.lload 4 0 none),oG 6 102 99 true (.bin .eql (.t 101) (.c (.int .i64 4))),oPf 7 103 99 102,oM 8 95 103]
@[go_sem] theorem qp2:OE QT.eq_1:=OEM QT.eq_1
def VB:List qB:=[oL 0 106 1,oU 1 107 4,oX 2 108 4 1,oU 3 109 4,oX 4 110 4 2,oP 5 111 (.iaddr 1 (.t 110) (.c (.int .i64 0))),oL 6 112 111,oU 7 113 3,oX 8 114 3 1,⟨9,some 115,none,.call 1118 [.t 108,.t 112,.t 114],[⟨0,some 106,none,.load none (.t 1),[]⟩]⟩,⟨10,some 116,none,.call 726 [.t 115],[⟨0,some 106,none,.load none (.t 1),[]⟩]⟩,oP 11 117 (.build (.agg [.int .i64 0,.int .i64 0,.nils,.nils,.nils]) [(0,4,.t 116)]),oK 12 118 106,oF 13 119 0 118,oT 14 5 119 117]
@[go_sem] theorem qp3:OE VB.eq_1:=OEM VB.eq_1
def QP:List qB:=[oU 0 121 3,oX 1 122 3 0,oE 2 123 .eql 122 2,oM 3 124 123,oG 4 125 124 true (.nop 4),oG 5 126 124 true (.lload 4 0 none),oG 6 127 124 true (.bin .eql (.t 126) (.c (.int .i64 6))),oPf 7 128 124 127,oM 8 120 128]
@[go_sem] theorem qpP:OE QP.eq_1:=OEM QP.eq_1
def Y3:List qB:=[oL 0 131 1,oU 1 132 4,oX 2 133 4 2,oU 3 134 3,oX 4 135 3 1,oE 5 136 .eql 135 0,⟨6,some 137,none,.call 566 [.t 136],[⟨0,some 131,none,.load none (.t 1),[]⟩]⟩,oA 7 138 1 133 137,oL 8 139 138,⟨9,some 140,none,.call 1120 [.t 139],[⟨0,some 131,none,.load none (.t 1),[]⟩]⟩,oP 10 141 (.build (.agg [.int .i64 0,.int .i64 0,.nils,.nils,.nils]) [(0,4,.t 140)]),oK 11 142 131,oF 12 143 0 142,oT 13 5 143 141]
@[go_sem] theorem qpQ:OE Y3.eq_1:=OEM Y3.eq_1
def QQ:List qB:=[oU 0 145 3,oX 1 146 3 0,oE 2 147 .eql 146 8,oM 3 148 147,oG 4 149 148 true (.nop 4),oG 5 150 148 true (.lload 4 0 none),oG 6 151 148 true (.bin .eql (.t 150) (.c (.int .i64 5))),oPf 7 152 148 151,oM 8 153 152,oG 9 154 153 true (.nop 3),oG 10 155 153 true (.lload 3 1 none),oG 11 156 153 true (.nop 4),oG 12 157 153 true (.lload 4 2 none),oG 13 158 153 true (.len (.t 157)),oG 14 159 153 true (.bin .lss (.t 155) (.t 158)),oPf 15 160 153 159,oM 16 144 160]
@[go_sem] theorem qpR:OE QQ.eq_1:=OEM QQ.eq_1
def Y4:List qB:=[oL 0 163 1,oK 1 164 163,oF 2 165 0 164,oF 3 166 4 165,oL 4 167 166,oD1 5 168 1157 167]
@[go_sem] theorem qpS:OE Y4.eq_1:=OEM Y4.eq_1
def Y5:List qB:=[oL 0 171 1,oM 1 172 6,oP 2 173 (.build (.agg [.int .i64 0,.int .i64 0,.nils,.int .i64 0,.int .i64 0,.nils,.nils,.nils]) [(0,1,.c (.int .i64 2)),(1,1,.t 172)]),oD2 3 174 1156 171 173]
@[go_sem] theorem qpT:OE Y5.eq_1:=OEM Y5.eq_1
def Y6:List qB:=[oL 0 175 1,oU 1 176 4,oX 2 177 4 2,oU 3 178 3,oX 4 179 3 1,oA 5 180 1 177 179,oL 6 181 180,⟨7,some 182,none,.call 1120 [.t 181],[⟨0,some 175,none,.load none (.t 1),[]⟩]⟩,oP 8 183 (.build (.agg [.int .i64 0,.int .i64 0,.nils,.nils,.nils]) [(0,4,.t 182)]),oK 9 184 175,oF 10 185 0 184,oT 11 5 185 183]
@[go_sem] theorem qpU:OE Y6.eq_1:=OEM Y6.eq_1
def qJT:qL:=sr [oL 0 161 1,oD1 1 162 1155 161] (.seq (sr Y4 (.blk 1 (.rng 168 [1] 169 170 (.reg true [oM 0 6 170]) (.blk 2 (.reg true Y5))))) (sr Y6 (sr [oC 0 2 6] .ret)))
@[go_sem] theorem qpK:CE qJT.eq_1:=CEM qJT.eq_1
def QN:qL:=.cond (.t 95) (sr [oL 0 104 1,oD1 1 105 1155 104] (sr VB (sr [oC 0 2 5] .ret))) (sr QP (.cond (.t 120) (sr [oL 0 129 1,oD1 1 130 1155 129] (sr Y3 (sr [oC 0 2 6] .ret))) (sr QQ (.cond (.t 144) qJT .skip))))
@[go_sem] theorem qpL:CE QN.eq_1:=CEM QN.eq_1
def QO:qL:=sr QS (.cond (.t 71) (sr [oL 0 80 1,oD1 1 81 1155 80] (sr Y9 (sr VA (sr [oC 0 2 1] .ret)))) (sr QT QN))
@[go_sem] theorem qpM:CE QO.eq_1:=CEM QO.eq_1
def Y0:qL:=.cond (.t 24) (sr Y7 (sr [oL 0 40 1,oD1 1 41 1155 40] (sr [oC 0 2 3] .ret))) (sr QR (.cond (.t 42) (sr [oL 0 51 1,oD1 1 52 1155 51] (sr Y8 (sr [oC 0 2 4] .ret))) QO))
@[go_sem] theorem qpN:CE Y0.eq_1:=CEM Y0.eq_1
def Yz:qN:=⟨1,186,[.t 2],sr [oP 0 1 (.hbox 1 (.t 0)),oC 1 2 0] (sr Y1 (.seq (.blk 0 (sr Y2 Y0)) (sr [oC 0 2 0] .ret)))⟩
def kT:List qB:=[oM 0 5 0,oK 1 6 5,oF 2 7 6 6,oL 3 8 7,oM 4 9 1,oA 5 10 6 8 9,oF 6 11 0 10,oL 7 12 11,oJ 8 13 12]
@[go_sem] theorem qeH:OE kT.eq_1:=OEM kT.eq_1
def kU:List qB:=[oM 0 14 0,oM 1 15 1,oP 2 16 (.build (.agg [.int .i64 0,.int .i64 0,.nils,.int .i64 0,.int .i64 0,.nils,.nils,.nils]) [(0,1,.c (.int .i64 1)),(1,1,.t 15)]),oD2 3 17 1156 14 16]
@[go_sem] theorem qeI:OE kU.eq_1:=OEM kU.eq_1
def kV:List qB:=[oM 0 18 0,oM 1 19 0,oK 2 20 19,oF 3 21 6 20,oL 4 22 21,oM 5 23 1,oA 6 24 6 22 23,oF 7 25 1 24,oP 8 26 (.load (some 5) (.t 25)),oK 9 27 18,oF 10 28 0 27,oT 11 5 28 26]
@[go_sem] theorem qeJ:OE kV.eq_1:=OEM kV.eq_1
def W9:qN:=⟨2,29,[.t 4],sr [oC 0 4 0] (.seq (sr kT (.cond (.t 13) (.reg true kU) .skip)) (sr kV (sr [oC 0 4 2] .ret)))⟩
def kW:List qB:=[oM 0 8 0,oK 1 9 8,oF 2 10 0 9,oF 3 11 4 10,oL 4 12 11,oU 5 13 3,oX 6 14 3 1,oA 7 15 1 12 14,oL 8 16 15,oM 9 4 16]
@[go_sem] theorem qeK:OE kW.eq_1:=OEM kW.eq_1
def kX:List qB:=[oM 0 17 0,oM 1 18 0,oK 2 19 18,oF 3 20 6 19,oL 4 21 20,oY 5 22 3 0 4,oM 6 23 0,oK 7 24 23,oF 8 25 0 24,oF 9 26 4 25,oL 10 27 26,oP 11 28 (.build (.agg [.int .i64 0,.int .i64 0,.nils,.nils,.nils]) [(0,4,.t 22),(4,1,.t 27)]),oP 12 29 (.build (.agg [.bool false,.int .i64 0,.int .i64 0,.nils,.nils,.nils]) [(1,5,.t 28)]),oP 13 30 (.bslice 6 (.agg [.bool false,.int .i64 0,.int .i64 0,.nils,.nils,.nils]) 1 [(0,.t 29)]),oP 14 31 (.app 6 (.t 21) (.t 30)),oK 15 32 17,oF 16 33 6 32,oT 17 1 33 31]
@[go_sem] theorem qeL:OE kX.eq_1:=OEM kX.eq_1
def kY:List qB:=[oM 0 34 0,oK 1 35 34,oF 2 36 6 35,oL 3 37 36,oW 4 38 37,oE 5 39 .sub 38 1,oM 6 4 39]
@[go_sem] theorem qeM:OE kY.eq_1:=OEM kY.eq_1
def XA:qN:=⟨2,40,[.t 4],sr [oP 0 3 (.lbox 4 (.t 1)),oC 1 4 0] (.seq (sr [oU 0 5 3,oX 1 6 3 0,oE 2 7 .eql 6 1] (.cond (.t 7) (sr kW .ret) .skip)) (sr kX (sr kY .ret)))⟩
def YW:qN:=⟨1,5,[.l 2 (some 4)],sr [oZ 0 2] (sr [oM 0 3 0,oP 1 4 (.build (.agg [.int .i64 0,.int .i64 0,.nils,.nils]) [(0,1,.c (.int .i64 1)),(1,1,.t 3)]),oS 2 2 0 4 4] .ret)⟩
def ka:List qB:=[oU 0 9 3,oX 1 10 3 1,oP 2 11 (.build (.agg [.int .i64 0,.int .i64 0,.nils,.nils]) [(0,1,.c (.int .i64 8)),(1,1,.t 10)]),oZ 3 5,oS 4 5 0 4 11]
@[go_sem] theorem qeO:OE ka.eq_1:=OEM ka.eq_1
def kb:List qB:=[oU 0 12 3,oX 1 13 3 3,oW 2 14 13,oC 3 15 0]
@[go_sem] theorem qeP:OE kb.eq_1:=OEM kb.eq_1
def ke:List qB:=[oM 0 17 15,oA 1 18 4 13 15,oP 2 19 (.load (some 4) (.t 18)),oZ 3 8,oM 4 7 17,oS 5 8 0 4 19]
@[go_sem] theorem qeQ:OE ke.eq_1:=OEM ke.eq_1
def kf:List qB:=[oM 0 20 6,oM 1 21 0,oY 2 22 8 0 4,oD2 3 23 1159 21 22,oP 4 24 (.bslice 1 (.int .i64 0) 1 [(0,.t 23)]),oP 5 25 (.app 1 (.t 20) (.t 24)),oM 6 6 25]
@[go_sem] theorem qeR:OE kf.eq_1:=OEM kf.eq_1
def ki:List qB:=[oU 0 26 5,oX 1 27 5 3,oM 2 28 7,oD1 3 29 727 28,oP 4 30 (.bslice 4 (.agg [.int .i64 0,.int .i64 0,.nils,.nils]) 1 [(0,.t 29)]),oP 5 31 (.app 4 (.t 27) (.t 30)),oU 6 32 5,oS 7 5 3 1 31]
@[go_sem] theorem qeS:OE ki.eq_1:=OEM ki.eq_1
def kZ:qL:=.loop (sr [oB 0 16 .lss 15 14] (.seq (.cond (.t 16) .skip (.exit 0)) (.seq (.blk 1 (sr ke (sr kf (.reg true ki)))) (.reg true [oE 0 33 .add 15 1,oM 1 15 33]))))
@[go_sem] theorem qeN:CE kZ.eq_1:=CEM kZ.eq_1
def kj:List qB:=[oM 0 34 0,oY 1 35 5 0 4,oM 2 36 6,oP 3 37 (.build (.agg [.int .i64 0,.int .i64 0,.nils,.nils,.nils]) [(0,4,.t 35),(4,1,.t 36)]),oK 4 38 34,oF 5 39 0 38,oT 6 5 39 37]
@[go_sem] theorem qeT:OE kj.eq_1:=OEM kj.eq_1
def XB:qN:=⟨2,40,[.t 4],sr [oP 0 3 (.lbox 4 (.t 1)),oC 1 4 0] (sr ka (sr [oP 0 6 (.mov (.c (.nils)))] (.seq (sr kb (.blk 0 kZ)) (sr kj (sr [oC 0 4 8] .ret)))))⟩
def kn:List qB:=[oM 0 4 0,oY 1 5 3 0 4,oM 2 6 0,oK 3 7 6,oF 4 8 0 7,oF 5 9 4 8,oL 6 10 9,oP 7 11 (.build (.agg [.int .i64 0,.int .i64 0,.nils,.nils,.nils]) [(0,4,.t 5),(4,1,.t 10)]),oK 8 12 4,oF 9 13 0 12,oT 10 5 13 11]
@[go_sem] theorem qeU:OE kn.eq_1:=OEM kn.eq_1
def XC:qN:=⟨2,14,[],sr [oP 0 3 (.lbox 4 (.t 1))] (.reg true kn)⟩
def qJY:List qB:=[oM 0 6 0,oK 1 7 6,oF 2 8 0 7,oF 3 9 0 8,oP 4 10 (.load (some 4) (.t 9)),oZ 5 5,oS 6 5 0 4 10]
@[go_sem] theorem qp8:OE qJY.eq_1:=OEM qJY.eq_1
def qJZ:List qB:=[oM 0 18 0,oM 1 19 0,oK 2 20 19,oF 3 21 0 20,oF 4 22 4 21,oL 5 23 22,oU 6 24 5,oX 7 25 5 1,oA 8 26 1 23 25,oL 9 27 26,oD2 10 28 1158 18 27,oM 11 4 28]
@[go_sem] theorem qqA:OE qJZ.eq_1:=OEM qJZ.eq_1
def qJ1:List qB:=[oM 0 31 0,oM 1 32 0,oU 2 33 5,oX 3 34 5 3,oP 4 35 (.iaddr 4 (.t 34) (.c (.int .i64 1))),oP 5 36 (.load (some 4) (.t 35)),oD2 6 37 1159 32 36,oP 7 38 (.build (.agg [.int .i64 0,.int .i64 0,.nils,.int .i64 0,.int .i64 0,.nils,.nils,.nils]) [(0,1,.c (.int .i64 2)),(1,1,.t 37)]),oD2 8 39 1156 31 38]
@[go_sem] theorem qqB:OE qJ1.eq_1:=OEM qJ1.eq_1
def qJ2:List qB:=[oM 0 42 0,oU 1 43 5,oX 2 44 5 1,oU 3 45 5,oX 4 46 5 3,oP 5 47 (.iaddr 4 (.t 46) (.c (.int .i64 1))),oP 6 48 (.load (some 4) (.t 47)),oM 7 49 0,oK 8 50 49,oF 9 51 0 50,oF 10 52 4 51,oL 11 53 52,oP 12 54 (.build (.agg [.int .i64 0,.int .i64 0,.nils,.nils,.nils]) [(0,4,.t 48),(4,1,.t 53)]),oP 13 55 (.build (.agg [.int .i64 0,.int .i64 0,.nils,.int .i64 0,.int .i64 0,.nils,.nils,.nils]) [(0,1,.c (.int .i64 3)),(1,1,.t 44),(3,5,.t 54)]),oD2 14 56 1156 42 55]
@[go_sem] theorem qqC:OE qJ2.eq_1:=OEM qJ2.eq_1
def qJ3:List qB:=[oM 0 59 0,oU 1 60 5,oX 2 61 5 2,oP 3 62 (.build (.agg [.int .i64 0,.int .i64 0,.nils,.int .i64 0,.int .i64 0,.nils,.nils,.nils]) [(0,1,.c (.int .i64 5)),(2,1,.t 61)]),oD2 4 63 1156 59 62]
@[go_sem] theorem qqD:OE qJ3.eq_1:=OEM qJ3.eq_1
def qJ4:List qB:=[oM 0 66 0,oU 1 67 5,oX 2 68 5 2,oP 3 69 (.build (.agg [.int .i64 0,.int .i64 0,.nils,.int .i64 0,.int .i64 0,.nils,.nils,.nils]) [(0,1,.c (.int .i64 6)),(2,1,.t 68)]),oD2 4 70 1156 66 69]
@[go_sem] theorem qqE:OE qJ4.eq_1:=OEM qJ4.eq_1
def qJ5:List qB:=[oM 0 73 0,oU 1 74 3,oX 2 75 3 0,oU 3 76 5,oX 4 77 5 1,oA 5 78 4 75 77,oP 6 79 (.load (some 4) (.t 78)),oP 7 80 (.build (.agg [.int .i64 0,.int .i64 0,.nils,.nils,.nils]) [(0,4,.t 79)]),oK 8 81 73,oF 9 82 0 81,oT 10 5 82 80]
@[go_sem] theorem qqF:OE qJ5.eq_1:=OEM qJ5.eq_1
def qJ6:List qB:=[oM 0 13 0,oY 1 14 5 0 4,oD2 2 15 1160 13 14,oM 3 4 15]
@[go_sem] theorem qqG:OE qJ6.eq_1:=OEM qJ6.eq_1
def qJW:qL:=sr [oE 0 65 .eql 12 10,oM 1 64 65] (.cond (.t 64) (.reg true qJ4) (sr [oE 0 72 .eql 12 11,oM 1 71 72] (.cond (.t 71) (sr qJ5 (sr [oC 0 4 7] .ret)) (sr qJ6 .ret))))
@[go_sem] theorem qp6:CE qJW.eq_1:=CEM qJW.eq_1
def qJX:qL:=.cond (.t 29) (.reg true qJ1) (sr [oE 0 41 .eql 12 3,oM 1 40 41] (.cond (.t 40) (.reg true qJ2) (sr [oE 0 58 .eql 12 9,oM 1 57 58] (.cond (.t 57) (.reg true qJ3) qJW))))
@[go_sem] theorem qp7:CE qJX.eq_1:=CEM qJX.eq_1
def qJV:qL:=sr [oU 0 11 5,oX 1 12 5 0] (.blk 0 (sr [oE 0 17 .eql 12 1,oM 1 16 17] (.cond (.t 16) (sr qJZ .ret) (sr [oE 0 30 .eql 12 5,oM 1 29 30] qJX))))
@[go_sem] theorem qp5:CE qJV.eq_1:=CEM qJV.eq_1
def qJ0:List qB:=[oM 0 83 0,oU 1 84 5,oX 2 85 5 3,oP 3 86 (.iaddr 4 (.t 85) (.c (.int .i64 0))),oP 4 87 (.load (some 4) (.t 86)),oD2 5 88 1161 83 87]
@[go_sem] theorem qp9:OE qJ0.eq_1:=OEM qJ0.eq_1
def VC:qN:=⟨2,89,[.t 4],sr [oP 0 3 (.lbox 1 (.t 1)),oC 1 4 0] (sr qJY (.seq qJV (sr qJ0 (sr [oC 0 4 1] .ret))))⟩
def qDT:List qB:=[oM 0 9 0,oK 1 10 9,oF 2 11 0 10,oP 3 12 (.load (some 5) (.t 11)),oD1 4 13 673 12]
@[go_sem] theorem qiW:OE qDT.eq_1:=OEM qDT.eq_1
def qDU:List qB:=[oM 0 16 0,oY 1 17 3 0 1,oD2 2 18 830 16 17,oM 3 6 18]
@[go_sem] theorem qiX:OE qDU.eq_1:=OEM qDU.eq_1
def qDV:List qB:=[oM 0 23 0,oK 1 24 23,oF 2 25 6 24,oL 3 26 25,oW 4 27 26,oE 5 28 .gtr 27 2000,oM 6 29 28,oH 7 30 29 false 0,oG 8 31 29 false (.nilchk (.t 30)),oG 9 32 29 false (.faddr 5 (.t 31)),oG 10 33 29 false (.load none (.t 32)),oG 11 34 29 false (.len (.t 33)),oG 12 35 29 false (.bin .gtr (.t 34) (.c (.int .i64 400))),oPt 13 36 29 35,oM 14 37 36,oH 15 38 37 false 0,oG 16 39 37 false (.nilchk (.t 38)),oG 17 40 37 false (.faddr 0 (.t 39)),oG 18 41 37 false (.faddr 4 (.t 40)),oG 19 42 37 false (.load none (.t 41)),oG 20 43 37 false (.len (.t 42)),oG 21 44 37 false (.bin .gtr (.t 43) (.c (.int .i64 256))),oPt 22 45 37 44,oM 23 22 45]
@[go_sem] theorem qiY:OE qDV.eq_1:=OEM qDV.eq_1
def qDR:qL:=sr [oM 0 20 6,oE 1 21 .eql 20 0,oM 2 19 21] (.cond (.t 19) (sr [oC 0 4 0,oC 1 5 5] .ret) (sr qDV (.cond (.t 22) (sr [oC 0 4 0,oC 1 5 4] .ret) .skip)))
@[go_sem] theorem qiU:CE qDR.eq_1:=CEM qDR.eq_1
def qDS:qL:=.seq (sr qDT (.cond (.t 13) (.reg true [oM 0 14 0,oD1 1 15 829 14,oM 2 6 15]) (.reg true qDU))) (.seq (.blk 0 qDR) (sr [oM 0 46 6,oM 1 4 46,oC 2 5 0] .ret))
@[go_sem] theorem qiV:CE qDS.eq_1:=CEM qDS.eq_1
def Xu:qN:=⟨2,47,[.t 4,.t 5],sr [oP 0 3 (.lbox 1 (.t 1)),oC 1 4 0,oC 2 5 0] (.seq (sr [oM 0 7 0,oD1 1 8 670 7] (.cond (.t 8) (sr [oC 0 4 0,oC 1 5 3] .ret) .skip)) (sr [oC 0 6 0] qDS))⟩
def qFQ:List qB:=[oM 0 13 0,oK 1 14 13,oF 2 15 1 14,oL 3 16 15,oE 4 17 .eql 16 0]
@[go_sem] theorem qkX:OE qFQ.eq_1:=OEM qFQ.eq_1
def qFR:List qB:=[oM 0 19 2,oY 1 20 4 0 1,oD2 2 21 466 19 20,oM 3 18 21,oV 4 22 18 0,oV 5 23 18 1,oM 6 7 22,oM 7 8 23]
@[go_sem] theorem qkY:OE qFR.eq_1:=OEM qFR.eq_1
def qFS:List qB:=[oM 0 27 0,oK 1 28 27,oF 2 29 1 28,oL 3 30 29,oE 4 31 .sub 30 1,oK 5 32 27,oF 6 33 1 32,oT 7 1 33 31]
@[go_sem] theorem qkZ:OE qFS.eq_1:=OEM qFS.eq_1
def qFT:List qB:=[oP 0 34 (.bslice 1 (.int .i64 0) 4 [(0,.c (.int .i64 4)),(1,.c (.int .i64 5)),(2,.c (.int .i64 6)),(3,.c (.int .i64 7))]),oM 1 35 7,oD2 2 36 834 34 35,oM 3 9 36]
@[go_sem] theorem qk0:OE qFT.eq_1:=OEM qFT.eq_1
def qFU:List qB:=[oM 0 39 0,oK 1 40 39,oF 2 41 0 40,oL 3 42 41,oM 4 43 9,oA 5 44 1 42 43,oL 6 45 44,oE 7 46 .add 45 1,oA 8 47 1 42 43,oT 9 1 47 46]
@[go_sem] theorem qk1:OE qFU.eq_1:=OEM qFU.eq_1
def X8:qL:=.seq (sr [oM 0 24 8,oE 1 25 .neq 24 0] (.cond (.t 25) (sr [oM 0 26 8,oM 1 6 26] .ret) .skip)) (sr qFS (sr qFT (sr [oM 0 37 9,oE 1 38 .geq 37 0] (.cond (.t 38) (.reg true qFU) .skip))))
@[go_sem] theorem qkV:CE X8.eq_1:=CEM X8.eq_1
def qFP:qL:=.loop (.seq (sr [oM 0 10 2,oD1 1 11 670 10,oJ 2 12 11] (.cond (.t 12) .skip (.exit 0))) (.blk 1 (.seq (sr qFQ (.cond (.t 17) (sr [oC 0 6 12] .ret) .skip)) (sr qFR X8))))
@[go_sem] theorem qkW:CE qFP.eq_1:=CEM qFP.eq_1
def X7:qN:=⟨3,48,[.t 6],sr [oP 0 4 (.lbox 1 (.t 1)),oC 1 6 0] (.seq (.blk 0 qFP) (sr [oC 0 6 0] .ret))⟩
def qC1:List qB:=[oU 0 5 2,oY 1 6 2 0 4,oM 2 7 1,oD2 3 8 80 6 7,oM 4 1 8]
@[go_sem] theorem qh3:OE qC1.eq_1:=OEM qC1.eq_1
def qC2:List qB:=[oU 0 11 2,oX 1 12 2 4,oM 2 13 1,oD2 3 14 338 12 13,oM 4 1 14]
@[go_sem] theorem qh4:OE qC2.eq_1:=OEM qC2.eq_1
def qC0:qL:=sr qC2 (.seq (sr [oM 0 15 1,oE 1 16 .lss 15 0] (.cond (.t 16) (sr [oP 0 4 (.mov (.c (.int .i64 (-1))))] .ret) .skip)) (sr [oM 0 17 1,oM 1 4 17] .ret))
@[go_sem] theorem qh2:CE qC0.eq_1:=CEM qC0.eq_1
def Xn:qN:=⟨2,18,[.t 4],sr [oP 0 2 (.lbox 5 (.t 0)),oC 1 4 0] (sr qC1 (.seq (sr [oM 0 9 1,oE 1 10 .lss 9 0] (.cond (.t 10) (sr [oP 0 4 (.mov (.c (.int .i64 (-1))))] .ret) .skip)) qC0))⟩
def qIP:List qB:=[oU 0 5 2,oX 1 6 2 2,oM 2 7 1,oD2 3 8 338 6 7,oM 4 1 8]
@[go_sem] theorem qnY:OE qIP.eq_1:=OEM qIP.eq_1
def qIQ:List qB:=[oU 0 11 2,oY 1 12 2 3 5,oM 2 13 1,oD2 3 14 455 12 13,oM 4 1 14]
@[go_sem] theorem qnZ:OE qIQ.eq_1:=OEM qIQ.eq_1
def qIO:qL:=sr qIQ (.seq (sr [oM 0 15 1,oE 1 16 .lss 15 0] (.cond (.t 16) (sr [oP 0 4 (.mov (.c (.int .i64 (-1))))] .ret) .skip)) (sr [oM 0 17 1,oM 1 4 17] .ret))
@[go_sem] theorem qnX:CE qIO.eq_1:=CEM qIO.eq_1
def Ye:qN:=⟨2,18,[.t 4],sr [oP 0 2 (.lbox 8 (.t 0)),oC 1 4 0] (sr qIP (.seq (sr [oM 0 9 1,oE 1 10 .lss 9 0] (.cond (.t 10) (sr [oP 0 4 (.mov (.c (.int .i64 (-1))))] .ret) .skip)) qIO))⟩
def F456:qN:=szS 8 (some 8) 817
def qIS:List qB:=[oU 0 5 2,oY 1 6 2 1 5,oM 2 7 1,oD2 3 8 455 6 7,oM 4 1 8]
@[go_sem] theorem qn1:OE qIS.eq_1:=OEM qIS.eq_1
def qIR:qL:=sr qIS (.seq (sr [oM 0 9 1,oE 1 10 .lss 9 0] (.cond (.t 10) (sr [oP 0 4 (.mov (.c (.int .i64 (-1))))] .ret) .skip)) (sr [oM 0 11 1,oM 1 4 11] .ret))
@[go_sem] theorem qn0:CE qIR.eq_1:=CEM qIR.eq_1
def Yf:qN:=⟨2,12,[.t 4],sr [oP 0 2 (.lbox 6 (.t 0)),oC 1 4 0] qIR⟩
def F457:qN:=szS 6 (some 6) 818
def qAK:List qB:=[oU 0 5 2,oY 1 6 2 0 5,oM 2 7 1,oD2 3 8 455 6 7,oM 4 1 8]
@[go_sem] theorem qfE:OE qAK.eq_1:=OEM qAK.eq_1
def qAL:List qB:=[oU 0 11 2,oX 1 12 2 5,oM 2 13 1,oD2 3 14 456 12 13,oM 4 1 14]
@[go_sem] theorem qfF:OE qAL.eq_1:=OEM qAL.eq_1
def qAM:List qB:=[oU 0 17 2,oX 1 18 2 6,oM 2 19 1,oD2 3 20 457 18 19,oM 4 1 20]
@[go_sem] theorem qfG:OE qAM.eq_1:=OEM qAM.eq_1
def qAI:qL:=sr qAM (.seq (sr [oM 0 21 1,oE 1 22 .lss 21 0] (.cond (.t 22) (sr [oP 0 4 (.mov (.c (.int .i64 (-1))))] .ret) .skip)) (sr [oM 0 23 1,oM 1 4 23] .ret))
@[go_sem] theorem qfC:CE qAI.eq_1:=CEM qAI.eq_1
def qAJ:qL:=.seq (sr [oM 0 9 1,oE 1 10 .lss 9 0] (.cond (.t 10) (sr [oP 0 4 (.mov (.c (.int .i64 (-1))))] .ret) .skip)) (sr qAL (.seq (sr [oM 0 15 1,oE 1 16 .lss 15 0] (.cond (.t 16) (sr [oP 0 4 (.mov (.c (.int .i64 (-1))))] .ret) .skip)) qAI))
@[go_sem] theorem qfD:CE qAJ.eq_1:=CEM qAJ.eq_1
def XN:qN:=⟨2,24,[.t 4],sr [oP 0 2 (.lbox 7 (.t 0)),oC 1 4 0] (sr qAK qAJ)⟩
def qIV:List qB:=[oM 0 7 3,oM 1 8 0,oK 2 9 8,oF 3 10 0 9,oL 4 11 10,oW 5 12 11,oB 6 13 .lss 7 12]
@[go_sem] theorem qn4:OE qIV.eq_1:=OEM qIV.eq_1
def qIW:List qB:=[oM 0 16 0,oK 1 17 16,oF 2 18 0 17,oL 3 19 18,oM 4 20 3,oA 5 21 4 19 20,oD1 6 22 724 21,oJ 7 23 22]
@[go_sem] theorem qn5:OE qIW.eq_1:=OEM qIW.eq_1
def qIT:qL:=.loop (.seq (sr qIV (.cond (.t 13) .skip (.exit 0))) (.seq (.blk 1 (sr qIW (.cond (.t 23) (sr [oQ 0 2 false] .ret) .skip))) (.reg true [oM 0 14 3,oE 1 15 .add 14 1,oM 2 3 15])))
@[go_sem] theorem qn2:CE qIT.eq_1:=CEM qIT.eq_1
def qIU:qL:=.seq (sr [oM 0 4 0,oD1 1 5 579 4,oJ 2 6 5] (.cond (.t 6) (sr [oQ 0 2 false] .ret) .skip)) (.seq (sr [oC 0 3 0] (.blk 0 qIT)) (sr [oQ 0 2 true] .ret))
@[go_sem] theorem qn3:CE qIU.eq_1:=CEM qIU.eq_1
def Yg:qN:=⟨1,24,[.t 2],sr [oQ 0 2 false] qIU⟩
def qIY:List qB:=[oM 0 8 1,oK 1 9 8,oF 2 10 0 9,oD1 3 11 642 10,oJ 4 12 11,oM 5 13 12,oH 6 14 13 false 1,oG 7 15 13 false (.nilchk (.t 14)),oG 8 16 13 false (.faddr 0 (.t 15)),oG 9 17 13 false (.call 724 [.t 16]),oG 10 18 13 false (.not (.t 17)),oPt 11 19 13 18,oM 12 20 19,oH 13 21 20 false 1,oG 14 22 20 false (.nilchk (.t 21)),oG 15 23 20 false (.faddr 0 (.t 22)),oH 16 24 20 false 0,oG 17 25 20 false (.nilchk (.t 24)),oG 18 26 20 false (.faddr 0 (.t 25)),oG 19 27 20 false (.load none (.t 26)),oG 20 28 20 false (.len (.t 27)),oG 21 29 20 false (.call 725 [.t 23,.t 28]),oG 22 30 20 false (.not (.t 29)),oPt 23 31 20 30,oM 24 32 31,oH 25 33 32 false 1,oG 26 34 32 false (.nilchk (.t 33)),oG 27 35 32 false (.faddr 0 (.t 34)),oH 28 36 32 false 1,oG 29 37 32 false (.nilchk (.t 36)),oG 30 38 32 false (.faddr 4 (.t 37)),oG 31 39 32 false (.load none (.t 38)),oG 32 40 32 false (.len (.t 39)),oG 33 41 32 false (.call 878 [.t 35,.t 40]),oPt 34 42 32 41,oM 35 43 42,oH 36 44 43 false 1,oG 37 45 43 false (.nilchk (.t 44)),oG 38 46 43 false (.faddr 4 (.t 45)),oG 39 47 43 false (.load none (.t 46)),oG 40 48 43 false (.len (.t 47)),oG 41 49 43 false (.bin .gtr (.t 48) (.c (.int .i64 256))),oPt 42 50 43 49]
@[go_sem] theorem qn7:OE qIY.eq_1:=OEM qIY.eq_1
def qIZ:List qB:=[oM 0 51 7,oM 1 52 1,oK 2 53 52,oF 3 54 4 53,oL 4 55 54,oW 5 56 55,oB 6 57 .lss 51 56]
@[go_sem] theorem qn8:OE qIZ.eq_1:=OEM qIZ.eq_1
def qI0:List qB:=[oM 0 60 1,oK 1 61 60,oF 2 62 4 61,oL 3 63 62,oM 4 64 7,oA 5 65 1 63 64,oL 6 66 65,oM 7 67 2,oE 8 68 .sub 67 1,oP 9 69 (.call 340 [.t 66,.c (.int .i64 0),.t 68]),oJ 10 70 69]
@[go_sem] theorem qn9:OE qI0.eq_1:=OEM qI0.eq_1
def qIX:qL:=.loop (.seq (sr qIZ (.cond (.t 57) .skip (.exit 0))) (.seq (.blk 1 (sr qI0 (.cond (.t 70) (sr [oQ 0 6 false] .ret) .skip))) (.reg true [oM 0 58 7,oE 1 59 .add 58 1,oM 2 7 59])))
@[go_sem] theorem qn6:CE qIX.eq_1:=CEM qIX.eq_1
def Yh:qN:=⟨3,71,[.t 6],sr [oQ 0 6 false] (.seq (sr qIY (.cond (.t 50) (sr [oQ 0 6 false] .ret) .skip)) (.seq (sr [oC 0 7 0] (.blk 0 qIX)) (sr [oQ 0 6 true] .ret)))⟩
def K4:List qB:=[oM 0 3 0,oK 1 4 3,oF 2 5 0 4,oF 3 6 0 5,oL 4 7 6,oE 5 8 .eql 7 0,oM 6 9 8,oH 7 10 9 true 0,oG 8 11 9 true (.nilchk (.t 10)),oG 9 12 9 true (.faddr 0 (.t 11)),oG 10 13 9 true (.faddr 1 (.t 12)),oG 11 14 9 true (.load none (.t 13)),oG 12 15 9 true (.bin .eql (.t 14) (.c (.int .i64 0))),oPf 13 16 9 15,oM 14 17 16,oH 15 18 17 true 0,oG 16 19 17 true (.nilchk (.t 18)),oG 17 20 17 true (.faddr 0 (.t 19)),oG 18 21 17 true (.faddr 2 (.t 20)),oG 19 22 17 true (.load none (.t 21)),oG 20 23 17 true (.len (.t 22)),oG 21 24 17 true (.bin .eql (.t 23) (.c (.int .i64 0))),oPf 22 25 17 24,oM 23 26 25,oH 24 27 26 true 0,oG 25 28 26 true (.nilchk (.t 27)),oG 26 29 26 true (.faddr 0 (.t 28)),oG 27 30 26 true (.faddr 3 (.t 29)),oG 28 31 26 true (.load none (.t 30)),oG 29 32 26 true (.len (.t 31)),oG 30 33 26 true (.bin .eql (.t 32) (.c (.int .i64 0))),oPf 31 34 26 33,oM 32 35 34,oH 33 36 35 true 0,oG 34 37 35 true (.nilchk (.t 36)),oG 35 38 35 true (.faddr 4 (.t 37)),oG 36 39 35 true (.load none (.t 38)),oG 37 40 35 true (.len (.t 39)),oG 38 41 35 true (.bin .eql (.t 40) (.c (.int .i64 0))),oPf 39 42 35 41,oM 40 2 42]
@[go_sem] theorem qc8:OE K4.eq_1:=OEM K4.eq_1
def Wq:qN:=⟨1,43,[.t 2],sr [oQ 0 2 false] (sr K4 .ret)⟩
def K6:List qB:=[oM 0 6 5,oM 1 7 1,oW 2 8 7,oB 3 9 .lss 6 8]
@[go_sem] theorem qdA:OE K6.eq_1:=OEM K6.eq_1
def K7:List qB:=[oM 0 12 1,oM 1 13 5,oA 2 14 1 12 13,oL 3 15 14,oM 4 16 0,oK 5 17 16,oF 6 18 0 17,oL 7 19 18,oW 8 20 19,oE 9 21 .sub 20 1,oP 10 22 (.call 340 [.t 15,.c (.int .i64 0),.t 21]),oJ 11 23 22]
@[go_sem] theorem qdB:OE K7.eq_1:=OEM K7.eq_1
def K5:qL:=.loop (.seq (sr K6 (.cond (.t 9) .skip (.exit 0))) (.seq (.blk 1 (sr K7 (.cond (.t 23) (sr [oQ 0 4 false] .ret) .skip))) (.reg true [oM 0 10 5,oE 1 11 .add 10 1,oM 2 5 11])))
@[go_sem] theorem qc9:CE K5.eq_1:=CEM K5.eq_1
def Wr:qN:=⟨2,24,[.t 4],sr [oQ 0 4 false] (.seq (sr [oC 0 5 0] (.blk 0 K5)) (sr [oQ 0 4 true] .ret))⟩
def qI3:List qB:=[oM 0 7 1,oK 1 8 7,oF 2 9 0 8,oL 3 10 9,oE 4 11 .eql 10 3]
@[go_sem] theorem qoC:OE qI3.eq_1:=OEM qI3.eq_1
def qI4:List qB:=[oM 0 12 1,oK 1 13 12,oF 2 14 1 13,oL 3 15 14,oP 4 16 (.call 340 [.t 15,.c (.int .i64 1),.c (.int .i64 6)]),oM 5 17 16,oH 6 18 17 true 1,oG 7 19 17 true (.nilchk (.t 18)),oG 8 20 17 true (.faddr 2 (.t 19)),oG 9 21 17 true (.load none (.t 20)),oG 10 22 17 true (.len (.t 21)),oG 11 23 17 true (.bin .eql (.t 22) (.c (.int .i64 0))),oPf 12 24 17 23,oM 13 25 24,oH 14 26 25 true 0,oH 15 27 25 true 1,oG 16 28 25 true (.nilchk (.t 27)),oG 17 29 25 true (.faddr 3 (.t 28)),oH 18 30 25 true 2,oG 19 31 25 true (.call 820 [.t 26,.t 29,.t 30]),oPf 20 32 25 31,oM 21 6 32]
@[go_sem] theorem qoD:OE qI4.eq_1:=OEM qI4.eq_1
def qI5:List qB:=[oM 0 33 1,oK 1 34 33,oF 2 35 3 34,oD1 3 36 1147 35,oJ 4 37 36]
@[go_sem] theorem qoE:OE qI5.eq_1:=OEM qI5.eq_1
def qI6:List qB:=[oM 0 38 1,oK 1 39 38,oF 2 40 0 39,oL 3 41 40]
@[go_sem] theorem qoF:OE qI6.eq_1:=OEM qI6.eq_1
def qI7:List qB:=[oM 0 45 1,oK 1 46 45,oF 2 47 1 46,oL 3 48 47,oM 4 49 2,oE 5 50 .sub 49 1,oP 6 51 (.call 340 [.t 48,.c (.int .i64 0),.t 50]),oM 7 52 51,oH 8 53 52 true 1,oG 9 54 52 true (.nilchk (.t 53)),oG 10 55 52 true (.faddr 2 (.t 54)),oG 11 56 52 true (.load none (.t 55)),oG 12 57 52 true (.len (.t 56)),oG 13 58 52 true (.bin .eql (.t 57) (.c (.int .i64 0))),oPf 14 59 52 58,oM 15 6 59]
@[go_sem] theorem qoG:OE qI7.eq_1:=OEM qI7.eq_1
def qI8:List qB:=[oM 0 62 1,oK 1 63 62,oF 2 64 1 63,oL 3 65 64,oP 4 66 (.call 340 [.t 65,.c (.int .i64 1),.c (.int .i64 6)]),oM 5 67 66,oH 6 68 67 true 1,oG 7 69 67 true (.nilchk (.t 68)),oG 8 70 67 true (.faddr 2 (.t 69)),oG 9 71 67 true (.load none (.t 70)),oG 10 72 67 true (.len (.t 71)),oG 11 73 67 true (.bin .eql (.t 72) (.c (.int .i64 1))),oPf 12 74 67 73,oM 13 75 74,oH 14 76 75 true 1,oG 15 77 75 true (.nilchk (.t 76)),oG 16 78 75 true (.faddr 2 (.t 77)),oG 17 79 75 true (.load none (.t 78)),oG 18 80 75 true (.iaddr 1 (.t 79) (.c (.int .i64 0))),oG 19 81 75 true (.load none (.t 80)),oG 20 82 75 true (.call 340 [.t 81,.c (.int .i64 (-2147483648)),.c (.int .i64 2147483647)]),oPf 21 83 75 82,oM 22 6 83]
@[go_sem] theorem qoH:OE qI8.eq_1:=OEM qI8.eq_1
def qI9:List qB:=[oM 0 86 1,oK 1 87 86,oF 2 88 1 87,oL 3 89 88,oE 4 90 .eql 89 0,oM 5 91 90,oH 6 92 91 true 1,oG 7 93 91 true (.nilchk (.t 92)),oG 8 94 91 true (.faddr 2 (.t 93)),oG 9 95 91 true (.load none (.t 94)),oG 10 96 91 true (.len (.t 95)),oG 11 97 91 true (.call 340 [.t 96,.c (.int .i64 1),.c (.int .i64 4)]),oPf 12 98 91 97,oM 13 99 98,oH 14 100 99 true 0,oH 15 101 99 true 1,oG 16 102 99 true (.nilchk (.t 101)),oG 17 103 99 true (.faddr 2 (.t 102)),oG 18 104 99 true (.load none (.t 103)),oG 19 105 99 true (.call 1148 [.t 100,.t 104]),oPf 20 106 99 105,oM 21 6 106]
@[go_sem] theorem qoI:OE qI9.eq_1:=OEM qI9.eq_1
def qJA:List qB:=[oM 0 109 1,oK 1 110 109,oF 2 111 1 110,oL 3 112 111,oE 4 113 .eql 112 0,oM 5 114 113,oH 6 115 114 true 1,oG 7 116 114 true (.nilchk (.t 115)),oG 8 117 114 true (.faddr 2 (.t 116)),oG 9 118 114 true (.load none (.t 117)),oG 10 119 114 true (.len (.t 118)),oG 11 120 114 true (.bin .eql (.t 119) (.c (.int .i64 2))),oPf 12 121 114 120,oM 13 122 121,oH 14 123 122 true 0,oH 15 124 122 true 1,oG 16 125 122 true (.nilchk (.t 124)),oG 17 126 122 true (.faddr 2 (.t 125)),oG 18 127 122 true (.load none (.t 126)),oG 19 128 122 true (.call 1148 [.t 123,.t 127]),oPf 20 129 122 128,oM 21 6 129]
@[go_sem] theorem qoJ:OE qJA.eq_1:=OEM qJA.eq_1
def qI1:qL:=.cond (.t 60) (sr qI8 .ret) (sr [oE 0 85 .eql 41 5,oM 1 84 85] (.cond (.t 84) (sr qI9 .ret) (sr [oE 0 108 .eql 41 6,oM 1 107 108] (.cond (.t 107) (sr qJA .ret) .skip))))
@[go_sem] theorem qoA:CE qI1.eq_1:=CEM qI1.eq_1
def qI2:qL:=.seq (sr [oE 0 43 .eql 41 1,oM 1 42 43] (.cond (.t 42) .skip (.reg true [oE 0 44 .eql 41 2,oM 1 42 44]))) (.cond (.t 42) (sr qI7 .ret) (sr [oE 0 61 .eql 41 4,oM 1 60 61] qI1))
@[go_sem] theorem qoB:CE qI2.eq_1:=CEM qI2.eq_1
def Yi:qN:=⟨3,130,[.t 6],sr [oQ 0 6 false] (.seq (sr qI3 (.cond (.t 11) (sr qI4 .ret) .skip)) (.seq (sr qI5 (.cond (.t 37) (sr [oQ 0 6 false] .ret) .skip)) (.seq (sr qI6 (.blk 0 qI2)) (sr [oQ 0 6 false] .ret))))⟩
def qC6:List qB:=[oM 0 9 1,oK 1 10 9,oF 2 11 6 10,oL 3 12 11,oW 4 13 12,oM 5 5 13]
@[go_sem] theorem qh8:OE qC6.eq_1:=OEM qC6.eq_1
def qC7:List qB:=[oM 0 14 0,oD1 1 15 819 14,oJ 2 16 15,oM 3 17 16,oH 4 18 17 false 5,oG 5 19 17 false (.bin .gtr (.t 18) (.c (.int .i64 2000))),oPt 6 20 17 19,oM 7 21 20,oH 8 22 21 false 1,oG 9 23 21 false (.nilchk (.t 22)),oG 10 24 21 false (.faddr 5 (.t 23)),oG 11 25 21 false (.load none (.t 24)),oG 12 26 21 false (.len (.t 25)),oG 13 27 21 false (.bin .gtr (.t 26) (.c (.int .i64 400))),oPt 14 28 21 27,oM 15 29 28,oH 16 30 29 false 0,oH 17 31 29 false 1,oG 18 32 29 false (.nilchk (.t 31)),oG 19 33 29 false (.faddr 0 (.t 32)),oH 20 34 29 false 5,oG 21 35 29 false (.call 820 [.t 30,.t 33,.t 34]),oG 22 36 29 false (.not (.t 35)),oPt 23 37 29 36]
@[go_sem] theorem qh9:OE qC7.eq_1:=OEM qC7.eq_1
def qC8:List qB:=[oM 0 38 6,oM 1 39 1,oK 2 40 39,oF 3 41 5 40,oL 4 42 41,oW 5 43 42,oB 6 44 .lss 38 43]
@[go_sem] theorem qiA:OE qC8.eq_1:=OEM qC8.eq_1
def qC9:List qB:=[oM 0 47 0,oM 1 48 1,oK 2 49 48,oF 3 50 5 49,oL 4 51 50,oM 5 52 6,oA 6 53 8 51 52,oM 7 54 5,oP 8 55 (.call 821 [.t 47,.t 53,.t 54]),oJ 9 56 55]
@[go_sem] theorem qiB:OE qC9.eq_1:=OEM qC9.eq_1
def qC3:qL:=.loop (.seq (sr qC8 (.cond (.t 44) .skip (.exit 0))) (.seq (.blk 1 (sr qC9 (.cond (.t 56) (sr [oQ 0 4 false] .ret) .skip))) (.reg true [oM 0 45 6,oE 1 46 .add 45 1,oM 2 6 46])))
@[go_sem] theorem qh5:CE qC3.eq_1:=CEM qC3.eq_1
def qDA:List qB:=[oM 0 57 7,oM 1 58 1,oK 2 59 58,oF 3 60 6 59,oL 4 61 60,oW 5 62 61,oB 6 63 .lss 57 62]
@[go_sem] theorem qiC:OE qDA.eq_1:=OEM qDA.eq_1
def qDB:List qB:=[oM 0 66 1,oK 1 67 66,oF 2 68 6 67,oL 3 69 68,oM 4 70 7,oA 5 71 6 69 70,oM 6 8 71]
@[go_sem] theorem qiD:OE qDB.eq_1:=OEM qDB.eq_1
def qDC:List qB:=[oM 0 72 0,oM 1 73 8,oK 2 74 73,oF 3 75 1 74,oM 4 76 5,oP 5 77 (.call 820 [.t 72,.t 75,.t 76]),oJ 6 78 77,oM 7 79 78,oH 8 80 79 false 8,oG 9 81 79 false (.nilchk (.t 80)),oG 10 82 79 false (.faddr 0 (.t 81)),oG 11 83 79 false (.load none (.t 82)),oH 12 84 79 false 83,oH 13 85 84 true 8,oG 14 86 84 true (.nilchk (.t 85)),oG 15 87 84 true (.faddr 1 (.t 86)),oG 16 88 84 true (.call 822 [.t 87]),oG 17 89 84 true (.not (.t 88)),oG 18 90 79 false (.pick (.t 84) (.t 89) (.c (.bool false))),oPt 19 91 79 90]
@[go_sem] theorem qiE:OE qDC.eq_1:=OEM qDC.eq_1
def qC4:qL:=.seq (sr qDA (.cond (.t 63) .skip (.exit 2))) (.seq (.blk 3 (sr qDB (sr qDC (.cond (.t 91) (sr [oQ 0 4 false] .ret) .skip)))) (.reg true [oM 0 64 7,oE 1 65 .add 64 1,oM 2 7 65]))
@[go_sem] theorem qh6:CE qC4.eq_1:=CEM qC4.eq_1
def qC5:qL:=.seq (sr qC7 (.cond (.t 37) (sr [oQ 0 4 false] .ret) .skip)) (.seq (sr [oC 0 6 0] (.blk 0 qC3)) (.seq (sr [oC 0 7 0] (.blk 2 (.loop qC4))) (sr [oQ 0 4 true] .ret)))
@[go_sem] theorem qh7:CE qC5.eq_1:=CEM qC5.eq_1
def Xo:qN:=⟨2,92,[.t 4],sr [oQ 0 4 false] (sr qC6 qC5)⟩
def qJE:List qB:=[oM 0 4 0,oK 1 5 4,oF 2 6 4 5,oL 3 7 6,oD1 4 8 402 7,oP 5 9 (.build (.agg [.int .i64 0,.int .i64 0,.nils,.nils,.nils]) [(4,1,.t 8)]),oP 6 3 (.lalloc (.agg [.int .i64 0,.int .i64 0,.nils,.nils,.nils])),oS 7 3 0 5 9]
@[go_sem] theorem qoN:OE qJE.eq_1:=OEM qJE.eq_1
def qJF:List qB:=[oM 0 10 0,oK 1 11 10,oF 2 12 0 11,oF 3 13 0 12,oL 4 14 13,oE 5 15 .neq 14 0]
@[go_sem] theorem qoO:OE qJF.eq_1:=OEM qJF.eq_1
def qJG:List qB:=[oM 0 16 0,oK 1 17 16,oF 2 18 0 17,oD1 3 19 387 18,oU 4 20 3,oS 5 3 0 4 19]
@[go_sem] theorem qoP:OE qJG.eq_1:=OEM qJG.eq_1
def Yj:qN:=⟨1,22,[.l 2 (some 5)],sr [oP 0 2 (.lalloc (.agg [.int .i64 0,.int .i64 0,.nils,.nils,.nils]))] (sr qJE (.seq (sr qJF (.cond (.t 15) (.reg true qJG) .skip)) (sr [oY 0 21 3 0 5,oS 1 2 0 5 21] .ret)))⟩
def qDF:List qB:=[oM 0 7 0,oK 1 8 7,oF 2 9 0 8,oD1 3 10 823 9,oP 4 11 (.build (.agg [.int .i64 0,.int .i64 0,.nils,.nils,.nils,.nils,.nils]) [(0,5,.t 10)]),oP 5 3 (.lalloc (.agg [.int .i64 0,.int .i64 0,.nils,.nils,.nils,.nils,.nils])),oS 6 3 0 7 11]
@[go_sem] theorem qiI:OE qDF.eq_1:=OEM qDF.eq_1
def qDG:List qB:=[oM 0 12 4,oM 1 13 0,oK 2 14 13,oF 3 15 5 14,oL 4 16 15,oW 5 17 16,oB 6 18 .lss 12 17]
@[go_sem] theorem qiJ:OE qDG.eq_1:=OEM qDG.eq_1
def qDH:List qB:=[oM 0 21 0,oK 1 22 21,oF 2 23 5 22,oL 3 24 23,oM 4 25 4,oA 5 26 8 24 25,oM 6 5 26]
@[go_sem] theorem qiK:OE qDH.eq_1:=OEM qDH.eq_1
def qDI:List qB:=[oU 0 27 3,oX 1 28 3 5,oM 2 29 5,oK 3 30 29,oF 4 31 0 30,oL 5 32 31,oM 6 33 5,oK 7 34 33,oF 8 35 1 34,oL 9 36 35,oM 10 37 5,oK 11 38 37,oF 12 39 2 38,oL 13 40 39,oM 15 42 5,oK 16 43 42,oF 17 44 3 43,⟨14,some 41,none,.call 402 [.t 40],[⟨5,some 32,none,.load none (.t 31),[]⟩,⟨9,some 36,none,.load none (.t 35),[]⟩]⟩,⟨18,some 45,none,.call 823 [.t 44],[⟨5,some 32,none,.load none (.t 31),[]⟩,⟨9,some 36,none,.load none (.t 35),[]⟩]⟩,oP 19 46 (.build (.agg [.int .i64 0,.int .i64 0,.nils,.int .i64 0,.int .i64 0,.nils,.nils,.nils]) [(0,1,.t 32),(1,1,.t 36),(2,1,.t 41),(3,5,.t 45)]),oP 20 47 (.bslice 8 (.agg [.int .i64 0,.int .i64 0,.nils,.int .i64 0,.int .i64 0,.nils,.nils,.nils]) 1 [(0,.t 46)]),oP 21 48 (.app 8 (.t 28) (.t 47)),oU 22 49 3,oS 23 3 5 1 48]
@[go_sem] theorem qiL:OE qDI.eq_1:=OEM qDI.eq_1
def Xr:qL:=.loop (.seq (sr qDG (.cond (.t 18) .skip (.exit 0))) (.seq (.blk 1 (sr qDH (.reg true qDI))) (.reg true [oM 0 19 4,oE 1 20 .add 19 1,oM 2 4 20])))
@[go_sem] theorem qiG:CE Xr.eq_1:=CEM Xr.eq_1
def qDJ:List qB:=[oM 0 50 6,oM 1 51 0,oK 2 52 51,oF 3 53 6 52,oL 4 54 53,oW 5 55 54,oB 6 56 .lss 50 55]
@[go_sem] theorem qiM:OE qDJ.eq_1:=OEM qDJ.eq_1
def qDK:List qB:=[oU 0 59 3,oX 1 60 3 6,oM 2 61 0,oK 3 62 61,oF 4 63 6 62,oL 5 64 63,oM 6 65 6,oA 7 66 6 64 65,oF 8 67 0 66,oL 9 68 67,oM 10 69 0,oK 11 70 69,oF 12 71 6 70,oL 13 72 71,oM 14 73 6,oA 15 74 6 72 73,oF 16 75 1 74,⟨17,some 76,none,.call 823 [.t 75],[⟨5,some 64,none,.load none (.t 63),[]⟩,⟨9,some 68,none,.load none (.t 67),[]⟩]⟩,oP 18 77 (.build (.agg [.bool false,.int .i64 0,.int .i64 0,.nils,.nils,.nils]) [(0,1,.t 68),(1,5,.t 76)]),oP 19 78 (.bslice 6 (.agg [.bool false,.int .i64 0,.int .i64 0,.nils,.nils,.nils]) 1 [(0,.t 77)]),oP 20 79 (.app 6 (.t 60) (.t 78)),oU 21 80 3,oS 22 3 6 1 79]
@[go_sem] theorem qiN:OE qDK.eq_1:=OEM qDK.eq_1
def qDE:qL:=sr [oC 0 6 0] (.blk 2 (.loop (.seq (sr qDJ (.cond (.t 56) .skip (.exit 2))) (.seq (.blk 3 (.reg true qDK)) (.reg true [oM 0 57 6,oE 1 58 .add 57 1,oM 2 6 58])))))
@[go_sem] theorem qiH:CE qDE.eq_1:=CEM qDE.eq_1
def Xq:qN:=⟨1,82,[.l 2 (some 7)],sr [oP 0 2 (.lalloc (.agg [.int .i64 0,.int .i64 0,.nils,.nils,.nils,.nils,.nils]))] (sr qDF (.seq (sr [oC 0 4 0] (.blk 0 Xr)) (.seq qDE (sr [oY 0 81 3 0 7,oS 1 2 0 7 81] .ret))))⟩
def qDO:List qB:=[oU 0 4 1,oY 1 5 1 0 4,oD1 2 6 83 5,oU 3 7 3,oS 4 3 0 4 6]
@[go_sem] theorem qiR:OE qDO.eq_1:=OEM qDO.eq_1
def qDP:List qB:=[oU 0 8 1,oX 1 9 1 4,oD1 2 10 147 9,oU 3 11 3,oS 4 3 4 1 10]
@[go_sem] theorem qiS:OE qDP.eq_1:=OEM qDP.eq_1
def Za:qN:=⟨1,13,[.l 2 (some 5)],sr [oP 0 1 (.lbox 5 (.t 0)),oP 1 2 (.lalloc (.agg [.int .i64 0,.int .i64 0,.nils,.nils,.nils]))] (sr [oP 0 3 (.lalloc (.agg [.int .i64 0,.int .i64 0,.nils,.nils,.nils]))] (sr qDO (sr qDP (sr [oY 0 12 3 0 5,oS 1 2 0 5 12] .ret))))⟩
def qJL:List qB:=[oU 0 4 1,oX 1 5 1 0,oU 2 6 3,oS 3 3 0 1 5]
@[go_sem] theorem qpC:OE qJL.eq_1:=OEM qJL.eq_1
def qJM:List qB:=[oU 0 7 1,oX 1 8 1 1,oU 2 9 3,oS 3 3 1 1 8]
@[go_sem] theorem qpD:OE qJM.eq_1:=OEM qJM.eq_1
def qJN:List qB:=[oU 0 10 1,oX 1 11 1 2,oD1 2 12 147 11,oU 3 13 3,oS 4 3 2 1 12]
@[go_sem] theorem qpE:OE qJN.eq_1:=OEM qJN.eq_1
def qJO:List qB:=[oU 0 14 1,oY 1 15 1 3 5,oD1 2 16 462 15,oU 3 17 3,oS 4 3 3 5 16]
@[go_sem] theorem qpF:OE qJO.eq_1:=OEM qJO.eq_1
def qJK:qL:=sr [oP 0 3 (.lalloc (.agg [.int .i64 0,.int .i64 0,.nils,.int .i64 0,.int .i64 0,.nils,.nils,.nils]))] (sr qJL (sr qJM (sr qJN (sr qJO (sr [oY 0 18 3 0 8,oS 1 2 0 8 18] .ret)))))
@[go_sem] theorem qpB:CE qJK.eq_1:=CEM qJK.eq_1
def Zc:qN:=⟨1,19,[.l 2 (some 8)],sr [oP 0 1 (.lbox 8 (.t 0)),oP 1 2 (.lalloc (.agg [.int .i64 0,.int .i64 0,.nils,.int .i64 0,.int .i64 0,.nils,.nils,.nils]))] qJK⟩
def F463:qN:=toS 8 (some 8) (.agg [.int .i64 0,.int .i64 0,.nils,.int .i64 0,.int .i64 0,.nils,.nils,.nils]) 825
def qJP:List qB:=[oU 0 4 1,oX 1 5 1 0,oU 2 6 3,oS 3 3 0 1 5]
@[go_sem] theorem qpG:OE qJP.eq_1:=OEM qJP.eq_1
def qJQ:List qB:=[oU 0 7 1,oY 1 8 1 1 5,oD1 2 9 462 8,oU 3 10 3,oS 4 3 1 5 9]
@[go_sem] theorem qpH:OE qJQ.eq_1:=OEM qJQ.eq_1
def Zd:qN:=⟨1,12,[.l 2 (some 6)],sr [oP 0 1 (.lbox 6 (.t 0)),oP 1 2 (.lalloc (.agg [.bool false,.int .i64 0,.int .i64 0,.nils,.nils,.nils]))] (sr [oP 0 3 (.lalloc (.agg [.bool false,.int .i64 0,.int .i64 0,.nils,.nils,.nils]))] (sr qJP (sr qJQ (sr [oY 0 11 3 0 6,oS 1 2 0 6 11] .ret))))⟩
def F464:qN:=toS 6 (some 6) (.agg [.bool false,.int .i64 0,.int .i64 0,.nils,.nils,.nils]) 826
def qAN:List qB:=[oU 0 4 1,oY 1 5 1 0 5,oD1 2 6 462 5,oU 3 7 3,oS 4 3 0 5 6]
@[go_sem] theorem qfH:OE qAN.eq_1:=OEM qAN.eq_1
def qAO:List qB:=[oU 0 8 1,oX 1 9 1 5,oD1 2 10 463 9,oU 3 11 3,oS 4 3 5 1 10]
@[go_sem] theorem qfI:OE qAO.eq_1:=OEM qAO.eq_1
def qAP:List qB:=[oU 0 12 1,oX 1 13 1 6,oD1 2 14 464 13,oU 3 15 3,oS 4 3 6 1 14]
@[go_sem] theorem qfJ:OE qAP.eq_1:=OEM qAP.eq_1
def ZZ:qN:=⟨1,17,[.l 2 (some 7)],sr [oP 0 1 (.lbox 7 (.t 0)),oP 1 2 (.lalloc (.agg [.int .i64 0,.int .i64 0,.nils,.nils,.nils,.nils,.nils]))] (sr [oP 0 3 (.lalloc (.agg [.int .i64 0,.int .i64 0,.nils,.nils,.nils,.nils,.nils]))] (sr qAN (sr qAO (sr qAP (sr [oY 0 16 3 0 7,oS 1 2 0 7 16] .ret)))))⟩
def KS:List qB:=[oM 0 5 1,oE 1 6 .geq 5 0,oM 2 7 6,oH 3 8 7 true 1,oH 4 9 7 true 0,oG 5 10 7 true (.nilchk (.t 9)),oG 6 11 7 true (.faddr 6 (.t 10)),oG 7 12 7 true (.load none (.t 11)),oG 8 13 7 true (.len (.t 12)),oG 9 14 7 true (.bin .lss (.t 8) (.t 13)),oPf 10 15 7 14,oM 11 4 15]
@[go_sem] theorem qb7:OE KS.eq_1:=OEM KS.eq_1
def Wc:qN:=⟨2,16,[.t 4],sr [oQ 0 4 false] (sr KS .ret)⟩
def KR:List qB:=[oL 0 4 1,oM 1 5 0,oD2 2 6 1047 4 5,oJ 3 7 6,oM 4 3 7]
@[go_sem] theorem qb6:OE KR.eq_1:=OEM KR.eq_1
def Wb:qN:=⟨2,8,[.t 3],sr [oQ 0 3 false] (sr KR .ret)⟩
def qGQ:List qB:=[oP 0 3 (.hbox 1 (.t 0)),oP 1 4 (.lbox 1 (.t 1)),oP 2 5 (.lbox 5 (.t 2)),oQ 3 6 false]
@[go_sem] theorem qlX:OE qGQ.eq_1:=OEM qGQ.eq_1
def qGR:List qB:=[oU 0 7 5,oY 1 8 5 0 4,oD1 2 9 259 8,oJ 3 10 9,oM 4 11 10,oG 5 12 11 false (.nop 5),oG 6 13 11 false (.lload 5 0 (some 4)),oG 7 14 11 false (.nop 4),oG 8 15 11 false (.lload 4 0 none),oG 9 16 11 false (.len (.t 15)),oG 10 17 11 false (.call 847 [.t 13,.t 16]),oG 11 18 11 false (.not (.t 17)),oPt 12 19 11 18,oM 13 20 19,oG 14 21 20 false (.nop 5),oG 15 22 20 false (.lload 5 0 (some 4)),oG 16 23 20 false (.nop 5),oG 17 24 20 false (.lload 5 4 none),oG 18 25 20 false (.len (.t 24)),oG 19 26 20 false (.call 880 [.t 22,.t 25]),oG 20 27 20 false (.not (.t 26)),oPt 21 28 20 27,oM 22 29 28,oG 23 30 29 false (.nop 5),oG 24 31 29 false (.lload 5 4 none),oG 25 32 29 false (.len (.t 31)),oG 26 33 29 false (.bin .gtr (.t 32) (.c (.int .i64 256))),oPt 27 34 29 33]
@[go_sem] theorem qlY:OE qGR.eq_1:=OEM qGR.eq_1
def qGS:List qB:=[oU 0 35 5,oX 1 36 5 4,oP 2 37 (.mkfn 1046 [.t 3]),oD2 3 38 397 36 37,oJ 4 39 38,oM 5 6 39]
@[go_sem] theorem qlZ:OE qGS.eq_1:=OEM qGS.eq_1
def YN:qN:=⟨3,40,[.t 6],sr qGQ (.seq (sr qGR (.cond (.t 34) (sr [oQ 0 6 false] .ret) .skip)) (sr qGS .ret))⟩
def KT:qN:=Qo 8 (some 8)
def F674:qN:=Zo 1048
def qIG:List qB:=[oM 0 6 0,oW 1 7 6,oM 2 8 1,oW 3 9 8,oB 4 10 .neq 7 9]
@[go_sem] theorem qnP:OE qIG.eq_1:=OEM qIG.eq_1
def qIH:List qB:=[oM 0 16 0,oM 1 17 5,oA 2 18 1 16 17,oL 3 19 18,oM 4 20 1,oM 5 21 5,oA 6 22 1 20 21,oL 7 23 22,oB 8 24 .neq 19 23]
@[go_sem] theorem qnQ:OE qIH.eq_1:=OEM qIH.eq_1
def qIE:qL:=.seq (.blk 1 (sr [oM 0 15 13,oM 1 5 15] (sr qIH (.cond (.t 24) (sr [oQ 0 4 false] .ret) .skip)))) (.reg true [oE 0 25 .add 13 1,oM 1 13 25])
@[go_sem] theorem qnN:CE qIE.eq_1:=CEM qIE.eq_1
def qIF:qL:=.seq (sr [oM 0 11 0,oW 1 12 11,oC 2 13 0] (.blk 0 (.loop (sr [oB 0 14 .lss 13 12] (.seq (.cond (.t 14) .skip (.exit 0)) qIE))))) (sr [oQ 0 4 true] .ret)
@[go_sem] theorem qnO:CE qIF.eq_1:=CEM qIF.eq_1
def Yc:qN:=⟨2,26,[.t 4],sr [oQ 0 4 false] (.seq (sr qIG (.cond (.t 10) (sr [oQ 0 4 false] .ret) .skip)) qIF)⟩
def qAE:List qB:=[oM 0 10 0,oW 1 11 10,oM 2 12 1,oW 3 13 12,oB 4 14 .neq 11 13]
@[go_sem] theorem qe8:OE qAE.eq_1:=OEM qAE.eq_1
def qAF:List qB:=[oM 0 19 17,oA 1 20 4 15 17,oP 2 21 (.load (some 4) (.t 20)),oZ 3 8,oM 4 7 19,oS 5 8 0 4 21]
@[go_sem] theorem qe9:OE qAF.eq_1:=OEM qAF.eq_1
def qAG:List qB:=[oM 0 22 1,oM 1 23 7,oA 2 24 4 22 23,oP 3 25 (.load (some 4) (.t 24)),oZ 4 9,oS 5 9 0 4 25]
@[go_sem] theorem qfA:OE qAG.eq_1:=OEM qAG.eq_1
def qAH:List qB:=[oM 0 26 2,oY 1 27 8 0 4,oY 2 28 9 0 4,oP 3 29 (.callv (.t 26) [.t 27,.t 28]),oJ 4 30 29]
@[go_sem] theorem qfB:OE qAH.eq_1:=OEM qAH.eq_1
def XM:qL:=sr [oB 0 18 .lss 17 16] (.seq (.cond (.t 18) .skip (.exit 0)) (.seq (.blk 1 (sr qAF (sr qAG (sr qAH (.cond (.t 30) (sr [oQ 0 6 false] .ret) .skip))))) (.reg true [oE 0 31 .add 17 1,oM 1 17 31])))
@[go_sem] theorem qe6:CE XM.eq_1:=CEM XM.eq_1
def qAD:qL:=.seq (sr qAE (.cond (.t 14) (sr [oQ 0 6 false] .ret) .skip)) (.seq (sr [oM 0 15 0,oW 1 16 15,oC 2 17 0] (.blk 0 (.loop XM))) (sr [oQ 0 6 true] .ret))
@[go_sem] theorem qe7:CE qAD.eq_1:=CEM qAD.eq_1
def XL:qN:=⟨3,32,[.t 6],sr [oQ 0 6 false] qAD⟩
def kw:List qB:=[oU 0 5 2,oX 1 6 2 0,oU 2 7 3,oX 3 8 3 0,oB 4 9 .eql 6 8,oM 5 10 9,oG 6 11 10 true (.nop 2),oG 7 12 10 true (.lload 2 1 none),oG 8 13 10 true (.nop 3),oG 9 14 10 true (.lload 3 1 none),oG 10 15 10 true (.bin .eql (.t 12) (.t 14)),oPf 11 16 10 15,oM 12 17 16,oG 13 18 17 true (.nop 2),oG 14 19 17 true (.lload 2 2 none),oG 15 20 17 true (.nop 3),oG 16 21 17 true (.lload 3 2 none),oG 17 22 17 true (.call 788 [.t 19,.t 21]),oPf 18 23 17 22,oM 19 24 23,oG 20 25 24 true (.nop 2),oG 21 26 24 true (.lload 2 3 none),oG 22 27 24 true (.nop 3),oG 23 28 24 true (.lload 3 3 none),oG 24 29 24 true (.call 1475 [.t 26,.t 28,.f 1337]),oPf 25 30 24 29,oM 26 4 30]
@[go_sem] theorem qeY:OE kw.eq_1:=OEM kw.eq_1
def XG:qN:=⟨2,31,[.t 4],sr [oP 0 2 (.lbox 4 (.t 0)),oP 1 3 (.lbox 4 (.t 1)),oQ 2 4 false] (sr kw .ret)⟩
def KU:List qB:=[oU 0 3 1,oY 1 4 1 0 4,oP 2 5 (.build (.agg [.int .i64 0,.int .i64 0,.nils,.nils]) []),oD2 3 6 1337 4 5,oM 4 7 6,oG 5 8 7 true (.nop 1),oG 6 9 7 true (.lload 1 4 none),oG 7 10 7 true (.len (.t 9)),oG 8 11 7 true (.bin .eql (.t 10) (.c (.int .i64 0))),oPf 9 12 7 11,oM 10 2 12]
@[go_sem] theorem qb8:OE KU.eq_1:=OEM KU.eq_1
def Wd:qN:=⟨1,13,[.t 2],sr [oP 0 1 (.lbox 5 (.t 0)),oQ 1 2 false] (sr KU .ret)⟩
def kx:List qB:=[oM 0 4 0,oE 1 5 .lss 4 0,oM 2 6 5,oH 3 7 6 false 0,oG 4 8 6 false (.faddr 0 (.t 1)),oG 5 9 6 false (.load none (.t 8)),oG 6 10 6 false (.len (.t 9)),oG 7 11 6 false (.bin .geq (.t 7) (.t 10)),oPt 8 12 6 11,oM 9 3 12]
@[go_sem] theorem qeZ:OE kx.eq_1:=OEM kx.eq_1
def XH:qN:=⟨2,13,[.t 3],sr [oQ 0 3 false] (sr kx .ret)⟩
def KX:List qB:=[oM 0 5 1,oP 1 6 (.mkfn 1338 [.t 2]),oD2 2 7 397 5 6,oJ 3 8 7,oM 4 4 8]
@[go_sem] theorem qcB:OE KX.eq_1:=OEM KX.eq_1
def Wg:qN:=⟨2,9,[.t 4],sr [oP 0 2 (.hbox 1 (.t 0)),oQ 1 4 false] (sr KX .ret)⟩
def qG2:List qB:=[oU 0 7 5,oX 1 8 5 0,oE 2 9 .neq 8 3,oM 3 10 9,oG 4 11 10 true (.nop 5),oG 5 12 10 true (.lload 5 3 (some 5)),oG 6 13 10 true (.call 1049 [.t 12]),oG 7 14 10 true (.not (.t 13)),oPf 8 15 10 14]
@[go_sem] theorem qmA:OE qG2.eq_1:=OEM qG2.eq_1
def qG3:List qB:=[oM 0 21 0,oU 1 22 5,oX 2 23 5 1,oD2 3 24 1047 21 23,oM 4 25 24,oG 5 26 25 true (.nop 5),oG 6 27 25 true (.lload 5 2 none),oG 7 28 25 true (.len (.t 27)),oG 8 29 25 true (.bin .eql (.t 28) (.c (.int .i64 0))),oPf 9 30 25 29,oM 10 6 30]
@[go_sem] theorem qmB:OE qG3.eq_1:=OEM qG3.eq_1
def qG4:List qB:=[oU 0 33 5,oX 1 34 5 1,oD1 2 35 1050 34,oM 3 36 35,oG 4 37 36 true (.nop 5),oG 5 38 36 true (.lload 5 2 none),oG 6 39 36 true (.len (.t 38)),oG 7 40 36 true (.bin .eql (.t 39) (.c (.int .i64 0))),oPf 8 41 36 40,oM 9 42 41,oH 10 43 42 true 0,oG 11 44 42 true (.lload 4 0 (some 1)),oG 12 45 42 true (.nop 5),oG 13 46 42 true (.lload 5 3 (some 5)),oG 14 47 42 true (.call 672 [.t 43,.t 44,.t 46]),oPf 15 48 42 47,oM 16 6 48]
@[go_sem] theorem qmC:OE qG4.eq_1:=OEM qG4.eq_1
def qG5:List qB:=[oU 0 51 5,oX 1 52 5 1,oD1 2 53 1050 52,oM 3 54 53,oG 4 55 54 true (.nop 5),oG 5 56 54 true (.lload 5 2 none),oG 6 57 54 true (.len (.t 56)),oG 7 58 54 true (.bin .eql (.t 57) (.c (.int .i64 1))),oPf 8 59 54 58,oM 9 60 59,oG 10 61 60 true (.nop 5),oG 11 62 60 true (.lload 5 2 none),oG 12 63 60 true (.iaddr 1 (.t 62) (.c (.int .i64 0))),oG 13 64 60 true (.load none (.t 63)),oG 14 65 60 true (.call 1051 [.t 64]),oPf 15 66 60 65,oM 16 6 66]
@[go_sem] theorem qmD:OE qG5.eq_1:=OEM qG5.eq_1
def qG6:List qB:=[oU 0 69 5,oX 1 70 5 1,oE 2 71 .eql 70 0,oM 3 72 71,oG 4 73 72 true (.nop 5),oG 5 74 72 true (.lload 5 2 none),oG 6 75 72 true (.len (.t 74)),oG 7 76 72 true (.bin .geq (.t 75) (.c (.int .i64 1))),oPf 8 77 72 76,oM 9 78 77,oG 10 79 78 true (.nop 5),oG 11 80 78 true (.lload 5 2 none),oG 12 81 78 true (.len (.t 80)),oG 13 82 78 true (.bin .leq (.t 81) (.c (.int .i64 4))),oPf 14 83 78 82,oM 15 84 83,oG 16 85 84 true (.lload 4 0 (some 1)),oG 17 86 84 true (.nop 5),oG 18 87 84 true (.lload 5 2 none),oG 19 88 84 true (.call 1052 [.t 85,.t 87]),oPf 20 89 84 88,oM 21 6 89]
@[go_sem] theorem qmE:OE qG6.eq_1:=OEM qG6.eq_1
def qG7:List qB:=[oU 0 92 5,oX 1 93 5 1,oE 2 94 .eql 93 0,oM 3 95 94,oG 4 96 95 true (.nop 5),oG 5 97 95 true (.lload 5 2 none),oG 6 98 95 true (.len (.t 97)),oG 7 99 95 true (.bin .eql (.t 98) (.c (.int .i64 2))),oPf 8 100 95 99,oM 9 101 100,oG 10 102 101 true (.lload 4 0 (some 1)),oG 11 103 101 true (.nop 5),oG 12 104 101 true (.lload 5 2 none),oG 13 105 101 true (.call 1052 [.t 102,.t 104]),oPf 14 106 101 105,oM 15 6 106]
@[go_sem] theorem qmF:OE qG7.eq_1:=OEM qG7.eq_1
def YR:qL:=.cond (.t 49) (sr qG5 .ret) (sr [oE 0 68 .eql 17 5,oM 1 67 68] (.cond (.t 67) (sr qG6 .ret) (sr [oE 0 91 .eql 17 6,oM 1 90 91] (.cond (.t 90) (sr qG7 .ret) .skip))))
@[go_sem] theorem ql8:CE YR.eq_1:=CEM YR.eq_1
def qG1:qL:=.seq (sr [oE 0 19 .eql 17 1,oM 1 18 19] (.cond (.t 18) .skip (.reg true [oE 0 20 .eql 17 2,oM 1 18 20]))) (.cond (.t 18) (sr qG3 .ret) (sr [oE 0 32 .eql 17 3,oM 1 31 32] (.cond (.t 31) (sr qG4 .ret) (sr [oE 0 50 .eql 17 4,oM 1 49 50] YR))))
@[go_sem] theorem ql9:CE qG1.eq_1:=CEM qG1.eq_1
def YQ:qN:=⟨3,107,[.t 6],sr [oP 0 4 (.lbox 1 (.t 1)),oP 1 5 (.lbox 8 (.t 2)),oQ 2 6 false] (.seq (sr qG2 (.cond (.t 15) (sr [oQ 0 6 false] .ret) .skip)) (.seq (sr [oU 0 16 5,oX 1 17 5 0] (.blk 0 qG1)) (sr [oQ 0 6 false] .ret)))⟩
def qG0:List qB:=[oP 0 5 (.load (some 1) (.t 2)),oY 1 6 3 0 8,oP 2 7 (.call 676 [.t 1,.t 5,.t 6]),oJ 3 8 7,oM 4 4 8]
@[go_sem] theorem ql7:OE qG0.eq_1:=OEM qG0.eq_1
def YP:qN:=⟨3,9,[.t 4],sr [oP 0 3 (.lbox 8 (.t 0)),oQ 1 4 false] (sr qG0 .ret)⟩
def qB6:List qB:=[oP 0 7 (.load (some 1) (.t 2)),oD1 1 8 671 7,oJ 2 9 8,oM 3 10 9,oG 4 11 10 false (.faddr 6 (.t 3)),oG 5 12 10 false (.load none (.t 11)),oG 6 13 10 false (.len (.t 12)),oG 7 14 10 false (.bin .gtr (.t 13) (.c (.int .i64 2000))),oPt 8 15 10 14,oM 9 16 15,oG 10 17 16 false (.faddr 5 (.t 3)),oG 11 18 16 false (.load none (.t 17)),oG 12 19 16 false (.len (.t 18)),oG 13 20 16 false (.bin .gtr (.t 19) (.c (.int .i64 400))),oPt 14 21 16 20,oM 15 22 21,oG 16 23 22 false (.load (some 1) (.t 2)),oG 17 24 22 false (.faddr 0 (.t 3)),oG 18 25 22 false (.load (some 5) (.t 24)),oG 19 26 22 false (.call 672 [.t 3,.t 23,.t 25]),oG 20 27 22 false (.not (.t 26)),oPt 21 28 22 27]
@[go_sem] theorem qg6:OE qB6.eq_1:=OEM qB6.eq_1
def Xb:List qB:=[oF 0 29 6 3,oL 1 30 29,oW 2 31 30,oC 3 32 0]
@[go_sem] theorem qg7:OE Xb.eq_1:=OEM Xb.eq_1
def qB7:List qB:=[oA 0 34 6 30 32,oP 1 35 (.load (some 6) (.t 34)),oP 2 6 (.lalloc (.agg [.bool false,.int .i64 0,.int .i64 0,.nils,.nils,.nils])),oS 3 6 0 6 35]
@[go_sem] theorem qg8:OE qB7.eq_1:=OEM qB7.eq_1
def Xc:List qB:=[oP 0 36 (.load (some 1) (.t 2)),oU 1 37 6,oY 2 38 6 1 5,oP 3 39 (.call 672 [.t 3,.t 36,.t 38]),oJ 4 40 39,oM 5 41 40,oG 6 42 41 false (.nop 6),oG 7 43 41 false (.lload 6 0 none),oH 8 44 41 false 43,oG 9 45 44 true (.nop 6),oG 10 46 44 true (.lload 6 1 (some 5)),oG 11 47 44 true (.call 673 [.t 46]),oG 12 48 44 true (.not (.t 47)),oG 13 49 41 false (.pick (.t 44) (.t 48) (.c (.bool false))),oPt 14 50 41 49]
@[go_sem] theorem qg9:OE Xc.eq_1:=OEM Xc.eq_1
def Xa:qL:=sr [oB 0 33 .lss 32 31] (.seq (.cond (.t 33) .skip (.exit 0)) (.seq (.blk 1 (sr qB7 (sr Xc (.cond (.t 50) (sr [oQ 0 4 false] .ret) .skip)))) (.reg true [oE 0 51 .add 32 1,oM 1 32 51])))
@[go_sem] theorem qg5:CE Xa.eq_1:=CEM Xa.eq_1
def qB8:List qB:=[oF 0 52 5 3,oL 1 53 52,oP 2 54 (.mkfn 675 [.t 3,.t 2]),oD2 3 55 674 53 54,oJ 4 56 55,oM 5 4 56]
@[go_sem] theorem qhA:OE qB8.eq_1:=OEM qB8.eq_1
def XZ:qN:=⟨2,57,[.t 4],sr [oP 0 2 (.hbox 1 (.t 0)),oP 1 3 (.hbox 7 (.t 1)),oQ 2 4 false] (.seq (sr qB6 (.cond (.t 28) (sr [oQ 0 4 false] .ret) .skip)) (.seq (sr Xb (.blk 0 (.loop Xa))) (sr qB8 .ret)))⟩
def qJR:List qB:=[oP 0 5 (.mov (.c (.lst 8 [] true))),oM 1 6 0,oP 2 7 (.app 8 (.t 5) (.t 6)),oM 3 2 7]
@[go_sem] theorem qpI:OE qJR.eq_1:=OEM qJR.eq_1
def Yx:qN:=⟨1,8,[.t 2],sr [oP 0 2 (.mov (.c (.nils)))] (.seq (sr [oM 0 3 0,oP 1 4 (.isnil 1 false (.t 3))] (.cond (.t 4) (sr [oP 0 2 (.mov (.c (.nils)))] .ret) .skip)) (sr qJR .ret))⟩
def qJS:List qB:=[oP 0 5 (.mov (.c (.lst 6 [] true))),oM 1 6 0,oP 2 7 (.app 6 (.t 5) (.t 6)),oM 3 2 7]
@[go_sem] theorem qpJ:OE qJS.eq_1:=OEM qJS.eq_1
def Yy:qN:=⟨1,8,[.t 2],sr [oP 0 2 (.mov (.c (.nils)))] (.seq (sr [oM 0 3 0,oP 1 4 (.isnil 1 false (.t 3))] (.cond (.t 4) (sr [oP 0 2 (.mov (.c (.nils)))] .ret) .skip)) (sr qJS .ret))⟩
def qDQ:List qB:=[oU 0 3 1,oY 1 4 1 0 5,oU 2 5 1,oX 3 6 1 5,oU 5 8 1,oX 6 9 1 6,oD1 4 7 827 6,oD1 7 10 828 9,oP 8 11 (.build (.agg [.int .i64 0,.int .i64 0,.nils,.nils,.nils,.nils,.nils]) [(0,5,.t 4),(5,1,.t 7),(6,1,.t 10)]),oP 9 12 (.hbox 7 (.t 11)),oM 10 2 12]
@[go_sem] theorem qiT:OE qDQ.eq_1:=OEM qDQ.eq_1
def Xt:qN:=⟨1,13,[.t 2],sr [oP 0 1 (.lbox 7 (.t 0)),oP 1 2 (.mov (.c (.nilp)))] (sr qDQ .ret)⟩
def qG8:List qB:=[oU 0 3 1,oY 1 4 1 0 4,oU 3 6 1,oX 4 7 1 4,oD1 2 5 385 4,oD1 5 8 401 7,oP 6 9 (.build (.agg [.int .i64 0,.int .i64 0,.nils,.nils,.nils]) [(0,4,.t 5),(4,1,.t 8)]),oS 7 2 0 5 9]
@[go_sem] theorem qmG:OE qG8.eq_1:=OEM qG8.eq_1
def YS:qN:=⟨1,10,[.l 2 (some 5)],sr [oP 0 1 (.lbox 5 (.t 0)),oP 1 2 (.lalloc (.agg [.int .i64 0,.int .i64 0,.nils,.nils,.nils]))] (sr qG8 .ret)⟩
def qDX:List qB:=[oU 0 8 1,oY 1 9 1 0 5,oD1 2 10 696 9,oP 3 11 (.build (.agg [.int .i64 0,.int .i64 0,.nils,.nils,.nils,.nils,.nils]) [(0,5,.t 10)]),oP 4 3 (.lalloc (.agg [.int .i64 0,.int .i64 0,.nils,.nils,.nils,.nils,.nils])),oS 5 3 0 7 11]
@[go_sem] theorem qi1:OE qDX.eq_1:=OEM qDX.eq_1
def Xx:List qB:=[oU 0 12 1,oX 1 13 1 5,oW 2 14 13,oC 3 15 0]
@[go_sem] theorem qi2:OE Xx.eq_1:=OEM Xx.eq_1
def qDY:List qB:=[oA 0 17 8 13 15,oP 1 18 (.load (some 8) (.t 17)),oP 2 5 (.lalloc (.agg [.int .i64 0,.int .i64 0,.nils,.int .i64 0,.int .i64 0,.nils,.nils,.nils])),oS 3 5 0 8 18]
@[go_sem] theorem qi3:OE qDY.eq_1:=OEM qDY.eq_1
def qDZ:List qB:=[oU 0 19 3,oX 1 20 3 5,oU 2 21 5,oX 3 22 5 0,oU 4 23 5,oX 5 24 5 1,oU 6 25 5,oX 7 26 5 2,oU 9 28 5,oY 10 29 5 3 5,oD1 8 27 401 26,oD1 11 30 696 29,oP 12 31 (.build (.agg [.int .i64 0,.int .i64 0,.nils,.int .i64 0,.int .i64 0,.nils,.nils,.nils]) [(0,1,.t 22),(1,1,.t 24),(2,1,.t 27),(3,5,.t 30)]),oP 13 32 (.bslice 8 (.agg [.int .i64 0,.int .i64 0,.nils,.int .i64 0,.int .i64 0,.nils,.nils,.nils]) 1 [(0,.t 31)]),oP 14 33 (.app 8 (.t 20) (.t 32)),oU 15 34 3,oS 16 3 5 1 33]
@[go_sem] theorem qi4:OE qDZ.eq_1:=OEM qDZ.eq_1
def Xw:qL:=.loop (sr [oB 0 16 .lss 15 14] (.seq (.cond (.t 16) .skip (.exit 0)) (.seq (.blk 1 (sr qDY (.reg true qDZ))) (.reg true [oE 0 35 .add 15 1,oM 1 15 35]))))
@[go_sem] theorem qiZ:CE Xw.eq_1:=CEM Xw.eq_1
def qD0:List qB:=[oU 0 36 1,oX 1 37 1 6,oW 2 38 37,oC 3 39 0]
@[go_sem] theorem qi5:OE qD0.eq_1:=OEM qD0.eq_1
def qD1:List qB:=[oA 0 41 6 37 39,oP 1 42 (.load (some 6) (.t 41)),oP 2 7 (.lalloc (.agg [.bool false,.int .i64 0,.int .i64 0,.nils,.nils,.nils])),oS 3 7 0 6 42]
@[go_sem] theorem qi6:OE qD1.eq_1:=OEM qD1.eq_1
def Xy:List qB:=[oU 0 43 3,oX 1 44 3 6,oU 2 45 7,oX 3 46 7 0,oU 4 47 7,oY 5 48 7 1 5,oD1 6 49 696 48,oP 7 50 (.build (.agg [.bool false,.int .i64 0,.int .i64 0,.nils,.nils,.nils]) [(0,1,.t 46),(1,5,.t 49)]),oP 8 51 (.bslice 6 (.agg [.bool false,.int .i64 0,.int .i64 0,.nils,.nils,.nils]) 1 [(0,.t 50)]),oP 9 52 (.app 6 (.t 44) (.t 51)),oU 10 53 3,oS 11 3 6 1 52]
@[go_sem] theorem qi7:OE Xy.eq_1:=OEM Xy.eq_1
def qDW:qL:=.loop (sr [oB 0 40 .lss 39 38] (.seq (.cond (.t 40) .skip (.exit 2)) (.seq (.blk 3 (sr qD1 (.reg true Xy))) (.reg true [oE 0 54 .add 39 1,oM 1 39 54]))))
@[go_sem] theorem qi0:CE qDW.eq_1:=CEM qDW.eq_1
def Xv:qN:=⟨1,56,[.l 2 (some 7)],sr [oP 0 1 (.lbox 7 (.t 0)),oP 1 2 (.lalloc (.agg [.int .i64 0,.int .i64 0,.nils,.nils,.nils,.nils,.nils]))] (sr qDX (.seq (sr Xx (.blk 0 Xw)) (.seq (sr qD0 (.blk 2 qDW)) (sr [oY 0 55 3 0 7,oS 1 2 0 7 55] .ret))))⟩
def qD2:List qB:=[oU 0 5 2,oY 1 6 2 0 4,oU 2 7 3,oY 3 8 3 0 4,oD2 4 9 85 6 8,oJ 5 10 9]
@[go_sem] theorem qi8:OE qD2.eq_1:=OEM qD2.eq_1
def qD3:List qB:=[oU 0 11 2,oX 1 12 2 4,oU 2 13 3,oX 3 14 3 4,oD2 4 15 86 12 14,oJ 5 16 15]
@[go_sem] theorem qi9:OE qD3.eq_1:=OEM qD3.eq_1
def Xz:qN:=⟨2,17,[.t 4],sr [oP 0 2 (.lbox 5 (.t 0)),oP 1 3 (.lbox 5 (.t 1)),oQ 2 4 false] (.seq (sr qD2 (.cond (.t 10) (sr [oQ 0 4 false] .ret) .skip)) (.seq (sr qD3 (.cond (.t 16) (sr [oQ 0 4 false] .ret) .skip)) (sr [oQ 0 4 true] .ret)))⟩
def qJ8:List qB:=[oU 0 5 2,oX 1 6 2 0,oU 2 7 3,oX 3 8 3 0,oB 4 9 .neq 6 8]
@[go_sem] theorem qqI:OE qJ8.eq_1:=OEM qJ8.eq_1
def qJ9:List qB:=[oU 0 10 2,oX 1 11 2 1,oU 2 12 3,oX 3 13 3 1,oB 4 14 .neq 11 13]
@[go_sem] theorem qqJ:OE qJ9.eq_1:=OEM qJ9.eq_1
def qKA:List qB:=[oU 0 15 2,oX 1 16 2 2,oU 2 17 3,oX 3 18 3 2,oD2 4 19 86 16 18,oJ 5 20 19]
@[go_sem] theorem qqK:OE qKA.eq_1:=OEM qKA.eq_1
def qKB:List qB:=[oU 0 21 2,oY 1 22 2 3 5,oU 2 23 3,oY 3 24 3 3 5,oD2 4 25 468 22 24,oJ 5 26 25]
@[go_sem] theorem qqL:OE qKB.eq_1:=OEM qKB.eq_1
def qJ7:qL:=.seq (sr qJ9 (.cond (.t 14) (sr [oQ 0 4 false] .ret) .skip)) (.seq (sr qKA (.cond (.t 20) (sr [oQ 0 4 false] .ret) .skip)) (.seq (sr qKB (.cond (.t 26) (sr [oQ 0 4 false] .ret) .skip)) (sr [oQ 0 4 true] .ret)))
@[go_sem] theorem qqH:CE qJ7.eq_1:=CEM qJ7.eq_1
def VD:qN:=⟨2,27,[.t 4],sr [oP 0 2 (.lbox 8 (.t 0)),oP 1 3 (.lbox 8 (.t 1)),oQ 2 4 false] (.seq (sr qJ8 (.cond (.t 9) (sr [oQ 0 4 false] .ret) .skip)) qJ7)⟩
def F469:qN:=eqS 8 (some 8) 831
def qKC:List qB:=[oU 0 5 2,oX 1 6 2 0,oU 2 7 3,oX 3 8 3 0,oP 4 9 (.beq true (.t 6) (.t 8))]
@[go_sem] theorem qqM:OE qKC.eq_1:=OEM qKC.eq_1
def qKD:List qB:=[oU 0 10 2,oY 1 11 2 1 5,oU 2 12 3,oY 3 13 3 1 5,oD2 4 14 468 11 13,oJ 5 15 14]
@[go_sem] theorem qqN:OE qKD.eq_1:=OEM qKD.eq_1
def VE:qN:=⟨2,16,[.t 4],sr [oP 0 2 (.lbox 6 (.t 0)),oP 1 3 (.lbox 6 (.t 1)),oQ 2 4 false] (.seq (sr qKC (.cond (.t 9) (sr [oQ 0 4 false] .ret) .skip)) (.seq (sr qKD (.cond (.t 15) (sr [oQ 0 4 false] .ret) .skip)) (sr [oQ 0 4 true] .ret)))⟩
def F470:qN:=eqS 6 (some 6) 832
def qAR:List qB:=[oU 0 5 2,oY 1 6 2 0 5,oU 2 7 3,oY 3 8 3 0 5,oD2 4 9 468 6 8,oJ 5 10 9]
@[go_sem] theorem qfL:OE qAR.eq_1:=OEM qAR.eq_1
def qAS:List qB:=[oU 0 11 2,oX 1 12 2 5,oU 2 13 3,oX 3 14 3 5,oD2 4 15 469 12 14,oJ 5 16 15]
@[go_sem] theorem qfM:OE qAS.eq_1:=OEM qAS.eq_1
def qAT:List qB:=[oU 0 17 2,oX 1 18 2 6,oU 2 19 3,oX 3 20 3 6,oD2 4 21 470 18 20,oJ 5 22 21]
@[go_sem] theorem qfN:OE qAT.eq_1:=OEM qAT.eq_1
def qAQ:qL:=.seq (sr qAR (.cond (.t 10) (sr [oQ 0 4 false] .ret) .skip)) (.seq (sr qAS (.cond (.t 16) (sr [oQ 0 4 false] .ret) .skip)) (.seq (sr qAT (.cond (.t 22) (sr [oQ 0 4 false] .ret) .skip)) (sr [oQ 0 4 true] .ret)))
@[go_sem] theorem qfK:CE qAQ.eq_1:=CEM qAQ.eq_1
def XO:qN:=⟨2,23,[.t 4],sr [oP 0 2 (.lbox 7 (.t 0)),oP 1 3 (.lbox 7 (.t 1)),oQ 2 4 false] qAQ⟩
def qD4:List qB:=[oU 0 5 2,oY 1 6 2 0 4,oM 2 7 1,oD2 3 8 89 6 7,oM 4 1 8]
@[go_sem] theorem qjA:OE qD4.eq_1:=OEM qD4.eq_1
def qD5:List qB:=[oU 0 9 2,oX 1 10 2 4,oM 2 11 1,oD2 3 12 90 10 11,oM 4 1 12]
@[go_sem] theorem qjB:OE qD5.eq_1:=OEM qD5.eq_1
def X0:qN:=⟨2,14,[.t 4],sr [oP 0 2 (.lbox 5 (.t 0)),oC 1 4 0] (sr qD4 (sr qD5 (sr [oM 0 13 1,oM 1 4 13] .ret)))⟩
def qD9:List qB:=[oM 0 6 5,oM 1 7 0,oW 2 8 7,oB 3 9 .lss 6 8]
@[go_sem] theorem qjF:OE qD9.eq_1:=OEM qD9.eq_1
def qEA:List qB:=[oM 0 12 0,oM 1 13 5,oM 2 14 1,oA 3 15 8 12 13,oF 4 16 0 15,oT 5 1 16 14]
@[go_sem] theorem qjG:OE qEA.eq_1:=OEM qEA.eq_1
def qEB:List qB:=[oM 0 19 0,oM 1 20 5,oM 2 21 1,oA 3 22 8 19 20,oF 4 23 1 22,oT 5 1 23 21]
@[go_sem] theorem qjH:OE qEB.eq_1:=OEM qEB.eq_1
def qEC:List qB:=[oM 0 26 0,oM 1 27 5,oA 2 28 8 26 27,oF 3 29 2 28,oL 4 30 29,oM 5 31 1,oD2 6 32 90 30 31,oM 7 1 32]
@[go_sem] theorem qjI:OE qEC.eq_1:=OEM qEC.eq_1
def qED:List qB:=[oM 0 33 0,oM 1 34 5,oM 2 35 1,oA 3 36 8 33 34,oF 4 37 3 36,oF 5 38 0 37,oF 6 39 0 38,oT 7 1 39 35]
@[go_sem] theorem qjJ:OE qED.eq_1:=OEM qED.eq_1
def qEE:List qB:=[oM 0 42 0,oM 1 43 5,oM 2 44 1,oA 3 45 8 42 43,oF 4 46 3 45,oF 5 47 0 46,oF 6 48 1 47,oT 7 1 48 44]
@[go_sem] theorem qjK:OE qEE.eq_1:=OEM qEE.eq_1
def qEF:List qB:=[oM 0 51 0,oM 1 52 5,oA 2 53 8 51 52,oF 3 54 3 53,oF 4 55 0 54,oF 5 56 2 55,oL 6 57 56,oM 7 58 1,oD2 8 59 90 57 58,oM 9 1 59]
@[go_sem] theorem qjL:OE qEF.eq_1:=OEM qEF.eq_1
def qEG:List qB:=[oM 0 60 0,oM 1 61 5,oA 2 62 8 60 61,oF 3 63 3 62,oF 4 64 0 63,oF 5 65 3 64,oL 6 66 65,oM 7 67 1,oD2 8 68 347 66 67,oM 9 1 68]
@[go_sem] theorem qjM:OE qEG.eq_1:=OEM qEG.eq_1
def qEH:List qB:=[oM 0 69 0,oM 1 70 5,oA 2 71 8 69 70,oF 3 72 3 71,oF 4 73 4 72,oL 5 74 73,oM 6 75 1,oD2 7 76 90 74 75,oM 8 1 76]
@[go_sem] theorem qjN:OE qEH.eq_1:=OEM qEH.eq_1
def qD8:qL:=sr [oM 0 40 1,oE 1 41 .add 40 1,oM 2 1 41] (sr qEE (sr [oM 0 49 1,oE 1 50 .add 49 1,oM 2 1 50] (sr qEF (sr qEG (.reg true qEH)))))
@[go_sem] theorem qjE:CE qD8.eq_1:=CEM qD8.eq_1
def qD6:qL:=sr [oM 0 17 1,oE 1 18 .add 17 1,oM 2 1 18] (sr qEB (sr [oM 0 24 1,oE 1 25 .add 24 1,oM 2 1 25] (sr qEC (sr qED qD8))))
@[go_sem] theorem qjC:CE qD6.eq_1:=CEM qD6.eq_1
def qD7:qL:=sr [oC 0 5 0] (.blk 0 (.loop (.seq (sr qD9 (.cond (.t 9) .skip (.exit 0))) (.seq (.blk 1 (sr qEA qD6)) (.reg true [oM 0 10 5,oE 1 11 .add 10 1,oM 2 5 11])))))
@[go_sem] theorem qjD:CE qD7.eq_1:=CEM qD7.eq_1
def X1:qN:=⟨2,78,[.t 4],sr [oC 0 4 0] (.seq qD7 (sr [oM 0 77 1,oM 1 4 77] .ret))⟩
def qEK:List qB:=[oM 0 6 5,oM 1 7 0,oW 2 8 7,oB 3 9 .lss 6 8]
@[go_sem] theorem qjQ:OE qEK.eq_1:=OEM qEK.eq_1
def qEL:List qB:=[oM 0 12 0,oM 1 13 5,oM 2 14 1,oE 3 15 .rem 14 3,oE 4 16 .eql 15 0,oA 5 17 6 12 13,oF 6 18 0 17,oT 7 1 18 16]
@[go_sem] theorem qjR:OE qEL.eq_1:=OEM qEL.eq_1
def qEM:List qB:=[oM 0 21 0,oM 1 22 5,oM 2 23 1,oA 3 24 6 21 22,oF 4 25 1 24,oF 5 26 0 25,oF 6 27 0 26,oT 7 1 27 23]
@[go_sem] theorem qjS:OE qEM.eq_1:=OEM qEM.eq_1
def qEN:List qB:=[oM 0 30 0,oM 1 31 5,oM 2 32 1,oA 3 33 6 30 31,oF 4 34 1 33,oF 5 35 0 34,oF 6 36 1 35,oT 7 1 36 32]
@[go_sem] theorem qjT:OE qEN.eq_1:=OEM qEN.eq_1
def qEO:List qB:=[oM 0 39 0,oM 1 40 5,oA 2 41 6 39 40,oF 3 42 1 41,oF 4 43 0 42,oF 5 44 2 43,oL 6 45 44,oM 7 46 1,oD2 8 47 90 45 46,oM 9 1 47]
@[go_sem] theorem qjU:OE qEO.eq_1:=OEM qEO.eq_1
def qEP:List qB:=[oM 0 48 0,oM 1 49 5,oA 2 50 6 48 49,oF 3 51 1 50,oF 4 52 0 51,oF 5 53 3 52,oL 6 54 53,oM 7 55 1,oD2 8 56 347 54 55,oM 9 1 56]
@[go_sem] theorem qjV:OE qEP.eq_1:=OEM qEP.eq_1
def qEQ:List qB:=[oM 0 57 0,oM 1 58 5,oA 2 59 6 57 58,oF 3 60 1 59,oF 4 61 4 60,oL 5 62 61,oM 6 63 1,oD2 7 64 90 62 63,oM 8 1 64]
@[go_sem] theorem qjW:OE qEQ.eq_1:=OEM qEQ.eq_1
def qEI:qL:=sr [oM 0 28 1,oE 1 29 .add 28 1,oM 2 1 29] (sr qEN (sr [oM 0 37 1,oE 1 38 .add 37 1,oM 2 1 38] (sr qEO (sr qEP (.reg true qEQ)))))
@[go_sem] theorem qjO:CE qEI.eq_1:=CEM qEI.eq_1
def qEJ:qL:=.seq (.blk 1 (sr qEL (sr [oM 0 19 1,oE 1 20 .add 19 1,oM 2 1 20] (sr qEM qEI)))) (.reg true [oM 0 10 5,oE 1 11 .add 10 1,oM 2 5 11])
@[go_sem] theorem qjP:CE qEJ.eq_1:=CEM qEJ.eq_1
def X2:qN:=⟨2,66,[.t 4],sr [oC 0 4 0] (.seq (sr [oC 0 5 0] (.blk 0 (.loop (.seq (sr qEK (.cond (.t 9) .skip (.exit 0))) qEJ)))) (sr [oM 0 65 1,oM 1 4 65] .ret))⟩
def qAU:List qB:=[oU 0 5 2,oY 1 6 2 0 5,oM 2 7 1,oD2 3 8 471 6 7,oM 4 1 8]
@[go_sem] theorem qfO:OE qAU.eq_1:=OEM qAU.eq_1
def qAV:List qB:=[oU 0 9 2,oX 1 10 2 5,oM 2 11 1,oD2 3 12 472 10 11,oM 4 1 12]
@[go_sem] theorem qfP:OE qAV.eq_1:=OEM qAV.eq_1
def qAW:List qB:=[oU 0 13 2,oX 1 14 2 6,oM 2 15 1,oD2 3 16 473 14 15,oM 4 1 16]
@[go_sem] theorem qfQ:OE qAW.eq_1:=OEM qAW.eq_1
def XP:qN:=⟨2,18,[.t 4],sr [oP 0 2 (.lbox 7 (.t 0)),oC 1 4 0] (sr qAU (sr qAV (sr qAW (sr [oM 0 17 1,oM 1 4 17] .ret))))⟩
def qES:List qB:=[oU 0 5 2,oY 1 6 2 0 4,oM 2 7 1,oD2 3 8 91 6 7,oM 4 1 8]
@[go_sem] theorem qjY:OE qES.eq_1:=OEM qES.eq_1
def qET:List qB:=[oU 0 11 2,oX 1 12 2 4,oM 2 13 1,oD2 3 14 92 12 13,oM 4 1 14]
@[go_sem] theorem qjZ:OE qET.eq_1:=OEM qET.eq_1
def qER:qL:=sr qET (.seq (sr [oM 0 15 1,oE 1 16 .lss 15 0] (.cond (.t 16) (sr [oP 0 4 (.mov (.c (.int .i64 (-1))))] .ret) .skip)) (sr [oM 0 17 1,oM 1 4 17] .ret))
@[go_sem] theorem qjX:CE qER.eq_1:=CEM qER.eq_1
def X3:qN:=⟨2,18,[.t 4],sr [oP 0 2 (.lbox 5 (.t 0)),oC 1 4 0] (sr qES (.seq (sr [oM 0 9 1,oE 1 10 .lss 9 0] (.cond (.t 10) (sr [oP 0 4 (.mov (.c (.int .i64 (-1))))] .ret) .skip)) qER))⟩
def qE0:List qB:=[oM 0 6 5,oM 1 7 0,oW 2 8 7,oB 3 9 .lss 6 8]
@[go_sem] theorem qj6:OE qE0.eq_1:=OEM qE0.eq_1
def qE1:List qB:=[oM 0 12 0,oM 1 13 5,oA 2 14 8 12 13,oF 3 15 0 14,oL 4 16 15,oM 5 17 1,oB 6 18 .neq 16 17]
@[go_sem] theorem qj7:OE qE1.eq_1:=OEM qE1.eq_1
def qE2:List qB:=[oM 0 21 0,oM 1 22 5,oA 2 23 8 21 22,oF 3 24 1 23,oL 4 25 24,oM 5 26 1,oB 6 27 .neq 25 26]
@[go_sem] theorem qj8:OE qE2.eq_1:=OEM qE2.eq_1
def qE3:List qB:=[oM 0 30 0,oM 1 31 5,oA 2 32 8 30 31,oF 3 33 2 32,oL 4 34 33,oM 5 35 1,oD2 6 36 92 34 35,oM 7 1 36]
@[go_sem] theorem qj9:OE qE3.eq_1:=OEM qE3.eq_1
def qE4:List qB:=[oM 0 39 0,oM 1 40 5,oA 2 41 8 39 40,oF 3 42 3 41,oF 4 43 0 42,oF 5 44 0 43,oL 6 45 44,oM 7 46 1,oB 8 47 .neq 45 46]
@[go_sem] theorem qkA:OE qE4.eq_1:=OEM qE4.eq_1
def qE5:List qB:=[oM 0 50 0,oM 1 51 5,oA 2 52 8 50 51,oF 3 53 3 52,oF 4 54 0 53,oF 5 55 1 54,oL 6 56 55,oM 7 57 1,oB 8 58 .neq 56 57]
@[go_sem] theorem qkB:OE qE5.eq_1:=OEM qE5.eq_1
def qE6:List qB:=[oM 0 61 0,oM 1 62 5,oA 2 63 8 61 62,oF 3 64 3 63,oF 4 65 0 64,oF 5 66 2 65,oL 6 67 66,oM 7 68 1,oD2 8 69 92 67 68,oM 9 1 69]
@[go_sem] theorem qkC:OE qE6.eq_1:=OEM qE6.eq_1
def qE7:List qB:=[oM 0 72 0,oM 1 73 5,oA 2 74 8 72 73,oF 3 75 3 74,oF 4 76 0 75,oF 5 77 3 76,oL 6 78 77,oM 7 79 1,oD2 8 80 348 78 79,oM 9 1 80]
@[go_sem] theorem qkD:OE qE7.eq_1:=OEM qE7.eq_1
def qE8:List qB:=[oM 0 83 0,oM 1 84 5,oA 2 85 8 83 84,oF 3 86 3 85,oF 4 87 4 86,oL 5 88 87,oM 6 89 1,oD2 7 90 92 88 89,oM 8 1 90]
@[go_sem] theorem qkE:OE qE8.eq_1:=OEM qE8.eq_1
def qEZ:qL:=.seq (sr [oM 0 81 1,oE 1 82 .lss 81 0] (.cond (.t 82) (sr [oP 0 4 (.mov (.c (.int .i64 (-1))))] .ret) .skip)) (sr qE8 (sr [oM 0 91 1,oE 1 92 .lss 91 0] (.cond (.t 92) (sr [oP 0 4 (.mov (.c (.int .i64 (-1))))] .ret) .skip)))
@[go_sem] theorem qj5:CE qEZ.eq_1:=CEM qEZ.eq_1
def qEU:qL:=sr [oM 0 59 1,oE 1 60 .add 59 1,oM 2 1 60] (sr qE6 (.seq (sr [oM 0 70 1,oE 1 71 .lss 70 0] (.cond (.t 71) (sr [oP 0 4 (.mov (.c (.int .i64 (-1))))] .ret) .skip)) (sr qE7 qEZ)))
@[go_sem] theorem qj0:CE qEU.eq_1:=CEM qEU.eq_1
def qEV:qL:=.seq (sr qE4 (.cond (.t 47) (sr [oP 0 4 (.mov (.c (.int .i64 (-1))))] .ret) .skip)) (sr [oM 0 48 1,oE 1 49 .add 48 1,oM 2 1 49] (.seq (sr qE5 (.cond (.t 58) (sr [oP 0 4 (.mov (.c (.int .i64 (-1))))] .ret) .skip)) qEU))
@[go_sem] theorem qj1:CE qEV.eq_1:=CEM qEV.eq_1
def qEW:qL:=sr [oM 0 28 1,oE 1 29 .add 28 1,oM 2 1 29] (sr qE3 (.seq (sr [oM 0 37 1,oE 1 38 .lss 37 0] (.cond (.t 38) (sr [oP 0 4 (.mov (.c (.int .i64 (-1))))] .ret) .skip)) qEV))
@[go_sem] theorem qj2:CE qEW.eq_1:=CEM qEW.eq_1
def qEX:qL:=.seq (sr qE1 (.cond (.t 18) (sr [oP 0 4 (.mov (.c (.int .i64 (-1))))] .ret) .skip)) (sr [oM 0 19 1,oE 1 20 .add 19 1,oM 2 1 20] (.seq (sr qE2 (.cond (.t 27) (sr [oP 0 4 (.mov (.c (.int .i64 (-1))))] .ret) .skip)) qEW))
@[go_sem] theorem qj3:CE qEX.eq_1:=CEM qEX.eq_1
def qEY:qL:=sr [oC 0 5 0] (.blk 0 (.loop (.seq (sr qE0 (.cond (.t 9) .skip (.exit 0))) (.seq (.blk 1 qEX) (.reg true [oM 0 10 5,oE 1 11 .add 10 1,oM 2 5 11])))))
@[go_sem] theorem qj4:CE qEY.eq_1:=CEM qEY.eq_1
def X4:qN:=⟨2,94,[.t 4],sr [oC 0 4 0] (.seq qEY (sr [oM 0 93 1,oM 1 4 93] .ret))⟩
def qFD:List qB:=[oM 0 6 5,oM 1 7 0,oW 2 8 7,oB 3 9 .lss 6 8]
@[go_sem] theorem qkJ:OE qFD.eq_1:=OEM qFD.eq_1
def qFE:List qB:=[oM 0 12 0,oM 1 13 5,oA 2 14 6 12 13,oF 3 15 0 14,oL 4 16 15,oM 5 17 1,oE 6 18 .rem 17 3,oE 7 19 .eql 18 0,oP 8 20 (.beq true (.t 16) (.t 19))]
@[go_sem] theorem qkK:OE qFE.eq_1:=OEM qFE.eq_1
def qFF:List qB:=[oM 0 23 0,oM 1 24 5,oA 2 25 6 23 24,oF 3 26 1 25,oF 4 27 0 26,oF 5 28 0 27,oL 6 29 28,oM 7 30 1,oB 8 31 .neq 29 30]
@[go_sem] theorem qkL:OE qFF.eq_1:=OEM qFF.eq_1
def qFG:List qB:=[oM 0 34 0,oM 1 35 5,oA 2 36 6 34 35,oF 3 37 1 36,oF 4 38 0 37,oF 5 39 1 38,oL 6 40 39,oM 7 41 1,oB 8 42 .neq 40 41]
@[go_sem] theorem qkM:OE qFG.eq_1:=OEM qFG.eq_1
def qFH:List qB:=[oM 0 45 0,oM 1 46 5,oA 2 47 6 45 46,oF 3 48 1 47,oF 4 49 0 48,oF 5 50 2 49,oL 6 51 50,oM 7 52 1,oD2 8 53 92 51 52,oM 9 1 53]
@[go_sem] theorem qkN:OE qFH.eq_1:=OEM qFH.eq_1
def qFI:List qB:=[oM 0 56 0,oM 1 57 5,oA 2 58 6 56 57,oF 3 59 1 58,oF 4 60 0 59,oF 5 61 3 60,oL 6 62 61,oM 7 63 1,oD2 8 64 348 62 63,oM 9 1 64]
@[go_sem] theorem qkO:OE qFI.eq_1:=OEM qFI.eq_1
def qFJ:List qB:=[oM 0 67 0,oM 1 68 5,oA 2 69 6 67 68,oF 3 70 1 69,oF 4 71 4 70,oL 5 72 71,oM 6 73 1,oD2 7 74 92 72 73,oM 8 1 74]
@[go_sem] theorem qkP:OE qFJ.eq_1:=OEM qFJ.eq_1
def qFA:qL:=.seq (sr [oM 0 65 1,oE 1 66 .lss 65 0] (.cond (.t 66) (sr [oP 0 4 (.mov (.c (.int .i64 (-1))))] .ret) .skip)) (sr qFJ (sr [oM 0 75 1,oE 1 76 .lss 75 0] (.cond (.t 76) (sr [oP 0 4 (.mov (.c (.int .i64 (-1))))] .ret) .skip)))
@[go_sem] theorem qkG:CE qFA.eq_1:=CEM qFA.eq_1
def qFB:qL:=sr [oM 0 43 1,oE 1 44 .add 43 1,oM 2 1 44] (sr qFH (.seq (sr [oM 0 54 1,oE 1 55 .lss 54 0] (.cond (.t 55) (sr [oP 0 4 (.mov (.c (.int .i64 (-1))))] .ret) .skip)) (sr qFI qFA)))
@[go_sem] theorem qkH:CE qFB.eq_1:=CEM qFB.eq_1
def qFC:qL:=.seq (sr qFF (.cond (.t 31) (sr [oP 0 4 (.mov (.c (.int .i64 (-1))))] .ret) .skip)) (sr [oM 0 32 1,oE 1 33 .add 32 1,oM 2 1 33] (.seq (sr qFG (.cond (.t 42) (sr [oP 0 4 (.mov (.c (.int .i64 (-1))))] .ret) .skip)) qFB))
@[go_sem] theorem qkI:CE qFC.eq_1:=CEM qFC.eq_1
def qE9:qL:=.seq (.blk 1 (.seq (sr qFE (.cond (.t 20) (sr [oP 0 4 (.mov (.c (.int .i64 (-1))))] .ret) .skip)) (sr [oM 0 21 1,oE 1 22 .add 21 1,oM 2 1 22] qFC))) (.reg true [oM 0 10 5,oE 1 11 .add 10 1,oM 2 5 11])
@[go_sem] theorem qkF:CE qE9.eq_1:=CEM qE9.eq_1
def X5:qN:=⟨2,78,[.t 4],sr [oC 0 4 0] (.seq (sr [oC 0 5 0] (.blk 0 (.loop (.seq (sr qFD (.cond (.t 9) .skip (.exit 0))) qE9)))) (sr [oM 0 77 1,oM 1 4 77] .ret))⟩
def qAZ:List qB:=[oU 0 5 2,oY 1 6 2 0 5,oM 2 7 1,oD2 3 8 474 6 7,oM 4 1 8]
@[go_sem] theorem qfT:OE qAZ.eq_1:=OEM qAZ.eq_1
def qA0:List qB:=[oU 0 11 2,oX 1 12 2 5,oM 2 13 1,oD2 3 14 475 12 13,oM 4 1 14]
@[go_sem] theorem qfU:OE qA0.eq_1:=OEM qA0.eq_1
def qA1:List qB:=[oU 0 17 2,oX 1 18 2 6,oM 2 19 1,oD2 3 20 476 18 19,oM 4 1 20]
@[go_sem] theorem qfV:OE qA1.eq_1:=OEM qA1.eq_1
def qAX:qL:=sr qA1 (.seq (sr [oM 0 21 1,oE 1 22 .lss 21 0] (.cond (.t 22) (sr [oP 0 4 (.mov (.c (.int .i64 (-1))))] .ret) .skip)) (sr [oM 0 23 1,oM 1 4 23] .ret))
@[go_sem] theorem qfR:CE qAX.eq_1:=CEM qAX.eq_1
def qAY:qL:=.seq (sr [oM 0 9 1,oE 1 10 .lss 9 0] (.cond (.t 10) (sr [oP 0 4 (.mov (.c (.int .i64 (-1))))] .ret) .skip)) (sr qA0 (.seq (sr [oM 0 15 1,oE 1 16 .lss 15 0] (.cond (.t 16) (sr [oP 0 4 (.mov (.c (.int .i64 (-1))))] .ret) .skip)) qAX))
@[go_sem] theorem qfS:CE qAY.eq_1:=CEM qAY.eq_1
def XQ:qN:=⟨2,24,[.t 4],sr [oP 0 2 (.lbox 7 (.t 0)),oC 1 4 0] (sr qAZ qAY)⟩
def qA4:List qB:=[oP 0 3 (.hbox 1 (.t 0)),oP 1 4 (.hbox 7 (.t 1)),oP 2 5 (.hbox 1 (.t 2)),oP 3 6 (.lalloc (.agg [.int .i64 0,.int .i64 0,.nils,.nils,.nils,.nils,.nils])),oP 4 7 (.mov (.c (.nils))),oC 5 8 0]
@[go_sem] theorem qfY:OE qA4.eq_1:=OEM qA4.eq_1
def qA5:List qB:=[oP 0 14 (.build (.agg [.int .i64 0,.int .i64 0,.nils,.nils,.nils,.nils,.nils]) []),oS 1 6 0 7 14,oP 2 7 (.mov (.c (.nils))),oC 3 8 1]
@[go_sem] theorem qfZ:OE qA5.eq_1:=OEM qA5.eq_1
def qA6:List qB:=[oP 0 18 (.build (.agg [.int .i64 0,.int .i64 0,.nils,.nils,.nils,.nils,.nils]) []),oS 1 6 0 7 18,oP 2 7 (.mov (.c (.nils))),oC 3 8 2]
@[go_sem] theorem qf0:OE qA6.eq_1:=OEM qA6.eq_1
def XS:List qB:=[oP 0 25 (.build (.agg [.int .i64 0,.int .i64 0,.nils,.nils,.nils,.nils,.nils]) []),oM 1 26 11,oS 2 6 0 7 25,oP 3 7 (.mov (.c (.nils))),oM 4 8 26]
@[go_sem] theorem qf1:OE XS.eq_1:=OEM XS.eq_1
def XT:List qB:=[oD1 0 27 460 9,oM 1 28 10,oS 2 6 0 7 27,oM 3 7 28,oC 4 8 0]
@[go_sem] theorem qf2:OE XT.eq_1:=OEM XT.eq_1
def qA2:qL:=sr [oM 0 21 10,oP 1 22 (.call 477 [.t 3,.t 9,.t 21,.t 5]),oM 2 11 22] (.seq (sr [oM 0 23 11,oE 1 24 .neq 23 0] (.cond (.t 24) (sr XS .ret) .skip)) (sr XT .ret))
@[go_sem] theorem qfW:CE qA2.eq_1:=CEM qA2.eq_1
def qA3:qL:=.seq (sr [oL 0 15 5,oP 1 16 (.call 340 [.t 15,.c (.int .i64 0),.c (.int .i64 20000)]),oJ 2 17 16] (.cond (.t 17) (sr qA6 .ret) .skip)) (sr [oD1 0 19 460 4,oP 1 9 (.halloc 7 (.agg [.int .i64 0,.int .i64 0,.nils,.nils,.nils,.nils,.nils])),oT 2 7 9 19] (sr [oP 0 20 (.bslice 1 (.int .i64 0) 4 [(0,.c (.int .i64 0)),(1,.c (.int .i64 0)),(2,.c (.int .i64 0)),(3,.c (.int .i64 0))]),oM 1 10 20] qA2))
@[go_sem] theorem qfX:CE qA3.eq_1:=CEM qA3.eq_1
def XR:qN:=⟨3,29,[.l 6 (some 7),.t 7,.t 8],sr qA4 (.seq (sr [oD2 0 12 458 3 4,oJ 1 13 12] (.cond (.t 13) (sr qA5 .ret) .skip)) qA3)⟩
def qA8:List qB:=[oP 0 3 (.lbox 1 (.t 0)),oP 1 4 (.lbox 7 (.t 1)),oP 2 6 (.lalloc (.agg [.int .i64 0,.int .i64 0,.nils,.nils,.nils,.nils,.nils])),oP 3 7 (.mov (.c (.nils))),oC 4 8 0]
@[go_sem] theorem qf4:OE qA8.eq_1:=OEM qA8.eq_1
def qA9:List qB:=[oY 0 12 3 0 1,oY 1 13 4 0 7,oD2 2 14 293 12 13,oJ 3 15 14]
@[go_sem] theorem qf5:OE qA9.eq_1:=OEM qA9.eq_1
def qBA:List qB:=[oP 0 16 (.build (.agg [.int .i64 0,.int .i64 0,.nils,.nils,.nils,.nils,.nils]) []),oS 1 6 0 7 16,oP 2 7 (.mov (.c (.nils))),oC 3 8 1]
@[go_sem] theorem qf6:OE qBA.eq_1:=OEM qBA.eq_1
def qBB:List qB:=[oP 0 20 (.build (.agg [.int .i64 0,.int .i64 0,.nils,.nils,.nils,.nils,.nils]) []),oS 1 6 0 7 20,oP 2 7 (.mov (.c (.nils))),oC 3 8 2]
@[go_sem] theorem qf7:OE qBB.eq_1:=OEM qBB.eq_1
def qBC:List qB:=[oP 0 23 (.mksl 1 (.int .i64 0) (.c (.int .i64 4)) (.c (.int .i64 4))),oM 1 24 2,oP 2 25 (.build (.agg [.nils,.int .i64 0]) [(0,1,.t 23),(1,1,.t 24)]),oP 3 26 (.hbox 2 (.t 25)),oM 4 10 26]
@[go_sem] theorem qf8:OE qBC.eq_1:=OEM qBC.eq_1
def XV:List qB:=[oM 0 27 10,oY 1 28 3 0 1,oM 2 29 9,oP 3 30 (.call 478 [.t 27,.t 28,.t 29]),oM 4 11 30]
@[go_sem] theorem qf9:OE XV.eq_1:=OEM XV.eq_1
def XW:List qB:=[oP 0 33 (.build (.agg [.int .i64 0,.int .i64 0,.nils,.nils,.nils,.nils,.nils]) []),oM 1 34 11,oS 2 6 0 7 33,oP 3 7 (.mov (.c (.nils))),oM 4 8 34]
@[go_sem] theorem qgA:OE XW.eq_1:=OEM XW.eq_1
def XX:List qB:=[oM 0 35 9,oK 1 36 35,oP 2 37 (.load (some 7) (.t 36)),oM 4 39 10,oK 5 40 39,oF 6 41 0 40,oL 7 42 41,⟨3,some 38,none,.call 467 [.t 37],[⟨7,some 42,none,.load none (.t 41),[]⟩]⟩,oS 8 6 0 7 38,oM 9 7 42,oC 10 8 0]
@[go_sem] theorem qgB:OE XX.eq_1:=OEM XX.eq_1
def qA7:qL:=sr [oY 0 21 4 0 7,oD1 1 22 465 21,oM 2 9 22] (sr qBC (.seq (sr XV (sr [oM 0 31 11,oE 1 32 .neq 31 0] (.cond (.t 32) (sr XW .ret) .skip))) (sr XX .ret)))
@[go_sem] theorem qf3:CE qA7.eq_1:=CEM qA7.eq_1
def XU:qN:=⟨3,43,[.l 6 (some 7),.t 7,.t 8],sr qA8 (.seq (sr qA9 (.cond (.t 15) (sr qBA .ret) .skip)) (.seq (sr [oM 0 17 2,oD1 1 18 344 17,oJ 2 19 18] (.cond (.t 19) (sr qBB .ret) .skip)) qA7))⟩
def qBL:List qB:=[oY 0 22 3 0 1,oM 1 23 7,oD2 2 24 79 22 23,oM 3 7 24]
@[go_sem] theorem qgK:OE qBL.eq_1:=OEM qBL.eq_1
def qBM:List qB:=[oY 0 27 4 0 7,oM 1 28 7,oD2 2 29 152 27 28,oM 3 7 29]
@[go_sem] theorem qgV:OE qBM.eq_1:=OEM qBM.eq_1
def qBX:List qB:=[oY 0 33 3 0 1,oY 2 35 4 0 7,oM 4 37 2,oP 10 8 (.lalloc (.agg [.int .i64 0,.int .i64 0,.nils,.nils,.nils,.nils,.nils])),oD1 1 34 82 33,oD1 3 36 154 35,oP 5 38 (.call 159 [.t 34,.t 36,.t 37]),oM 6 32 38,oV 7 39 32 0,oV 8 40 32 1,oV 9 41 32 2,oS 11 8 0 7 39,oM 12 9 40,oM 13 10 41]
@[go_sem] theorem qgW:OE qBX.eq_1:=OEM qBX.eq_1
def qBY:List qB:=[oY 0 42 3 0 1,oD1 1 43 82 42,oP 2 11 (.lalloc (.agg [.nils])),oS 3 11 0 1 43]
@[go_sem] theorem qgX:OE qBY.eq_1:=OEM qBY.eq_1
def qBZ:List qB:=[oY 0 44 4 0 7,oD1 1 45 154 44,oP 2 12 (.lalloc (.agg [.int .i64 0,.int .i64 0,.nils,.nils,.nils,.nils,.nils])),oS 3 12 0 7 45]
@[go_sem] theorem qgY:OE qBZ.eq_1:=OEM qBZ.eq_1
def qB0:List qB:=[oY 0 47 11 0 1,oY 1 48 12 0 7,oM 2 49 2,oP 3 50 (.call 160 [.t 47,.t 48,.t 49]),oM 4 46 50,oV 5 51 46 0,oV 6 52 46 1,oV 7 53 46 2,oP 8 13 (.lalloc (.agg [.int .i64 0,.int .i64 0,.nils,.nils,.nils,.nils,.nils])),oS 9 13 0 7 51,oM 10 14 52,oM 11 15 53]
@[go_sem] theorem qgZ:OE qB0.eq_1:=OEM qB0.eq_1
def qB1:List qB:=[oY 0 54 13 0 7,oY 1 55 8 0 7,oD2 2 56 156 54 55,oJ 3 57 56,oM 4 58 57,oH 5 59 58 false 14,oH 6 60 58 false 9,oG 7 61 58 false (.call 86 [.t 59,.t 60]),oG 8 62 58 false (.not (.t 61)),oPt 9 63 58 62,oM 10 64 63,oH 11 65 64 false 15,oH 12 66 64 false 10,oG 13 67 64 false (.bin .neq (.t 65) (.t 66)),oPt 14 68 64 67]
@[go_sem] theorem qg0:OE qB1.eq_1:=OEM qB1.eq_1
def qB2:List qB:=[oY 0 69 11 0 1,oY 1 70 3 0 1,oD1 2 71 82 70,oD2 3 72 87 69 71,oJ 4 73 72]
@[go_sem] theorem qg1:OE qB2.eq_1:=OEM qB2.eq_1
def qB3:List qB:=[oY 0 74 12 0 7,oY 1 75 4 0 7,oD1 2 76 154 75,oD2 3 77 156 74 76,oJ 4 78 77]
@[go_sem] theorem qg2:OE qB3.eq_1:=OEM qB3.eq_1
def qB4:List qB:=[oY 0 79 11 0 1,oM 1 80 16,oD2 2 81 88 79 80,oM 3 16 81]
@[go_sem] theorem qg3:OE qB4.eq_1:=OEM qB4.eq_1
def qBN:List qB:=[oY 0 82 12 0 7,oM 1 83 16,oD2 2 84 157 82 83,oM 3 16 84]
@[go_sem] theorem qgL:OE qBN.eq_1:=OEM qBN.eq_1
def qBO:List qB:=[oM 0 85 16,oE 1 86 .lss 85 0,oM 2 87 86,oG 3 88 87 false (.lload 13 0 (some 7)),oG 4 89 87 false (.lload 8 0 (some 7)),oG 5 90 87 false (.call 156 [.t 88,.t 89]),oG 6 91 87 false (.not (.t 90)),oPt 7 92 87 91,oM 8 93 92,oH 9 94 93 false 14,oH 10 95 93 false 9,oG 11 96 93 false (.call 86 [.t 94,.t 95]),oG 12 97 93 false (.not (.t 96)),oPt 13 98 93 97,oM 14 99 98,oH 15 100 99 false 15,oH 16 101 99 false 10,oG 17 102 99 false (.bin .neq (.t 100) (.t 101)),oPt 18 103 99 102]
@[go_sem] theorem qgM:OE qBO.eq_1:=OEM qBO.eq_1
def qBP:List qB:=[oY 0 104 13 0 7,oM 1 105 17,oD2 2 106 157 104 105,oM 3 17 106]
@[go_sem] theorem qgN:OE qBP.eq_1:=OEM qBP.eq_1
def qBQ:List qB:=[oM 0 107 14,oM 1 108 17,oD2 2 109 90 107 108,oM 3 17 109]
@[go_sem] theorem qgO:OE qBQ.eq_1:=OEM qBQ.eq_1
def qBR:List qB:=[oY 0 110 13 0 7,oM 1 111 18,oD2 2 112 158 110 111,oM 3 18 112]
@[go_sem] theorem qgP:OE qBR.eq_1:=OEM qBR.eq_1
def qBS:List qB:=[oM 0 115 14,oM 1 116 18,oD2 2 117 92 115 116,oM 3 18 117]
@[go_sem] theorem qgQ:OE qBS.eq_1:=OEM qBS.eq_1
def qBT:List qB:=[oY 0 124 3 0 1,oY 2 126 4 0 7,oM 4 128 2,oP 10 19 (.lalloc (.agg [.int .i64 0,.int .i64 0,.nils,.nils,.nils,.nils,.nils])),oD1 1 125 82 124,oD1 3 127 154 126,oP 5 129 (.call 160 [.t 125,.t 127,.t 128]),oM 6 123 129,oV 7 130 123 0,oV 8 131 123 1,oV 9 132 123 2,oS 11 19 0 7 130,oM 12 20 131,oM 13 21 132]
@[go_sem] theorem qgR:OE qBT.eq_1:=OEM qBT.eq_1
def qBU:List qB:=[oY 0 133 19 0 7,oY 1 134 8 0 7,oD2 2 135 156 133 134,oJ 3 136 135,oM 4 137 136,oH 5 138 137 false 20,oH 6 139 137 false 9,oG 7 140 137 false (.call 86 [.t 138,.t 139]),oG 8 141 137 false (.not (.t 140)),oPt 9 142 137 141,oM 10 143 142,oH 11 144 143 false 21,oH 12 145 143 false 10,oG 13 146 143 false (.bin .neq (.t 144) (.t 145)),oPt 14 147 143 146]
@[go_sem] theorem qgS:OE qBU.eq_1:=OEM qBU.eq_1
def qBV:List qB:=[oY 0 148 13 0 7,oM 1 149 18,oD2 2 150 158 148 149,oM 3 18 150]
@[go_sem] theorem qgT:OE qBV.eq_1:=OEM qBV.eq_1
def qBW:List qB:=[oM 0 153 14,oM 1 154 18,oD2 2 155 92 153 154,oM 3 18 155]
@[go_sem] theorem qgU:OE qBW.eq_1:=OEM qBW.eq_1
def qBD:qL:=.seq (sr [oM 0 156 18,oE 1 157 .lss 156 0] (.cond (.t 157) (sr [oQ 0 6 false] .ret) .skip)) (.seq (sr [oM 0 158 18,oM 1 159 17,oB 2 160 .neq 158 159] (.cond (.t 160) (sr [oQ 0 6 false] .ret) .skip)) (sr [oQ 0 6 true] .ret))
@[go_sem] theorem qgC:CE qBD.eq_1:=CEM qBD.eq_1
def qBE:qL:=sr [oC 0 18 1] (sr qBV (.seq (sr [oM 0 151 18,oE 1 152 .lss 151 0] (.cond (.t 152) (sr [oQ 0 6 false] .ret) .skip)) (sr qBW qBD)))
@[go_sem] theorem qgD:CE qBE.eq_1:=CEM qBE.eq_1
def qBF:qL:=.seq (sr [oM 0 120 18,oM 1 121 17,oB 2 122 .neq 120 121] (.cond (.t 122) (sr [oQ 0 6 false] .ret) .skip)) (sr qBT (.seq (sr qBU (.cond (.t 147) (sr [oQ 0 6 false] .ret) .skip)) qBE))
@[go_sem] theorem qgE:CE qBF.eq_1:=CEM qBF.eq_1
def qBG:qL:=.seq (sr [oM 0 113 18,oE 1 114 .lss 113 0] (.cond (.t 114) (sr [oQ 0 6 false] .ret) .skip)) (sr qBS (.seq (sr [oM 0 118 18,oE 1 119 .lss 118 0] (.cond (.t 119) (sr [oQ 0 6 false] .ret) .skip)) qBF))
@[go_sem] theorem qgF:CE qBG.eq_1:=CEM qBG.eq_1
def qBH:qL:=.seq (sr qBO (.cond (.t 103) (sr [oQ 0 6 false] .ret) .skip)) (sr [oC 0 17 1] (sr qBP (sr qBQ (sr [oC 0 18 1] (sr qBR qBG)))))
@[go_sem] theorem qgG:CE qBH.eq_1:=CEM qBH.eq_1
def qBI:qL:=.seq (sr qB2 (.cond (.t 73) (sr [oQ 0 6 false] .ret) .skip)) (.seq (sr qB3 (.cond (.t 78) (sr [oQ 0 6 false] .ret) .skip)) (sr [oC 0 16 1] (sr qB4 (sr qBN qBH))))
@[go_sem] theorem qgH:CE qBI.eq_1:=CEM qBI.eq_1
def qBJ:qL:=.seq (sr [oM 0 30 7,oE 1 31 .lss 30 0] (.cond (.t 31) (sr [oQ 0 6 true] .ret) .skip)) (sr qBX (sr qBY (sr qBZ (sr qB0 (.seq (sr qB1 (.cond (.t 68) (sr [oQ 0 6 false] .ret) .skip)) qBI)))))
@[go_sem] theorem qgI:CE qBJ.eq_1:=CEM qBJ.eq_1
def qBK:qL:=sr [oC 0 7 1048576] (sr qBL (.seq (sr [oM 0 25 7,oE 1 26 .lss 25 0] (.cond (.t 26) (sr [oQ 0 6 true] .ret) .skip)) (sr qBM qBJ)))
@[go_sem] theorem qgJ:CE qBK.eq_1:=CEM qBK.eq_1
def F19:qN:=⟨3,161,[.t 6],sr [oP 0 3 (.lbox 1 (.t 0)),oP 1 4 (.lbox 7 (.t 1)),oQ 2 6 false] qBK⟩
def tabm:List (Nat×qN):=[(338,F338),(80,F80),(337,F337),(79,F79),(147,F147),(83,F83),(342,F342),(82,F82),(86,F86),(346,F346),(85,F85),(87,F87),(340,Xd),(1023,WY),(1024,WZ),(643,YJ),(642,YI),(1129,Wn),(878,VJ),(519,YB),(725,YU),(579,YE),(402,Xm),(381,Xh),(766,YY),(1125,Wj),(1126,Wl),(762,YX),(382,Xi),(1127,Wm),(401,F401),(385,Xj),(774,F774),(397,F397),(958,F958),(581,F581),(665,YK),(495,X9),(796,Yd),(1050,We),(1051,Wf),(1402,XJ),(1130,Wo),(770,YZ),(391,Xl),(566,YD),(1193,XF),(880,VK),(521,YC),(993,VL),(615,YG),(1169,XE),(1168,XD),(847,VH),(851,VI),(498,YA),(834,VG),(726,YV),(1400,XI),(1118,Wh),(1120,Wi),(90,F90),(347,Xf),(88,F88),(89,F89),(92,F92),(348,Xg),(91,F91),(387,Xk),(724,YT),(1149,ZQ),(822,Zb),(459,Xp),(1150,Ws),(1151,Wu),(612,YF),(1152,Wv),(1153,kP),(1405,XK),(1154,Ww),(824,Yk),(461,Xs),(833,VF),(477,X6),(616,YH),(259,XY),(1045,Wa),(671,YM),(344,Xe),(673,YO),(670,YL),(1138,Wp),(786,Ya),(1155,ZX),(1156,ZY),(1406,qN4),(1157,W8),(829,Yz),(1158,W9),(1159,XA),(727,YW),(1160,XB),(1161,XC),(830,VC),(466,Xu),(478,X7),(455,Xn),(817,Ye),(456,F456),(818,Yf),(457,F457),(152,XN),(819,Yg),(820,Yh),(1147,Wq),(1148,Wr),(821,Yi),(458,Xo),(823,Yj),(460,Xq),(462,Za),(825,Zc),(463,F463),(826,Zd),(464,F464),(154,ZZ),(1047,Wc),(1046,Wb),(672,YN),(1048,KT),(674,F674),(788,Yc),(1475,XL),(1337,XG),(1049,Wd),(1338,XH),(1052,Wg),(676,YQ),(675,YP),(293,XZ),(827,Yx),(828,Yy),(465,Xt),(696,YS),(467,Xv),(468,Xz),(831,VD),(469,F469),(832,VE),(470,F470),(156,XO),(471,X0),(472,X1),(473,X2),(157,XP),(474,X3),(475,X4),(476,X5),(158,XQ),(159,XR),(160,XU),(19,F19)]
def Gm (g:Nat):Option AFn:=JS g tabm
theorem g338:Gm 338=some (.fn F338):=by kernel_rfl
theorem g80:Gm 80=some (.fn F80):=by kernel_rfl
theorem g337:Gm 337=some (.fn F337):=by kernel_rfl
theorem g79:Gm 79=some (.fn F79):=by kernel_rfl
theorem g147:Gm 147=some (.fn F147):=by kernel_rfl
theorem g83:Gm 83=some (.fn F83):=by kernel_rfl
theorem Vx:Gm 342=some (.fn F342):=by kernel_rfl
theorem g82:Gm 82=some (.fn F82):=by kernel_rfl
theorem g86:Gm 86=some (.fn F86):=by kernel_rfl
theorem g346:Gm 346=some (.fn F346):=by kernel_rfl
theorem g85:Gm 85=some (.fn F85):=by kernel_rfl
theorem g87:Gm 87=some (.fn F87):=by kernel_rfl
theorem g340:Gm 340=some (.fn Xd):=by kernel_rfl
theorem qU9:Gm 1023=some (.fn WY):=by kernel_rfl
theorem qVA:Gm 1024=some (.fn WZ):=by kernel_rfl
theorem g643:Gm 643=some (.fn YJ):=by kernel_rfl
theorem g642:Gm 642=some (.fn YI):=by kernel_rfl
theorem qVO:Gm 1129=some (.fn Wn):=by kernel_rfl
theorem g878:Gm 878=some (.fn VJ):=by kernel_rfl
theorem g519:Gm 519=some (.fn YB):=by kernel_rfl
theorem g725:Gm 725=some (.fn YU):=by kernel_rfl
theorem g579:Gm 579=some (.fn YE):=by kernel_rfl
theorem g402:Gm 402=some (.fn Xm):=by kernel_rfl
theorem g381:Gm 381=some (.fn Xh):=by kernel_rfl
theorem g766:Gm 766=some (.fn YY):=by kernel_rfl
theorem qVL:Gm 1125=some (.fn Wj):=by kernel_rfl
theorem qVM:Gm 1126=some (.fn Wl):=by kernel_rfl
theorem g762:Gm 762=some (.fn YX):=by kernel_rfl
theorem g382:Gm 382=some (.fn Xi):=by kernel_rfl
theorem qVN:Gm 1127=some (.fn Wm):=by kernel_rfl
theorem g401:Gm 401=some (.fn F401):=by kernel_rfl
theorem g385:Gm 385=some (.fn Xj):=by kernel_rfl
theorem g774:Gm 774=some (.fn F774):=by kernel_rfl
theorem g397:Gm 397=some (.fn F397):=by kernel_rfl
theorem g958:Gm 958=some (.fn F958):=by kernel_rfl
theorem g581:Gm 581=some (.fn F581):=by kernel_rfl
theorem g665:Gm 665=some (.fn YK):=by kernel_rfl
theorem g495:Gm 495=some (.fn X9):=by kernel_rfl
theorem g796:Gm 796=some (.fn Yd):=by kernel_rfl
theorem qVG:Gm 1050=some (.fn We):=by kernel_rfl
theorem qVH:Gm 1051=some (.fn Wf):=by kernel_rfl
theorem qV9:Gm 1402=some (.fn XJ):=by kernel_rfl
theorem qVP:Gm 1130=some (.fn Wo):=by kernel_rfl
theorem g770:Gm 770=some (.fn YZ):=by kernel_rfl
theorem g391:Gm 391=some (.fn Xl):=by kernel_rfl
theorem g566:Gm 566=some (.fn YD):=by kernel_rfl
theorem qV5:Gm 1193=some (.fn XF):=by kernel_rfl
theorem g880:Gm 880=some (.fn VK):=by kernel_rfl
theorem g521:Gm 521=some (.fn YC):=by kernel_rfl
theorem g993:Gm 993=some (.fn VL):=by kernel_rfl
theorem g615:Gm 615=some (.fn YG):=by kernel_rfl
theorem qV4:Gm 1169=some (.fn XE):=by kernel_rfl
theorem qV3:Gm 1168=some (.fn XD):=by kernel_rfl
theorem g847:Gm 847=some (.fn VH):=by kernel_rfl
theorem g851:Gm 851=some (.fn VI):=by kernel_rfl
theorem g498:Gm 498=some (.fn YA):=by kernel_rfl
theorem g834:Gm 834=some (.fn VG):=by kernel_rfl
theorem g726:Gm 726=some (.fn YV):=by kernel_rfl
theorem qV8:Gm 1400=some (.fn XI):=by kernel_rfl
theorem qVJ:Gm 1118=some (.fn Wh):=by kernel_rfl
theorem qVK:Gm 1120=some (.fn Wi):=by kernel_rfl
theorem g90:Gm 90=some (.fn F90):=by kernel_rfl
theorem g347:Gm 347=some (.fn Xf):=by kernel_rfl
theorem g88:Gm 88=some (.fn F88):=by kernel_rfl
theorem g89:Gm 89=some (.fn F89):=by kernel_rfl
theorem g92:Gm 92=some (.fn F92):=by kernel_rfl
theorem g348:Gm 348=some (.fn Xg):=by kernel_rfl
theorem g91:Gm 91=some (.fn F91):=by kernel_rfl
theorem g387:Gm 387=some (.fn Xk):=by kernel_rfl
theorem g724:Gm 724=some (.fn YT):=by kernel_rfl
theorem qPQ:Gm 1149=some (.fn ZQ):=by kernel_rfl
theorem g822:Gm 822=some (.fn Zb):=by kernel_rfl
theorem g459:Gm 459=some (.fn Xp):=by kernel_rfl
theorem qVT:Gm 1150=some (.fn Ws):=by kernel_rfl
theorem qVU:Gm 1151=some (.fn Wu):=by kernel_rfl
theorem g612:Gm 612=some (.fn YF):=by kernel_rfl
theorem qVV:Gm 1152=some (.fn Wv):=by kernel_rfl
theorem qVW:Gm 1153=some (.fn kP):=by kernel_rfl
theorem qWA:Gm 1405=some (.fn XK):=by kernel_rfl
theorem qVX:Gm 1154=some (.fn Ww):=by kernel_rfl
theorem g824:Gm 824=some (.fn Yk):=by kernel_rfl
theorem g461:Gm 461=some (.fn Xs):=by kernel_rfl
theorem g833:Gm 833=some (.fn VF):=by kernel_rfl
theorem g477:Gm 477=some (.fn X6):=by kernel_rfl
theorem g616:Gm 616=some (.fn YH):=by kernel_rfl
theorem g259:Gm 259=some (.fn XY):=by kernel_rfl
theorem qVB:Gm 1045=some (.fn Wa):=by kernel_rfl
theorem g671:Gm 671=some (.fn YM):=by kernel_rfl
theorem g344:Gm 344=some (.fn Xe):=by kernel_rfl
theorem g673:Gm 673=some (.fn YO):=by kernel_rfl
theorem g670:Gm 670=some (.fn YL):=by kernel_rfl
theorem qVQ:Gm 1138=some (.fn Wp):=by kernel_rfl
theorem g786:Gm 786=some (.fn Ya):=by kernel_rfl
theorem Qn:Gm 1155=some (.fn ZX):=by kernel_rfl
theorem Jl:Gm 1156=some (.fn ZY):=by kernel_rfl
theorem qVY:Gm 1157=some (.fn W8):=by kernel_rfl
theorem g829:Gm 829=some (.fn Yz):=by kernel_rfl
theorem qVZ:Gm 1158=some (.fn W9):=by kernel_rfl
theorem qV0:Gm 1159=some (.fn XA):=by kernel_rfl
theorem g727:Gm 727=some (.fn YW):=by kernel_rfl
theorem qV1:Gm 1160=some (.fn XB):=by kernel_rfl
theorem qV2:Gm 1161=some (.fn XC):=by kernel_rfl
theorem g830:Gm 830=some (.fn VC):=by kernel_rfl
theorem g466:Gm 466=some (.fn Xu):=by kernel_rfl
theorem g478:Gm 478=some (.fn X7):=by kernel_rfl
theorem g455:Gm 455=some (.fn Xn):=by kernel_rfl
theorem g817:Gm 817=some (.fn Ye):=by kernel_rfl
theorem g456:Gm 456=some (.fn F456):=by kernel_rfl
theorem g818:Gm 818=some (.fn Yf):=by kernel_rfl
theorem g457:Gm 457=some (.fn F457):=by kernel_rfl
theorem g152:Gm 152=some (.fn XN):=by kernel_rfl
theorem g819:Gm 819=some (.fn Yg):=by kernel_rfl
theorem g820:Gm 820=some (.fn Yh):=by kernel_rfl
theorem qVR:Gm 1147=some (.fn Wq):=by kernel_rfl
theorem qVS:Gm 1148=some (.fn Wr):=by kernel_rfl
theorem g821:Gm 821=some (.fn Yi):=by kernel_rfl
theorem g458:Gm 458=some (.fn Xo):=by kernel_rfl
theorem g823:Gm 823=some (.fn Yj):=by kernel_rfl
theorem g460:Gm 460=some (.fn Xq):=by kernel_rfl
theorem g462:Gm 462=some (.fn Za):=by kernel_rfl
theorem g825:Gm 825=some (.fn Zc):=by kernel_rfl
theorem g463:Gm 463=some (.fn F463):=by kernel_rfl
theorem g826:Gm 826=some (.fn Zd):=by kernel_rfl
theorem g464:Gm 464=some (.fn F464):=by kernel_rfl
theorem g154:Gm 154=some (.fn ZZ):=by kernel_rfl
theorem qVD:Gm 1047=some (.fn Wc):=by kernel_rfl
theorem qVC:Gm 1046=some (.fn Wb):=by kernel_rfl
theorem g672:Gm 672=some (.fn YN):=by kernel_rfl
theorem qVE:Gm 1048=some (.fn KT):=by kernel_rfl
theorem g674:Gm 674=some (.fn F674):=by kernel_rfl
theorem g788:Gm 788=some (.fn Yc):=by kernel_rfl
theorem qWB:Gm 1475=some (.fn XL):=by kernel_rfl
theorem qV6:Gm 1337=some (.fn XG):=by kernel_rfl
theorem qVF:Gm 1049=some (.fn Wd):=by kernel_rfl
theorem qV7:Gm 1338=some (.fn XH):=by kernel_rfl
theorem qVI:Gm 1052=some (.fn Wg):=by kernel_rfl
theorem g676:Gm 676=some (.fn YQ):=by kernel_rfl
theorem g675:Gm 675=some (.fn YP):=by kernel_rfl
theorem g293:Gm 293=some (.fn XZ):=by kernel_rfl
theorem g827:Gm 827=some (.fn Yx):=by kernel_rfl
theorem g828:Gm 828=some (.fn Yy):=by kernel_rfl
theorem g465:Gm 465=some (.fn Xt):=by kernel_rfl
theorem g696:Gm 696=some (.fn YS):=by kernel_rfl
theorem g467:Gm 467=some (.fn Xv):=by kernel_rfl
theorem g468:Gm 468=some (.fn Xz):=by kernel_rfl
theorem g831:Gm 831=some (.fn VD):=by kernel_rfl
theorem g469:Gm 469=some (.fn F469):=by kernel_rfl
theorem g832:Gm 832=some (.fn VE):=by kernel_rfl
theorem g470:Gm 470=some (.fn F470):=by kernel_rfl
theorem g156:Gm 156=some (.fn XO):=by kernel_rfl
theorem g471:Gm 471=some (.fn X0):=by kernel_rfl
theorem g472:Gm 472=some (.fn X1):=by kernel_rfl
theorem g473:Gm 473=some (.fn X2):=by kernel_rfl
theorem g157:Gm 157=some (.fn XP):=by kernel_rfl
theorem g474:Gm 474=some (.fn X3):=by kernel_rfl
theorem g475:Gm 475=some (.fn X4):=by kernel_rfl
theorem g476:Gm 476=some (.fn X5):=by kernel_rfl
theorem g158:Gm 158=some (.fn XQ):=by kernel_rfl
theorem g159:Gm 159=some (.fn XR):=by kernel_rfl
theorem g160:Gm 160=some (.fn XU):=by kernel_rfl
theorem g19:Gm 19=some (.fn F19):=by kernel_rfl
theorem Jw {pre mid post:List AV} {j i:Nat} {x:AV} (hj:pre.length=j) (hx:mid[i]?=some x):(AV.agg (pre++(mid++post))).part (j+i) none=some x:=by
 show (pre++(mid++post))[j+i]?=some x;have hl:=(gSi.1 hx).1;rw [gAr (by omega),hj,Nat.add_sub_cancel_left,gAl hl];exact hx
theorem qQ1 {pre mid post:List AV} {j k:Nat} (hj:pre.length=j) (hk:k≤mid.length):(AV.agg (pre++(mid++post))).part j (some k)=some (.agg (mid.take k)):=by
 subst hj;show (if pre.length+k≤(AV.agg (pre++(mid++post))).cells.length then some (AV.agg (((AV.agg (pre++(mid++post))).cells.drop pre.length).take k)) else none)=_;rw [if_pos (by simp [AV.cells];omega)];show some (AV.agg (((pre++(mid++post)).drop pre.length).take k))=_;rw [List.drop_append_of_le_length (Nat.le_refl _),List.drop_length,List.nil_append,List.take_append_of_le_length hk]
theorem qM9 {pre a b c post:List AV} {v:AV} {j i n:Nat} (hj:pre.length=j) (hi:a.length=i) (hb:b.length=v.cells.length) (hn:n=j+i):(AV.agg (pre++((a++(b++c))++post))).put n v=some (.agg (pre++((a++(v.cells++c))++post))):=by
 subst hj hi hn;simp only [AV.put];rw [if_pos (by simp;omega)];congr 2;have e1:(pre++((a++(b++c))++post)).take (pre.length+a.length)=pre++a:=by
  rw [show pre++((a++(b++c))++post)=(pre++a)++(b++(c++post)) by simp];exact List.take_left' (by simp)
 have e2:(pre++((a++(b++c))++post)).drop (pre.length+a.length+v.cells.length)=c++post:=by
  rw [show pre++((a++(b++c))++post)=(pre++(a++b))++(c++post) by simp];exact List.drop_left' (by simp;omega)
 rw [e1,e2];simp
def Nec (M:qG) (si hi:Nat):List AV:=[.int .i64 M.Control.Term.Kind,.int .i64 M.Control.Term.Value,.lst 1 (M.Control.Term.Data.map qD) false,.lst 4 (M.Control.Term.Kids.map qA.enc) false,.lst 1 (M.Control.Env.map qD) false,
 .slice 8 si 0 M.Stack.length false,.slice 6 hi 0 M.Heap.length false]
structure NS (P:Nat→Prop) (w:Nat) (pre post:List AV) (id:Nat) (h:List qC) (M:qG) (si hi:Nat) (js:List AV):Prop where
 o:h[id]?=some (.row w [.agg (pre++(Nec M si hi++post))] true)
 s:h[si]?=some (.row 8 (M.Stack.map qF.enc++js) true)
 t:h[hi]?=some (.row 6 (M.Heap.map qH.enc) true)
 d1:id≠si
 d2:id≠hi
 d3:si≠hi
 p1:¬P id
 p2:¬P si
 p3:¬P hi
 pl:∀j,P j→j<h.length
def NSx (P:Nat→Prop) (w:Nat) (pre post:List AV) (id:Nat) (h:List qC) (M:qG):Prop:=∃si hi js,NS P w pre post id h M si hi js
def Keep (P:Nat→Prop) (h h':List qC):Prop:=h.length≤h'.length∧∀j,P j→h'[j]?=h[j]?
theorem Keep.refl {P:Nat→Prop} {h:List qC}:Keep P h h:=⟨Nat.le_refl _,fun _ _=>rfl⟩
theorem Keep.trans {P:Nat→Prop} {h h1 h2:List qC} (a:Keep P h h1) (b:Keep P h1 h2):Keep P h h2:=⟨Nat.le_trans a.1 b.1,fun j hj=>(b.2 j hj).trans (a.2 j hj)⟩
theorem Keep.sub {P Q:Nat→Prop} {h h':List qC} (a:Keep P h h') (hq:∀j,Q j→P j):Keep Q h h':=⟨a.1,fun j hj=>a.2 j (hq j hj)⟩
section
variable {P:Nat→Prop} {w:Nat} {pre post post':List AV} {id:Nat} {h:List qC} {M:qG} {si hi:Nat} {js:List AV}
theorem qc {α:Type} {xs:List α} {i:Nat} {x:α} (h:xs[i]?=some x):i<xs.length:=(gSi.1 h).1
theorem NS.struct (hN:NS P w pre post id h M si hi js) {M':qG} {js':List AV} (hs:M'.Stack.map qF.enc++js'=M.Stack.map qF.enc++js) (ht:M'.Heap=M.Heap):
  NS P w pre post' id (h.set id (.row w [.agg (pre++(Nec M' si hi++post'))] true)) M' si hi js'∧Keep P h (h.set id (.row w [.agg (pre++(Nec M' si hi++post'))] true)):=by
 have hl:=qc hN.o;refine ⟨⟨by rw [List.getElem?_set,if_pos rfl,if_pos hl],by rw [gSn hN.d1,hs];exact hN.s,by rw [gSn hN.d2,ht];exact hN.t,hN.d1,hN.d2,hN.d3,hN.p1,hN.p2,hN.p3,by simpa using hN.pl⟩,by simp,fun j hj=> ?_⟩;rw [gSn];rintro rfl;exact hN.p1 hj
theorem NS.push (hN:NS P w pre post id h M si hi js) {M':qG} {x:qC} (ht:M'.Heap=M.Heap):
  NS P w pre post id ((((h++[x]).set si .dead)++[qC.row 8 (M'.Stack.map qF.enc) true]).set id (.row w [.agg (pre++(Nec M' (h.length+1) hi++post))] true)) M' (h.length+1) hi []∧
  Keep P h ((((h++[x]).set si .dead)++[qC.row 8 (M'.Stack.map qF.enc) true]).set id (.row w [.agg (pre++(Nec M' (h.length+1) hi++post))] true)):=by
 have hl:=qc hN.o;have hl2:=qc hN.s;have hl3:=qc hN.t;have old:∀j,j<h.length→j≠id→j≠si→((((h++[x]).set si .dead)++[qC.row 8 (M'.Stack.map qF.enc) true]).set id (.row w [.agg (pre++(Nec M' (h.length+1) hi++post))] true))[j]?=h[j]?:=fun j h1 h2 h3=>by
  rw [gSn (Ne.symm h2),gAl (by simp;omega),gSn (Ne.symm h3),gAl h1]
 refine ⟨⟨by rw [List.getElem?_set,if_pos rfl,if_pos (by simp;omega)], ?_,by rw [old hi hl3 (Ne.symm hN.d2) (Ne.symm hN.d3),ht];exact hN.t,by omega,hN.d2,by omega,hN.p1,fun hp=>by have:=hN.pl _ hp;omega,hN.p3,fun j hj=>by have:=hN.pl j hj;simp;omega⟩,by simp;omega,fun j hj=>old j (hN.pl j hj) ?_ ?_⟩
 ·rw [gSn (by omega),gAr (by simp)];simp
 ·rintro rfl;exact hN.p1 hj
 ·rintro rfl;exact hN.p2 hj
theorem NS.grow (hN:NS P w pre post id h M si hi js) {M':qG} {x:qC} (hs:M'.Stack=M.Stack):
  NS P w pre post id ((((h++[x]).set hi .dead)++[qC.row 6 (M'.Heap.map qH.enc) true]).set id (.row w [.agg (pre++(Nec M' si (h.length+1)++post))] true)) M' si (h.length+1) js∧
  Keep P h ((((h++[x]).set hi .dead)++[qC.row 6 (M'.Heap.map qH.enc) true]).set id (.row w [.agg (pre++(Nec M' si (h.length+1)++post))] true)):=by
 have hl:=qc hN.o;have hl2:=qc hN.s;have hl3:=qc hN.t;have old:∀j,j<h.length→j≠id→j≠hi→((((h++[x]).set hi .dead)++[qC.row 6 (M'.Heap.map qH.enc) true]).set id (.row w [.agg (pre++(Nec M' si (h.length+1)++post))] true))[j]?=h[j]?:=fun j h1 h2 h3=>by
  rw [gSn (Ne.symm h2),gAl (by simp;omega),gSn (Ne.symm h3),gAl h1]
 refine ⟨⟨by rw [List.getElem?_set,if_pos rfl,if_pos (by simp;omega)],by rw [old si hl2 (Ne.symm hN.d1) hN.d3,hs];exact hN.s, ?_,hN.d1,by omega,by omega,hN.p1,hN.p2,fun hp=>by have:=hN.pl _ hp;omega,fun j hj=>by have:=hN.pl j hj;simp;omega⟩,by simp;omega,fun j hj=>old j (hN.pl j hj) ?_ ?_⟩
 ·rw [gSn (by omega),gAr (by simp)];simp
 ·rintro rfl;exact hN.p1 hj
 ·rintro rfl;exact hN.p3 hj
theorem NS.cell (hN:NS P w pre post id h M si hi js) {M':qG} (hc:M'.Control=M.Control) (hs:M'.Stack=M.Stack) (hl:M'.Heap.length=M.Heap.length):
  NS P w pre post id (h.set hi (.row 6 (M'.Heap.map qH.enc) true)) M' si hi js∧Keep P h (h.set hi (.row 6 (M'.Heap.map qH.enc) true)):=by
 have hl3:=qc hN.t;have hn:Nec M' si hi=Nec M si hi:=by unfold Nec;rw [hc,hs,hl]
 refine ⟨⟨by rw [gSn (Ne.symm hN.d2),hn];exact hN.o,by rw [gSn (Ne.symm hN.d3),hs];exact hN.s,by rw [List.getElem?_set,if_pos rfl,if_pos hl3],hN.d1,hN.d2,hN.d3,hN.p1,hN.p2,hN.p3,by simpa using hN.pl⟩,by simp,fun j hj=> ?_⟩;rw [gSn];rintro rfl;exact hN.p3 hj
theorem NS.frame (hN:NS P w pre post id h M si hi js) {M':qG} (hc:M'.Control=M.Control) (ht:M'.Heap=M.Heap) (hl:M'.Stack.length=M.Stack.length):
  NS P w pre post id (h.set si (.row 8 (M'.Stack.map qF.enc++js) true)) M' si hi js∧Keep P h (h.set si (.row 8 (M'.Stack.map qF.enc++js) true)):=by
 have hl3:=qc hN.s;have hn:Nec M' si hi=Nec M si hi:=by unfold Nec;rw [hc,ht,hl]
 refine ⟨⟨by rw [gSn (Ne.symm hN.d1),hn];exact hN.o,by rw [List.getElem?_set,if_pos rfl,if_pos hl3],by rw [gSn hN.d3,ht];exact hN.t,hN.d1,hN.d2,hN.d3,hN.p1,hN.p2,hN.p3,by simpa using hN.pl⟩,by simp,fun j hj=> ?_⟩;rw [gSn];rintro rfl;exact hN.p2 hj
theorem NS.kp {Q:Nat→Prop} (hN:NS P w pre post id h M si hi js) (hq:∀j,Q j→P j):NS Q w pre post id h M si hi js:=
 ⟨hN.o,hN.s,hN.t,hN.d1,hN.d2,hN.d3,fun h=>hN.p1 (hq _ h),fun h=>hN.p2 (hq _ h),fun h=>hN.p3 (hq _ h),fun j hj=>hN.pl j (hq j hj)⟩
end
section
variable {e:AV} {pre post:List AV} {M:qG} {si hi j:Nat}
theorem ne0 (hj:pre.length=j):(AV.agg (pre++(Nec M si hi++post))).part j none=some (.int .i64 M.Control.Term.Kind):=Jw (i:=0) hj rfl
theorem ne1 (hj:pre.length=j):(AV.agg (pre++(Nec M si hi++post))).part (j+1) none=some (.int .i64 M.Control.Term.Value):=Jw hj rfl
theorem ne2 (hj:pre.length=j):(AV.agg (pre++(Nec M si hi++post))).part (j+2) none=some (.lst 1 (M.Control.Term.Data.map qD) false):=Jw hj rfl
theorem ne3 (hj:pre.length=j):(AV.agg (pre++(Nec M si hi++post))).part (j+3) none=some (.lst 4 (M.Control.Term.Kids.map qA.enc) false):=Jw hj rfl
theorem ne4 (hj:pre.length=j):(AV.agg (pre++(Nec M si hi++post))).part (j+4) none=some (.lst 1 (M.Control.Env.map qD) false):=Jw hj rfl
theorem ne5 (hj:pre.length=j):(AV.agg (pre++(Nec M si hi++post))).part (j+5) none=some (.slice 8 si 0 M.Stack.length false):=Jw hj rfl
theorem ne6 (hj:pre.length=j):(AV.agg (pre++(Nec M si hi++post))).part (j+6) none=some (.slice 6 hi 0 M.Heap.length false):=Jw hj rfl
theorem neT (hj:pre.length=j):(AV.agg (pre++(Nec M si hi++post))).part j (some 4)=some M.Control.Term.enc:=by rw [qQ1 hj (by simp [Nec]),qA.enc_eq];rfl
theorem neC (hj:pre.length=j):(AV.agg (pre++(Nec M si hi++post))).part j (some 5)=some M.Control.enc:=by rw [qQ1 hj (by simp [Nec])];rfl
theorem WA (hj:pre.length=j) {s':Nat} {n:Nat} {M':qG} (hc:M'.Control=M.Control) (hh:M'.Heap=M.Heap) (hn:n=M'.Stack.length):(AV.agg (pre++(Nec M si hi++post))).put (j+5) (.slice 8 s' 0 n false)=some (.agg (pre++(Nec M' s' hi++post))):=by
 subst hn;have:=qM9 (pre:=pre) (post:=post) (v:=.slice 8 s' 0 M'.Stack.length false) (a:=(Nec M si hi).take 5) (b:=[.slice 8 si 0 M.Stack.length false]) (c:=[.slice 6 hi 0 M.Heap.length false]) (n:=j+5) hj rfl rfl rfl;rw [show Nec M' s' hi=(Nec M si hi).take 5++((AV.slice 8 s' 0 M'.Stack.length false).cells++[.slice 6 hi 0 M.Heap.length false]) by simp [Nec,hc,hh,AV.cells]];exact this
theorem qQP (hj:pre.length=j) {s':Nat} {n:Nat} {M':qG} (hc:M'.Control=M.Control) (hh:M'.Stack=M.Stack) (hn:n=M'.Heap.length):(AV.agg (pre++(Nec M si hi++post))).put (j+6) (.slice 6 s' 0 n false)=some (.agg (pre++(Nec M' si s'++post))):=by
 subst hn;have:=qM9 (pre:=pre) (post:=post) (v:=.slice 6 s' 0 M'.Heap.length false) (a:=(Nec M si hi).take 6) (b:=[.slice 6 hi 0 M.Heap.length false]) (c:=[]) (n:=j+6) hj rfl rfl rfl;rw [show Nec M' si s'=(Nec M si hi).take 6++((AV.slice 6 s' 0 M'.Heap.length false).cells++[]) by simp [Nec,hc,hh,AV.cells]];exact this
theorem z9 (hj:pre.length=j) {v:AV} (hv:v.cells.length=5):(AV.agg (pre++(Nec M si hi++post))).put j v=some (.agg (pre++((v.cells++[.slice 8 si 0 M.Stack.length false,.slice 6 hi 0 M.Heap.length false])++post))):=by
 have:=qM9 (pre:=pre) (post:=post) (v:=v) (a:=[]) (b:=(Nec M si hi).take 5) (c:=[.slice 8 si 0 M.Stack.length false,.slice 6 hi 0 M.Heap.length false]) (n:=j) hj rfl (by rw [hv];rfl) rfl;exact this
end
theorem c338 (xs:List Int) (hx:xs.length≤140737488355328) (left:Nat) (hl:left≤1048576):Pure Gm 338 [.lst 1 (xs.map qD) false,.int .i64 left] (.int .i64 (z6 xs.length left)):=
 qa2 g338 shI.tree xs left hl hx
theorem c80 (x:qA):∀(_:x.bd) (left:Nat) (_:left≤1048576),Pure Gm 80 [x.enc,.int .i64 left] (.int .i64 (z6 x.sz left)):=by
 induction x using qA.ind with
 | _ x ih=>
 intro hb left hl;refine Pure.intro [] [] g80 (by kernel_rfl) rfl (by simp [AV.trees,AV.tree,qA.tr]) rfl ?_;simp only [F80,qP,go_sem];refine qW qA.ln ?_;simp only [go_sem];rw [qA.bd_eq] at hb;refine qK (c338 _ hb.1 _ (by omega)) ?_;simp only [go_sem];refine qM ?_ ?_<;>intro hc<;>simp only [hc,go_sem]
 ·have hq:=odT hc;rw [za] at hq;exact qJ rfl (by rw [jK (by rw [qA.sz_eq];omega)])
 have hq:=odF hc;rw [za] at hq;rw [zk (by omega)];clear hc;refine qK (Uo qA.isSh g337 qA.sz x.Kids (fun y hm lf hlf=>ih y hm (hb.2.2 y hm) lf hlf) _ (by omega) hb.2.1) ?_;simp only [go_sem];refine qM ?_ ?_<;>intro hc<;>simp only [hc,go_sem]
 ·have hq:=odT hc;rw [za] at hq;exact qJ rfl (by rw [jK (by rw [qA.sz_eq];omega)])
 have hq:=odF hc;rw [za] at hq;rw [zk (by omega)];clear hc;exact qJ rfl (by rw [zk (by rw [qA.sz_eq];omega)];rw [qA.sz_eq];first | rfl | (congr 2;omega))
theorem c337 (xs:List qA) (hx:xs.length≤140737488355328∧(∀y∈xs,qA.bd y)) (left:Nat) (hl:left≤1048576):Pure Gm 337 [.lst 4 (xs.map qA.enc) false,.int .i64 left] (.int .i64 (z6 (xs.length+qE qA.sz xs) left)):=
 Uo qA.isSh g337 qA.sz xs (fun x hm lf hlf=>c80 x (hx.2 x hm) lf hlf) left hl hx.1
theorem c79 (x:qO) (hb:x.bd) (left:Nat) (hl:left≤1048576):Pure Gm 79 [x.enc,.int .i64 left] (.int .i64 (z6 x.sz left)):=by
 refine Pure.intro [] [] g79 (by kernel_rfl) rfl (by simp [AV.trees,AV.tree,qO.tr]) rfl ?_;simp only [F79,qP,go_sem];refine qW rfl ?_;simp only [go_sem];unfold qO.bd at hb;refine qK (c337 _ ⟨hb.1,hb.2⟩ _ (by omega)) ?_;simp only [go_sem];refine qM ?_ ?_<;>intro hc<;>simp only [hc,go_sem]
 ·have hq:=odT hc;rw [za] at hq;exact qJ rfl (by rw [jK (by unfold qO.sz;omega)])
 have hq:=odF hc;rw [za] at hq;rw [zk (by omega)];clear hc;exact qJ rfl (by rw [zk (by unfold qO.sz;omega)];unfold qO.sz;first | rfl | (congr 2;omega))
theorem c147 (xs:List Int) (hl:xs.length≤1048576):Pure Gm 147 [.lst 1 (xs.map qD) false] (.lst 1 (xs.map qD) false):=qa6 g147 xs hl
theorem c83 (x:qA):∀(_:x.sz≤1048576),Pure Gm 83 [x.enc] (x.enc):=by
 induction x using qA.ind with
 | _ x ih=>
 intro hz;refine Pure.intro [] [] g83 (by kernel_rfl) rfl (by simp [AV.trees,AV.tree,qA.tr]) qA.tr ?_;simp only [F83,qP,go_sem];refine qW qA.ln ?_;simp only [go_sem];rw [qA.sz_eq] at hz;refine qK (c147 _ (by omega)) ?_;simp only [go_sem];refine qK (Ur qA.isSh rfl rfl (by simp) Vx x.Kids (fun y hm=>ih y hm (by have:=zP (f:=qA.sz) hm;omega)) (by omega)) ?_;simp only [go_sem];refine qf rfl rfl ⟨_,rfl⟩ (by decide) ?_;simp only [go_sem];exact qJ qA.tr (by rw [qA.enc_eq])
theorem c342 (xs:List qA) (hl:xs.length+qE qA.sz xs≤1048576):Pure Gm 342 [.lst 4 (xs.map qA.enc) false] (.lst 4 (xs.map qA.enc) false):=
 Ur qA.isSh rfl rfl (by simp) Vx xs (fun x hm=>c83 x (by have:=zP (f:=qA.sz) hm;omega)) (by omega)
theorem c82 (x:qO) (hz:x.sz≤1048576):Pure Gm 82 [x.enc] x.enc:=by
 refine Pure.intro [] [] g82 (by kernel_rfl) rfl (by simp [AV.trees,AV.tree,qO.tr]) qO.tr ?_;simp only [F82,qP,go_sem];refine qW rfl ?_;simp only [go_sem];unfold qO.sz at hz;refine qK (c342 _ (by omega)) ?_;simp only [go_sem];exact qJ qO.tr rfl
theorem c86 (xs:List Int) (hl:xs.length≤2097152):Pure Gm 86 [.lst 1 (xs.map qD) false,.lst 1 (xs.map qD) false] (.bool true):=qUW g86 xs hl
theorem c85 (x:qA):∀(_:x.sz≤2097152),Pure Gm 85 [x.enc,x.enc] (.bool true):=by
 induction x using qA.ind with
 | _ x ih=>
 intro hz;refine Pure.intro [] [] g85 (by kernel_rfl) rfl (by simp [AV.trees,AV.tree,qA.tr]) rfl ?_;simp only [F85,qP,go_sem];refine qW qA.ln ?_;simp only [go_sem];refine qW qA.ln ?_;simp only [go_sem];rw [qA.sz_eq] at hz;refine qK (c86 _ (by omega)) ?_;simp only [go_sem];refine qK (Vo qA.isSh g346 x.Kids (fun y hm=>ih y hm (by have:=zP (f:=qA.sz) hm;omega)) (by omega)) ?_;simp only [go_sem];exact qJ rfl rfl
theorem c346 (xs:List qA) (hl:xs.length+qE qA.sz xs≤2097152):Pure Gm 346 [.lst 4 (xs.map qA.enc) false,.lst 4 (xs.map qA.enc) false] (.bool true):=
 Vo qA.isSh g346 xs (fun x hm=>c85 x (by have:=zP (f:=qA.sz) hm;omega)) (by omega)
theorem c87 (x:qO) (hz:x.sz≤2097152):Pure Gm 87 [x.enc,x.enc] (.bool true):=by
 refine Pure.intro [] [] g87 (by kernel_rfl) rfl (by simp [AV.trees,AV.tree,qO.tr]) rfl ?_;simp only [F87,qP,go_sem];refine qW rfl ?_;simp only [go_sem];refine qW rfl ?_;simp only [go_sem];unfold qO.sz at hz;refine qK (c346 _ (by omega)) ?_;simp only [go_sem];exact qJ rfl rfl
set_option maxHeartbeats 2000000
def inI (n lo hi:Int):Bool:=decide (lo≤n)&&decide (n≤hi)
theorem dlt (a b:Int):decide (a<b)= !decide (b≤a):=by rw [Bool.eq_iff_iff];simp
theorem nt {b:Bool} (h:(!b)=true):b=false:=by cases b<;>simp_all
theorem nf {b:Bool} (h:(!b)=false):b=true:=by cases b<;>simp_all
theorem jI {α:Type} {xs:List α} {i:Nat} (h:i<xs.length):xs.drop i=xs[i]::xs.drop (i+1):=by simp
def shp (k:Int):(Int×Int)×Int×Int:=
 if k=1∨k=2∨k=11 then ((0,0),0,0) else if k=3∨k=5∨k=7 then ((2,2),0,0) else if k=4∨k=6 then ((1,1),0,0)
 else if k=8 then ((0,3),0,0) else if k=9 then ((1,1),1,4) else if k=10 then ((1,1),2,2) else ((0,-1),0,0)
def jl (k v:Int):Bool:=
 if k=1 then inI v 0 255 else if k=2 then inI v (-2147483648) 2147483647 else if k=3 then inI v 1 6 else if k=8 then inI v 0 3 else if k=11 then inI v 0 23 else decide (v=0)
def jd (n:Int):Bool:=inI n 0 23
def zN (x:qA):Bool:=inI x.Kids.length (shp x.Kind).1.1 (shp x.Kind).1.2&&inI x.Data.length (shp x.Kind).2.1 (shp x.Kind).2.2&&jl x.Kind x.Value&&x.Data.all jd
def qA.fold {β:Type} (f:qA→List β→β) (x:qA):β:=f x (x.Kids.attach.map fun y=>qA.fold f y.1)
termination_by SizeOf.sizeOf x
decreasing_by exact qA.lt_of_mem y.2
theorem qA.fold_eq {β:Type} (f:qA→List β→β) (x:qA):qA.fold f x=f x (x.Kids.map (qA.fold f)):=by
 rw [qA.fold];congr 1;rw [List.attach_map_val (l:=x.Kids) (f:=qA.fold f)]
@[go_sem] theorem qzM {α:Type} (f:α→Nat):qE f []=0:=rfl
theorem qNU {α:Type} {f:α→Nat} {xs:List α} {i:Nat} (h:i<xs.length):qE f (xs.take (i+1))=qE f (xs.take i)+f xs[i]:=by
 induction xs generalizing i with
 | nil=>simp at h
 | cons a xs ih=>
  cases i with
  | zero=>simp [qE]
  | succ i=>simp only [List.take_succ_cons,qE,List.getElem_cons_succ,ih (by simpa using h)];omega
def zI {α:Type} (f:α→Nat):List α→Nat
 |[]=>0
 | x::xs=>Nat.max (f x) (zI f xs)
def qA.ok:qA→Bool:=qA.fold fun x rs=>zN x&&rs.all id
theorem qA.ok_eq (x:qA):x.ok=(zN x&&x.Kids.all qA.ok):=by
 unfold qA.ok;rw [qA.fold_eq];simp
def qA.size:qA→Nat:=qA.fold fun _ rs=>1+qE id rs
theorem qSA {α β:Type} (f:β→Nat) (g:α→β):∀xs:List α,qE f (xs.map g)=qE (fun x=>f (g x)) xs
 |[]=>rfl
 | x::xs=>by simp [qE,qSA f g xs]
theorem qA.size_eq (x:qA):x.size=1+qE qA.size x.Kids:=by
 unfold qA.size;rw [qA.fold_eq,qSA];rfl
theorem qQH {α β:Type} (f:β→Nat) (g:α→β):∀xs:List α,zI f (xs.map g)=zI (fun x=>f (g x)) xs
 |[]=>rfl
 | x::xs=>by simp [zI,qQH f g xs]
def qA.dep:qA→Nat:=qA.fold fun _ rs=>1+zI id rs
theorem qA.dep_eq (x:qA):x.dep=1+zI qA.dep x.Kids:=by
 unfold qA.dep;rw [qA.fold_eq,qQH];rfl
theorem qA.kid_sz {x y:qA} (h:y∈x.Kids):y.sz≤x.sz:=by
 have:=zP (f:=qA.sz) h;rw [qA.sz_eq x];omega
theorem qA.len_sz (x:qA):x.Kids.length≤x.sz∧x.Data.length≤x.sz:=by rw [qA.sz_eq x];omega
def wT (d:Int):List qA→Int→Option Int
 |[],n=>some n
 | x::xs,n=>if x.ok∧(x.dep:Int)≤d∧(x.size:Int)≤n then wT d xs (n-x.size) else none
def jt (x:qA) (d left:Int):Int:=if x.ok∧(x.dep:Int)≤d∧(x.size:Int)≤left then x.size else-1
theorem jb {n lo hi:Int}:Pure Gm 340 [.int .i64 n,.int .i64 lo,.int .i64 hi] (.bool (inI n lo hi)):=by
 refine Pure.intro [] [] g340 (by kernel_rfl) rfl (by simp [AV.trees,AV.tree,go_sem]) rfl ?_;simp only [Xd,qP,go_sem]
 repeat' (first | (refine qW rfl ?_;simp only [go_sem]) | (first | (refine qY ?_ ?_<;>intro hc<;>simp only [hc,go_sem]) | (refine qM ?_ ?_<;>intro hc<;>simp only [hc,go_sem])) | refine qJ rfl ?_ | refine jg (by rfl) ?_)
 all_goals (simp_all [inI]<;>omega)
theorem qTF {k:Int}:Pure Gm 1023 [.int .i64 k] (.tup [.int .i64 (shp k).1.1,.int .i64 (shp k).1.2,.int .i64 (shp k).2.1,.int .i64 (shp k).2.2]):=by
 refine Pure.intro [] [] qU9 (by kernel_rfl) rfl (by simp [AV.trees,AV.tree,go_sem]) rfl ?_;simp only [WY,qP,go_sem]
 repeat' (first | (refine qW rfl ?_;simp only [go_sem]) | (first | (refine qY ?_ ?_<;>intro hc<;>simp only [hc,go_sem]) | (refine qM ?_ ?_<;>intro hc<;>simp only [hc,go_sem])) | refine qJ rfl ?_ | refine jg (by rfl) ?_)
 all_goals (simp_all [shp,qz])
theorem qTG {x:qA}:Pure Gm 1024 [.ept x.enc 0] (.bool (jl x.Kind x.Value)):=by
 refine Pure.intro [] [] qVA (by kernel_rfl) rfl (by simp [AV.trees,AV.tree,go_sem]) rfl ?_;simp only [WZ,qP,go_sem]
 repeat' (first | (refine qW rfl ?_;simp only [go_sem]) | (first | (refine qY ?_ ?_<;>intro hc<;>simp only [hc,go_sem]) | (refine qM ?_ ?_<;>intro hc<;>simp only [hc,go_sem])) | (refine qK (jb) ?_;simp only [go_sem]) | refine qJ rfl ?_ | refine jg (by rfl) ?_)
 all_goals (simp_all [jl])
theorem qA.size_pos (x:qA):1≤x.size:=by rw [qA.size_eq];omega
theorem qA.dep_pos (x:qA):1≤x.dep:=by rw [qA.dep_eq];omega
theorem qP1 (d:Int):∀(xs:List qA) (n:Int),0≤n→wT d xs n=if xs.all qA.ok∧(∀y∈xs,(y.dep:Int)≤d)∧(qE qA.size xs:Int)≤n then some (n-qE qA.size xs) else none
 |[],n,hn=>by simp [wT,qE,hn]
 | x::xs,n,hn=>by
  unfold wT;have hp:=x.size_pos;by_cases h:x.ok∧(x.dep:Int)≤d∧(x.size:Int)≤n
  ·rw [if_pos h,qP1 d xs _ (by omega)];simp only [qE,List.all_cons,h.1,Bool.true_and,List.forall_mem_cons,h.2.1,true_and];by_cases h2:xs.all qA.ok∧(∀y∈xs,(y.dep:Int)≤d)∧(qE qA.size xs:Int)≤n-x.size
   ·rw [if_pos h2,if_pos ⟨h2.1,h2.2.1,by omega⟩];congr 1;omega
   ·rw [if_neg h2,if_neg (fun q=>h2 ⟨q.1,q.2.1,by omega⟩)]
  ·rw [if_neg h,if_neg];simp only [qE,List.all_cons,bAt,List.forall_mem_cons];rintro ⟨⟨a,_⟩,⟨b,_⟩,c⟩;exact h ⟨a,b,by omega⟩
theorem UI {α:Type} (f:α→Nat) (n:Nat):∀xs:List α,zI f xs≤n↔∀y∈xs,f y≤n
 |[]=>by simp [zI]
 | x::xs=>by
  simp only [zI,List.forall_mem_cons,←UI f n xs];exact Nat.max_le
theorem qYQ (x:qA) (d left:Int) (hd:1≤d) (hl:1≤left) (hn:zN x=true):jt x d left=match wT (d-1) x.Kids (left-1) with | some r=>left-r | none=> -1:=by
 unfold jt;rw [qP1 _ _ _ (by omega),x.ok_eq,hn,x.size_eq,x.dep_eq,Bool.true_and];have hm:((1+zI qA.dep x.Kids:Nat):Int)≤d↔∀y∈x.Kids,(y.dep:Int)≤d-1:=by
  have:=UI qA.dep (d-1).toNat x.Kids;constructor
  ·intro h y hy;have:=this.1 (by omega) y hy;omega
  ·intro h;have:=this.2 (fun y hy=>by have:=h y hy;omega);omega
 by_cases h:x.Kids.all qA.ok∧(∀y∈x.Kids,(y.dep:Int)≤d-1)∧(qE qA.size x.Kids:Int)≤left-1
 ·rw [if_pos h,if_pos ⟨h.1,hm.2 h.2.1,by omega⟩];simp only [];omega
 ·rw [if_neg h,if_neg (fun q=>h ⟨q.1,hm.1 q.2.1,by omega⟩)]
theorem qYP {x:qA} {d left:Int} (h:d<1∨left<1∨zN x=false):jt x d left= -1:=by
 unfold jt;rw [if_neg];rintro ⟨h1,h2,h3⟩;have:=x.size_pos;have:=x.dep_pos;rcases h with h | h | h
 ·omega
 ·omega
 ·rw [x.ok_eq,h] at h1;cases h1
theorem c643 (x:qA):∀(d left:Int) (hz:x.sz≤1048576) (hd:0≤d∧d≤1048576) (hl:0≤left∧left≤1048576),Pure Gm 643 [.ept x.enc 0,.int .i64 d,.int .i64 left] (.int .i64 (jt x d left)):=by
 induction x using qA.ind with
 | _ x ih=>
 intro d left hz hd hl;refine Pure.intro [] [] g643 (by kernel_rfl) rfl (by simp [AV.trees,AV.tree,go_sem]) rfl ?_;simp only [YJ,qP,go_sem];have hL:=x.len_sz;refine qK qTF ?_;simp only [go_sem];have bad:∀{h:List qC},d<1∨left<1∨zN x=false→Fin (some [.int .i64 (-1)]) h (.int .i64 (jt x d left)):=fun h=>qJ rfl (by rw [qYP h])
 repeat' (first
  | (first | (refine qY ?_ ?_<;>intro hc<;>simp only [hc,go_sem]) | (refine qM ?_ ?_<;>intro hc<;>simp only [hc,go_sem]))
  | (refine qK jb ?_;simp only [go_sem])
  | (refine qK qTG ?_;simp only [go_sem])
  | refine bad ?_)
 all_goals try (first
  | (refine .inl ?_;simp_all;done)
  | (refine .inr (.inl ?_);simp_all;done)
  | (refine .inr (.inr ?_);simp_all [zN];done))
 rename_i h1 h2 h3 h4;have hn0:x.Data.all jd=true→zN x=true:=by intro h;simp_all [zN]
 have hn1:x.Data.all jd=false→zN x=false:=by intro h;simp_all [zN]
 have d1:1≤d:=by have:=odF h1;omega
 have l1:1≤left:=by have:=odF h2;omega
 refine Sem.loop (fun i:Nat=>i≤x.Data.length∧x.Data.all jd=(x.Data.drop i).all jd) (fun i=>(⟨[(0,.ept x.enc 0),(1,.int .i64 d),(2,.int .i64 left),(11,.int .i64 (i:Nat))],[],[]⟩:VSt)) (fun i=>x.Data.length-i) 0 (by kernel_rfl) ⟨Nat.zero_le _,by simp⟩ (Can.sub (by simp [go_sem]) (by simp [go_sem])) ?_;rintro i ⟨hi,hI⟩;simp only [go_sem];refine qM ?_ ?_<;>intro hc<;>simp only [hc,go_sem]
 ·have hlt:i<x.Data.length:=by have:=odT hc;omega
  simp only [gMp,gEg hlt,oMs,go_sem];simp only [qD];simp only [go_sem];refine qK jb ?_;simp only [go_sem];refine qM ?_ ?_<;>intro hc<;>simp only [hc,go_sem]
  ·refine bad (.inr (.inr (hn1 ?_)));rw [hI,jI hlt,List.all_cons];simp_all [jd]
  ·simp only [qq (show i<4611686018427387904 by omega)];refine qo (i+1) ⟨by omega, ?_⟩ (by omega) (Can.sub (by simp [go_sem]) (by simp [go_sem]));rw [hI,jI hlt,List.all_cons];simp_all [jd]
 ·obtain rfl:i=x.Data.length:=by have:=odF hc;omega
  have hn:=hn0 (by rw [hI];simp);rw [qYQ x d left d1 l1 hn];refine Sem.loop (fun i:Nat=>i≤x.Kids.length∧wT (d-1) x.Kids (left-1)=wT (d-1) (x.Kids.drop i) (left-((1+qE qA.size (x.Kids.take i):Nat):Int))∧((1+qE qA.size (x.Kids.take i):Nat):Int)≤left) (fun i=>(⟨[(0,.ept x.enc 0),(1,.int .i64 d),(2,.int .i64 left),(12,.int .i64 ((1+qE qA.size (x.Kids.take i):Nat):Int)),(13,.int .i64 (i:Nat))],[],[]⟩:VSt)) (fun i=>x.Kids.length-i) 0 (by kernel_rfl) ⟨Nat.zero_le _,by simp [qE];omega⟩ (Can.sub (by simp [go_sem]) (by simp [go_sem])) ?_;rintro i ⟨hi,hI⟩;simp only [go_sem];refine qM ?_ ?_<;>intro hc<;>simp only [hc,go_sem]
  ·have hlt:i<x.Kids.length:=by have:=odT hc;omega
   simp only [gMp,gEg hlt,oMs,go_sem];have hm:=gMm hlt;have hk:=qA.kid_sz hm;have hp:=x.Kids[i].size_pos;have ht:=qNU (f:=qA.size) hlt;rw [qr (by omega) (by omega),qr (by omega) (by omega)];refine qK (ih _ hm (d-1) (left-((1+qE qA.size (x.Kids.take i):Nat):Int)) (by omega) (by omega) (by omega)) ?_;simp only [go_sem];rw [jI hlt] at hI;refine qM ?_ ?_<;>intro hc<;>simp only [hc,go_sem]
   ·have hb:¬(x.Kids[i].ok∧(x.Kids[i].dep:Int)≤d-1∧(x.Kids[i].size:Int)≤left-((1+qE qA.size (x.Kids.take i):Nat):Int)):=by
     intro q;have:=odT hc;unfold jt at this;rw [if_pos q] at this;omega
    refine qJ rfl ?_;rw [hI.1,wT,if_neg hb]
   ·have hb:x.Kids[i].ok∧(x.Kids[i].dep:Int)≤d-1∧(x.Kids[i].size:Int)≤left-((1+qE qA.size (x.Kids.take i):Nat):Int):=by
     by_cases q:x.Kids[i].ok∧(x.Kids[i].dep:Int)≤d-1∧(x.Kids[i].size:Int)≤left-((1+qE qA.size (x.Kids.take i):Nat):Int)
     ·exact q
     ·have:=odF hc;unfold jt at this;rw [if_neg q] at this;omega
    have hv:jt x.Kids[i] (d-1) (left-((1+qE qA.size (x.Kids.take i):Nat):Int))=x.Kids[i].size:=by unfold jt;rw [if_pos hb]
    have e1:((1+qE qA.size (x.Kids.take i):Nat):Int)+x.Kids[i].size=((1+qE qA.size (x.Kids.take (i+1)):Nat):Int):=by omega
    rw [hv,qr (n:=((1+qE qA.size (x.Kids.take i):Nat):Int)+x.Kids[i].size) (by omega) (by omega),e1];simp only [qq (show i<4611686018427387904 by omega)];refine qo (i+1) ⟨by omega, ?_⟩ (by omega) (Can.sub (by simp [go_sem]) (by simp [go_sem]));rw [wT,if_pos hb] at hI;refine ⟨?_,by omega⟩;rw [hI.1];congr 1;omega
  ·obtain rfl:i=x.Kids.length:=by have:=odF hc;omega
   refine qJ rfl ?_;rw [hI.1];simp only [List.drop_length,wT,AV.int.injEq,true_and];exact (Int.sub_sub_self _ _).symm
theorem c642 {x:qA} (hz:x.sz≤1048576):Pure Gm 642 [.ept x.enc 0] (.bool (decide (0<jt x 80 400))):=by
 refine Pure.intro [] [] g642 (by kernel_rfl) rfl (by simp [AV.trees,AV.tree,go_sem]) rfl ?_;simp only [YI,qP,go_sem];refine qK (c643 x 80 400 hz (by omega) (by omega)) ?_;simp only [go_sem];exact qJ rfl rfl
def qA.valid (x:qA):Bool:=x.ok&&decide (x.dep≤80)&&decide (x.size≤400)
theorem qQN (x:qA):decide (0<jt x 80 400)=x.valid:=by
 unfold jt qA.valid;have:=x.size_pos;by_cases h:x.ok∧(x.dep:Int)≤80∧(x.size:Int)≤400
 ·rw [if_pos h];have h2:x.dep≤80:=by omega
  have h3:x.size≤400:=by omega
  simp [h.1,h2,h3];omega
 ·rw [if_neg h];cases hv:(x.ok&&decide (x.dep≤80)&&decide (x.size≤400)) with
  | false=>rfl
  | true=>
   simp only [bAt,decide_eq_true_eq] at hv;exact absurd ⟨hv.1.1,by omega,by omega⟩ h
def qt (k:Int) (i:Nat):Int:=if k=4∨k=7∧i=1 then 1 else 0
theorem Qb (k:Int) (i:Nat):0≤qt k i∧qt k i≤1:=by unfold qt;split<;>omega
def zg {α:Type} (p:Nat→α→Bool):List α→Nat→Bool
 |[],_=>false
 | x::xs,i=>p i x || zg p xs (i+1)
theorem qOB {α β:Type} (p:Nat→β→Bool) (f:α→β):∀(xs:List α) (i:Nat),zg p (xs.map f) i=zg (fun k x=>p k (f x)) xs i
 |[],_=>rfl
 | x::xs,i=>by simp [zg,qOB p f xs]
def qA.above:qA→Int→Bool:=qA.fold fun x rs d=>if x.Kind=1 then decide (d≤x.Value) else zg (fun i (r:Int→Bool)=>r (d+qt x.Kind i)) rs 0
theorem qA.above_eq (x:qA) (d:Int):x.above d=if x.Kind=1 then decide (d≤x.Value) else zg (fun i y=>y.above (d+qt x.Kind i)) x.Kids 0:=by
 unfold qA.above;rw [qA.fold_eq,qOB]
theorem qA.dep_kid {x y:qA} (h:y∈x.Kids):y.dep+1≤x.dep:=by
 rw [x.dep_eq];have:=(UI qA.dep (zI qA.dep x.Kids) x.Kids).1 (Nat.le_refl _) y h;omega
theorem qOT {x:qA} {i:Nat}:Pure Gm 1129 [.ept x.enc 0,.int .i64 (i:Int)] (.int .i64 (qt x.Kind i)):=by
 refine Pure.intro [] [] qVO (by kernel_rfl) rfl (by simp [AV.trees,AV.tree,go_sem]) rfl ?_;simp only [Wn,qP,go_sem]
 repeat' (first | (refine qW rfl ?_;simp only [go_sem]) | (first | (refine qY ?_ ?_<;>intro hc<;>simp only [hc,go_sem]) | (refine qM ?_ ?_<;>intro hc<;>simp only [hc,go_sem])) | refine qJ rfl ?_ | refine jg (by rfl) ?_)
 all_goals (simp_all [qt]<;>omega)
theorem c878 (x:qA):∀(d:Int) (hz:x.sz≤1048576) (hd:0≤d∧d+x.dep≤4194304),Pure Gm 878 [.ept x.enc 0,.int .i64 d] (.bool (x.above d)):=by
 induction x using qA.ind with
 | _ x ih=>
 intro d hz hd;refine Pure.intro [] [] g878 (by kernel_rfl) rfl (by simp [AV.trees,AV.tree,go_sem]) rfl ?_;simp only [VJ,qP,go_sem];have hL:=x.len_sz;refine qM ?_ ?_<;>intro hc<;>simp only [hc,go_sem]
 ·refine qJ rfl ?_;rw [x.above_eq];simp_all
 have hk1:x.above d=zg (fun i y=>y.above (d+qt x.Kind i)) x.Kids 0:=by rw [x.above_eq,if_neg (odF hc)]
 refine Sem.loop (fun i:Nat=>i≤x.Kids.length∧x.above d=zg (fun i y=>y.above (d+qt x.Kind i)) (x.Kids.drop i) i) (fun i=>(⟨[(0,.ept x.enc 0),(1,.int .i64 d),(5,.int .i64 (i:Nat))],[],[]⟩:VSt)) (fun i=>x.Kids.length-i) 0 (by kernel_rfl) ⟨Nat.zero_le _,by simp [hk1]⟩ (Can.sub (by simp [go_sem]) (by simp [go_sem])) ?_;rintro i ⟨hi,hI⟩;simp only [go_sem];refine qM ?_ ?_<;>intro hc<;>simp only [hc,go_sem]
 ·have hlt:i<x.Kids.length:=by have:=odT hc;omega
  simp only [gMp,gEg hlt,oMs,go_sem];refine qK qOT ?_;simp only [go_sem];have hm:=gMm hlt;have hk:=qA.kid_sz hm;have hp:=qA.dep_kid hm;have hb:=Qb x.Kind i;rw [qr (by omega) (by omega)];refine qK (ih _ hm _ (by omega) (by omega)) ?_;simp only [go_sem];rw [jI hlt,zg] at hI;refine qM ?_ ?_<;>intro hc<;>simp only [hc,go_sem]
  ·refine qJ rfl ?_;rw [hI,hc];rfl
  ·simp only [qq (show i<4611686018427387904 by omega)];refine qo (i+1) ⟨by omega, ?_⟩ (by omega) (Can.sub (by simp [go_sem]) (by simp [go_sem]));rw [hI,hc];rfl
 ·obtain rfl:i=x.Kids.length:=by have:=odF hc;omega
  refine qJ rfl ?_;rw [hI];simp [zg]
def qA.closed (x:qA):Bool:=x.valid&& !x.above 0
def qA.refs (n:Int):qA→Bool:=qA.fold fun x rs=> !(decide (x.Kind=11)&&decide (n≤x.Value))&&x.Data.all (fun k=>decide (k<n))&&rs.all id
theorem qA.refs_eq (n:Int) (x:qA):x.refs n=(!(decide (x.Kind=11)&&decide (n≤x.Value))&&x.Data.all (fun k=>decide (k<n))&&x.Kids.all (qA.refs n)):=by
 unfold qA.refs;rw [qA.fold_eq];simp
def qO.ok (b:qO):Bool:=inI b.Defs.length 1 24&&b.Defs.all fun c=>c.closed&&c.refs b.Defs.length
theorem c519 {x:qA} (hz:x.sz≤1048576):Pure Gm 519 [.ept x.enc 0] (.bool x.closed):=by
 refine Pure.intro [] [] g519 (by kernel_rfl) rfl (by simp [AV.trees,AV.tree,go_sem]) rfl ?_;simp only [YB,qP,go_sem];refine qK (c642 hz) ?_;simp only [go_sem];rw [qQN];refine qY ?_ ?_<;>intro hc<;>simp only [hc,go_sem]
 ·have hd:x.dep≤80:=by unfold qA.valid at hc;simp only [bAt,decide_eq_true_eq] at hc;omega
  refine qK (c878 x 0 hz (by omega)) ?_;simp only [go_sem];exact qJ rfl (by simp [qA.closed,hc])
 ·exact qJ rfl (by simp [qA.closed,hc])
theorem c725 (x:qA):∀(n:Int) (hz:x.sz≤1048576),Pure Gm 725 [.ept x.enc 0,.int .i64 n] (.bool (x.refs n)):=by
 induction x using qA.ind with
 | _ x ih=>
 intro n hz;refine Pure.intro [] [] g725 (by kernel_rfl) rfl (by simp [AV.trees,AV.tree,go_sem]) rfl ?_;simp only [YU,qP,go_sem];have hL:=x.len_sz;have bad:∀{h:List qC},x.refs n=false→Fin (some [.bool false]) h (.bool (x.refs n)):=fun h=>qJ rfl (by rw [h])
 repeat' (first
  | (first | (refine qY ?_ ?_<;>intro hc<;>simp only [hc,go_sem]) | (refine qM ?_ ?_<;>intro hc<;>simp only [hc,go_sem]))
  | refine bad ?_)
 all_goals try (rw [x.refs_eq];simp_all;done)
 all_goals
  have hk1:x.refs n=(x.Data.all (fun k=>decide (k<n))&&x.Kids.all (qA.refs n)):=by rw [x.refs_eq];simp [*]
  refine Sem.loop (fun i:Nat=>i≤x.Data.length∧x.refs n=((x.Data.drop i).all (fun k=>decide (k<n))&&x.Kids.all (qA.refs n))) (fun i=>(⟨[(0,.ept x.enc 0),(1,.int .i64 n),(5,.int .i64 (i:Nat))],[],[]⟩:VSt)) (fun i=>x.Data.length-i) 0 (by kernel_rfl) ⟨Nat.zero_le _,by simp [hk1]⟩ (Can.sub (by simp [go_sem]) (by simp [go_sem])) ?_;rintro i ⟨hi,hI⟩;simp only [go_sem];refine qM ?_ ?_<;>intro hc<;>simp only [hc,go_sem]
  ·have hlt:i<x.Data.length:=by have:=odT hc;omega
   simp only [gMp,gEg hlt,oMs,go_sem];simp only [qD];simp only [go_sem];rw [jI hlt,List.all_cons] at hI;refine qM ?_ ?_<;>intro hc<;>simp only [hc,go_sem]
   ·exact bad (by rw [hI,dlt,hc];rfl)
   ·simp only [qq (show i<4611686018427387904 by omega)];refine qo (i+1) ⟨by omega, ?_⟩ (by omega) (Can.sub (by simp [go_sem]) (by simp [go_sem]));rw [hI,dlt,hc];rfl
  ·obtain rfl:i=x.Data.length:=by have:=odF hc;omega
   simp only [List.drop_length,List.all_nil,Bool.true_and] at hI;have hk2:=hI;clear hI hi;refine Sem.loop (fun i:Nat=>i≤x.Kids.length∧x.refs n=(x.Kids.drop i).all (qA.refs n)) (fun i=>(⟨[(0,.ept x.enc 0),(1,.int .i64 n),(6,.int .i64 (i:Nat))],[],[]⟩:VSt)) (fun i=>x.Kids.length-i) 0 (by kernel_rfl) ⟨Nat.zero_le _,by simp [hk2]⟩ (Can.sub (by simp [go_sem]) (by simp [go_sem])) ?_;rintro i ⟨hi,hI⟩;simp only [go_sem];refine qM ?_ ?_<;>intro hc<;>simp only [hc,go_sem]
   ·have hlt:i<x.Kids.length:=by have:=odT hc;omega
    simp only [gMp,gEg hlt,oMs,go_sem];have hm:=gMm hlt;have hk:=qA.kid_sz hm;refine qK (ih _ hm _ (by omega)) ?_;simp only [go_sem];rw [jI hlt,List.all_cons] at hI;refine qM ?_ ?_<;>intro hc<;>simp only [hc,go_sem]
    ·exact bad (by rw [hI,nt hc];rfl)
    ·simp only [qq (show i<4611686018427387904 by omega)];refine qo (i+1) ⟨by omega, ?_⟩ (by omega) (Can.sub (by simp [go_sem]) (by simp [go_sem]));rw [hI,nf hc];rfl
   ·obtain rfl:i=x.Kids.length:=by have:=odF hc;omega
    exact qJ rfl (by rw [hI];simp)
theorem c579 {b:qO} (hz:b.sz≤1048576):Pure Gm 579 [.ept b.enc 0] (.bool b.ok):=by
 refine Pure.intro [] [] g579 (by kernel_rfl) rfl (by simp [AV.trees,AV.tree,go_sem]) rfl ?_;simp only [YE,qP,go_sem];have hz':b.Defs.length+qE qA.sz b.Defs≤1048576:=hz;refine qK jb ?_;simp only [go_sem];refine qM ?_ ?_<;>intro hc<;>simp only [hc,go_sem]
 ·exact qJ rfl (by simp_all [qO.ok])
 have hk1:b.ok=b.Defs.all (fun c=>c.closed&&c.refs b.Defs.length):=by simp_all [qO.ok]
 refine Sem.loop (fun i:Nat=>i≤b.Defs.length∧b.ok=(b.Defs.drop i).all (fun c=>c.closed&&c.refs b.Defs.length)) (fun i=>(⟨[(0,.ept b.enc 0),(3,.int .i64 (i:Nat))],[],[]⟩:VSt)) (fun i=>b.Defs.length-i) 0 (by kernel_rfl) ⟨Nat.zero_le _,by simp [hk1]⟩ (Can.sub (by simp [go_sem]) (by simp [go_sem])) ?_;rintro i ⟨hi,hI⟩;simp only [go_sem];refine qM ?_ ?_<;>intro hc<;>simp only [hc,go_sem]
 ·have hlt:i<b.Defs.length:=by have:=odT hc;omega
  simp only [gMp,gEg hlt,oMs,go_sem];have hm:=gMm hlt;have hk:=zP (f:=qA.sz) hm;rw [jI hlt,List.all_cons] at hI;refine qK (c519 (x:=b.Defs[i]) (by omega)) ?_;simp only [go_sem]
  repeat' (first
   | (first | (refine qY ?_ ?_<;>intro hc<;>simp only [hc,go_sem]) | (refine qM ?_ ?_<;>intro hc<;>simp only [hc,go_sem]))
   | (refine qK (c725 b.Defs[i] _ (by omega)) ?_;simp only [go_sem])
   | (simp only [gMp,gEg hlt,oMs,go_sem]))
  ·rename_i h0;exact qJ rfl (by rw [hI,nf h0,nt hc];rfl)
  ·rename_i h0;simp only [qq (show i<4611686018427387904 by omega)];refine qo (i+1) ⟨by omega, ?_⟩ (by omega) (Can.sub (by simp [go_sem]) (by simp [go_sem]));rw [hI,nf h0,nf hc];rfl
  ·exact qJ rfl (by rw [hI,nt hc];rfl)
 ·obtain rfl:i=b.Defs.length:=by have:=odF hc;omega
  exact qJ rfl (by rw [hI];simp)
def Qm {α:Type} (f:Nat→α→List Int):List α→Nat→List Int
 |[],_=>[]
 | x::xs,i=>f i x++Qm f xs (i+1)
def boxI (k:Int):Int:=if k=6 then 1 else 0
def qA.levels:qA→Int→Int→List Int:=qA.fold fun x rs v l=>if x.Kind=1 then (if x.Value=v then [l] else []) else Qm (fun i (r:Int→Int→List Int)=>r (v+qt x.Kind i) (l+boxI x.Kind)) rs 0
def fil (e:Env) (w:Nat) (el:List AV) (i:Nat) (v:Option AV) (r:List (Nat×Ao)):Option (List AV):=match v with
 | some v=>if v.cells.length=w∧i<el.length then zX e w (el.set i v) r else none
 | none=>none
section
variable {e:Env} {w i:Nat} {el:List AV} {v:AV} {x:Ao} {r:List (Nat×Ao)}
@[go_sem] theorem qU1:zX e w el []=some el:=nr (by unfold zX;rfl)
@[go_sem] theorem qsY:zX e w el ((i,x)::r)=fil e w el i (ev e x) r:=nr (by unfold zX;rfl)
@[go_sem] theorem qU2 {el0:AV} (h:v.cells.length=w):fil e w [el0] 0 (some v) r=zX e w [v] r:=by
 show (if v.cells.length=w∧0<1 then _ else _)=_;rw [if_pos ⟨h,by omega⟩];rfl
@[go_sem] theorem rep0 {v:AV}:List.replicate 0 v=[]:=nr rfl
@[go_sem] theorem rep1 {v:AV}:List.replicate 1 v=[v]:=nr rfl
end
theorem qA.size_sz:∀x:qA,x.size≤x.sz+1:=qA.ind fun x ih=>by
 rw [x.size_eq,x.sz_eq];have:∀xs:List qA,(∀y∈xs,y.size≤y.sz+1)→qE qA.size xs≤xs.length+qE qA.sz xs:=by
  intro xs
  induction xs with
  | nil=>intro _;simp [qE]
  | cons a xs ihx=>intro h;simp only [qE,lCo];have:=h a (by simp);have:=ihx (fun y hy=>h y (by simp [hy]));omega
 have:=this _ ih;omega
theorem qaS {w id n m:Nat} {s l:Env} {h:AH} {x y:Ao} {k:IntKind} (hx:ev s x=some (.slice w id 0 n false)) (hy:ev s y=some (.int k (m:Nat))) (hm:m≤n):val (.slc w x none (some y) none) s l h=some (.slice w id 0 m false):=by
 simp only [val,hx,bnd,hy];rw [if_pos ⟨by omega,by omega⟩];simp
theorem Uy {n:Nat} (h0:0<n) (h:n<4611686018427387904):IntKind.i64.wrap ((n:Int)-1)=((n-1:Nat):Int):=by
 rw [qr (by omega) (by omega)];omega
theorem qYH {α:Type} (f:α→AV) {xs:List α} {js:List AV} (h:0<xs.length):∃x,xs.dropLast.map f++(x::js)=xs.map f++js:=by
 refine ⟨f (xs.getLast (by intro e;subst e;simp at h)), ?_⟩;have e:=List.dropLast_concat_getLast (l:=xs) (by intro e;subst e;simp at h);have:xs.map f=xs.dropLast.map f++[f (xs.getLast (by intro e;subst e;simp at h))]:=by
  rw [←List.map_singleton,←List.map_append,e]
 rw [this];simp
theorem ja {E:Ev} {l:List qB} {ks:List Fr1} {s m:qb} {h:List qC} {Q:qX→VSt→Prop} {w k id id2 len:Nat} {c2:Bool} {x:AV} {xs js:List AV} (h2:h[id2]?=some (.row w [x] true)) (ho:h[id]?=some (.row w (xs++js) true)) (he:xs.length=len) (hl:len<4294967296)
  (hr:R E (.ops l::ks) ⟨(k,.slice w h.length 0 (len+1) false)::s,m,h.set id .dead++[.row w (xs++[x]) true]⟩ Q):jU E w (some k) (some (.slice w id 0 len false)) (some (.slice w id2 0 1 c2)) l ks ⟨s,m,h⟩ Q:=by
 have hy:Els h w (.slice w id2 0 1 c2) [x]:=Els.row h2 rfl;unfold jU;refine ⟨hy.1, ?_⟩;simp only [hy.2];refine ⟨rfl,by have:LIM=4294967296:=rfl;simp;omega, ?_⟩;rw [ho];refine ⟨rfl,by simp;omega,.inr (.inl ⟨by simp,rfl, ?_⟩)⟩;have e:((xs++js).drop 0).take len=xs:=by rw [List.drop_zero];exact List.take_left' he
 rw [e];exact hr
section
variable {P:Nat→Prop} {w:Nat} {pre post:List AV} {id j:Nat} {h:List qC} {M:qG} {K:AV→List qC→Prop}
theorem Jx {g:Nat} (hg:Gm g=some (.fn ZX)) (hj:pre.length=j) (hN:NSx P w pre post id h M) (h0:0<M.Stack.length) (h1:M.Stack.length≤1000000)
  (hK:∀h',NSx P w pre post id h' {M with Stack:=M.Stack.dropLast}→Keep P h h'→K (.tup []) h'):SCall Gm g [.ptr id 0 j] h K:=by
 obtain ⟨si,hi,js,hN⟩:=hN;refine SCall.run [] [] hg (by kernel_rfl) rfl ?_;simp only [ZX,qP,go_sem];simp only [hN.o,ne5 hj,go_sem];refine qNB (qaS (id:=si) (n:=M.Stack.length) (m:=M.Stack.length-1) (k:=.i64) (by simp only [go_sem]) (by simp only [go_sem,Uy h0 (show M.Stack.length<4611686018427387904 by omega)]) (Nat.sub_le _ _)) ?_;simp only [go_sem];refine qp rfl hN.o rfl (WA hj (M':={M with Stack:=M.Stack.dropLast}) rfl rfl (by simp)) ?_;simp only [go_sem];obtain ⟨x,hx⟩:=qYH qF.enc (js:=js) h0;obtain ⟨n1,n2⟩:=hN.struct (post':=post) (M':={M with Stack:=M.Stack.dropLast}) hx rfl;exact hK _ ⟨_,_,_,n1⟩ n2
theorem Jy {g:Nat} (hg:Gm g=some (.fn ZY)) (hj:pre.length=j) (hN:NSx P w pre post id h M) (h1:M.Stack.length≤1000000) (f:qF)
  (hK:∀h',NSx P w pre post id h' {M with Stack:=M.Stack++[f]}→Keep P h h'→K (.tup []) h'):SCall Gm g [.ptr id 0 j,f.enc] h K:=by
 obtain ⟨si,hi,js,hN⟩:=hN;refine SCall.run [] [] hg (by kernel_rfl) rfl ?_;simp only [ZY,qP,go_sem];refine qW rfl ?_;simp only [go_sem];simp only [hN.o,ne5 hj,go_sem];have o1:(h++[qC.row 8 [f.enc] true])[h.length]?=some (.row 8 [f.enc] true):=List.getElem?_concat_length;have o2:(h++[qC.row 8 [f.enc] true])[si]?=some (.row 8 (M.Stack.map qF.enc++js) true):=by rw [gAl (qc hN.s)];exact hN.s
 have hl:(h++[qC.row 8 [f.enc] true]).length=h.length+1:=by simp
 refine ja o1 o2 (by simp) (by omega) ?_;simp only [hl,go_sem];have e:M.Stack.map qF.enc++[f.enc]=(M.Stack++[f]).map qF.enc:=by simp
 rw [e];obtain ⟨n1,n2⟩:=hN.push (M':={M with Stack:=M.Stack++[f]}) (x:=.row 8 [f.enc] true) rfl;have o3:(((h++[qC.row 8 [f.enc] true]).set si .dead)++[qC.row 8 ((M.Stack++[f]).map qF.enc) true])[id]?=some (.row w [.agg (pre++(Nec M si hi++post))] true):=by
  have:=qc hN.o;rw [gAl (by simp;omega),gSn (Ne.symm hN.d1),gAl this];exact hN.o
 refine qp rfl o3 rfl (WA hj (M':={M with Stack:=M.Stack++[f]}) rfl rfl (by simp)) ?_;simp only [go_sem];exact hK _ ⟨_,_,_,n1⟩ n2
end
def lvOk (x:qA) (l:Int):Bool:=
 if x.Kind=4 then (match x.Kids[0]? with
  | some y=>decide ((y.levels 0 l).length≤1)&&(y.levels 0 l).all (fun n=>decide (n=l))
  | none=>true)
 else if x.Kind=7 then (match x.Kids[1]? with
  | some y=>(y.levels 0 l).all (fun n=>decide (n=l)) || (y.levels 0 l).all (fun n=>decide (n=l+1))
  | none=>true)
 else true
def qA.strat:qA→Int→Bool:=qA.fold fun x rs l=>decide (l≤8)&&lvOk x l&&rs.all fun r=>r (l+boxI x.Kind)
theorem WD {x y:qA} (h:x.ok=true) (hy:y∈x.Kids):y.ok=true:=by
 rw [x.ok_eq,bAt,List.all_eq_true] at h;exact h.2 y hy
theorem Jt {x:qA} (h:x.ok=true):zN x=true:=by rw [x.ok_eq,bAt] at h;exact h.1
theorem WE {x:qA} (h:x.ok=true):((x.Kind=3∨x.Kind=5∨x.Kind=7)→x.Kids.length=2)∧((x.Kind=4∨x.Kind=6∨x.Kind=9∨x.Kind=10)→x.Kids.length=1):=by
 have h:=Jt h;unfold zN inI at h;simp only [bAt,decide_eq_true_eq] at h;obtain ⟨⟨⟨⟨h1,h2⟩,_⟩,_⟩,_⟩:=h;constructor
 ·rintro (hk | hk | hk)<;>simp [shp,hk] at h1 h2<;>omega
 ·rintro (hk | hk | hk | hk)<;>simp [shp,hk] at h1 h2<;>omega
theorem VR2s.of_eq {μ:List (Option Nat)} {a b:List AV} (h:a=b) (ht:AV.trees b=true):VR2s μ a b:=by subst h;exact VR2s.trees ht
theorem zU (xs:List Int):AV.trees (xs.map qD)=true:=zA shI.tree xs
def wX:List Int→Int→List Int
 |[],n=>[n]
 | x::xs,n=>if x<n then x::wX xs n else if x=n then x::xs else n::x::xs
theorem c402 (xs:List Int) (hz:xs.length≤4194304):Pure Gm 402 [.lst 1 (xs.map qD) false] (.lst 1 (xs.map qD) false):=by
 refine Pure.intro [] [] g402 (by kernel_rfl) rfl (by simp [AV.trees,AV.tree,zU]) (by simp [AV.tree,zU]) ?_;simp only [Xm,qP,go_sem];refine VW Els.lst (by simp;omega) ?_;simp only [go_sem];exact j5 (Cv.row rfl (by simp) (zU xs) (by decide))
def qA.names:qA→List Int→List Int:=qA.fold fun x rs out=>rs.foldl (fun o r=>r o) (x.Data.foldl wX (if x.Kind=11 then wX out x.Value else out))
def Ed (U:List (List Int)) (a b:Int):Prop:=b∈U.getD a.toNat []
open Classical in
noncomputable def recB (U:List (List Int)) (d:Int):Bool:=decide (Relation.TransGen (Ed U) d d)
def qLJ (U:List (List Int)):Prop:=∀ys∈U,∀k∈ys,0≤k∧k<U.length
theorem UP:∀(n:Nat) (xs:List Int),xs.Nodup→(∀x∈xs,0≤x∧x<n)→xs.length≤n
 | 0,[],_,_=>Nat.le_refl _
 | 0,x::xs,_,h=>by have:=h x (by simp);omega
 | n+1,xs,hd,h=>by
  by_cases hm:(n:Int)∈xs
  ·have h1:=UP n (xs.erase n) (hd.erase _) (fun x hx=>by
    have h2:=h x (List.mem_of_mem_erase hx);have h3:x≠n:=by rintro rfl;exact (hd.not_mem_erase) hx
    omega)
   rw [List.length_erase_of_mem hm] at h1;omega
  ·have:=UP n xs hd (fun x hx=>by
    have h2:=h x hx;have h3:x≠n:=by rintro rfl;exact hm hx
    omega)
   omega
structure jz (U:List (List Int)) (d:Int) (i:Nat) (seen:List Int):Prop where
 nd:seen.Nodup
 rng:∀s∈seen,0≤s∧s<U.length
 rch:∀s∈seen,Relation.TransGen (Ed U) d s
 beg:∀s,Ed U d s→s∈seen
 cls:∀j,j<i→∀s,seen[j]?=some s→∀k,Ed U s k→k∈seen
theorem jz.len {U:List (List Int)} {d:Int} {i:Nat} {seen:List Int} (h:jz U d i seen):seen.length≤U.length:=UP _ _ h.nd h.rng
theorem jz.done {U:List (List Int)} {d:Int} {seen:List Int} (h:jz U d seen.length seen):(seen.any fun k=>decide (k=d))=recB U d:=by
 unfold recB;rw [Bool.eq_iff_iff];simp only [List.any_eq_true,decide_eq_true_eq];constructor
 ·rintro ⟨k,hk,rfl⟩;exact h.rch _ hk
 ·intro hr;refine ⟨d, ?_,rfl⟩;have key:∀{b:Int},Relation.TransGen (Ed U) d b→b∈seen:=by
   intro b hb
   induction hb with
   | single h1=>exact h.beg _ h1
   | tail _ h2 ih=>
    obtain ⟨j,hj,e⟩:=List.getElem_of_mem ih;exact h.cls j hj _ (by rw [gEg hj,e]) _ h2
  exact key hr
theorem jz.next {U:List (List Int)} {d:Int} {i:Nat} {seen':List Int} {e:Int} (h:jz U d i seen') (hp:seen'[i]?=some e) (he:∀k,Ed U e k→k∈seen'):jz U d (i+1) seen':=
 ⟨h.nd,h.rng,h.rch,h.beg,fun j hj s hs k hk=>by
  rcases Nat.lt_succ_iff_lt_or_eq.1 hj with hj | rfl
  ·exact h.cls j hj s hs k hk
  ·rw [hp] at hs;cases hs;exact he k hk⟩
theorem jz.push {U:List (List Int)} (hU:qLJ U) {d:Int} {i:Nat} {seen:List Int} {e k:Int} (h:jz U d i seen) (hi:i≤seen.length) (he:e∈seen) (hk:Ed U e k) (hn:k∉seen):jz U d i (seen++[k]) where
 nd:=by
  rw [List.nodup_append];refine ⟨h.nd,by simp, ?_⟩;intro a ha b hb;simp at hb;rintro rfl;rw [hb] at ha;exact hn ha
 rng:=fun s hs=>by
  rcases List.mem_append.1 hs with hs | hs
  ·exact h.rng s hs
  ·simp at hs;subst hs;unfold Ed at hk;rw [List.getD_eq_getElem?_getD] at hk;cases hq:U[e.toNat]? with
   | none=>rw [hq] at hk;simp at hk
   | some ys=>rw [hq] at hk;exact hU ys (List.mem_of_getElem? hq) _ hk
 rch:=fun s hs=>by
  rcases List.mem_append.1 hs with hs | hs
  ·exact h.rch s hs
  ·simp at hs;subst hs;exact .tail (h.rch e he) hk
 beg:=fun s hs=>List.mem_append.2 (.inl (h.beg s hs))
 cls:=fun j hj s hs k' hk'=>by
  rw [gAl (by omega)] at hs;exact List.mem_append.2 (.inl (h.cls j hj s hs k' hk'))
end Go.Ab
namespace Go.Ab
open Go
set_option maxRecDepth 10000
set_option maxHeartbeats 2000000
theorem qWY {xs:List Int} {c:Bool} {n:Nat}:(lay (.lst 1 (xs.map qD) c) n).1=.slice 1 n 0 xs.length false:=by simp [lay]
theorem qWZ {xs:List Int} {c:Bool} {n:Nat}:(lay (.lst 1 (xs.map qD) c) n).2=[.row 1 (xs.map qD) true]:=by simp [lay,lI]
theorem jz.start {U:List (List Int)} (hU:qLJ U) {d:Nat} (hd:d<U.length) (hn:U[d].Nodup):jz U d 0 U[d] where
 nd:=hn
 rng:=fun s hs=>hU _ (gMm hd) s hs
 rch:=fun s hs=>.single (by unfold Ed;rw [List.getD_eq_getElem?_getD,Int.toNat_natCast,gEg hd];exact hs)
 beg:=fun s hs=>by unfold Ed at hs;rw [List.getD_eq_getElem?_getD,Int.toNat_natCast,gEg hd] at hs;exact hs
 cls:=fun j hj=>by omega
def z8 {α β:Type} (f:Nat→α→β):List α→Nat→List β
 |[],_=>[]
 | x::xs,i=>f i x::z8 f xs (i+1)
theorem qMY {α β γ:Type} (f:Nat→β→γ) (g:α→β):∀(xs:List α) (i:Nat),z8 f (xs.map g) i=z8 (fun k x=>f k (g x)) xs i
 |[],_=>rfl
 | x::xs,i=>by simp [z8,qMY f g xs]
theorem Qz {α β:Type} (f:Nat→α→β):∀(xs:List α) (i:Nat),(z8 f xs i).length=xs.length
 |[],_=>rfl
 | x::xs,i=>by simp [z8,Qz f xs]
theorem qQF {α β:Type} {f:Nat→α→β}:∀{xs:List α} {i k:Nat} (h:i<xs.length),z8 f (xs.take (i+1)) k=z8 f (xs.take i) k++[f (k+i) xs[i]]
 |[],i,k,h=>by simp at h
 | x::xs,0,k,h=>by simp [z8]
 | x::xs,i+1,k,h=>by
  simp only [List.take_succ_cons,z8,List.getElem_cons_succ,List.cons_append];rw [qQF (i:=i) (k:=k+1) (by simpa using h)];congr 3;congr 1;omega
def qA.vb (m:Int):qA→Bool:=qA.fold fun x rs=>(!decide (x.Kind=1) || inI x.Value 0 m)&&rs.all id
theorem qA.vb_eq (m:Int) (x:qA):x.vb m=((!decide (x.Kind=1) || inI x.Value 0 m)&&x.Kids.all (qA.vb m)):=by
 unfold qA.vb;rw [qA.fold_eq];simp
theorem qSM {x y:qA} {m:Int} (h:x.vb m=true) (hy:y∈x.Kids):y.vb m=true:=by
 rw [x.vb_eq,bAt,List.all_eq_true] at h;exact h.2 y hy
theorem qbD {x:qA} {m:Int} (h:x.vb m=true) (hk:x.Kind=1):0≤x.Value∧x.Value≤m:=by
 rw [x.vb_eq,bAt] at h;have:=h.1;simp [hk,inI] at this;exact this
def wc (k v a f:Int):Int:=if k=1∧f≤v then v+a else v
def qA.shift (a:Int):qA→Int→qA:=qA.fold fun x rs f=>.mk x.Kind (wc x.Kind x.Value a f) x.Data (z8 (fun i (r:Int→qA)=>r (f+qt x.Kind i)) rs 0)
theorem qA.shift_eq (a:Int) (x:qA) (f:Int):x.shift a f=.mk x.Kind (wc x.Kind x.Value a f) x.Data (z8 (fun i y=>y.shift a (f+qt x.Kind i)) x.Kids 0):=by
 unfold qA.shift;rw [qA.fold_eq,qMY]
theorem qUC {h:List qC} {id n:Nat} {k v:Int} {d:List Int} {ks:List qA} (ho:h[id]?=some (.row 4 (ks.map qA.enc) true)) (hn:ks.length=n):
  Cv h (.agg [.int .i64 k,.int .i64 v,.lst 1 (d.map qD) false,.slice 4 id 0 n false]) (qA.mk k v d ks).enc:=by
 rw [qA.enc_eq];refine .agg rfl ?_;simp only [List.zip_cons_cons,List.zip_nil_left,List.mem_cons,List.not_mem_nil,or_false,qA.Kind,qA.Value,qA.Data,qA.Kids];rintro p (rfl | rfl | rfl | rfl)
 ·exact .refl rfl
 ·exact .refl rfl
 ·exact .refl (by simp [AV.tree,zU])
 ·exact Cv.row ho (by simpa using hn) (zA qA.isSh.tree _) (by decide)
theorem jA (xs:List qA):AV.trees (xs.map qA.enc)=true:=zA qA.isSh.tree xs
theorem c766 (x:qA):∀(a f:Int) (hz:x.sz≤1048576) (ha:0≤a∧a≤4294967296) (hf:0≤f∧f+x.dep≤4294967296) (hv:x.vb 4294967296=true),Pure Gm 766 [.ept x.enc 0,.int .i64 a,.int .i64 f] ((x.shift a f).enc):=by
 induction x using qA.ind with
 | _ x ih=>
 intro a f hz ha hf hv;refine Pure.intro [] [] g766 (by kernel_rfl) rfl (by simp [AV.trees,AV.tree,go_sem]) (by simp [go_sem]) ?_;simp only [YY,qP,go_sem];have hL:=x.len_sz;refine qK (c402 x.Data (by omega)) ?_;simp only [go_sem];refine qf (k:=4) (by rfl) (by rfl) (by exact ⟨_,rfl⟩) (by decide) ?_;simp only [go_sem];obtain ⟨w,hw⟩:∃w,w=wc x.Kind x.Value a f:=⟨_,rfl⟩;have hres:=x.shift_eq a f;rw [←hw] at hres;refine qY ?_ ?_<;>intro hc<;>simp only [hc,go_sem];refine qM ?_ ?_<;>intro hc<;>simp only [hc,go_sem];have hk1:=qbD hv (odT (by assumption));rw [qr (by omega) (by omega)];have h0:x.Value+a=w:=by
  rename_i h1;rw [hw,wc,if_pos ⟨odT h1,odT hc⟩]
 rotate_left;have h0:x.Value=w:=by
  rw [hw,wc,if_neg (fun q=>absurd q.2 (odF hc))]
 rotate_left;have h0:x.Value=w:=by
  rw [hw,wc,if_neg (fun q=>absurd q.1 (odF hc))]
 all_goals
  rw [h0];refine Sem.loop (fun i:Nat=>i≤x.Kids.length) (fun i=>(⟨[(0,.ept x.enc 0),(1,.int .i64 a),(2,.int .i64 f),(8,.int .i64 (i:Nat))],[(7,.agg [.int .i64 x.Kind,.int .i64 w,.lst 1 (x.Data.map qD) false,.slice 4 0 0 i false]),(6,.agg [.int .i64 0,.int .i64 0,.nils,.nils])],[.row 4 ((z8 (fun i y=>qA.shift a y (f+qt x.Kind i)) (x.Kids.take i) 0).map qA.enc) true]⟩:VSt)) (fun i=>x.Kids.length-i) 0 (by kernel_rfl) (Nat.zero_le _)
   (Can.renum [none] rfl ⟨.ph,trivial⟩ ⟨⟨_,rfl,.tree (by simp [AV.tree,go_sem])⟩,⟨_,rfl,.tree rfl⟩,⟨_,rfl,.tree rfl⟩,⟨_,rfl,.tree rfl⟩,trivial⟩
    ⟨⟨_,rfl,.agg rfl (VR2s.cons (.tree rfl) (VR2s.cons (.tree rfl) (VR2s.cons (.tree (by simp [AV.tree,zU])) (VR2s.cons (.ph rfl) VR2s.nil)))).2⟩,⟨_,rfl,.tree rfl⟩,trivial⟩) ?_
  intro i hi;simp only [go_sem];refine qM ?_ ?_<;>intro hc<;>simp only [hc,go_sem]
  ·have hlt:i<x.Kids.length:=by have:=odT hc;omega
   simp only [gMp,gEg hlt,oMs,go_sem];have hm:=gMm hlt;have hk:=qA.kid_sz hm;have hp:=qA.dep_kid hm;have hb:=Qb x.Kind i;refine qK qOT ?_;simp only [go_sem];rw [qr (n:=f+qt x.Kind i) (by omega) (by omega)];refine qK (ih _ hm a (f+qt x.Kind i) (by omega) ha (by omega) (qSM hv hm)) ?_;simp only [go_sem];refine qOC (el:=(z8 (fun i y=>qA.shift a y (f+qt x.Kind i)) (x.Kids.take i) 0).map qA.enc) rfl rfl (by simp [Qz];omega) (by omega) ?_;simp only [go_sem];simp only [qq (show i<4611686018427387904 by omega)];refine qo (i+1) (by omega) (by omega) ?_;refine Can.renum [some 2] rfl ⟨.row rfl (VR2s.of_eq (by rw [qQF hlt,nZa];simp) (jA _)),trivial⟩ ⟨⟨_,rfl,.tree (by simp [AV.tree,go_sem])⟩,⟨_,rfl,.tree rfl⟩,⟨_,rfl,.tree rfl⟩,⟨_,rfl,.tree rfl⟩,trivial⟩
    ⟨⟨_,rfl,.agg rfl (VR2s.cons (.tree rfl) (VR2s.cons (.tree rfl) (VR2s.cons (.tree (by simp [AV.tree,zU])) (VR2s.cons (.slice rfl) VR2s.nil)))).2⟩,⟨_,rfl,.tree rfl⟩,trivial⟩
  ·obtain rfl:i=x.Kids.length:=by have:=odF hc;omega
   rw [List.take_length];refine qf (k:=4) (by rfl) (by rfl) (by exact ⟨_,rfl⟩) (by decide) ?_;simp only [go_sem];rw [hres];exact j5 (qUC rfl (Qz _ _ _))
theorem qQI {α:Type} {f:α→Nat} {xs:List α} {i:Nat} (h:i<xs.length):zI f (xs.take (i+1))=max (zI f (xs.take i)) (f xs[i]):=by
 induction xs generalizing i with
 | nil=>simp at h
 | cons a xs ih=>
  cases i with
  | zero=>simp [zI]
  | succ i=>
   simp only [List.take_succ_cons,zI,List.getElem_cons_succ,ih (by simpa using h)];show max _ _=max (max _ _) _;rw [Nat.max_assoc]
theorem qNV {α:Type} (f:α→Nat):∀(xs:List α) (i:Nat),qE f (xs.take i)≤qE f xs
 |[],i=>by simp
 | a::xs,0=>by simp [qE]
 | a::xs,i+1=>by simp only [List.take_succ_cons,qE];have:=qNV f xs i;omega
@[go_sem] theorem qwQ {α:Type} (f:α→Nat):zI f []=0:=rfl
theorem qA.dep_size:∀x:qA,x.dep≤x.size:=qA.ind fun x ih=>by
 rw [x.dep_eq,x.size_eq];have:∀xs:List qA,(∀y∈xs,y.dep≤y.size)→zI qA.dep xs≤qE qA.size xs:=by
  intro xs
  induction xs with
  | nil=>intro _;simp [zI]
  | cons a xs ihx=>
   intro h;have h1:=h a (by simp);have h2:=ihx (fun y hy=>h y (by simp [hy]));simp only [zI,qE];show max _ _≤_;omega
 have:=this _ ih;omega
def qA.fits (x:qA):Bool:=decide (x.size≤400)&&decide (x.dep≤80)
def qA.left:qA→Int→Int:=qA.fold fun _ rs l=>rs.foldl (fun l (r:Int→Int)=>if l<0 then l else r l) (l-1)
def qA.boxes:qA→Nat:=qA.fold fun x rs=>zI id rs+if x.Kind=6 then 1 else 0
def sumK {α:Type} (f:Nat→α→Nat):List α→Nat→Nat
 |[],_=>0
 | x::xs,i=>f i x+sumK f xs (i+1)
@[go_sem] theorem qzL {α:Type} (f:Nat→α→Nat) (k:Nat):sumK f [] k=0:=rfl
def UZ (v d:Int):Int:=if d<v then v-1 else v
def qA.put (arg:qA):qA→Int→qA:=qA.fold fun x rs d=>
 if x.Kind=1 then (if x.Value=d then arg.shift d 0 else .mk 1 (UZ x.Value d) [] []) else .mk x.Kind x.Value x.Data (z8 (fun i (r:Int→qA)=>r (d+qt x.Kind i)) rs 0)
theorem qA.put_eq (arg x:qA) (d:Int):qA.put arg x d=if x.Kind=1 then (if x.Value=d then arg.shift d 0 else .mk 1 (UZ x.Value d) [] []) else .mk x.Kind x.Value x.Data (z8 (fun i y=>qA.put arg y (d+qt x.Kind i)) x.Kids 0):=by
 unfold qA.put;rw [qA.fold_eq,qMY]
theorem qL3 {h:List qC} {k v:Int} {d:List Int} {ks:List qA} {D K:AV} (hd:Cv h D (.lst 1 (d.map qD) false)) (hk:Cv h K (.lst 4 (ks.map qA.enc) false)):
  Cv h (.agg [.int .i64 k,.int .i64 v,D,K]) (qA.mk k v d ks).enc:=by
 rw [qA.enc_eq];refine .agg rfl ?_;simp only [List.zip_cons_cons,List.zip_nil_left,List.mem_cons,List.not_mem_nil,or_false,qA.Kind,qA.Value,qA.Data,qA.Kids];rintro p (rfl | rfl | rfl | rfl)
 ·exact .refl rfl
 ·exact .refl rfl
 ·exact hd
 ·exact hk
theorem qA.isAgg (x:qA):∃cs,x.enc=.agg cs:=⟨_,x.enc_eq⟩
theorem Qg {h:List qC} {k v:Int}:Cv h (.agg [.int .i64 k,.int .i64 v,.nils,.nils]) (qA.mk k v [] []).enc:=qL3 .nils .nils
theorem c387 {x:qA} (hz:x.sz≤1048576) (hd:x.dep≤1048576) (hv:x.vb 4294967296=true):Pure Gm 387 [.ept x.enc 0] ((x.shift 0 0).enc):=by
 refine Pure.intro [] [] g387 (by kernel_rfl) rfl (by simp [AV.trees,AV.tree,go_sem]) (by simp [go_sem]) ?_;simp only [Xk,qP,go_sem];refine qK (c766 x 0 0 hz (by omega) (by omega) hv) ?_;simp only [go_sem];refine qf (k:=4) (by rfl) (by simp [go_sem]) (qA.isAgg _) (by decide) ?_;simp only [go_sem];exact qJ (by simp [go_sem]) rfl
def qA.d4:qA→Bool:=qA.fold fun x rs=>decide (x.Data.length≤4)&&rs.all id
theorem qA.d4_eq (x:qA):x.d4=(decide (x.Data.length≤4)&&x.Kids.all qA.d4):=by
 unfold qA.d4;rw [qA.fold_eq];simp
theorem qUD {x y:qA} (h:x.d4=true) (hy:y∈x.Kids):y.d4=true:=by
 rw [x.d4_eq,bAt,List.all_eq_true] at h;exact h.2 y hy
theorem qA.sz_d4:∀x:qA,x.d4=true→x.sz+1≤5*x.size:=qA.ind fun x ih h=>by
 have h0:=h;rw [x.d4_eq,bAt,decide_eq_true_eq] at h0;rw [x.sz_eq,x.size_eq];have:∀xs:List qA,(∀y∈xs,y.sz+1≤5*y.size)→xs.length+qE qA.sz xs≤5*qE qA.size xs:=by
  intro xs
  induction xs with
  | nil=>intro _;simp [qE]
  | cons a xs ihx=>
   intro h;have h1:=h a (by simp);have h2:=ihx (fun y hy=>h y (by simp [hy]));simp only [qE,lCo];omega
 have:=this x.Kids (fun y hy=>ih y hy (qUD h hy));omega
theorem qYY:∀x:qA,x.ok=true→x.d4=true:=qA.ind fun x ih h=>by
 have h0:=Jt h;unfold zN inI at h0;simp only [bAt,decide_eq_true_eq] at h0;rw [x.d4_eq,bAt,decide_eq_true_eq,List.all_eq_true];refine ⟨?_,fun y hy=>ih y hy (WD h hy)⟩;have h1:=h0.1.1.2;have:(shp x.Kind).2.2≤4:=by
  unfold shp
  repeat' split
  all_goals decide
 omega
theorem qYZ:∀x:qA,x.ok=true→x.vb 255=true:=qA.ind fun x ih h=>by
 have h0:=Jt h;unfold zN at h0;simp only [bAt] at h0;rw [x.vb_eq,bAt,List.all_eq_true];refine ⟨?_,fun y hy=>ih y hy (WD h hy)⟩;by_cases hk:x.Kind=1
 ·have h1:=h0.1.2;unfold jl at h1;rw [if_pos hk] at h1;rw [h1];simp
 ·simp [hk]
theorem qbC {m n:Int} (hmn:m≤n):∀x:qA,x.vb m=true→x.vb n=true:=qA.ind fun x ih h=>by
 have h0:=h;rw [x.vb_eq,bAt] at h0;rw [x.vb_eq,bAt,List.all_eq_true];refine ⟨?_,fun y hy=>ih y hy (qSM h hy)⟩;have h1:=h0.1;simp only [inI,Bool.or_eq_true,Bool.not_eq_true',decide_eq_false_iff_not,bAt,decide_eq_true_eq] at h1⊢;rcases h1 with h1 | h1
 ·exact .inl h1
 ·exact .inr ⟨h1.1,by omega⟩
@[go_sem] theorem qA.mk_kids {k v:Int} {d:List Int} {ks:List qA}:(qA.mk k v d ks).Kids=ks:=rfl
@[go_sem] theorem qA.mk_data {k v:Int} {d:List Int} {ks:List qA}:(qA.mk k v d ks).Data=d:=rfl
@[go_sem] theorem qA.mk_kind {k v:Int} {d:List Int} {ks:List qA}:(qA.mk k v d ks).Kind=k:=rfl
@[go_sem] theorem qA.mk_value {k v:Int} {d:List Int} {ks:List qA}:(qA.mk k v d ks).Value=v:=rfl
theorem qQR {x:qA} (h:x.ok=true) (hk:x.Kind=1):x.Kids=[]:=by
 have h:=Jt h;unfold zN inI at h;simp only [bAt,decide_eq_true_eq] at h;obtain ⟨⟨⟨⟨h1,h2⟩,_⟩,_⟩,_⟩:=h;simp [shp,hk] at h1 h2;exact h2
def JI:qA:=.mk 0 0 [] []
theorem JF {x:qA} (h:x.valid=true):x.ok=true∧x.dep≤80∧x.size≤400∧x.sz≤2000∧x.vb 4294967296=true:=by
 unfold qA.valid at h;simp only [bAt,decide_eq_true_eq] at h;have h1:=qA.sz_d4 x (qYY x h.1.1);exact ⟨h.1.1,h.1.2,h.2,by omega,qbC (by omega) x (qYZ x h.1.1)⟩
def w32 (x:Int):Int:=IntKind.i64.wrap (IntKind.i32.wrap (IntKind.u32.wrap (IntKind.u64.wrap x)))
def opI (k a b:Int):Int:=
 if k=1 then w32 (IntKind.i64.wrap (w32 a+w32 b)) else if k=2 then w32 (IntKind.i64.wrap (w32 a-w32 b)) else if k=3 then w32 (IntKind.i64.wrap (w32 a*w32 b))
 else if k=4 then (if w32 b=0 then 0 else w32 (IntKind.i64.wrap ((w32 a).tdiv (w32 b)))) else if k=5 then (if w32 a<w32 b then 1 else 0) else if k=6 then (if w32 a=w32 b then 1 else 0) else 0
def appC (f a:qA):qA:=.mk 5 0 [] [f,a]
def qT0 (d:Int) (as:List qA):qA:=as.foldl appC (.mk 11 d [] [])
attribute [local simp] jA
section
variable {e:Env} {w i:Nat} {el:List AV} {v:AV} {x:Ao} {r:List (Nat×Ao)}
@[go_sem] theorem qsW {a b:AV} (h:v.cells.length=w):fil e w [a,b] 0 (some v) r=zX e w [v,b] r:=by
 show (if v.cells.length=w∧0<2 then _ else _)=_;rw [if_pos ⟨h,by omega⟩];rfl
@[go_sem] theorem qsX {a b:AV} (h:v.cells.length=w):fil e w [a,b] 1 (some v) r=zX e w [a,v] r:=by
 show (if v.cells.length=w∧1<2 then _ else _)=_;rw [if_pos ⟨h,by omega⟩];rfl
@[go_sem] theorem rep2 {v:AV}:List.replicate 2 v=[v,v]:=nr rfl
end
theorem Qc {x:Int}:Pure Gm 1125 [.int .i64 x] (.int .i64 (w32 x)):=by
 refine Pure.intro [] [] qVL (by kernel_rfl) rfl (by simp [AV.trees,AV.tree,go_sem]) rfl ?_;simp only [Wj,qP,go_sem];exact qJ rfl rfl
theorem qOS {b:Bool}:Pure Gm 1126 [.bool b] (.int .i64 (if b then 1 else 0)):=by
 refine Pure.intro [] [] qVM (by kernel_rfl) rfl (by simp [AV.trees,AV.tree,go_sem]) rfl ?_;simp only [Wl,qP,go_sem];refine qM ?_ ?_<;>intro hc<;>simp only [hc,go_sem]
 ·exact qJ rfl rfl
 ·exact qJ rfl rfl
theorem c762 {k a b:Int}:Pure Gm 762 [.int .i64 k,.int .i64 a,.int .i64 b] (.int .i64 (opI k a b)):=by
 refine Pure.intro [] [] g762 (by kernel_rfl) rfl (by simp [AV.trees,AV.tree,go_sem]) rfl ?_;simp only [YX,qP,go_sem];refine qK Qc ?_;simp only [go_sem];refine qK Qc ?_;simp only [go_sem];unfold opI;refine qM ?_ ?_<;>intro hc<;>simp only [hc,go_sem]
 ·rw [if_pos (odT hc)];refine qK Qc ?_;simp only [go_sem];exact qJ rfl rfl
 rw [if_neg (odF hc)];refine qM ?_ ?_<;>intro hc<;>simp only [hc,go_sem]
 ·rw [if_pos (odT hc)];refine qK Qc ?_;simp only [go_sem];exact qJ rfl rfl
 rw [if_neg (odF hc)];refine qM ?_ ?_<;>intro hc<;>simp only [hc,go_sem]
 ·rw [if_pos (odT hc)];refine qK Qc ?_;simp only [go_sem];exact qJ rfl rfl
 rw [if_neg (odF hc)];refine qM ?_ ?_<;>intro hc<;>simp only [hc,go_sem]
 ·rw [if_pos (odT hc)];refine qM ?_ ?_<;>intro hc<;>simp only [hc,go_sem]
  ·rw [if_pos (odT hc)];exact qJ rfl rfl
  rw [if_neg (odF hc)];have hq:=odF hc;simp only [if_neg hq,go_sem];refine qK Qc ?_;simp only [go_sem];exact qJ rfl rfl
 rw [if_neg (odF hc)];refine qM ?_ ?_<;>intro hc<;>simp only [hc,go_sem]
 ·rw [if_pos (odT hc)];refine qK qOS ?_;simp only [go_sem];exact qJ rfl (by simp)
 rw [if_neg (odF hc)];refine qM ?_ ?_<;>intro hc<;>simp only [hc,go_sem]
 ·rw [if_pos (odT hc)];refine qK qOS ?_;simp only [go_sem];exact qJ rfl (by simp)
 rw [if_neg (odF hc)];exact qJ rfl rfl
theorem c381 {x:Int}:Pure Gm 381 [.int .i64 x] ((qA.mk 2 x [] []).enc):=by
 refine Pure.intro [] [] g381 (by kernel_rfl) rfl (by simp [AV.trees,AV.tree,go_sem]) (by simp [go_sem]) ?_;simp only [Xh,qP,go_sem];refine qf (k:=4) (by rfl) (by rfl) (by exact ⟨_,rfl⟩) (by decide) ?_;simp only [go_sem];exact j5 Qg
theorem qTL {x:Int}:Pure Gm 1127 [.int .i64 x] ((qA.mk 11 x [] []).enc):=by
 refine Pure.intro [] [] qVN (by kernel_rfl) rfl (by simp [AV.trees,AV.tree,go_sem]) (by simp [go_sem]) ?_;simp only [Wm,qP,go_sem];refine qf (k:=4) (by rfl) (by rfl) (by exact ⟨_,rfl⟩) (by decide) ?_;simp only [go_sem];exact j5 Qg
theorem c382 {k v:Int} {ks:List qA}:Pure Gm 382 [.int .i64 k,.int .i64 v,.lst 4 (ks.map qA.enc) false] ((qA.mk k v [] ks).enc):=by
 refine Pure.intro [] [] g382 (by kernel_rfl) rfl (by simp [AV.trees,AV.tree,go_sem]) (by simp [go_sem]) ?_;simp only [Xi,qP,go_sem];refine qf (k:=4) (by rfl) (by simp [AV.tree,AV.trees,go_sem]) (by exact ⟨_,rfl⟩) (by decide) ?_;simp only [go_sem];exact j5 (qL3 .nils (.refl (by simp [AV.tree,go_sem])))
def redK (x:qA):Int:=match x.Kids with
 |[]=>0
 | y::ys=>
  if x.Kind=5 then (if y.Kind=4 then 1 else if y.Kind=11 then 4 else 0)
  else if x.Kind=3 then (if y.Kind=11 then 4 else if y.Kind=2 then (match ys with | z::_=>if z.Kind=2 then 2 else if z.Kind=11 then 4 else 0 |[]=>0) else 0)
  else if x.Kind=9 then (if y.Kind=8∧y.Value<(x.Data.length:Nat) then 3 else if y.Kind=11 then 4 else 0)
  else if x.Kind=10 then (if y.Kind=2 then 3 else if y.Kind=11 then 4 else 0) else 0
def redD (x:qA):Int:=match x.Kids with
 |[]=>0
 | y::_=>if x.Kind=10 then (if y.Value=0 then x.Data.getD 1 0 else x.Data.getD 0 0) else x.Data.getD y.Value.toNat 0
theorem qM4 {x:qA} (h:x.ok=true):jl x.Kind x.Value=true:=by
 have h:=Jt h;unfold zN at h;simp only [bAt] at h;exact h.1.2
attribute [local simp] zU
def Zs (b:qO) (R:List Int) (lim:Int):AV:=.agg [.ept b.enc 0,.lst 1 (R.map qD) false,.int .i64 lim]
@[go_sem] theorem qsI {b:qO} {R:List Int} {lim:Int}:(Zs b R lim).part 0 none=some (.ept b.enc 0):=nr rfl
@[go_sem] theorem qsJ {b:qO} {R:List Int} {lim:Int}:(Zs b R lim).part 1 none=some (.lst 1 (R.map qD) false):=nr rfl
@[go_sem] theorem qsK {b:qO} {R:List Int} {lim:Int}:(Zs b R lim).part 2 none=some (.int .i64 lim):=nr rfl
@[go_sem] theorem qsL {b:qO} {R:List Int} {lim:Int}:(Zs b R lim).tree=true:=by simp [Zs,AV.tree,AV.trees,go_sem]
def kid0 (a:qA):qA:=a.Kids.headD JI
def let1 (a:qA) (L:List Int) (l:Int):qA×Int:=
 if L.length=0 then (a,0) else if a.Kind=2 then (a,0) else if a.Kind=6∧(kid0 a).Kind=2 then (kid0 a,0)
 else if L.length=1∧L.head?=some l then (a,0) else if L.length=1∧a.Kind=6 then (kid0 a,0) else (JI,3)
def letC (x:qA) (l:Int):qA×Int:=match x.Kids with
 | a::c::_=>let1 a (c.levels 0 l) l
 | _=>(JI,3)
@[go_sem] theorem qvL {w id:Nat} {cl:Bool} {k:IntKind}:idx w (some (.slice w id 0 1 cl)) (some (.int k 0))=some (.ptr id 0 0):=qML (by omega) (by omega)
abbrev OutC:=qA×Int×Int
def outE (r:OutC):AV:=.tup [r.1.enc,.int .i64 r.2.1,.int .i64 r.2.2]
@[go_sem] theorem qx5 {r:OutC}:(outE r).tree=true:=by simp [outE,AV.tree,AV.trees,go_sem]
def Asc (n:Int) (xs:List Int):Prop:=xs.Pairwise (· < ·)∧∀k∈xs,0≤k∧k<n
theorem qM7:∀{xs:List Int} {n k:Int},k∈wX xs n→k=n∨k∈xs
 |[],n,k,h=>by simp [wX] at h;exact .inl h
 | x::xs,n,k,h=>by
  unfold wX at h;split at h
  ·rcases List.mem_cons.1 h with rfl | h
   ·simp
   ·rcases qM7 h with h | h
    ·exact .inl h
    ·simp [h]
  ·split at h
   ·exact .inr h
   ·rcases List.mem_cons.1 h with rfl | h
    ·exact .inl rfl
    ·exact .inr h
theorem qQ7:∀{xs:List Int} {n:Int},xs.Pairwise (· < ·)→(wX xs n).Pairwise (· < ·)
 |[],n,_=>by simp [wX]
 | x::xs,n,h=>by
  rw [List.pairwise_cons] at h;unfold wX;split
  ·rw [List.pairwise_cons];refine ⟨fun k hk=> ?_,qQ7 h.2⟩;rcases qM7 hk with rfl | hk
   ·assumption
   ·exact h.1 k hk
  ·split
   ·rw [List.pairwise_cons];exact h
   ·rw [List.pairwise_cons,List.pairwise_cons];refine ⟨fun k hk=> ?_,h⟩;rcases List.mem_cons.1 hk with rfl | hk
    ·omega
    ·have:=h.1 k hk;omega
theorem Asc.put {n:Int} {xs:List Int} (h:Asc n xs) {k:Int} (hk:0≤k∧k<n):Asc n (wX xs k):=
 ⟨qQ7 h.1,fun j hj=>by rcases qM7 hj with rfl | hj;exact hk;exact h.2 j hj⟩
def fzp (n id:Nat) (o:Option qC) (st:VSt):VSt:=match o with
 | some (.row w [v] true)=>if w=0 then st else {s:=(n,.ept v 0)::st.s,l:=st.l,h:=st.h.set id .dead}
 | _=>st
def fzo (n:Nat) (v:Option AV) (st:VSt):VSt:=match v with
 | none=>st
 | some (.ept _ _)=>st
 | some (.lst _ _ _)=>st
 | some (.int _ _)=>st
 | some (.bool _)=>st
 | some .nils=>st
 | some (.agg _)=>st
 | some (.ptr id 0 0)=>fzp n id st.h[id]? st
 | _=>w6 n st
section
variable {n id:Nat} {s m:qb} {h:List qC} {v x:AV} {st:VSt}
@[go_sem] theorem qtG:w6 n ⟨s,m,h⟩=fzo n (get s n) ⟨s,m,h⟩:=by
 unfold fzo;split<;>rename_i e<;>try (simp only [w6,e];done)
 ·simp only [w6,e,fzp];split<;>rename_i e2<;>simp only [e2]
  ·split<;>split<;>first | rfl | omega
@[go_sem] theorem qtP:get [] n=none:=nr rfl
@[go_sem] theorem qtL:fzo n none st=st:=nr rfl
@[go_sem] theorem qtH {j:Nat}:fzo n (some (.ept v j)) st=st:=nr rfl
@[go_sem] theorem qtJ {w:Nat} {xs:List AV} {c:Bool}:fzo n (some (.lst w xs c)) st=st:=nr rfl
@[go_sem] theorem qtK:fzo n (some .nils) st=st:=nr rfl
@[go_sem] theorem qtI {k:IntKind} {i:Int}:fzo n (some (.int k i)) st=st:=nr rfl
@[go_sem] theorem qtM:fzo n (some (.ptr id 0 0)) ⟨s,m,h⟩=fzp n id h[id]? ⟨s,m,h⟩:=nr rfl
@[go_sem] theorem qtN {w:Nat}:fzp n id (some (.row w [v] true)) ⟨s,m,h⟩=if w=0 then ⟨s,m,h⟩ else ⟨(n,.ept v 0)::s,m,h.set id .dead⟩:=nr rfl
end
theorem QY {α:Type} (p:α→Bool) (xs:List α):(!xs.any fun x=> !p x)=xs.all p:=by
 induction xs with
 | nil=>rfl
 | cons x xs ih=>simp only [List.any_cons,List.all_cons,Bool.not_or,Bool.not_not,ih]
theorem Zk {f:AV} (p:Int→Bool) (hft:f.tree=true) (xs:List Int) (hf:∀x∈xs,Zf Gm f [qD x] (.bool (p x))) (hl:xs.length≤1048576):Pure Gm 397 [.lst 1 (xs.map qD) false,f] (.bool (xs.any p)):=
 qL4 shI (gc:=774) g397 g774 f p hft xs hf hl
theorem c581 {f:AV} (p:qA→Bool) (hft:f.tree=true) (xs:List qA) (hf:∀x∈xs,Zf Gm f [x.enc] (.bool (p x))) (hl:xs.length≤1048576):Pure Gm 581 [.lst 4 (xs.map qA.enc) false,f] (.bool (xs.any p)):=
 qL4 qA.isSh (gc:=958) g581 g958 f p hft xs hf hl
theorem n401 (xs:List Int) (hz:xs.length≤4194304):Fresh Gm 401 [.lst 1 (xs.map qD) false] (.lst 1 (xs.map qD) false):=
 qL0 (w:=1) g401 (lI xs) (zH (fun _=>rfl) xs) (zA shI.tree xs) (by simpa using hz)
theorem c796 {n:Int}:Pure Gm 796 [.int .i64 n] (.bool (jd n)):=by
 refine Pure.intro [] [] g796 (by kernel_rfl) rfl (by simp [AV.trees,AV.tree,go_sem]) rfl ?_;simp only [Yd,qP,go_sem]
 repeat' (first | (refine qW rfl ?_;simp only [go_sem]) | (first | (refine qY ?_ ?_<;>intro hc<;>simp only [hc,go_sem]) | (refine qM ?_ ?_<;>intro hc<;>simp only [hc,go_sem])) | refine qJ rfl ?_ | refine jg (by rfl) ?_)
 all_goals ((simp only [jd,inI,AV.bool.injEq];rw [Bool.eq_iff_iff];simp at*;try omega))
theorem qLR {n:Int}:Pure Gm 1050 [.int .i64 n] (.bool (inI n 1 6)):=by
 refine Pure.intro [] [] qVG (by kernel_rfl) rfl (by simp [AV.trees,AV.tree,go_sem]) rfl ?_;simp only [We,qP,go_sem]
 repeat' (first | (refine qW rfl ?_;simp only [go_sem]) | (first | (refine qY ?_ ?_<;>intro hc<;>simp only [hc,go_sem]) | (refine qM ?_ ?_<;>intro hc<;>simp only [hc,go_sem])) | refine qJ rfl ?_ | refine jg (by rfl) ?_)
 all_goals ((simp only [inI,AV.bool.injEq];rw [Bool.eq_iff_iff];simp at*;try omega))
theorem qOQ {n:Int}:Pure Gm 1051 [.int .i64 n] (.bool (inI n (-2147483648) 2147483647)):=by
 refine Pure.intro [] [] qVH (by kernel_rfl) rfl (by simp [AV.trees,AV.tree,go_sem]) rfl ?_;simp only [Wf,qP,go_sem]
 repeat' (first | (refine qW rfl ?_;simp only [go_sem]) | (first | (refine qY ?_ ?_<;>intro hc<;>simp only [hc,go_sem]) | (refine qM ?_ ?_<;>intro hc<;>simp only [hc,go_sem])) | refine qJ rfl ?_ | refine jg (by rfl) ?_)
 all_goals ((simp only [inI,AV.bool.injEq];rw [Bool.eq_iff_iff];simp at*;try omega))
theorem qTS {n:Int}:Pure Gm 1402 [.int .i64 n] (.bool (!jd n)):=by
 refine Pure.intro [] [] qV9 (by kernel_rfl) rfl (by simp [AV.trees,AV.tree,go_sem]) rfl ?_;simp only [XJ,qP,go_sem]
 repeat' (first | (refine qW rfl ?_;simp only [go_sem]) | (first | (refine qY ?_ ?_<;>intro hc<;>simp only [hc,go_sem]) | (refine qM ?_ ?_<;>intro hc<;>simp only [hc,go_sem])) | (refine qK (c796) ?_;simp only [go_sem]) | refine qJ rfl ?_ | refine jg (by rfl) ?_)
 all_goals (simp_all<;>omega)
theorem c665 (x:qA):∀(hz:x.sz≤1048576) (hd:x.dep≤2097152) (hs:x.size≤2097152),Pure Gm 665 [x.enc] (.tup [.int .i64 (x.dep:Nat),.int .i64 (x.size:Nat)]):=by
 induction x using qA.ind with
 | _ x ih=>
 intro hz hd hs;refine Pure.intro [] [] g665 (by kernel_rfl) rfl (by simp [AV.trees,AV.tree,go_sem]) rfl ?_;simp only [YK,qP,go_sem];have hL:=x.len_sz;have hde:=x.dep_eq;have hse:=x.size_eq;refine qW qA.ln ?_;simp only [go_sem];refine Sem.loop (fun i:Nat=>i≤x.Kids.length∧True) (fun i=>(⟨[(2,.int .i64 ((1+zI qA.dep (x.Kids.take i):Nat):Int)),(3,.int .i64 ((1+qE qA.size (x.Kids.take i):Nat):Int)),(9,.lst 4 (x.Kids.map qA.enc) false),(10,.int .i64 (x.Kids.length:Nat)),(11,.int .i64 (i:Nat))],[(1,x.enc)],[]⟩:VSt)) (fun i=>x.Kids.length-i) 0 (by kernel_rfl) ⟨Nat.zero_le _,by trivial⟩ (Can.sub (by simp [go_sem]) (by simp [go_sem])) ?_;rintro i ⟨hi,hI⟩;simp only [go_sem];refine qM ?_ ?_<;>intro hc<;>simp only [hc,go_sem]
 ·have hlt:i<x.Kids.length:=by have:=odT hc;omega
  simp only [gMp,gEg hlt,oMs,go_sem];have hm:=gMm hlt;have hk:=qA.kid_sz hm;have hp:=qA.dep_kid hm;refine qf (k:=4) (by rfl) (by simp [go_sem]) (qA.isAgg _) (by decide) ?_;simp only [go_sem];refine qK (ih _ hm (by omega) (by omega) (by have:=zP (f:=qA.size) hm;omega)) ?_;simp only [go_sem];have ht:=qNU (f:=qA.size) hlt;have hle:=qNV qA.size x.Kids (i+1);have e1:((1+qE qA.size (x.Kids.take i):Nat):Int)+x.Kids[i].size=((1+qE qA.size (x.Kids.take (i+1)):Nat):Int):=by omega
  have e2:max ((1+zI qA.dep (x.Kids.take i):Nat):Int) ((x.Kids[i].dep:Int)+1)=((1+zI qA.dep (x.Kids.take (i+1)):Nat):Int):=by rw [qQI hlt];omega
  rw [qr (n:=(x.Kids[i].dep:Int)+1) (by omega) (by omega),e1,e2,qr (n:=((1+qE qA.size (x.Kids.take (i+1)):Nat):Int)) (by omega) (by omega)];simp only [qq (show i<4611686018427387904 by omega)];refine qo (i+1) ⟨by omega, ?_⟩ (by omega) (Can.sub (by simp [go_sem]) (by simp [go_sem]));trivial
 ·obtain rfl:i=x.Kids.length:=by have:=odF hc;omega
  rw [List.take_length,←hde,←hse];exact jg (by rfl) rfl
theorem c495 {x:qA} (hz:x.sz≤1048576) (hd:x.dep≤2097152) (hs:x.size≤2097152):Pure Gm 495 [x.enc] (.bool x.fits):=by
 refine Pure.intro [] [] g495 (by kernel_rfl) rfl (by simp [AV.trees,AV.tree,go_sem]) rfl ?_;simp only [X9,qP,go_sem];refine qW qA.ln ?_;simp only [go_sem];refine qK (c665 x hz hd hs) ?_;simp only [go_sem];refine qY ?_ ?_<;>intro hc<;>simp only [hc,go_sem]
 ·exact qJ rfl (by unfold qA.fits;rw [decide_eq_true (p:=x.dep≤80) (by have:=odT hc;omega),Bool.and_true];simp;omega)
 ·exact qJ rfl (by unfold qA.fits;rw [decide_eq_false (p:=x.dep≤80) (by simp at hc;omega),Bool.and_false])
theorem qTM {x:qA} (hz:x.sz≤1048576):Pure Gm 1130 [x.enc] (.bool (zN x)):=by
 refine Pure.intro [] [] qVP (by kernel_rfl) rfl (by simp [AV.trees,AV.tree,go_sem]) rfl ?_;simp only [Wo,qP,go_sem];have hL:=x.len_sz;refine qW qA.ln ?_;simp only [go_sem]
 repeat' (first | (first | (refine qY ?_ ?_<;>intro hc<;>simp only [hc,go_sem]) | (refine qM ?_ ?_<;>intro hc<;>simp only [hc,go_sem])) | (refine qK qOQ ?_;simp only [go_sem]) | (refine qK qLR ?_;simp only [go_sem]) | (refine qK c796 ?_;simp only [go_sem]) | (refine qK (Zk (f:=.fn 1402 []) (fun n=> !jd n) rfl x.Data (fun y _=>⟨1402,[],rfl,qTS⟩) (by omega)) ?_;simp only [go_sem]) | refine qJ rfl ?_)
 all_goals (try rw [QY])
 all_goals (refine congrArg AV.bool ?_;unfold zN jl shp;simp_all [inI,jd]<;>first | omega | (intros;omega))
end Go.Ab
