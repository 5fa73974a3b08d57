/- Texts Cor0 .. Cor8: the abstract machine, its laws and contracts of functions: lemmas for the statement. No condition. -/
import Derived.Test.YteekllacfpafoaaGreatP4
set_option linter.unusedSimpArgs false
set_option linter.unusedVariables false
namespace Go.Ab
open Go
inductive qA where
  | mk (Kind Value:Int) (Data:List Int) (Kids:List qA)
def qA.Kind:qA→Int |.mk a _ _ _=>a
def qA.Value:qA→Int |.mk _ a _ _=>a
def qA.Data:qA→List Int |.mk _ _ a _=>a
def qA.Kids:qA→List qA |.mk _ _ _ a=>a
theorem qA.ext {x y:qA} (h1:x.Kind=y.Kind) (h2:x.Value=y.Value) (h3:x.Data=y.Data) (h4:x.Kids=y.Kids):x=y:=by
  cases x;cases y;simp_all [qA.Kind,qA.Value,qA.Data,qA.Kids]
theorem qA.eta (x:qA):qA.mk x.Kind x.Value x.Data x.Kids=x:=by cases x;rfl
theorem qA.lt_of_mem {x:qA} {y:qA} (h:y∈x.Kids):SizeOf.sizeOf y<SizeOf.sizeOf x:=by
  cases x with
  | mk a b c d=>
    have:=List.sizeOf_lt_of_mem (show y∈d from h)
    simp only [qA.mk.sizeOf_spec];omega
theorem qA.ind {P:qA→Prop} (h:∀x,(∀y,y∈x.Kids→P y)→P x) (x:qA):P x:=
  h x fun y hy=>qA.ind h y
termination_by SizeOf.sizeOf x
decreasing_by exact qA.lt_of_mem hy
mutual
def qA.enc:qA→AV
  |.mk k v d ks=>.agg [.int .i64 k,.int .i64 v,.lst 1 (d.map qE) false,.lst 4 (qA.encs ks) false]
def qA.encs:List qA→List AV
  |[]=>[]
  | x::xs=>x.enc::qA.encs xs
end
theorem qA.encs_eq:∀xs,qA.encs xs=xs.map qA.enc
  |[]=>by simp [qA.encs]
  | x::xs=>by simp [qA.encs,qA.encs_eq xs]
theorem qA.enc_eq (x:qA):x.enc=.agg [.int .i64 x.Kind,.int .i64 x.Value,.lst 1 (x.Data.map qE) false,.lst 4 (x.Kids.map qA.enc) false]:=by
  cases x;simp [qA.enc,qA.encs_eq,qA.Kind,qA.Value,qA.Data,qA.Kids]
theorem qA.trx:∀x:qA,x.enc.tree=true:=qA.ind fun x ih=>by
  rw [qA.enc_eq]
  have h:∀xs:List qA,(∀y∈xs,y.enc.tree=true)→AV.trees (xs.map qA.enc)=true:=by
    intro xs
    induction xs with
    | nil=>intro _;rfl
    | cons a xs ihx=>intro h;simp only [List.map_cons,AV.trees,Bool.and_eq_true];exact ⟨h a (by simp),ihx fun y hy=>h y (by simp [hy])⟩
  simp [AV.tree,AV.trees,zg shI.tree,h _ ih]
theorem qA.isSh:Sh qA.enc 4 (some 4):=⟨qA.trx,fun x=>by rw [qA.enc_eq];rfl,fun x=>by rw [qA.enc_eq];rfl,by decide,fun x=>by rw [qA.enc_eq];simp⟩
section
variable {x:qA}
@[go_sem] theorem qA.tr:x.enc.tree=true:=qA.trx x
@[go_sem] theorem qA.ln:x.enc.cells.length=4:=by rw [qA.enc_eq];rfl
@[go_sem] theorem qA.all:x.enc.part 0 (some 4)=some x.enc:=by rw [qA.enc_eq];rfl
@[go_sem] theorem qA.cs:x.enc.cells=[.int .i64 x.Kind,.int .i64 x.Value,.lst 1 (x.Data.map qE) false,.lst 4 (x.Kids.map qA.enc) false]:=by rw [qA.enc_eq];rfl
@[go_sem] theorem qA.p0:x.enc.part 0 none=some (.int .i64 x.Kind):=by rw [qA.enc_eq];rfl
@[go_sem] theorem qA.p1:x.enc.part 1 none=some (.int .i64 x.Value):=by rw [qA.enc_eq];rfl
@[go_sem] theorem qA.p2:x.enc.part 2 none=some (.lst 1 (x.Data.map qE) false):=by rw [qA.enc_eq];rfl
@[go_sem] theorem qA.p3:x.enc.part 3 none=some (.lst 4 (x.Kids.map qA.enc) false):=by rw [qA.enc_eq];rfl
end
mutual
def qA.sz:qA→Nat
  |.mk _ _ d ks=>d.length+(ks.length+qA.szs ks)
def qA.szs:List qA→Nat
  |[]=>0
  | x::xs=>x.sz+qA.szs xs
end
theorem qA.szs_eq:∀xs,qA.szs xs=qF qA.sz xs
  |[]=>by simp [qA.szs,qF]
  | x::xs=>by simp [qA.szs,qF,qA.szs_eq xs]
theorem qA.sz_eq (x:qA):x.sz=x.Data.length+(x.Kids.length+qF qA.sz x.Kids):=by
  cases x;simp [qA.sz,qA.szs_eq,qA.Data,qA.Kids]
mutual
def qA.bd:qA→Prop
  |.mk _ _ d ks=>d.length≤140737488355328∧ks.length≤140737488355328∧qA.bds ks
def qA.bds:List qA→Prop
  |[]=>True
  | x::xs=>x.bd∧qA.bds xs
end
theorem qA.bds_eq:∀xs,qA.bds xs↔∀y∈xs,qA.bd y
  |[]=>by simp [qA.bds]
  | x::xs=>by simp [qA.bds,qA.bds_eq xs]
theorem qA.bd_eq (x:qA):x.bd↔x.Data.length≤140737488355328∧x.Kids.length≤140737488355328∧∀y∈x.Kids,y.bd:=by
  cases x;simp [qA.bd,qA.bds_eq,qA.Data,qA.Kids]
structure qI where
  Defs:List qA
def qI.enc (x:qI):AV:=.agg [.lst 4 (x.Defs.map qA.enc) false]
theorem qI.isSh:Sh qI.enc 1 (some 1):=⟨fun x=>by simp [qI.enc,AV.tree,AV.trees,zg qA.isSh.tree],fun _=>rfl,fun _=>rfl,by decide,fun x=>by simp [qI.enc]⟩
section
variable {x:qI}
@[go_sem] theorem qI.tr:x.enc.tree=true:=qI.isSh.tree x
@[go_sem] theorem qI.ln:x.enc.cells.length=1:=nr rfl
@[go_sem] theorem qI.all:x.enc.part 0 (some 1)=some x.enc:=nr rfl
@[go_sem] theorem qI.cs:x.enc.cells=[.lst 4 (x.Defs.map qA.enc) false]:=nr rfl
@[go_sem] theorem qI.p0:x.enc.part 0 none=some (.lst 4 (x.Defs.map qA.enc) false):=nr rfl
@[go_sem] theorem qI.lst1 {E:Ev} {t off:Nat} {cs:List AV} {l:List qB} {ks:List Fr1} {s m:qg} {h:List qC} {Q:qX→VSt→Prop}:Lst E t off 1 (some (.agg cs)) (some x.enc) l ks ⟨s,m,h⟩ Q=jS E t (zj cs off (.lst 4 (x.Defs.map qA.enc) false)) l ks ⟨s,m,h⟩ Q:=wA rfl
end
def qI.sz (x:qI):Nat:=(x.Defs.length+qF qA.sz x.Defs)
def qI.bd (x:qI):Prop:=x.Defs.length≤140737488355328∧(∀y∈x.Defs,qA.bd y)
end Go.Ab
namespace Go.Ab
open Go
set_option maxRecDepth 10000
def oL (i d t:Nat):qB:=.mk i (some d) none (.load none (.t t)) []
@[go_sem] theorem zE0 {i d t:Nat}:oL i d t=.mk i (some d) none (.load none (.t t)) []:=nr rfl
def oC (i d:Nat) (n:Int):qB:=.mk i (some d) none (.mov (.c (.int .i64 n))) []
@[go_sem] theorem zER {i d:Nat} {n:Int}:oC i d n=.mk i (some d) none (.mov (.c (.int .i64 n))) []:=nr rfl
def oQ (i d:Nat) (b:Bool):qB:=.mk i (some d) none (.mov (.c (.bool b))) []
@[go_sem] theorem zE6 {i d:Nat} {b:Bool}:oQ i d b=.mk i (some d) none (.mov (.c (.bool b))) []:=nr rfl
def oE (i d:Nat) (op:BinOp) (a:Nat) (n:Int):qB:=.mk i (some d) none (.bin op (.t a) (.c (.int .i64 n))) []
@[go_sem] theorem zEU {i d:Nat} {op:BinOp} {a:Nat} {n:Int}:oE i d op a n=.mk i (some d) none (.bin op (.t a) (.c (.int .i64 n))) []:=nr rfl
def oB (i d:Nat) (op:BinOp) (a b:Nat):qB:=.mk i (some d) none (.bin op (.t a) (.t b)) []
@[go_sem] theorem zEQ {i d:Nat} {op:BinOp} {a b:Nat}:oB i d op a b=.mk i (some d) none (.bin op (.t a) (.t b)) []:=nr rfl
def oA (i d w a b:Nat):qB:=.mk i (some d) none (.iaddr w (.t a) (.t b)) []
@[go_sem] theorem zEP {i d w a b:Nat}:oA i d w a b=.mk i (some d) none (.iaddr w (.t a) (.t b)) []:=nr rfl
def oX (i d t k:Nat):qB:=.mk i (some d) none (.lload t k none) []
@[go_sem] theorem zFC {i d t k:Nat}:oX i d t k=.mk i (some d) none (.lload t k none) []:=nr rfl
def oY (i d t k w:Nat):qB:=.mk i (some d) none (.lload t k (some w)) []
@[go_sem] theorem zFD {i d t k w:Nat}:oY i d t k w=.mk i (some d) none (.lload t k (some w)) []:=nr rfl
def oS (i t k w x:Nat):qB:=.mk i none none (.lstore t k w (.t x)) []
@[go_sem] theorem zE7 {i t k w x:Nat}:oS i t k w x=.mk i none none (.lstore t k w (.t x)) []:=nr rfl
def oT (i w a b:Nat):qB:=.mk i none none (.store w (.t a) (.t b)) []
@[go_sem] theorem zE8 {i w a b:Nat}:oT i w a b=.mk i none none (.store w (.t a) (.t b)) []:=nr rfl
def oF (i d k a:Nat):qB:=.mk i (some d) none (.faddr k (.t a)) []
@[go_sem] theorem zEV {i d k a:Nat}:oF i d k a=.mk i (some d) none (.faddr k (.t a)) []:=nr rfl
def oK (i d a:Nat):qB:=.mk i (some d) none (.nilchk (.t a)) []
@[go_sem] theorem zEZ {i d a:Nat}:oK i d a=.mk i (some d) none (.nilchk (.t a)) []:=nr rfl
def oV (i d a k:Nat):qB:=.mk i (some d) none (.ext (.t a) k) []
@[go_sem] theorem zFA {i d a k:Nat}:oV i d a k=.mk i (some d) none (.ext (.t a) k) []:=nr rfl
def oU (i d a:Nat):qB:=.mk i (some d) none (.nop a) []
@[go_sem] theorem zE9 {i d a:Nat}:oU i d a=.mk i (some d) none (.nop a) []:=nr rfl
def oJ (i d a:Nat):qB:=.mk i (some d) none (.not (.t a)) []
@[go_sem] theorem zEY {i d a:Nat}:oJ i d a=.mk i (some d) none (.not (.t a)) []:=nr rfl
def oW (i d a:Nat):qB:=.mk i (some d) none (.len (.t a)) []
@[go_sem] theorem zFB {i d a:Nat}:oW i d a=.mk i (some d) none (.len (.t a)) []:=nr rfl
def oH (i d k:Nat) (b:Bool) (a:Nat):qB:=.mk i (some d) (some (k,b)) (.mov (.t a)) []
@[go_sem] theorem zEX {i d k:Nat} {b:Bool} {a:Nat}:oH i d k b a=.mk i (some d) (some (k,b)) (.mov (.t a)) []:=nr rfl
def oZ (i d:Nat):qB:=.mk i (some d) none (.lalloc (.agg [.int .i64 0,.int .i64 0,.nils,.nils])) []
@[go_sem] theorem zFE {i d:Nat}:oZ i d=.mk i (some d) none (.lalloc (.agg [.int .i64 0,.int .i64 0,.nils,.nils])) []:=nr rfl
def oD1 (i d g a:Nat):qB:=.mk i (some d) none (.call g [.t a]) []
@[go_sem] theorem zES {i d g a:Nat}:oD1 i d g a=.mk i (some d) none (.call g [.t a]) []:=nr rfl
def oD2 (i d g a b:Nat):qB:=.mk i (some d) none (.call g [.t a,.t b]) []
@[go_sem] theorem zET {i d g a b:Nat}:oD2 i d g a b=.mk i (some d) none (.call g [.t a,.t b]) []:=nr rfl
def oPf (i d a b:Nat):qB:=.mk i (some d) none (.pick (.t a) (.t b) (.c (.bool false))) []
@[go_sem] theorem zE4 {i d a b:Nat}:oPf i d a b=.mk i (some d) none (.pick (.t a) (.t b) (.c (.bool false))) []:=nr rfl
def oPt (i d a b:Nat):qB:=.mk i (some d) none (.pick (.t a) (.c (.bool true)) (.t b)) []
@[go_sem] theorem zE5 {i d a b:Nat}:oPt i d a b=.mk i (some d) none (.pick (.t a) (.c (.bool true)) (.t b)) []:=nr rfl
def F338:qJ:=szS0
def qKY:List qB:=[oU 0 5 2,oX 1 6 2 2,oM 2 7 1,oD2 3 8 338 6 7,oM 4 1 8]
@[go_sem] theorem qwO:OE qKY.eq_1:=OEM qKY.eq_1
def qKZ:List qB:=[oU 0 11 2,oX 1 12 2 3,oM 2 13 1,oD2 3 14 337 12 13,oM 4 1 14]
@[go_sem] theorem qwP:OE qKZ.eq_1:=OEM qKZ.eq_1
def qKX:qH:=.seq (.reg true qKZ) (.seq (.seq (.reg true [oM 0 15 1,oE 1 16 .lss 15 0]) (.cond (.t 16) (.seq (.reg true [oP 0 4 (.mov (.c (.int .i64 (-1))))]) (.ret)) (.skip))) (.seq (.reg true [oM 0 17 1,oM 1 4 17]) (.ret)))
@[go_sem] theorem qwN:CE qKX.eq_1:=CEM qKX.eq_1
def F80:qJ:=⟨2,18,[.t 4],.seq (.reg true [oP 0 2 (.lbox 4 (.t 0)),oC 1 4 0]) (.seq (.reg true qKY) (.seq (.seq (.reg true [oM 0 9 1,oE 1 10 .lss 9 0]) (.cond (.t 10) (.seq (.reg true [oP 0 4 (.mov (.c (.int .i64 (-1))))]) (.ret)) (.skip))) qKX))⟩
def F337:qJ:=szS 4 (some 4) 80
def qKV:List qB:=[oU 0 5 2,oX 1 6 2 0,oM 2 7 1,oD2 3 8 337 6 7,oM 4 1 8]
@[go_sem] theorem qwL:OE qKV.eq_1:=OEM qKV.eq_1
def qKU:qH:=.seq (.reg true qKV) (.seq (.seq (.reg true [oM 0 9 1,oE 1 10 .lss 9 0]) (.cond (.t 10) (.seq (.reg true [oP 0 4 (.mov (.c (.int .i64 (-1))))]) (.ret)) (.skip))) (.seq (.reg true [oM 0 11 1,oM 1 4 11]) (.ret)))
@[go_sem] theorem qwK:CE qKU.eq_1:=CEM qKU.eq_1
def F79:qJ:=⟨2,12,[.t 4],.seq (.reg true [oP 0 2 (.lbox 1 (.t 0)),oC 1 4 0]) qKU⟩
def F147:qJ:=WB
def qLR:List qB:=[oU 0 4 1,oX 1 5 1 0,oU 2 6 3,oS 3 3 0 1 5]
@[go_sem] theorem qxH:OE qLR.eq_1:=OEM qLR.eq_1
def qLS:List qB:=[oU 0 7 1,oX 1 8 1 1,oU 2 9 3,oS 3 3 1 1 8]
@[go_sem] theorem qxI:OE qLS.eq_1:=OEM qLS.eq_1
def qLT:List qB:=[oU 0 10 1,oX 1 11 1 2,oD1 2 12 147 11,oU 3 13 3,oS 4 3 2 1 12]
@[go_sem] theorem qxJ:OE qLT.eq_1:=OEM qLT.eq_1
def qLU:List qB:=[oU 0 14 1,oX 1 15 1 3,oD1 2 16 342 15,oU 3 17 3,oS 4 3 3 1 16]
@[go_sem] theorem qxK:OE qLU.eq_1:=OEM qLU.eq_1
def qLQ:qH:=.seq (.reg true [oZ 0 3]) (.seq (.reg true qLR) (.seq (.reg true qLS) (.seq (.reg true qLT) (.seq (.reg true qLU) (.seq (.reg true [oY 0 18 3 0 4,oS 1 2 0 4 18]) (.ret))))))
@[go_sem] theorem qxG:CE qLQ.eq_1:=CEM qLQ.eq_1
def F83:qJ:=⟨1,19,[.l 2 (some 4)],.seq (.reg true [oP 0 1 (.lbox 4 (.t 0)),oZ 1 2]) qLQ⟩
def F342:qJ:=toS 4 (some 4) (.agg [.int .i64 0,.int .i64 0,.nils,.nils]) 83
def qK0:List qB:=[oU 0 4 1,oX 1 5 1 0,oD1 2 6 342 5,oU 3 7 3,oS 4 3 0 1 6]
@[go_sem] theorem qwQ:OE qK0.eq_1:=OEM qK0.eq_1
def F82:qJ:=⟨1,9,[.l 2 (some 1)],.seq (.reg true [oP 0 1 (.lbox 1 (.t 0)),oP 1 2 (.lalloc (.agg [.nils]))]) (.seq (.reg true [oP 0 3 (.lalloc (.agg [.nils]))]) (.seq (.reg true qK0) (.seq (.reg true [oY 0 8 3 0 1,oS 1 2 0 1 8]) (.ret))))⟩
def F86:qJ:=eqS0
def F346:qJ:=eqS 4 (some 4) 85
def qMG:List qB:=[oU 0 5 2,oX 1 6 2 0,oU 2 7 3,oX 3 8 3 0,oB 4 9 .neq 6 8]
@[go_sem] theorem qx6:OE qMG.eq_1:=OEM qMG.eq_1
def qMH:List qB:=[oU 0 10 2,oX 1 11 2 1,oU 2 12 3,oX 3 13 3 1,oB 4 14 .neq 11 13]
@[go_sem] theorem qx7:OE qMH.eq_1:=OEM qMH.eq_1
def qMI:List qB:=[oU 0 15 2,oX 1 16 2 2,oU 2 17 3,oX 3 18 3 2,oD2 4 19 86 16 18,oJ 5 20 19]
@[go_sem] theorem qx8:OE qMI.eq_1:=OEM qMI.eq_1
def qMJ:List qB:=[oU 0 21 2,oX 1 22 2 3,oU 2 23 3,oX 3 24 3 3,oD2 4 25 346 22 24,oJ 5 26 25]
@[go_sem] theorem qx9:OE qMJ.eq_1:=OEM qMJ.eq_1
def qMF:qH:=.seq (.seq (.reg true qMH) (.cond (.t 14) (.seq (.reg true [oQ 0 4 false]) (.ret)) (.skip))) (.seq (.seq (.reg true qMI) (.cond (.t 20) (.seq (.reg true [oQ 0 4 false]) (.ret)) (.skip))) (.seq (.seq (.reg true qMJ) (.cond (.t 26) (.seq (.reg true [oQ 0 4 false]) (.ret)) (.skip))) (.seq (.reg true [oQ 0 4 true]) (.ret))))
@[go_sem] theorem qx5:CE qMF.eq_1:=CEM qMF.eq_1
def F85:qJ:=⟨2,27,[.t 4],.seq (.reg true [oP 0 2 (.lbox 4 (.t 0)),oP 1 3 (.lbox 4 (.t 1)),oQ 2 4 false]) (.seq (.seq (.reg true qMG) (.cond (.t 9) (.seq (.reg true [oQ 0 4 false]) (.ret)) (.skip))) qMF)⟩
def qMP:List qB:=[oU 0 5 2,oX 1 6 2 0,oU 2 7 3,oX 3 8 3 0,oD2 4 9 346 6 8,oJ 5 10 9]
@[go_sem] theorem qyF:OE qMP.eq_1:=OEM qMP.eq_1
def F87:qJ:=⟨2,11,[.t 4],.seq (.reg true [oP 0 2 (.lbox 1 (.t 0)),oP 1 3 (.lbox 1 (.t 1)),oQ 2 4 false]) (.seq (.seq (.reg true qMP) (.cond (.t 10) (.seq (.reg true [oQ 0 4 false]) (.ret)) (.skip))) (.seq (.reg true [oQ 0 4 true]) (.ret)))⟩
def qFU:List qB:=[oM 0 7 0,oM 1 8 1,oB 2 9 .geq 7 8,oM 3 10 9,oH 4 11 10 true 0,oH 5 12 10 true 2,oG 6 13 10 true (.bin .leq (.t 11) (.t 12)),oPf 7 14 10 13,oM 8 6 14]
@[go_sem] theorem qrK:OE qFU.eq_1:=OEM qFU.eq_1
def XQ:qJ:=⟨3,15,[.t 6],.seq (.reg true [oQ 0 6 false]) (.seq (.reg true qFU) (.ret))⟩
def V8:List qB:=[oC 0 2 0,oC 1 3 0,oC 2 4 0,oC 3 5 0]
@[go_sem] theorem qhB:OE V8.eq_1:=OEM V8.eq_1
def V4:qH:=.seq (.reg true [oE 0 8 .eql 6 1,oM 1 7 8]) (.cond (.t 7) (.skip) (.seq (.reg true [oE 0 9 .eql 6 2,oM 1 7 9]) (.cond (.t 7) (.skip) (.reg true [oE 0 10 .eql 6 11,oM 1 7 10]))))
@[go_sem] theorem qg8:CE V4.eq_1:=CEM V4.eq_1
def UA:List qB:=[oC 0 2 0,oC 1 3 0,oC 2 4 0,oC 3 5 0]
@[go_sem] theorem qhD:OE UA.eq_1:=OEM UA.eq_1
def V6:qH:=.seq (.reg true [oE 0 12 .eql 6 3,oM 1 11 12]) (.cond (.t 11) (.skip) (.seq (.reg true [oE 0 13 .eql 6 5,oM 1 11 13]) (.cond (.t 11) (.skip) (.reg true [oE 0 14 .eql 6 7,oM 1 11 14]))))
@[go_sem] theorem qg9:CE V6.eq_1:=CEM V6.eq_1
def UB:List qB:=[oC 0 2 2,oC 1 3 2,oC 2 4 0,oC 3 5 0]
@[go_sem] theorem qhE:OE UB.eq_1:=OEM UB.eq_1
def UC:List qB:=[oC 0 2 1,oC 1 3 1,oC 2 4 0,oC 3 5 0]
@[go_sem] theorem qhF:OE UC.eq_1:=OEM UC.eq_1
def UD:List qB:=[oC 0 2 0,oC 1 3 3,oC 2 4 0,oC 3 5 0]
@[go_sem] theorem qhG:OE UD.eq_1:=OEM UD.eq_1
def UE:List qB:=[oC 0 2 1,oC 1 3 1,oC 2 4 1,oC 3 5 4]
@[go_sem] theorem qhH:OE UE.eq_1:=OEM UE.eq_1
def UF:List qB:=[oC 0 2 1,oC 1 3 1,oC 2 4 2,oC 3 5 2]
@[go_sem] theorem qhI:OE UF.eq_1:=OEM UF.eq_1
def V7:qH:=.cond (.t 18) (.seq (.reg true UD) (.ret)) (.seq (.reg true [oE 0 21 .eql 6 9,oM 1 20 21]) (.cond (.t 20) (.seq (.reg true UE) (.ret)) (.seq (.reg true [oE 0 23 .eql 6 10,oM 1 22 23]) (.cond (.t 22) (.seq (.reg true UF) (.ret)) (.skip)))))
@[go_sem] theorem qhA:CE V7.eq_1:=CEM V7.eq_1
def V5:qH:=.seq (.seq (.reg true [oE 0 16 .eql 6 4,oM 1 15 16]) (.cond (.t 15) (.skip) (.reg true [oE 0 17 .eql 6 6,oM 1 15 17]))) (.cond (.t 15) (.seq (.reg true UC) (.ret)) (.seq (.reg true [oE 0 19 .eql 6 8,oM 1 18 19]) V7))
@[go_sem] theorem qg7:CE V5.eq_1:=CEM V5.eq_1
def V9:List qB:=[oC 0 2 0,oP 1 3 (.mov (.c (.int .i64 (-1)))),oC 2 4 0,oC 3 5 0]
@[go_sem] theorem qhC:OE V9.eq_1:=OEM V9.eq_1
def WK:qJ:=⟨1,24,[.t 2,.t 3,.t 4,.t 5],.seq (.reg true V8) (.seq (.seq (.reg true [oM 0 6 0]) (.blk 0 (.seq V4 (.cond (.t 7) (.seq (.reg true UA) (.ret)) (.seq V6 (.cond (.t 11) (.seq (.reg true UB) (.ret)) V5)))))) (.seq (.reg true V9) (.ret)))⟩
def UI:List qB:=[oM 0 3 0,oK 1 4 3,oF 2 5 0 4,oL 3 6 5]
@[go_sem] theorem qhL:OE UI.eq_1:=OEM UI.eq_1
def UJ:List qB:=[oM 0 9 0,oK 1 10 9,oF 2 11 1 10,oL 3 12 11,oP 4 13 (.call 340 [.t 12,.c (.int .i64 0),.c (.int .i64 255)]),oM 5 2 13]
@[go_sem] theorem qhM:OE UJ.eq_1:=OEM UJ.eq_1
def UK:List qB:=[oM 0 16 0,oK 1 17 16,oF 2 18 1 17,oL 3 19 18,oP 4 20 (.call 340 [.t 19,.c (.int .i64 (-2147483648)),.c (.int .i64 2147483647)]),oM 5 2 20]
@[go_sem] theorem qhN:OE UK.eq_1:=OEM UK.eq_1
def UL:List qB:=[oM 0 23 0,oK 1 24 23,oF 2 25 1 24,oL 3 26 25,oP 4 27 (.call 340 [.t 26,.c (.int .i64 1),.c (.int .i64 6)]),oM 5 2 27]
@[go_sem] theorem qhO:OE UL.eq_1:=OEM UL.eq_1
def UM:List qB:=[oM 0 30 0,oK 1 31 30,oF 2 32 1 31,oL 3 33 32,oP 4 34 (.call 340 [.t 33,.c (.int .i64 0),.c (.int .i64 3)]),oM 5 2 34]
@[go_sem] theorem qhP:OE UM.eq_1:=OEM UM.eq_1
def UN:List qB:=[oM 0 37 0,oK 1 38 37,oF 2 39 1 38,oL 3 40 39,oP 4 41 (.call 340 [.t 40,.c (.int .i64 0),.c (.int .i64 23)]),oM 5 2 41]
@[go_sem] theorem qhQ:OE UN.eq_1:=OEM UN.eq_1
def UG:qH:=.cond (.t 21) (.seq (.reg true UL) (.ret)) (.seq (.reg true [oE 0 29 .eql 6 8,oM 1 28 29]) (.cond (.t 28) (.seq (.reg true UM) (.ret)) (.seq (.reg true [oE 0 36 .eql 6 11,oM 1 35 36]) (.cond (.t 35) (.seq (.reg true UN) (.ret)) (.skip)))))
@[go_sem] theorem qhJ:CE UG.eq_1:=CEM UG.eq_1
def UH:qH:=.seq (.reg true [oE 0 8 .eql 6 1,oM 1 7 8]) (.cond (.t 7) (.seq (.reg true UJ) (.ret)) (.seq (.reg true [oE 0 15 .eql 6 2,oM 1 14 15]) (.cond (.t 14) (.seq (.reg true UK) (.ret)) (.seq (.reg true [oE 0 22 .eql 6 3,oM 1 21 22]) UG))))
@[go_sem] theorem qhK:CE UH.eq_1:=CEM UH.eq_1
def UO:List qB:=[oM 0 42 0,oK 1 43 42,oF 2 44 1 43,oL 3 45 44,oE 4 46 .eql 45 0,oM 5 2 46]
@[go_sem] theorem qhR:OE UO.eq_1:=OEM UO.eq_1
def WL:qJ:=⟨1,47,[.t 2],.seq (.reg true [oQ 0 2 false]) (.seq (.seq (.reg true UI) (.blk 0 UH)) (.seq (.reg true UO) (.ret)))⟩
def qH5:List qB:=[oM 0 16 0,oK 1 17 16,oF 2 18 0 17,oL 3 19 18,oD1 4 20 1023 19,oM 5 15 20,oV 6 21 15 0,oV 7 22 15 1,oV 8 23 15 2,oV 9 24 15 3,oM 10 7 21,oM 11 8 22,oM 12 9 23,oM 13 10 24]
@[go_sem] theorem qtV:OE qH5.eq_1:=OEM qH5.eq_1
def qH6:List qB:=[oM 0 25 1,oE 1 26 .lss 25 1,oM 2 27 26,oH 3 28 27 false 2,oG 4 29 27 false (.bin .lss (.t 28) (.c (.int .i64 1))),oPt 5 30 27 29,oM 6 31 30,oH 7 32 31 false 0,oG 8 33 31 false (.nilchk (.t 32)),oG 9 34 31 false (.faddr 3 (.t 33)),oG 10 35 31 false (.load none (.t 34)),oG 11 36 31 false (.len (.t 35)),oH 12 37 31 false 7,oH 13 38 31 false 8,oG 14 39 31 false (.call 340 [.t 36,.t 37,.t 38]),oG 15 40 31 false (.not (.t 39)),oPt 16 41 31 40,oM 17 42 41,oH 18 43 42 false 0,oG 19 44 42 false (.nilchk (.t 43)),oG 20 45 42 false (.faddr 2 (.t 44)),oG 21 46 42 false (.load none (.t 45)),oG 22 47 42 false (.len (.t 46)),oH 23 48 42 false 9,oH 24 49 42 false 10,oG 25 50 42 false (.call 340 [.t 47,.t 48,.t 49]),oG 26 51 42 false (.not (.t 50)),oPt 27 52 42 51,oM 28 53 52,oH 29 54 53 false 0,oG 30 55 53 false (.call 1024 [.t 54]),oG 31 56 53 false (.not (.t 55)),oPt 32 57 53 56]
@[go_sem] theorem qtW:OE qH6.eq_1:=OEM qH6.eq_1
def qH7:List qB:=[oM 0 58 11,oM 1 59 0,oK 2 60 59,oF 3 61 2 60,oL 4 62 61,oW 5 63 62,oB 6 64 .lss 58 63]
@[go_sem] theorem qtX:OE qH7.eq_1:=OEM qH7.eq_1
def qH8:List qB:=[oM 0 67 0,oK 1 68 67,oF 2 69 2 68,oL 3 70 69,oM 4 71 11,oA 5 72 1 70 71,oL 6 73 72,oP 7 74 (.call 340 [.t 73,.c (.int .i64 0),.c (.int .i64 23)]),oJ 8 75 74]
@[go_sem] theorem qtY:OE qH8.eq_1:=OEM qH8.eq_1
def qH2:qH:=.loop (.seq (.seq (.reg true qH7) (.cond (.t 64) (.skip) (.exit 0))) (.seq (.blk 1 (.seq (.reg true qH8) (.cond (.t 75) (.seq (.reg true [oP 0 6 (.mov (.c (.int .i64 (-1))))]) (.ret)) (.skip)))) (.reg true [oM 0 65 11,oE 1 66 .add 65 1,oM 2 11 66])))
@[go_sem] theorem qtS:CE qH2.eq_1:=CEM qH2.eq_1
def qH9:List qB:=[oM 0 76 13,oM 1 77 0,oK 2 78 77,oF 3 79 3 78,oL 4 80 79,oW 5 81 80,oB 6 82 .lss 76 81]
@[go_sem] theorem qtZ:OE qH9.eq_1:=OEM qH9.eq_1
def qIA:List qB:=[oM 0 85 0,oK 1 86 85,oF 2 87 3 86,oL 3 88 87,oM 4 89 13,oA 5 90 4 88 89,oM 6 91 1,oE 7 92 .sub 91 1,oM 8 93 2,oM 9 94 12,oB 10 95 .sub 93 94,oP 11 96 (.call 643 [.t 90,.t 92,.t 95]),oM 12 14 96]
@[go_sem] theorem qt0:OE qIA.eq_1:=OEM qIA.eq_1
def qIB:List qB:=[oM 0 99 12,oM 1 100 14,oB 2 101 .add 99 100,oM 3 12 101]
@[go_sem] theorem qt1:OE qIB.eq_1:=OEM qIB.eq_1
def qH3:qH:=.seq (.blk 3 (.seq (.reg true qIA) (.seq (.seq (.reg true [oM 0 97 14,oE 1 98 .lss 97 0]) (.cond (.t 98) (.seq (.reg true [oP 0 6 (.mov (.c (.int .i64 (-1))))]) (.ret)) (.skip))) (.reg true qIB)))) (.reg true [oM 0 83 13,oE 1 84 .add 83 1,oM 2 13 84])
@[go_sem] theorem qtT:CE qH3.eq_1:=CEM qH3.eq_1
def qH4:qH:=.seq (.reg true [oC 0 12 1]) (.seq (.seq (.reg true [oC 0 13 0]) (.blk 2 (.loop (.seq (.seq (.reg true qH9) (.cond (.t 82) (.skip) (.exit 2))) qH3)))) (.seq (.reg true [oM 0 102 12,oM 1 6 102]) (.ret)))
@[go_sem] theorem qtU:CE qH4.eq_1:=CEM qH4.eq_1
def Xp:qJ:=⟨3,103,[.t 6],.seq (.reg true [oC 0 6 0]) (.seq (.reg true qH5) (.seq (.seq (.reg true qH6) (.cond (.t 57) (.seq (.reg true [oP 0 6 (.mov (.c (.int .i64 (-1))))]) (.ret)) (.skip))) (.seq (.seq (.reg true [oC 0 11 0]) (.blk 0 qH2)) qH4)))⟩
def qH1:List qB:=[oM 0 3 0,oP 1 4 (.call 643 [.t 3,.c (.int .i64 80),.c (.int .i64 400)]),oE 2 5 .gtr 4 0,oM 3 2 5]
@[go_sem] theorem qtR:OE qH1.eq_1:=OEM qH1.eq_1
def Xo:qJ:=⟨1,6,[.t 2],.seq (.reg true [oQ 0 2 false]) (.seq (.reg true qH1) (.ret))⟩
def Kv:List qB:=[oM 0 5 0,oK 1 6 5,oF 2 7 0 6,oL 3 8 7,oE 4 9 .eql 8 4,oM 5 10 9,oH 6 11 10 false 0,oG 7 12 10 false (.nilchk (.t 11)),oG 8 13 10 false (.faddr 0 (.t 12)),oG 9 14 10 false (.load none (.t 13)),oG 10 15 10 false (.bin .eql (.t 14) (.c (.int .i64 7))),oH 11 16 10 false 15,oH 12 17 16 true 1,oG 13 18 16 true (.bin .eql (.t 17) (.c (.int .i64 1))),oG 14 19 10 false (.pick (.t 16) (.t 18) (.c (.bool false))),oPt 15 20 10 19]
@[go_sem] theorem qkF:OE Kv.eq_1:=OEM Kv.eq_1
def Wi:qJ:=⟨2,21,[.t 4],.seq (.reg true [oC 0 4 0]) (.seq (.seq (.reg true Kv) (.cond (.t 20) (.seq (.reg true [oC 0 4 1]) (.ret)) (.skip))) (.seq (.reg true [oC 0 4 0]) (.ret)))⟩
def qML:List qB:=[oM 0 6 0,oK 1 7 6,oF 2 8 0 7,oL 3 9 8,oE 4 10 .eql 9 1]
@[go_sem] theorem qyB:OE qML.eq_1:=OEM qML.eq_1
def qMM:List qB:=[oM 0 11 0,oK 1 12 11,oF 2 13 1 12,oL 3 14 13,oM 4 15 1,oB 5 16 .geq 14 15,oM 6 4 16]
@[go_sem] theorem qyC:OE qMM.eq_1:=OEM qMM.eq_1
def qMN:List qB:=[oM 0 17 5,oM 1 18 0,oK 2 19 18,oF 3 20 3 19,oL 4 21 20,oW 5 22 21,oB 6 23 .lss 17 22]
@[go_sem] theorem qyD:OE qMN.eq_1:=OEM qMN.eq_1
def qMO:List qB:=[oM 0 26 0,oK 1 27 26,oF 2 28 3 27,oL 3 29 28,oM 4 30 5,oA 5 31 4 29 30,oM 6 32 1,oM 7 33 0,oM 8 34 5,⟨9,some 35,none,.call 1129 [.t 33,.t 34],[⟨3,some 29,none,.load none (.t 28),[]⟩]⟩,oB 10 36 .add 32 35,oD2 11 37 878 31 36]
@[go_sem] theorem qyE:OE qMO.eq_1:=OEM qMO.eq_1
def qMK:qH:=.loop (.seq (.seq (.reg true qMN) (.cond (.t 23) (.skip) (.exit 0))) (.seq (.blk 1 (.seq (.reg true qMO) (.cond (.t 37) (.seq (.reg true [oQ 0 4 true]) (.ret)) (.skip)))) (.reg true [oM 0 24 5,oE 1 25 .add 24 1,oM 2 5 25])))
@[go_sem] theorem qyA:CE qMK.eq_1:=CEM qMK.eq_1
def YH:qJ:=⟨2,38,[.t 4],.seq (.reg true [oQ 0 4 false]) (.seq (.seq (.reg true qML) (.cond (.t 10) (.seq (.reg true qMM) (.ret)) (.skip))) (.seq (.seq (.reg true [oC 0 5 0]) (.blk 0 qMK)) (.seq (.reg true [oQ 0 4 false]) (.ret))))⟩
def qHH:List qB:=[oM 0 3 0,oD1 1 4 642 3,oM 2 5 4,oH 3 6 5 true 0,oG 4 7 5 true (.call 878 [.t 6,.c (.int .i64 0)]),oG 5 8 5 true (.not (.t 7)),oPf 6 9 5 8,oM 7 2 9]
@[go_sem] theorem qs7:OE qHH.eq_1:=OEM qHH.eq_1
def Xh:qJ:=⟨1,10,[.t 2],.seq (.reg true [oQ 0 2 false]) (.seq (.reg true qHH) (.ret))⟩
def qIO:List qB:=[oM 0 7 0,oK 1 8 7,oF 2 9 0 8,oL 3 10 9,oE 4 11 .eql 10 11,oM 5 12 11,oH 6 13 12 true 0,oG 7 14 12 true (.nilchk (.t 13)),oG 8 15 12 true (.faddr 1 (.t 14)),oG 9 16 12 true (.load none (.t 15)),oH 10 17 12 true 1,oG 11 18 12 true (.bin .geq (.t 16) (.t 17)),oPf 12 19 12 18]
@[go_sem] theorem quE:OE qIO.eq_1:=OEM qIO.eq_1
def qIP:List qB:=[oM 0 20 5,oM 1 21 0,oK 2 22 21,oF 3 23 2 22,oL 4 24 23,oW 5 25 24,oB 6 26 .lss 20 25]
@[go_sem] theorem quF:OE qIP.eq_1:=OEM qIP.eq_1
def qIQ:List qB:=[oM 0 29 0,oK 1 30 29,oF 2 31 2 30,oL 3 32 31,oM 4 33 5,oA 5 34 1 32 33,oL 6 35 34,oM 7 36 1,oB 8 37 .geq 35 36]
@[go_sem] theorem quG:OE qIQ.eq_1:=OEM qIQ.eq_1
def qIL:qH:=.loop (.seq (.seq (.reg true qIP) (.cond (.t 26) (.skip) (.exit 0))) (.seq (.blk 1 (.seq (.reg true qIQ) (.cond (.t 37) (.seq (.reg true [oQ 0 4 false]) (.ret)) (.skip)))) (.reg true [oM 0 27 5,oE 1 28 .add 27 1,oM 2 5 28])))
@[go_sem] theorem quB:CE qIL.eq_1:=CEM qIL.eq_1
def qIR:List qB:=[oM 0 38 6,oM 1 39 0,oK 2 40 39,oF 3 41 3 40,oL 4 42 41,oW 5 43 42,oB 6 44 .lss 38 43]
@[go_sem] theorem quH:OE qIR.eq_1:=OEM qIR.eq_1
def qIS:List qB:=[oM 0 47 0,oK 1 48 47,oF 2 49 3 48,oL 3 50 49,oM 4 51 6,oA 5 52 4 50 51,oM 6 53 1,oD2 7 54 725 52 53,oJ 8 55 54]
@[go_sem] theorem quI:OE qIS.eq_1:=OEM qIS.eq_1
def qIM:qH:=.loop (.seq (.seq (.reg true qIR) (.cond (.t 44) (.skip) (.exit 2))) (.seq (.blk 3 (.seq (.reg true qIS) (.cond (.t 55) (.seq (.reg true [oQ 0 4 false]) (.ret)) (.skip)))) (.reg true [oM 0 45 6,oE 1 46 .add 45 1,oM 2 6 46])))
@[go_sem] theorem quC:CE qIM.eq_1:=CEM qIM.eq_1
def qIN:qH:=.seq (.seq (.reg true qIO) (.cond (.t 19) (.seq (.reg true [oQ 0 4 false]) (.ret)) (.skip))) (.seq (.seq (.reg true [oC 0 5 0]) (.blk 0 qIL)) (.seq (.seq (.reg true [oC 0 6 0]) (.blk 2 qIM)) (.seq (.reg true [oQ 0 4 true]) (.ret))))
@[go_sem] theorem quD:CE qIN.eq_1:=CEM qIN.eq_1
def Xv:qJ:=⟨2,56,[.t 4],.seq (.reg true [oQ 0 4 false]) qIN⟩
def qHL:List qB:=[oM 0 4 0,oK 1 5 4,oF 2 6 0 5,oL 3 7 6,oW 4 8 7,oP 5 9 (.call 340 [.t 8,.c (.int .i64 1),.c (.int .i64 24)]),oJ 6 10 9]
@[go_sem] theorem qtB:OE qHL.eq_1:=OEM qHL.eq_1
def qHM:List qB:=[oM 0 11 3,oM 1 12 0,oK 2 13 12,oF 3 14 0 13,oL 4 15 14,oW 5 16 15,oB 6 17 .lss 11 16]
@[go_sem] theorem qtC:OE qHM.eq_1:=OEM qHM.eq_1
def qHN:List qB:=[oM 0 20 0,oK 1 21 20,oF 2 22 0 21,oL 3 23 22,oM 4 24 3,oA 5 25 4 23 24,oD1 6 26 519 25,oJ 7 27 26,oM 8 28 27,oH 9 29 28 false 0,oG 10 30 28 false (.nilchk (.t 29)),oG 11 31 28 false (.faddr 0 (.t 30)),oG 12 32 28 false (.load none (.t 31)),oH 13 33 28 false 3,oG 14 34 28 false (.iaddr 4 (.t 32) (.t 33)),oH 15 35 28 false 0,oG 16 36 28 false (.nilchk (.t 35)),oG 17 37 28 false (.faddr 0 (.t 36)),oG 18 38 28 false (.load none (.t 37)),oG 19 39 28 false (.len (.t 38)),oG 20 40 28 false (.call 725 [.t 34,.t 39]),oG 21 41 28 false (.not (.t 40)),oPt 22 42 28 41]
@[go_sem] theorem qtD:OE qHN.eq_1:=OEM qHN.eq_1
def qHK:qH:=.loop (.seq (.seq (.reg true qHM) (.cond (.t 17) (.skip) (.exit 0))) (.seq (.blk 1 (.seq (.reg true qHN) (.cond (.t 42) (.seq (.reg true [oQ 0 2 false]) (.ret)) (.skip)))) (.reg true [oM 0 18 3,oE 1 19 .add 18 1,oM 2 3 19])))
@[go_sem] theorem qtA:CE qHK.eq_1:=CEM qHK.eq_1
def Xl:qJ:=⟨1,43,[.t 2],.seq (.reg true [oQ 0 2 false]) (.seq (.seq (.reg true qHL) (.cond (.t 10) (.seq (.reg true [oQ 0 2 false]) (.ret)) (.skip))) (.seq (.seq (.reg true [oC 0 3 0]) (.blk 0 qHK)) (.seq (.reg true [oQ 0 2 true]) (.ret))))⟩
def qNO:List qB:=[oM 0 10 0,oK 1 11 10,oF 2 12 0 11,oL 3 13 12,oE 4 14 .eql 13 1]
@[go_sem] theorem qzE:OE qNO.eq_1:=OEM qNO.eq_1
def qNP:List qB:=[oM 0 15 0,oK 1 16 15,oF 2 17 1 16,oL 3 18 17,oM 4 19 1,oB 5 20 .eql 18 19]
@[go_sem] theorem qzF:OE qNP.eq_1:=OEM qNP.eq_1
def qNQ:List qB:=[oM 0 21 3,oM 1 22 2,oP 2 23 (.bslice 1 (.int .i64 0) 1 [(0,.t 22)]),oP 3 24 (.app 1 (.t 21) (.t 23)),oM 4 3 24]
@[go_sem] theorem qzG:OE qNQ.eq_1:=OEM qNQ.eq_1
def qNR:List qB:=[oM 0 26 0,oK 1 27 26,oF 2 28 0 27,oL 3 29 28,oE 4 30 .eql 29 6]
@[go_sem] theorem qzH:OE qNR.eq_1:=OEM qNR.eq_1
def qNS:List qB:=[oM 0 33 9,oM 1 34 0,oK 2 35 34,oF 3 36 3 35,oL 4 37 36,oW 5 38 37,oB 6 39 .lss 33 38]
@[go_sem] theorem qzI:OE qNS.eq_1:=OEM qNS.eq_1
def qNT:List qB:=[oM 0 42 0,oK 1 43 42,oF 2 44 3 43,oL 3 45 44,oM 4 46 9,oA 5 47 4 45 46,oM 6 48 1,oM 7 49 0,oM 8 50 9,oM 11 53 2,oM 12 54 3,⟨9,some 51,none,.call 1129 [.t 49,.t 50],[⟨3,some 45,none,.load none (.t 44),[]⟩]⟩,oB 10 52 .add 48 51,oP 13 55 (.call 990 [.t 47,.t 52,.t 53,.t 54]),oM 14 3 55]
@[go_sem] theorem qzJ:OE qNT.eq_1:=OEM qNT.eq_1
def qNM:qH:=.seq (.reg true [oC 0 9 0]) (.blk 0 (.loop (.seq (.seq (.reg true qNS) (.cond (.t 39) (.skip) (.exit 0))) (.seq (.blk 1 (.reg true qNT)) (.reg true [oM 0 40 9,oE 1 41 .add 40 1,oM 2 9 41])))))
@[go_sem] theorem qzC:CE qNM.eq_1:=CEM qNM.eq_1
def qNN:qH:=.seq (.seq (.reg true qNO) (.cond (.t 14) (.seq (.seq (.reg true qNP) (.cond (.t 20) (.reg true qNQ) (.skip))) (.seq (.reg true [oM 0 25 3,oM 1 8 25]) (.ret))) (.skip))) (.seq (.seq (.reg true qNR) (.cond (.t 30) (.reg true [oM 0 31 2,oE 1 32 .add 31 1,oM 2 2 32]) (.skip))) (.seq qNM (.seq (.reg true [oM 0 56 3,oM 1 8 56]) (.ret))))
@[go_sem] theorem qzD:CE qNN.eq_1:=CEM qNN.eq_1
def YL:qJ:=⟨4,57,[.t 8],.seq (.reg true [oP 0 8 (.mov (.c (.nils)))]) qNN⟩
def qNV:List qB:=[oM 0 6 5,oM 1 7 0,oW 2 8 7,oB 3 9 .lss 6 8]
@[go_sem] theorem qzL:OE qNV.eq_1:=OEM qNV.eq_1
def qNW:List qB:=[oM 0 12 0,oM 1 13 5,oA 2 14 1 12 13,oL 3 15 14,oM 4 16 1,oB 5 17 .neq 15 16]
@[go_sem] theorem qzM:OE qNW.eq_1:=OEM qNW.eq_1
def qNU:qH:=.loop (.seq (.seq (.reg true qNV) (.cond (.t 9) (.skip) (.exit 0))) (.seq (.blk 1 (.seq (.reg true qNW) (.cond (.t 17) (.seq (.reg true [oQ 0 4 false]) (.ret)) (.skip)))) (.reg true [oM 0 10 5,oE 1 11 .add 10 1,oM 2 5 11])))
@[go_sem] theorem qzK:CE qNU.eq_1:=CEM qNU.eq_1
def YM:qJ:=⟨2,18,[.t 4],.seq (.reg true [oQ 0 4 false]) (.seq (.seq (.reg true [oC 0 5 0]) (.blk 0 qNU)) (.seq (.reg true [oQ 0 4 true]) (.ret)))⟩
def qHS:List qB:=[oM 0 11 0,oK 1 12 11,oF 2 13 0 12,oL 3 14 13]
@[go_sem] theorem qtI:OE qHS.eq_1:=OEM qHS.eq_1
def qHT:List qB:=[oM 0 17 0,oK 1 18 17,oF 2 19 3 18,oL 3 20 19,oP 4 21 (.iaddr 4 (.t 20) (.c (.int .i64 0))),oM 5 22 1,oP 6 23 (.call 990 [.t 21,.c (.int .i64 0),.t 22,.c (.nils)]),oM 7 5 23]
@[go_sem] theorem qtJ:OE qHT.eq_1:=OEM qHT.eq_1
def qHU:List qB:=[oM 0 24 5,oW 1 25 24,oE 2 26 .gtr 25 1,oM 3 27 26,oH 4 28 27 false 5,oH 5 29 27 false 1,oG 6 30 27 false (.call 991 [.t 28,.t 29]),oG 7 31 27 false (.not (.t 30)),oPt 8 32 27 31]
@[go_sem] theorem qtK:OE qHU.eq_1:=OEM qHU.eq_1
def qHV:List qB:=[oM 0 35 0,oK 1 36 35,oF 2 37 3 36,oL 3 38 37,oP 4 39 (.iaddr 4 (.t 38) (.c (.int .i64 1))),oM 5 40 1,oP 6 41 (.call 990 [.t 39,.c (.int .i64 0),.t 40,.c (.nils)]),oM 7 6 41]
@[go_sem] theorem qtL:OE qHV.eq_1:=OEM qHV.eq_1
def qHW:List qB:=[oM 0 42 6,oM 1 43 1,oD2 2 44 991 42 43,oJ 3 45 44,oM 4 46 45,oH 5 47 46 true 6,oH 6 48 46 true 1,oG 7 49 46 true (.bin .add (.t 48) (.c (.int .i64 1))),oG 8 50 46 true (.call 991 [.t 47,.t 49]),oG 9 51 46 true (.not (.t 50)),oPf 10 52 46 51]
@[go_sem] theorem qtM:OE qHW.eq_1:=OEM qHW.eq_1
def qHQ:qH:=.cond (.t 15) (.seq (.reg true qHT) (.seq (.reg true qHU) (.cond (.t 32) (.seq (.reg true [oQ 0 4 false]) (.ret)) (.skip)))) (.seq (.reg true [oE 0 34 .eql 14 7,oM 1 33 34]) (.cond (.t 33) (.seq (.reg true qHV) (.seq (.reg true qHW) (.cond (.t 52) (.seq (.reg true [oQ 0 4 false]) (.ret)) (.skip)))) (.skip)))
@[go_sem] theorem qtG:CE qHQ.eq_1:=CEM qHQ.eq_1
def qHX:List qB:=[oM 0 53 7,oM 1 54 0,oK 2 55 54,oF 3 56 3 55,oL 4 57 56,oW 5 58 57,oB 6 59 .lss 53 58]
@[go_sem] theorem qtN:OE qHX.eq_1:=OEM qHX.eq_1
def qHY:List qB:=[oM 0 63 0,oK 1 64 63,oF 2 65 0 64,oL 3 66 65,oE 4 67 .eql 66 6]
@[go_sem] theorem qtO:OE qHY.eq_1:=OEM qHY.eq_1
def qHZ:List qB:=[oM 0 70 0,oK 1 71 70,oF 2 72 3 71,oL 3 73 72,oM 4 74 7,oA 5 75 4 73 74,oM 6 76 8,oD2 7 77 610 75 76,oJ 8 78 77]
@[go_sem] theorem qtP:OE qHZ.eq_1:=OEM qHZ.eq_1
def qHR:qH:=.seq (.reg true [oM 0 62 1,oM 1 8 62]) (.seq (.seq (.reg true qHY) (.cond (.t 67) (.reg true [oM 0 68 8,oE 1 69 .add 68 1,oM 2 8 69]) (.skip))) (.seq (.reg true qHZ) (.cond (.t 78) (.seq (.reg true [oQ 0 4 false]) (.ret)) (.skip))))
@[go_sem] theorem qtH:CE qHR.eq_1:=CEM qHR.eq_1
def qHO:qH:=.seq (.reg true [oC 0 7 0]) (.blk 1 (.loop (.seq (.seq (.reg true qHX) (.cond (.t 59) (.skip) (.exit 1))) (.seq (.blk 2 qHR) (.reg true [oM 0 60 7,oE 1 61 .add 60 1,oM 2 7 61])))))
@[go_sem] theorem qtE:CE qHO.eq_1:=CEM qHO.eq_1
def qHP:qH:=.seq (.seq (.reg true [oM 0 9 1,oE 1 10 .gtr 9 8]) (.cond (.t 10) (.seq (.reg true [oQ 0 4 false]) (.ret)) (.skip))) (.seq (.seq (.reg true qHS) (.blk 0 (.seq (.reg true [oE 0 16 .eql 14 4,oM 1 15 16]) qHQ))) (.seq qHO (.seq (.reg true [oQ 0 4 true]) (.ret))))
@[go_sem] theorem qtF:CE qHP.eq_1:=CEM qHP.eq_1
def Xm:qJ:=⟨2,79,[.t 4],.seq (.reg true [oQ 0 4 false]) qHP⟩
def qHD:List qB:=[oM 0 7 3,oM 1 8 0,oK 2 9 8,oF 3 10 0 9,oL 4 11 10,oW 5 12 11,oB 6 13 .lss 7 12]
@[go_sem] theorem qs3:OE qHD.eq_1:=OEM qHD.eq_1
def qHE:List qB:=[oM 0 16 0,oK 1 17 16,oF 2 18 0 17,oL 3 19 18,oM 4 20 3,oA 5 21 4 19 20,oP 6 22 (.call 610 [.t 21,.c (.int .i64 0)]),oJ 7 23 22]
@[go_sem] theorem qs4:OE qHE.eq_1:=OEM qHE.eq_1
def qHB:qH:=.loop (.seq (.seq (.reg true qHD) (.cond (.t 13) (.skip) (.exit 0))) (.seq (.blk 1 (.seq (.reg true qHE) (.cond (.t 23) (.seq (.reg true [oC 0 2 9]) (.ret)) (.skip)))) (.reg true [oM 0 14 3,oE 1 15 .add 14 1,oM 2 3 15])))
@[go_sem] theorem qs1:CE qHB.eq_1:=CEM qHB.eq_1
def qHC:qH:=.seq (.seq (.reg true [oM 0 4 0,oD1 1 5 579 4,oJ 2 6 5]) (.cond (.t 6) (.seq (.reg true [oC 0 2 1]) (.ret)) (.skip))) (.seq (.seq (.reg true [oC 0 3 0]) (.blk 0 qHB)) (.seq (.reg true [oC 0 2 0]) (.ret)))
@[go_sem] theorem qs2:CE qHC.eq_1:=CEM qHC.eq_1
def Xf:qJ:=⟨1,24,[.t 2],.seq (.reg true [oC 0 2 0]) qHC⟩
def qGN:List qB:=[oM 0 10 0,oD1 1 11 579 10,oJ 2 12 11,oM 3 13 12,oH 4 14 13 false 1,oG 5 15 13 false (.call 519 [.t 14]),oG 6 16 13 false (.not (.t 15)),oPt 7 17 13 16,oM 8 18 17,oH 9 19 18 false 1,oH 10 20 18 false 0,oG 11 21 18 false (.nilchk (.t 20)),oG 12 22 18 false (.faddr 0 (.t 21)),oG 13 23 18 false (.load none (.t 22)),oG 14 24 18 false (.len (.t 23)),oG 15 25 18 false (.call 725 [.t 19,.t 24]),oG 16 26 18 false (.not (.t 25)),oPt 17 27 18 26]
@[go_sem] theorem qsD:OE qGN.eq_1:=OEM qGN.eq_1
def qGL:qH:=.seq (.reg true [oM 0 31 0,oD1 1 32 496 31,oM 2 9 32]) (.seq (.reg true [oM 0 33 9,oE 1 34 .neq 33 0]) (.cond (.t 34) (.seq (.reg true [oM 0 35 9,oM 1 8 35]) (.ret)) (.skip)))
@[go_sem] theorem qsB:CE qGL.eq_1:=CEM qGL.eq_1
def qGO:List qB:=[oM 0 36 2,oP 1 37 (.call 340 [.t 36,.c (.int .i64 0),.c (.int .i64 40)]),oJ 2 38 37,oM 3 39 38,oH 4 40 39 false 3,oG 5 41 39 false (.call 340 [.t 40,.c (.int .i64 0),.c (.int .i64 2000)]),oG 6 42 39 false (.not (.t 41)),oPt 7 43 39 42]
@[go_sem] theorem qsE:OE qGO.eq_1:=OEM qGO.eq_1
def qGM:qH:=.seq (.seq (.reg true [oM 0 28 1,oP 1 29 (.call 610 [.t 28,.c (.int .i64 0)]),oJ 2 30 29]) (.cond (.t 30) (.seq (.reg true [oC 0 8 9]) (.ret)) (.skip))) (.seq qGL (.seq (.seq (.reg true qGO) (.cond (.t 43) (.seq (.reg true [oC 0 8 2]) (.ret)) (.skip))) (.seq (.reg true [oC 0 8 0]) (.ret))))
@[go_sem] theorem qsC:CE qGM.eq_1:=CEM qGM.eq_1
def XZ:qJ:=⟨4,44,[.t 8],.seq (.reg true [oC 0 8 0]) (.seq (.seq (.reg true qGN) (.cond (.t 27) (.seq (.reg true [oC 0 8 1]) (.ret)) (.skip))) qGM)⟩
def qGJ:List qB:=[oP 0 3 (.mov (.c (.lst 1 [] true))),oM 1 4 0,oP 2 5 (.app 1 (.t 3) (.t 4)),oM 3 2 5]
@[go_sem] theorem qr9:OE qGJ.eq_1:=OEM qGJ.eq_1
def ZH:qJ:=⟨1,6,[.t 2],.seq (.reg true [oP 0 2 (.mov (.c (.nils)))]) (.seq (.reg true qGJ) (.ret))⟩
def UQ:List qB:=[oM 0 6 5,oM 1 7 0,oW 2 8 7,oB 3 9 .lss 6 8]
@[go_sem] theorem qhT:OE UQ.eq_1:=OEM UQ.eq_1
def UR:List qB:=[oM 0 12 0,oM 1 13 5,oA 2 14 1 12 13,oL 3 15 14,oM 4 16 1,oB 5 17 .eql 15 16]
@[go_sem] theorem qhU:OE UR.eq_1:=OEM UR.eq_1
def UP:qH:=.loop (.seq (.seq (.reg true UQ) (.cond (.t 9) (.skip) (.exit 0))) (.seq (.blk 1 (.seq (.reg true UR) (.cond (.t 17) (.seq (.reg true [oQ 0 4 true]) (.ret)) (.skip)))) (.reg true [oM 0 10 5,oE 1 11 .add 10 1,oM 2 5 11])))
@[go_sem] theorem qhS:CE UP.eq_1:=CEM UP.eq_1
def WM:qJ:=⟨2,18,[.t 4],.seq (.reg true [oQ 0 4 false]) (.seq (.seq (.reg true [oC 0 5 0]) (.blk 0 UP)) (.seq (.reg true [oQ 0 4 false]) (.ret)))⟩
def qND:List qB:=[oM 0 9 7,oM 1 10 0,oW 2 11 10,oB 3 12 .lss 9 11]
@[go_sem] theorem qy3:OE qND.eq_1:=OEM qND.eq_1
def qNE:List qB:=[oM 0 15 6,oJ 1 16 15,oM 2 17 16,oH 3 18 17 true 0,oH 4 19 17 true 7,oG 5 20 17 true (.iaddr 1 (.t 18) (.t 19)),oG 6 21 17 true (.load none (.t 20)),oH 7 22 17 true 1,oG 8 23 17 true (.bin .geq (.t 21) (.t 22)),oPf 9 24 17 23]
@[go_sem] theorem qy4:OE qNE.eq_1:=OEM qNE.eq_1
def qNF:List qB:=[oM 0 25 0,oM 1 26 7,oA 2 27 1 25 26,oL 3 28 27,oM 4 29 1,oB 5 30 .gtr 28 29]
@[go_sem] theorem qy5:OE qNF.eq_1:=OEM qNF.eq_1
def qNG:List qB:=[oM 0 31 5,oM 1 32 1,oP 2 33 (.bslice 1 (.int .i64 0) 1 [(0,.t 32)]),oP 3 34 (.app 1 (.t 31) (.t 33)),oM 4 5 34]
@[go_sem] theorem qy6:OE qNG.eq_1:=OEM qNG.eq_1
def qNH:List qB:=[oM 0 35 5,oM 1 36 0,oM 2 37 7,oA 3 38 1 36 37,oL 4 39 38,oP 5 40 (.bslice 1 (.int .i64 0) 1 [(0,.t 39)]),oP 6 41 (.app 1 (.t 35) (.t 40)),oM 7 5 41]
@[go_sem] theorem qy7:OE qNH.eq_1:=OEM qNH.eq_1
def qNB:qH:=.seq (.blk 1 (.seq (.seq (.reg true qNE) (.cond (.t 24) (.seq (.reg true [oQ 0 6 true]) (.seq (.reg true qNF) (.cond (.t 30) (.reg true qNG) (.skip)))) (.skip))) (.reg true qNH))) (.reg true [oM 0 13 7,oE 1 14 .add 13 1,oM 2 7 14])
@[go_sem] theorem qy1:CE qNB.eq_1:=CEM qNB.eq_1
def qNI:List qB:=[oM 0 44 5,oM 1 45 1,oP 2 46 (.bslice 1 (.int .i64 0) 1 [(0,.t 45)]),oP 3 47 (.app 1 (.t 44) (.t 46)),oM 4 5 47]
@[go_sem] theorem qy8:OE qNI.eq_1:=OEM qNI.eq_1
def qNC:qH:=.seq (.seq (.reg true [oC 0 7 0]) (.blk 0 (.loop (.seq (.seq (.reg true qND) (.cond (.t 12) (.skip) (.exit 0))) qNB)))) (.seq (.seq (.reg true [oM 0 42 6,oJ 1 43 42]) (.cond (.t 43) (.reg true qNI) (.skip))) (.seq (.reg true [oM 0 48 5,oM 1 4 48]) (.ret)))
@[go_sem] theorem qy2:CE qNC.eq_1:=CEM qNC.eq_1
def YK:qJ:=⟨2,49,[.t 4],.seq (.reg true [oP 0 4 (.mov (.c (.nils)))]) (.seq (.reg true [oP 0 8 (.mov (.c (.lst 1 [] true))),oM 1 5 8]) (.seq (.reg true [oQ 0 6 false]) qNC))⟩
def qDC:List qB:=[oM 0 7 0,oK 1 8 7,oF 2 9 0 8,oL 3 10 9,oE 4 11 .eql 10 11]
@[go_sem] theorem qo2:OE qDC.eq_1:=OEM qDC.eq_1
def qDD:List qB:=[oM 0 12 1,oM 1 13 0,oK 2 14 13,oF 3 15 1 14,oL 4 16 15,oD2 5 17 920 12 16,oM 6 1 17]
@[go_sem] theorem qo3:OE qDD.eq_1:=OEM qDD.eq_1
def qDE:List qB:=[oM 0 18 5,oM 1 19 0,oK 2 20 19,oF 3 21 2 20,oL 4 22 21,oW 5 23 22,oB 6 24 .lss 18 23]
@[go_sem] theorem qo4:OE qDE.eq_1:=OEM qDE.eq_1
def qDF:List qB:=[oM 0 27 1,oM 1 28 0,oK 2 29 28,oF 3 30 2 29,oL 4 31 30,oM 5 32 5,oA 6 33 1 31 32,oL 7 34 33,oD2 8 35 920 27 34,oM 9 1 35]
@[go_sem] theorem qo5:OE qDF.eq_1:=OEM qDF.eq_1
def qDA:qH:=.seq (.reg true [oC 0 5 0]) (.blk 0 (.loop (.seq (.seq (.reg true qDE) (.cond (.t 24) (.skip) (.exit 0))) (.seq (.blk 1 (.reg true qDF)) (.reg true [oM 0 25 5,oE 1 26 .add 25 1,oM 2 5 26])))))
@[go_sem] theorem qo0:CE qDA.eq_1:=CEM qDA.eq_1
def qDG:List qB:=[oM 0 36 6,oM 1 37 0,oK 2 38 37,oF 3 39 3 38,oL 4 40 39,oW 5 41 40,oB 6 42 .lss 36 41]
@[go_sem] theorem qo6:OE qDG.eq_1:=OEM qDG.eq_1
def qDH:List qB:=[oM 0 45 0,oK 1 46 45,oF 2 47 3 46,oL 3 48 47,oM 4 49 6,oA 5 50 4 48 49,oM 6 51 1,oD2 7 52 1407 50 51,oM 8 1 52]
@[go_sem] theorem qo7:OE qDH.eq_1:=OEM qDH.eq_1
def qDB:qH:=.seq (.reg true [oC 0 6 0]) (.blk 2 (.loop (.seq (.seq (.reg true qDG) (.cond (.t 42) (.skip) (.exit 2))) (.seq (.blk 3 (.reg true qDH)) (.reg true [oM 0 43 6,oE 1 44 .add 43 1,oM 2 6 44])))))
@[go_sem] theorem qo1:CE qDB.eq_1:=CEM qDB.eq_1
def XC:qJ:=⟨2,54,[.t 4],.seq (.reg true [oP 0 4 (.mov (.c (.nils)))]) (.seq (.seq (.reg true qDC) (.cond (.t 11) (.reg true qDD) (.skip))) (.seq qDA (.seq qDB (.seq (.reg true [oM 0 53 1,oM 1 4 53]) (.ret)))))⟩
def kE:List qB:=[oM 0 6 4,oM 1 7 0,oK 2 8 7,oF 3 9 0 8,oL 4 10 9,oW 5 11 10,oB 6 12 .lss 6 11]
@[go_sem] theorem qkY:OE kE.eq_1:=OEM kE.eq_1
def kF:List qB:=[oM 0 15 3,oM 1 16 0,oK 2 17 16,oF 3 18 0 17,oL 4 19 18,oM 5 20 4,oA 6 21 4 19 20,oP 7 22 (.mov (.c (.lst 1 [] true))),oD2 8 23 1407 21 22,oP 9 24 (.bslice 1 (.nils) 1 [(0,.t 23)]),oP 10 25 (.app 1 (.t 15) (.t 24)),oM 11 3 25]
@[go_sem] theorem qkZ:OE kF.eq_1:=OEM kF.eq_1
def kD:qH:=.seq (.reg true [oC 0 4 0]) (.blk 0 (.loop (.seq (.seq (.reg true kE) (.cond (.t 12) (.skip) (.exit 0))) (.seq (.blk 1 (.reg true kF)) (.reg true [oM 0 13 4,oE 1 14 .add 13 1,oM 2 4 14])))))
@[go_sem] theorem qkX:CE kD.eq_1:=CEM kD.eq_1
def Wk:qJ:=⟨1,27,[.t 2],.seq (.reg true [oP 0 2 (.mov (.c (.nils)))]) (.seq (.reg true [oP 0 5 (.mov (.c (.lst 1 [] true))),oM 1 3 5]) (.seq kD (.seq (.reg true [oM 0 26 3,oM 1 2 26]) (.ret))))⟩
def qK8:List qB:=[oM 0 12 5,oM 1 13 0,oK 2 14 13,oF 3 15 0 14,oL 4 16 15,oW 5 17 16,oB 6 18 .lss 12 17]
@[go_sem] theorem qwY:OE qK8.eq_1:=OEM qK8.eq_1
def qK9:List qB:=[oM 0 21 3,oM 1 22 5,oA 2 23 1 21 22,oL 3 24 23,oD1 4 25 402 24,oM 5 6 25]
@[go_sem] theorem qwZ:OE qK9.eq_1:=OEM qK9.eq_1
def qLA:List qB:=[oM 0 26 7,oM 1 27 6,oW 2 28 27,oB 3 29 .lss 26 28]
@[go_sem] theorem qw0:OE qLA.eq_1:=OEM qLA.eq_1
def qLB:List qB:=[oM 0 32 8,oM 1 33 3,oM 2 34 6,oM 3 35 7,oA 4 36 1 34 35,oL 5 37 36,oA 6 38 1 33 37,oL 7 39 38,oW 8 40 39,oB 9 41 .lss 32 40]
@[go_sem] theorem qw1:OE qLB.eq_1:=OEM qLB.eq_1
def qLC:List qB:=[oM 0 44 6,oM 1 45 3,oM 2 46 6,oM 3 47 7,oA 4 48 1 46 47,oL 5 49 48,oA 6 50 1 45 49,oL 7 51 50,oM 8 52 8,oA 9 53 1 51 52,oL 10 54 53,oD2 11 55 1026 44 54,oJ 12 56 55]
@[go_sem] theorem qw2:OE qLC.eq_1:=OEM qLC.eq_1
def qLD:List qB:=[oM 0 57 6,oM 1 58 3,oM 2 59 6,oM 3 60 7,oA 4 61 1 59 60,oL 5 62 61,oA 6 63 1 58 62,oL 7 64 63,oM 8 65 8,oA 9 66 1 64 65,oL 10 67 66,oP 11 68 (.bslice 1 (.int .i64 0) 1 [(0,.t 67)]),oP 12 69 (.app 1 (.t 57) (.t 68)),oM 13 6 69]
@[go_sem] theorem qw3:OE qLD.eq_1:=OEM qLD.eq_1
def qK5:qH:=.loop (.seq (.seq (.reg true qLB) (.cond (.t 41) (.skip) (.exit 4))) (.seq (.blk 5 (.seq (.reg true qLC) (.cond (.t 56) (.reg true qLD) (.skip)))) (.reg true [oM 0 42 8,oE 1 43 .add 42 1,oM 2 8 43])))
@[go_sem] theorem qwV:CE qK5.eq_1:=CEM qK5.eq_1
def qK6:qH:=.loop (.seq (.seq (.reg true qLA) (.cond (.t 29) (.skip) (.exit 2))) (.seq (.blk 3 (.seq (.reg true [oC 0 8 0]) (.blk 4 qK5))) (.reg true [oM 0 30 7,oE 1 31 .add 30 1,oM 2 7 31])))
@[go_sem] theorem qwW:CE qK6.eq_1:=CEM qK6.eq_1
def qLE:List qB:=[oM 0 73 4,oM 1 74 5,oP 2 75 (.bslice 1 (.int .i64 0) 1 [(0,.t 74)]),oP 3 76 (.app 1 (.t 73) (.t 75)),oM 4 4 76]
@[go_sem] theorem qw4:OE qLE.eq_1:=OEM qLE.eq_1
def qK7:qH:=.seq (.blk 1 (.seq (.reg true qK9) (.seq (.seq (.reg true [oC 0 7 0]) (.blk 2 qK6)) (.seq (.reg true [oM 0 70 6,oM 1 71 5,oD2 2 72 1026 70 71]) (.cond (.t 72) (.reg true qLE) (.skip)))))) (.reg true [oM 0 19 5,oE 1 20 .add 19 1,oM 2 5 20])
@[go_sem] theorem qwX:CE qK7.eq_1:=CEM qK7.eq_1
def qK4:qH:=.seq (.reg true [oP 0 11 (.mov (.c (.lst 1 [] true))),oM 1 4 11]) (.seq (.seq (.reg true [oC 0 5 0]) (.blk 0 (.loop (.seq (.seq (.reg true qK8) (.cond (.t 18) (.skip) (.exit 0))) qK7)))) (.seq (.reg true [oM 0 77 4,oM 1 2 77]) (.ret)))
@[go_sem] theorem qwU:CE qK4.eq_1:=CEM qK4.eq_1
def X9:qJ:=⟨1,78,[.t 2],.seq (.reg true [oP 0 2 (.mov (.c (.nils)))]) (.seq (.reg true [oM 0 9 0,oD1 1 10 1162 9,oM 2 3 10]) qK4)⟩
def qGP:List qB:=[oM 0 5 0,oM 1 6 0,oD1 2 7 835 6,oM 3 8 1,oP 4 9 (.build (.agg [.nilp,.nils,.int .i64 0]) [(0,1,.t 5),(1,1,.t 7),(2,1,.t 8)]),oP 5 10 (.hbox 3 (.t 9)),oM 6 4 10]
@[go_sem] theorem qsF:OE qGP.eq_1:=OEM qGP.eq_1
def Xa:qJ:=⟨2,11,[.t 4],.seq (.reg true [oP 0 4 (.mov (.c (.nilp)))]) (.seq (.reg true qGP) (.ret))⟩
def qME:qH:=.seq (.seq (.reg true [oM 0 5 0,oM 1 6 1,oB 2 7 .gtr 5 6]) (.cond (.t 7) (.seq (.reg true [oM 0 8 0,oM 1 4 8]) (.ret)) (.skip))) (.seq (.reg true [oM 0 9 1,oM 1 4 9]) (.ret))
@[go_sem] theorem qx4:CE qME.eq_1:=CEM qME.eq_1
def YG:qJ:=⟨2,10,[.t 4],.seq (.reg true [oC 0 4 0]) qME⟩
def Kk:List qB:=[oM 0 5 4,oM 1 6 0,oK 2 7 6,oF 3 8 3 7,oL 4 9 8,oW 5 10 9,oB 6 11 .lss 5 10]
@[go_sem] theorem qj4:OE Kk.eq_1:=OEM Kk.eq_1
def Kl:List qB:=[oM 0 14 3,oM 1 15 0,oK 2 16 15,oF 3 17 3 16,oL 4 18 17,oM 5 19 4,oA 6 20 4 18 19,oD1 7 21 1123 20,oD2 8 22 856 14 21,oM 9 3 22]
@[go_sem] theorem qj5:OE Kl.eq_1:=OEM Kl.eq_1
def Kj:qH:=.seq (.reg true [oC 0 4 0]) (.blk 0 (.loop (.seq (.seq (.reg true Kk) (.cond (.t 11) (.skip) (.exit 0))) (.seq (.blk 1 (.reg true Kl)) (.reg true [oM 0 12 4,oE 1 13 .add 12 1,oM 2 4 13])))))
@[go_sem] theorem qj3:CE Kj.eq_1:=CEM Kj.eq_1
def Wc:qJ:=⟨1,25,[.t 2],.seq (.reg true [oC 0 2 0]) (.seq (.reg true [oC 0 3 0]) (.seq Kj (.seq (.reg true [oM 0 23 3,oE 1 24 .add 23 1,oM 2 2 24]) (.ret))))⟩
def Kt:List qB:=[oM 0 8 5,oM 1 9 0,oK 2 10 9,oF 3 11 3 10,oL 4 12 11,oW 5 13 12,oB 6 14 .lss 8 13,oM 7 15 14,oH 8 16 15 true 1,oG 9 17 15 true (.bin .geq (.t 16) (.c (.int .i64 0))),oPf 10 18 15 17]
@[go_sem] theorem qkD:OE Kt.eq_1:=OEM Kt.eq_1
def Ku:List qB:=[oM 0 21 0,oK 1 22 21,oF 2 23 3 22,oL 3 24 23,oM 4 25 5,oA 5 26 4 24 25,oM 6 27 1,oD2 7 28 1128 26 27,oM 8 1 28]
@[go_sem] theorem qkE:OE Ku.eq_1:=OEM Ku.eq_1
def Ks:qH:=.seq (.reg true [oC 0 5 0]) (.blk 0 (.loop (.seq (.seq (.reg true Kt) (.cond (.t 18) (.skip) (.exit 0))) (.seq (.blk 1 (.reg true Ku)) (.reg true [oM 0 19 5,oE 1 20 .add 19 1,oM 2 5 20])))))
@[go_sem] theorem qkC:CE Ks.eq_1:=CEM Ks.eq_1
def Wh:qJ:=⟨2,30,[.t 4],.seq (.reg true [oC 0 4 0]) (.seq (.reg true [oM 0 6 1,oE 1 7 .sub 6 1,oM 2 1 7]) (.seq Ks (.seq (.reg true [oM 0 29 1,oM 1 4 29]) (.ret))))⟩
def qKC:List qB:=[oM 0 3 0,oP 1 4 (.call 1128 [.t 3,.c (.int .i64 400)]),oE 2 5 .geq 4 0,oM 3 6 5,oH 4 7 6 true 0,oG 5 8 6 true (.call 1123 [.t 7]),oG 6 9 6 true (.bin .leq (.t 8) (.c (.int .i64 80))),oPf 7 10 6 9,oM 8 2 10]
@[go_sem] theorem qv2:OE qKC.eq_1:=OEM qKC.eq_1
def X2:qJ:=⟨1,11,[.t 2],.seq (.reg true [oQ 0 2 false]) (.seq (.reg true qKC) (.ret))⟩
def XT:qJ:=⟨1,5,[.l 2 (some 4)],.seq (.reg true [oZ 0 2]) (.seq (.reg true [oM 0 3 0,oP 1 4 (.build (.agg [.int .i64 0,.int .i64 0,.nils,.nils]) [(0,1,.c (.int .i64 2)),(1,1,.t 3)]),oS 2 2 0 4 4]) (.ret))⟩
def qJJ:List qB:=[oM 0 3 0,oK 1 4 3,oF 2 5 0 4,oL 3 6 5]
@[go_sem] theorem qu9:OE qJJ.eq_1:=OEM qJJ.eq_1
def qJK:List qB:=[oM 0 9 0,oK 1 10 9,oF 2 11 3 10,oL 3 12 11,oP 4 13 (.iaddr 4 (.t 12) (.c (.int .i64 0))),oF 5 14 0 13,oL 6 15 14]
@[go_sem] theorem qvA:OE qJK.eq_1:=OEM qJK.eq_1
def qJH:qH:=.seq (.reg true [oE 0 17 .eql 15 4,oM 1 16 17]) (.cond (.t 16) (.seq (.reg true [oC 0 2 1]) (.ret)) (.seq (.reg true [oE 0 19 .eql 15 11,oM 1 18 19]) (.cond (.t 18) (.seq (.reg true [oC 0 2 4]) (.ret)) (.skip))))
@[go_sem] theorem qu7:CE qJH.eq_1:=CEM qJH.eq_1
def qJL:List qB:=[oM 0 22 0,oK 1 23 22,oF 2 24 3 23,oL 3 25 24,oP 4 26 (.iaddr 4 (.t 25) (.c (.int .i64 0))),oF 5 27 0 26,oL 6 28 27,oE 7 29 .eql 28 11]
@[go_sem] theorem qvB:OE qJL.eq_1:=OEM qJL.eq_1
def qJM:List qB:=[oM 0 30 0,oK 1 31 30,oF 2 32 3 31,oL 3 33 32,oP 4 34 (.iaddr 4 (.t 33) (.c (.int .i64 0))),oF 5 35 0 34,oL 6 36 35,oE 7 37 .eql 36 2]
@[go_sem] theorem qvC:OE qJM.eq_1:=OEM qJM.eq_1
def qJN:List qB:=[oM 0 38 0,oK 1 39 38,oF 2 40 3 39,oL 3 41 40,oP 4 42 (.iaddr 4 (.t 41) (.c (.int .i64 1))),oF 5 43 0 42,oL 6 44 43]
@[go_sem] theorem qvD:OE qJN.eq_1:=OEM qJN.eq_1
def qJI:qH:=.seq (.reg true [oE 0 46 .eql 44 2,oM 1 45 46]) (.cond (.t 45) (.seq (.reg true [oC 0 2 2]) (.ret)) (.seq (.reg true [oE 0 48 .eql 44 11,oM 1 47 48]) (.cond (.t 47) (.seq (.reg true [oC 0 2 4]) (.ret)) (.skip))))
@[go_sem] theorem qu8:CE qJI.eq_1:=CEM qJI.eq_1
def qJO:List qB:=[oM 0 51 0,oK 1 52 51,oF 2 53 3 52,oL 3 54 53,oP 4 55 (.iaddr 4 (.t 54) (.c (.int .i64 0))),oF 5 56 0 55,oL 6 57 56,oE 7 58 .eql 57 8,oM 8 59 58,oH 9 60 59 true 0,oG 10 61 59 true (.nilchk (.t 60)),oG 11 62 59 true (.faddr 3 (.t 61)),oG 12 63 59 true (.load none (.t 62)),oG 13 64 59 true (.iaddr 4 (.t 63) (.c (.int .i64 0))),oG 14 65 59 true (.faddr 1 (.t 64)),oG 15 66 59 true (.load none (.t 65)),oH 16 67 59 true 0,oG 17 68 59 true (.nilchk (.t 67)),oG 18 69 59 true (.faddr 2 (.t 68)),oG 19 70 59 true (.load none (.t 69)),oG 20 71 59 true (.len (.t 70)),oG 21 72 59 true (.bin .lss (.t 66) (.t 71)),oPf 22 73 59 72]
@[go_sem] theorem qvE:OE qJO.eq_1:=OEM qJO.eq_1
def qJP:List qB:=[oM 0 74 0,oK 1 75 74,oF 2 76 3 75,oL 3 77 76,oP 4 78 (.iaddr 4 (.t 77) (.c (.int .i64 0))),oF 5 79 0 78,oL 6 80 79,oE 7 81 .eql 80 11]
@[go_sem] theorem qvF:OE qJP.eq_1:=OEM qJP.eq_1
def qJQ:List qB:=[oM 0 84 0,oK 1 85 84,oF 2 86 3 85,oL 3 87 86,oP 4 88 (.iaddr 4 (.t 87) (.c (.int .i64 0))),oF 5 89 0 88,oL 6 90 89]
@[go_sem] theorem qvG:OE qJQ.eq_1:=OEM qJQ.eq_1
def qJE:qH:=.seq (.reg true [oE 0 92 .eql 90 2,oM 1 91 92]) (.cond (.t 91) (.seq (.reg true [oC 0 2 3]) (.ret)) (.seq (.reg true [oE 0 94 .eql 90 11,oM 1 93 94]) (.cond (.t 93) (.seq (.reg true [oC 0 2 4]) (.ret)) (.skip))))
@[go_sem] theorem qu4:CE qJE.eq_1:=CEM qJE.eq_1
def qJF:qH:=.cond (.t 49) (.seq (.seq (.reg true qJO) (.cond (.t 73) (.seq (.reg true [oC 0 2 3]) (.ret)) (.skip))) (.seq (.reg true qJP) (.cond (.t 81) (.seq (.reg true [oC 0 2 4]) (.ret)) (.skip)))) (.seq (.reg true [oE 0 83 .eql 6 10,oM 1 82 83]) (.cond (.t 82) (.seq (.reg true qJQ) (.blk 3 qJE)) (.skip)))
@[go_sem] theorem qu5:CE qJF.eq_1:=CEM qJF.eq_1
def qJG:qH:=.seq (.reg true [oE 0 21 .eql 6 3,oM 1 20 21]) (.cond (.t 20) (.seq (.seq (.reg true qJL) (.cond (.t 29) (.seq (.reg true [oC 0 2 4]) (.ret)) (.skip))) (.seq (.reg true qJM) (.cond (.t 37) (.seq (.reg true qJN) (.blk 2 qJI)) (.skip)))) (.seq (.reg true [oE 0 50 .eql 6 9,oM 1 49 50]) qJF))
@[go_sem] theorem qu6:CE qJG.eq_1:=CEM qJG.eq_1
def Xy:qJ:=⟨1,95,[.t 2],.seq (.reg true [oC 0 2 0]) (.seq (.seq (.reg true qJJ) (.blk 0 (.seq (.reg true [oE 0 8 .eql 6 5,oM 1 7 8]) (.cond (.t 7) (.seq (.reg true qJK) (.blk 1 qJH)) qJG)))) (.seq (.reg true [oC 0 2 0]) (.ret)))⟩
def KU:List qB:=[oM 0 7 0,oK 1 8 7,oF 2 9 0 8,oL 3 10 9,oE 4 11 .eql 10 1]
@[go_sem] theorem qjO:OE KU.eq_1:=OEM KU.eq_1
def KV:List qB:=[oM 0 12 0,oK 1 13 12,oF 2 14 1 13,oL 3 15 14,oM 4 16 1,oB 5 17 .eql 15 16]
@[go_sem] theorem qjP:OE KV.eq_1:=OEM KV.eq_1
def KW:List qB:=[oM 0 18 6,oM 1 19 0,oK 2 20 19,oF 3 21 3 20,oL 4 22 21,oW 5 23 22,oB 6 24 .lss 18 23]
@[go_sem] theorem qjQ:OE KW.eq_1:=OEM KW.eq_1
def KX:List qB:=[oM 0 27 5,oM 1 28 0,oK 2 29 28,oF 3 30 3 29,oL 4 31 30,oM 5 32 6,oA 6 33 4 31 32,oM 7 34 1,oM 8 35 0,oM 9 36 6,⟨10,some 37,none,.call 1129 [.t 35,.t 36],[⟨4,some 31,none,.load none (.t 30),[]⟩]⟩,oB 11 38 .add 34 37,oD2 12 39 1121 33 38,oB 13 40 .add 27 39,oM 14 5 40]
@[go_sem] theorem qjR:OE KX.eq_1:=OEM KX.eq_1
def KS:qH:=.seq (.reg true [oC 0 6 0]) (.blk 0 (.loop (.seq (.seq (.reg true KW) (.cond (.t 24) (.skip) (.exit 0))) (.seq (.blk 1 (.reg true KX)) (.reg true [oM 0 25 6,oE 1 26 .add 25 1,oM 2 6 26])))))
@[go_sem] theorem qjM:CE KS.eq_1:=CEM KS.eq_1
def KT:qH:=.seq (.seq (.reg true KU) (.cond (.t 11) (.seq (.seq (.reg true KV) (.cond (.t 17) (.seq (.reg true [oC 0 4 1]) (.ret)) (.skip))) (.seq (.reg true [oC 0 4 0]) (.ret))) (.skip))) (.seq (.reg true [oC 0 5 0]) (.seq KS (.seq (.reg true [oM 0 41 5,oM 1 4 41]) (.ret))))
@[go_sem] theorem qjN:CE KT.eq_1:=CEM KT.eq_1
def Wa:qJ:=⟨2,42,[.t 4],.seq (.reg true [oC 0 4 0]) KT⟩
def qKE:List qB:=[oM 0 9 0,oK 1 10 9,oF 2 11 0 10,oL 3 12 11,oM 4 13 0,oK 5 14 13,oF 6 15 1 14,oL 7 16 15,oM 8 17 0,oK 9 18 17,oF 10 19 2 18,oL 11 20 19,oZ 14 7,⟨12,some 21,none,.call 402 [.t 20],[⟨3,some 12,none,.load none (.t 11),[]⟩,⟨7,some 16,none,.load none (.t 15),[]⟩]⟩,oP 13 22 (.build (.agg [.int .i64 0,.int .i64 0,.nils,.nils]) [(0,1,.t 12),(1,1,.t 16),(2,1,.t 21)]),oS 15 7 0 4 22]
@[go_sem] theorem qv4:OE qKE.eq_1:=OEM qKE.eq_1
def qKF:List qB:=[oM 0 23 0,oK 1 24 23,oF 2 25 0 24,oL 3 26 25,oE 4 27 .eql 26 1,oM 5 28 27,oH 6 29 28 true 0,oG 7 30 28 true (.nilchk (.t 29)),oG 8 31 28 true (.faddr 1 (.t 30)),oG 9 32 28 true (.load none (.t 31)),oH 10 33 28 true 2,oG 11 34 28 true (.bin .geq (.t 32) (.t 33)),oPf 12 35 28 34]
@[go_sem] theorem qv5:OE qKF.eq_1:=OEM qKF.eq_1
def qKG:List qB:=[oU 0 36 7,oX 1 37 7 1,oM 2 38 1,oB 3 39 .add 37 38,oU 4 40 7,oS 5 7 1 1 39]
@[go_sem] theorem qv6:OE qKG.eq_1:=OEM qKG.eq_1
def qKH:List qB:=[oM 0 41 8,oM 1 42 0,oK 2 43 42,oF 3 44 3 43,oL 4 45 44,oW 5 46 45,oB 6 47 .lss 41 46]
@[go_sem] theorem qv7:OE qKH.eq_1:=OEM qKH.eq_1
def qKI:List qB:=[oU 0 50 7,oX 1 51 7 3,oM 2 52 0,oK 3 53 52,oF 4 54 3 53,oL 5 55 54,oM 6 56 8,oA 7 57 4 55 56,oM 8 58 1,oM 9 59 2,oM 10 60 0,oM 11 61 8,⟨12,some 62,none,.call 1129 [.t 60,.t 61],[⟨5,some 55,none,.load none (.t 54),[]⟩]⟩,oB 13 63 .add 59 62,oP 14 64 (.call 766 [.t 57,.t 58,.t 63]),oP 15 65 (.bslice 4 (.agg [.int .i64 0,.int .i64 0,.nils,.nils]) 1 [(0,.t 64)]),oP 16 66 (.app 4 (.t 51) (.t 65)),oU 17 67 7,oS 18 7 3 1 66]
@[go_sem] theorem qv8:OE qKI.eq_1:=OEM qKI.eq_1
def qKD:qH:=.seq (.reg true [oC 0 8 0]) (.blk 0 (.loop (.seq (.seq (.reg true qKH) (.cond (.t 47) (.skip) (.exit 0))) (.seq (.blk 1 (.reg true qKI)) (.reg true [oM 0 48 8,oE 1 49 .add 48 1,oM 2 8 49])))))
@[go_sem] theorem qv3:CE qKD.eq_1:=CEM qKD.eq_1
def X3:qJ:=⟨3,69,[.l 6 (some 4)],.seq (.reg true [oZ 0 6]) (.seq (.reg true qKE) (.seq (.seq (.reg true qKF) (.cond (.t 35) (.reg true qKG) (.skip))) (.seq qKD (.seq (.reg true [oY 0 68 7 0 4,oS 1 6 0 4 68]) (.ret)))))⟩
def Ka:List qB:=[oM 0 10 0,oK 1 11 10,oF 2 12 0 11,oL 3 13 12,oE 4 14 .eql 13 1]
@[go_sem] theorem qjU:OE Ka.eq_1:=OEM Ka.eq_1
def Kb:List qB:=[oM 0 15 0,oK 1 16 15,oF 2 17 1 16,oL 3 18 17,oM 4 19 2,oB 5 20 .eql 18 19]
@[go_sem] theorem qjV:OE Kb.eq_1:=OEM Kb.eq_1
def Kc:List qB:=[oM 0 21 1,oM 1 22 2,oP 2 23 (.call 766 [.t 21,.t 22,.c (.int .i64 0)]),oS 3 6 0 4 23]
@[go_sem] theorem qjW:OE Kc.eq_1:=OEM Kc.eq_1
def Kd:List qB:=[oM 0 24 0,oK 1 25 24,oF 2 26 1 25,oL 3 27 26,oP 4 28 (.build (.agg [.int .i64 0,.int .i64 0,.nils,.nils]) [(0,1,.c (.int .i64 1)),(1,1,.t 27)]),oZ 5 7,oS 6 7 0 4 28]
@[go_sem] theorem qjX:OE Kd.eq_1:=OEM Kd.eq_1
def Ke:List qB:=[oM 0 29 0,oK 1 30 29,oF 2 31 1 30,oL 3 32 31,oM 4 33 2,oB 5 34 .gtr 32 33]
@[go_sem] theorem qjY:OE Ke.eq_1:=OEM Ke.eq_1
def Kf:List qB:=[oU 0 35 7,oX 1 36 7 1,oE 2 37 .sub 36 1,oU 3 38 7,oS 4 7 1 1 37]
@[go_sem] theorem qjZ:OE Kf.eq_1:=OEM Kf.eq_1
def KZ:qH:=.seq (.reg true Ka) (.cond (.t 14) (.seq (.seq (.reg true Kb) (.cond (.t 20) (.seq (.reg true Kc) (.ret)) (.skip))) (.seq (.reg true Kd) (.seq (.seq (.reg true Ke) (.cond (.t 34) (.reg true Kf) (.skip))) (.seq (.reg true [oY 0 39 7 0 4,oS 1 6 0 4 39]) (.ret))))) (.skip))
@[go_sem] theorem qjT:CE KZ.eq_1:=CEM KZ.eq_1
def Kg:List qB:=[oM 0 40 0,oK 1 41 40,oF 2 42 0 41,oL 3 43 42,oM 4 44 0,oK 5 45 44,oF 6 46 1 45,oL 7 47 46,oM 8 48 0,oK 9 49 48,oF 10 50 2 49,oL 11 51 50,oZ 14 8,⟨12,some 52,none,.call 402 [.t 51],[⟨3,some 43,none,.load none (.t 42),[]⟩,⟨7,some 47,none,.load none (.t 46),[]⟩]⟩,oP 13 53 (.build (.agg [.int .i64 0,.int .i64 0,.nils,.nils]) [(0,1,.t 43),(1,1,.t 47),(2,1,.t 52)]),oS 15 8 0 4 53]
@[go_sem] theorem qj0:OE Kg.eq_1:=OEM Kg.eq_1
def Kh:List qB:=[oM 0 54 9,oM 1 55 0,oK 2 56 55,oF 3 57 3 56,oL 4 58 57,oW 5 59 58,oB 6 60 .lss 54 59]
@[go_sem] theorem qj1:OE Kh.eq_1:=OEM Kh.eq_1
def Ki:List qB:=[oU 0 63 8,oX 1 64 8 3,oM 2 65 0,oK 3 66 65,oF 4 67 3 66,oL 5 68 67,oM 6 69 9,oA 7 70 4 68 69,oM 8 71 1,oM 9 72 2,oM 10 73 0,oM 11 74 9,⟨12,some 75,none,.call 1129 [.t 73,.t 74],[⟨5,some 68,none,.load none (.t 67),[]⟩]⟩,oB 13 76 .add 72 75,oP 14 77 (.call 1122 [.t 70,.t 71,.t 76]),oP 15 78 (.bslice 4 (.agg [.int .i64 0,.int .i64 0,.nils,.nils]) 1 [(0,.t 77)]),oP 16 79 (.app 4 (.t 64) (.t 78)),oU 17 80 8,oS 18 8 3 1 79]
@[go_sem] theorem qj2:OE Ki.eq_1:=OEM Ki.eq_1
def KY:qH:=.seq (.reg true [oC 0 9 0]) (.blk 0 (.loop (.seq (.seq (.reg true Kh) (.cond (.t 60) (.skip) (.exit 0))) (.seq (.blk 1 (.reg true Ki)) (.reg true [oM 0 61 9,oE 1 62 .add 61 1,oM 2 9 62])))))
@[go_sem] theorem qjS:CE KY.eq_1:=CEM KY.eq_1
def Wb:qJ:=⟨3,82,[.l 6 (some 4)],.seq (.reg true [oZ 0 6]) (.seq KZ (.seq (.reg true Kg) (.seq KY (.seq (.reg true [oY 0 81 8 0 4,oS 1 6 0 4 81]) (.ret)))))⟩
def Kn:List qB:=[oM 0 5 0,oK 1 6 5,oF 2 7 0 6,oL 3 8 7,oE 4 9 .eql 8 1]
@[go_sem] theorem qj7:OE Kn.eq_1:=OEM Kn.eq_1
def Ko:List qB:=[oM 0 10 0,oK 1 11 10,oF 2 12 1 11,oL 3 13 12,oM 4 3 13]
@[go_sem] theorem qj8:OE Ko.eq_1:=OEM Ko.eq_1
def Kp:List qB:=[oM 0 14 4,oM 1 15 0,oK 2 16 15,oF 3 17 3 16,oL 4 18 17,oW 5 19 18,oB 6 20 .lss 14 19]
@[go_sem] theorem qj9:OE Kp.eq_1:=OEM Kp.eq_1
def Kq:List qB:=[oM 0 23 3,oM 1 24 0,oK 2 25 24,oF 3 26 3 25,oL 4 27 26,oM 5 28 4,oA 6 29 4 27 28,oD1 7 30 1124 29,oD2 8 31 856 23 30,oM 9 3 31]
@[go_sem] theorem qkA:OE Kq.eq_1:=OEM Kq.eq_1
def Km:qH:=.seq (.reg true [oC 0 4 0]) (.blk 0 (.loop (.seq (.seq (.reg true Kp) (.cond (.t 20) (.skip) (.exit 0))) (.seq (.blk 1 (.reg true Kq)) (.reg true [oM 0 21 4,oE 1 22 .add 21 1,oM 2 4 22])))))
@[go_sem] theorem qj6:CE Km.eq_1:=CEM Km.eq_1
def Wd:qJ:=⟨1,33,[.t 2],.seq (.reg true [oC 0 2 0]) (.seq (.reg true [oP 0 3 (.mov (.c (.int .i64 (-1))))]) (.seq (.seq (.reg true Kn) (.cond (.t 9) (.reg true Ko) (.skip))) (.seq Km (.seq (.reg true [oM 0 32 3,oM 1 2 32]) (.ret)))))⟩
def qJT:List qB:=[oM 0 10 0,oP 1 11 (.call 643 [.t 10,.c (.int .i64 80),.c (.int .i64 400)]),oM 2 12 6,oM 3 13 1,oP 4 14 (.call 643 [.t 13,.c (.int .i64 80),.c (.int .i64 400)]),oE 5 15 .sub 14 1,oB 6 16 .mul 12 15,oB 7 17 .add 11 16,oE 8 18 .gtr 17 400]
@[go_sem] theorem qvJ:OE qJT.eq_1:=OEM qJT.eq_1
def qJU:List qB:=[oM 0 20 0,oM 1 21 1,oP 2 22 (.call 1122 [.t 20,.t 21,.c (.int .i64 0)]),oP 3 7 (.halloc 4 (.agg [.int .i64 0,.int .i64 0,.nils,.nils])),oT 4 4 7 22]
@[go_sem] theorem qvK:OE qJU.eq_1:=OEM qJU.eq_1
def qJR:qH:=.seq (.seq (.reg true [oD1 0 26 1124 7,oE 1 27 .gtr 26 255]) (.cond (.t 27) (.seq (.reg true [oP 0 28 (.build (.agg [.int .i64 0,.int .i64 0,.nils,.nils]) []),oS 1 4 0 4 28,oC 2 5 2]) (.ret)) (.skip))) (.seq (.reg true [oP 0 29 (.load (some 4) (.t 7)),oS 1 4 0 4 29,oC 2 5 0]) (.ret))
@[go_sem] theorem qvH:CE qJR.eq_1:=CEM qJR.eq_1
def qJS:qH:=.seq (.seq (.reg true qJT) (.cond (.t 18) (.seq (.reg true [oP 0 19 (.build (.agg [.int .i64 0,.int .i64 0,.nils,.nils]) []),oS 1 4 0 4 19,oC 2 5 4]) (.ret)) (.skip))) (.seq (.reg true qJU) (.seq (.seq (.reg true [oD1 0 23 1123 7,oE 1 24 .gtr 23 80]) (.cond (.t 24) (.seq (.reg true [oP 0 25 (.build (.agg [.int .i64 0,.int .i64 0,.nils,.nils]) []),oS 1 4 0 4 25,oC 2 5 4]) (.ret)) (.skip))) qJR))
@[go_sem] theorem qvI:CE qJS.eq_1:=CEM qJS.eq_1
def Xz:qJ:=⟨2,30,[.l 4 (some 4),.t 5],.seq (.reg true [oZ 0 4,oC 1 5 0]) (.seq (.reg true [oM 0 8 0,oP 1 9 (.call 1121 [.t 8,.c (.int .i64 0)]),oM 2 6 9]) qJS)⟩
def Kr:List qB:=[oM 0 3 0,oP 1 4 (.conv .u64 (.t 3)),oP 2 5 (.conv .u32 (.t 4)),oP 3 6 (.conv .i32 (.t 5)),oP 4 7 (.conv .i64 (.t 6)),oM 5 2 7]
@[go_sem] theorem qkB:OE Kr.eq_1:=OEM Kr.eq_1
def We:qJ:=⟨1,8,[.t 2],.seq (.reg true [oC 0 2 0]) (.seq (.reg true Kr) (.ret))⟩
def Wf:qJ:=⟨1,4,[.t 2],.seq (.reg true [oC 0 2 0]) (.seq (.seq (.reg true [oM 0 3 0]) (.cond (.t 3) (.seq (.reg true [oC 0 2 1]) (.ret)) (.skip))) (.seq (.reg true [oC 0 2 0]) (.ret)))⟩
def qJY:List qB:=[oM 0 16 7,oM 1 17 8,oB 2 18 .add 16 17,oD1 3 19 1125 18,oM 4 6 19]
@[go_sem] theorem qvO:OE qJY.eq_1:=OEM qJY.eq_1
def qJZ:List qB:=[oM 0 22 7,oM 1 23 8,oB 2 24 .sub 22 23,oD1 3 25 1125 24,oM 4 6 25]
@[go_sem] theorem qvP:OE qJZ.eq_1:=OEM qJZ.eq_1
def qJ0:List qB:=[oM 0 28 7,oM 1 29 8,oB 2 30 .mul 28 29,oD1 3 31 1125 30,oM 4 6 31]
@[go_sem] theorem qvQ:OE qJ0.eq_1:=OEM qJ0.eq_1
def qJ1:List qB:=[oM 0 36 7,oM 1 37 8,oB 2 38 .quo 36 37,oD1 3 39 1125 38,oM 4 6 39]
@[go_sem] theorem qvR:OE qJ1.eq_1:=OEM qJ1.eq_1
def qJ2:List qB:=[oM 0 42 7,oM 1 43 8,oB 2 44 .lss 42 43,oD1 3 45 1126 44,oM 4 6 45]
@[go_sem] theorem qvS:OE qJ2.eq_1:=OEM qJ2.eq_1
def qJ3:List qB:=[oM 0 48 7,oM 1 49 8,oB 2 50 .eql 48 49,oD1 3 51 1126 50,oM 4 6 51]
@[go_sem] theorem qvT:OE qJ3.eq_1:=OEM qJ3.eq_1
def qJV:qH:=.cond (.t 32) (.seq (.seq (.reg true [oM 0 34 8,oE 1 35 .eql 34 0]) (.cond (.t 35) (.seq (.reg true [oC 0 6 0]) (.ret)) (.skip))) (.seq (.reg true qJ1) (.ret))) (.seq (.reg true [oE 0 41 .eql 13 5,oM 1 40 41]) (.cond (.t 40) (.seq (.reg true qJ2) (.ret)) (.seq (.reg true [oE 0 47 .eql 13 6,oM 1 46 47]) (.cond (.t 46) (.seq (.reg true qJ3) (.ret)) (.skip)))))
@[go_sem] theorem qvL:CE qJV.eq_1:=CEM qJV.eq_1
def qJW:qH:=.seq (.reg true [oE 0 21 .eql 13 2,oM 1 20 21]) (.cond (.t 20) (.seq (.reg true qJZ) (.ret)) (.seq (.reg true [oE 0 27 .eql 13 3,oM 1 26 27]) (.cond (.t 26) (.seq (.reg true qJ0) (.ret)) (.seq (.reg true [oE 0 33 .eql 13 4,oM 1 32 33]) qJV))))
@[go_sem] theorem qvM:CE qJW.eq_1:=CEM qJW.eq_1
def qJX:qH:=.seq (.reg true [oM 0 11 2,oD1 1 12 1125 11,oM 2 8 12]) (.seq (.seq (.reg true [oM 0 13 0]) (.blk 0 (.seq (.reg true [oE 0 15 .eql 13 1,oM 1 14 15]) (.cond (.t 14) (.seq (.reg true qJY) (.ret)) qJW)))) (.seq (.reg true [oC 0 6 0]) (.ret)))
@[go_sem] theorem qvN:CE qJX.eq_1:=CEM qJX.eq_1
def X0:qJ:=⟨3,52,[.t 6],.seq (.reg true [oC 0 6 0]) (.seq (.reg true [oM 0 9 1,oD1 1 10 1125 9,oM 2 7 10]) qJX)⟩
def qGA:List qB:=[oM 0 7 0,oM 1 8 1,oM 2 9 2,oP 3 10 (.build (.agg [.int .i64 0,.int .i64 0,.nils,.nils]) [(0,1,.t 7),(1,1,.t 8),(3,1,.t 9)]),oS 4 6 0 4 10]
@[go_sem] theorem qr0:OE qGA.eq_1:=OEM qGA.eq_1
def XU:qJ:=⟨3,11,[.l 6 (some 4)],.seq (.reg true [oZ 0 6]) (.seq (.reg true qGA) (.ret))⟩
def KC:List qB:=[oY 0 5 2 0 4,oY 1 6 3 0 4,oP 2 7 (.bslice 4 (.agg [.int .i64 0,.int .i64 0,.nils,.nils]) 2 [(0,.t 5),(1,.t 6)]),oP 3 8 (.call 382 [.c (.int .i64 5),.c (.int .i64 0),.t 7]),oS 4 4 0 4 8]
@[go_sem] theorem qi7:OE KC.eq_1:=OEM KC.eq_1
def WW:qJ:=⟨2,9,[.l 4 (some 4)],.seq (.reg true [oP 0 2 (.lbox 4 (.t 0)),oP 1 3 (.lbox 4 (.t 1)),oZ 2 4]) (.seq (.reg true KC) (.ret))⟩
def Wg:qJ:=⟨1,5,[.l 2 (some 4)],.seq (.reg true [oZ 0 2]) (.seq (.reg true [oM 0 3 0,oP 1 4 (.build (.agg [.int .i64 0,.int .i64 0,.nils,.nils]) [(0,1,.c (.int .i64 11)),(1,1,.t 3)]),oS 2 2 0 4 4]) (.ret))⟩
def qJ5:List qB:=[oM 0 7 0,oK 1 8 7,oF 2 9 0 8,oL 3 10 9,oE 4 11 .eql 10 10]
@[go_sem] theorem qvV:OE qJ5.eq_1:=OEM qJ5.eq_1
def qJ6:List qB:=[oM 0 12 0,oK 1 13 12,oF 2 14 3 13,oL 3 15 14,oP 4 16 (.iaddr 4 (.t 15) (.c (.int .i64 0))),oF 5 17 1 16,oL 6 18 17,oE 7 19 .neq 18 0]
@[go_sem] theorem qvW:OE qJ6.eq_1:=OEM qJ6.eq_1
def qJ7:List qB:=[oM 0 20 0,oK 1 21 20,oF 2 22 2 21,oL 3 23 22,oP 4 24 (.iaddr 1 (.t 23) (.c (.int .i64 0))),oL 5 25 24,oD1 6 26 1127 25,oS 7 4 0 4 26]
@[go_sem] theorem qvX:OE qJ7.eq_1:=OEM qJ7.eq_1
def qJ8:List qB:=[oM 0 27 0,oK 1 28 27,oF 2 29 2 28,oL 3 30 29,oP 4 31 (.iaddr 1 (.t 30) (.c (.int .i64 1))),oL 5 32 31,oD1 6 33 1127 32,oS 7 4 0 4 33]
@[go_sem] theorem qvY:OE qJ8.eq_1:=OEM qJ8.eq_1
def qJ9:List qB:=[oM 0 34 0,oK 1 35 34,oF 2 36 2 35,oL 3 37 36,oM 4 38 0,oK 5 39 38,oF 6 40 3 39,oL 7 41 40,oP 8 42 (.iaddr 4 (.t 41) (.c (.int .i64 0))),oF 9 43 1 42,oL 10 44 43,oA 11 45 1 37 44,oL 12 46 45,oZ 14 5,oD1 13 47 1127 46,oS 15 5 0 4 47]
@[go_sem] theorem qvZ:OE qJ9.eq_1:=OEM qJ9.eq_1
def qKA:List qB:=[oM 0 48 6,oM 1 49 1,oW 2 50 49,oB 3 51 .lss 48 50]
@[go_sem] theorem qv0:OE qKA.eq_1:=OEM qKA.eq_1
def qKB:List qB:=[oY 0 54 5 0 4,oM 1 55 1,oM 2 56 6,oA 3 57 4 55 56,oP 4 58 (.load (some 4) (.t 57)),oD2 5 59 1117 54 58,oS 6 5 0 4 59]
@[go_sem] theorem qv1:OE qKB.eq_1:=OEM qKB.eq_1
def qJ4:qH:=.seq (.reg true [oC 0 6 0]) (.blk 0 (.loop (.seq (.seq (.reg true qKA) (.cond (.t 51) (.skip) (.exit 0))) (.seq (.blk 1 (.reg true qKB)) (.reg true [oM 0 52 6,oE 1 53 .add 52 1,oM 2 6 53])))))
@[go_sem] theorem qvU:CE qJ4.eq_1:=CEM qJ4.eq_1
def X1:qJ:=⟨2,61,[.l 4 (some 4)],.seq (.reg true [oZ 0 4]) (.seq (.seq (.reg true qJ5) (.cond (.t 11) (.seq (.seq (.reg true qJ6) (.cond (.t 19) (.seq (.reg true qJ7) (.ret)) (.skip))) (.seq (.reg true qJ8) (.ret))) (.skip))) (.seq (.reg true qJ9) (.seq qJ4 (.seq (.reg true [oY 0 60 5 0 4,oS 1 4 0 4 60]) (.ret)))))⟩
def qEE:List qB:=[oM 0 5 4,oM 1 6 0,oK 2 7 6,oF 3 8 3 7,oL 4 9 8,oW 5 10 9,oB 6 11 .lss 5 10]
@[go_sem] theorem qp4:OE qEE.eq_1:=OEM qEE.eq_1
def qEF:List qB:=[oM 0 14 3,oM 1 15 0,oK 2 16 15,oF 3 17 3 16,oL 4 18 17,oM 5 19 4,oA 6 20 4 18 19,oD1 7 21 1504 20,oB 8 22 .add 14 21,oM 9 3 22]
@[go_sem] theorem qp5:OE qEF.eq_1:=OEM qEF.eq_1
def qED:qH:=.seq (.reg true [oC 0 4 0]) (.blk 0 (.loop (.seq (.seq (.reg true qEE) (.cond (.t 11) (.skip) (.exit 0))) (.seq (.blk 1 (.reg true qEF)) (.reg true [oM 0 12 4,oE 1 13 .add 12 1,oM 2 4 13])))))
@[go_sem] theorem qp3:CE qED.eq_1:=CEM qED.eq_1
def XL:qJ:=⟨1,24,[.t 2],.seq (.reg true [oC 0 2 0]) (.seq (.reg true [oC 0 3 1]) (.seq qED (.seq (.reg true [oM 0 23 3,oM 1 2 23]) (.ret))))⟩
def qEI:List qB:=[oM 0 5 4,oM 1 6 0,oK 2 7 6,oF 3 8 3 7,oL 4 9 8,oW 5 10 9,oB 6 11 .lss 5 10]
@[go_sem] theorem qp8:OE qEI.eq_1:=OEM qEI.eq_1
def qEJ:List qB:=[oM 0 14 3,oM 1 15 0,oK 2 16 15,oF 3 17 3 16,oL 4 18 17,oM 5 19 4,oA 6 20 4 18 19,oD1 7 21 1505 20,oD2 8 22 856 14 21,oM 9 3 22]
@[go_sem] theorem qp9:OE qEJ.eq_1:=OEM qEJ.eq_1
def qEG:qH:=.seq (.reg true [oC 0 4 0]) (.blk 0 (.loop (.seq (.seq (.reg true qEI) (.cond (.t 11) (.skip) (.exit 0))) (.seq (.blk 1 (.reg true qEJ)) (.reg true [oM 0 12 4,oE 1 13 .add 12 1,oM 2 4 13])))))
@[go_sem] theorem qp6:CE qEG.eq_1:=CEM qEG.eq_1
def qEK:List qB:=[oM 0 23 0,oK 1 24 23,oF 2 25 0 24,oL 3 26 25,oE 4 27 .eql 26 6]
@[go_sem] theorem qqA:OE qEK.eq_1:=OEM qEK.eq_1
def qEH:qH:=.seq (.reg true [oC 0 3 0]) (.seq qEG (.seq (.seq (.reg true qEK) (.cond (.t 27) (.reg true [oM 0 28 3,oE 1 29 .add 28 1,oM 2 3 29]) (.skip))) (.seq (.reg true [oM 0 30 3,oM 1 2 30]) (.ret))))
@[go_sem] theorem qp7:CE qEH.eq_1:=CEM qEH.eq_1
def XM:qJ:=⟨1,31,[.t 2],.seq (.reg true [oC 0 2 0]) qEH⟩
def qDI:List qB:=[oM 0 9 1,oK 1 10 9,oF 2 11 3 10,oL 3 12 11,oP 4 13 (.iaddr 4 (.t 12) (.c (.int .i64 0))),oF 5 14 0 13,oL 6 15 14,oE 7 16 .neq 15 11]
@[go_sem] theorem qo8:OE qDI.eq_1:=OEM qDI.eq_1
def qDJ:List qB:=[oM 0 17 1,oK 1 18 17,oF 2 19 3 18,oL 3 20 19,oP 4 21 (.iaddr 4 (.t 20) (.c (.int .i64 0))),oF 5 22 1 21,oL 6 23 22,oM 7 7 23]
@[go_sem] theorem qo9:OE qDJ.eq_1:=OEM qDJ.eq_1
def qDK:List qB:=[oM 0 24 0,oK 1 25 24,oF 2 26 0 25,oL 3 27 26,oK 4 28 27,oF 5 29 0 28,oL 6 30 29,oM 7 31 7,oA 8 32 4 30 31,oM 9 8 32]
@[go_sem] theorem qpA:OE qDK.eq_1:=OEM qDK.eq_1
def qDL:List qB:=[oM 0 33 8,oK 1 34 33,oF 2 35 0 34,oL 3 36 35,oE 4 37 .eql 36 4,oM 5 38 37,oH 6 39 38 true 0,oG 7 40 38 true (.nilchk (.t 39)),oG 8 41 38 true (.faddr 1 (.t 40)),oG 9 42 38 true (.load none (.t 41)),oH 10 43 38 true 7,oG 11 44 38 true (.call 1026 [.t 42,.t 43]),oG 12 45 38 true (.not (.t 44)),oPf 13 46 38 45,oM 14 47 46,oH 15 48 47 true 8,oH 17 50 47 true 0,oG 18 51 47 true (.nilchk (.t 50)),oG 19 52 47 true (.faddr 2 (.t 51)),oG 20 53 47 true (.load none (.t 52)),⟨16,some 49,(some (47,true)),.call 1504 [.t 48],[⟨20,some 53,(some (47,true)),.load none (.t 52),[]⟩]⟩,oG 21 54 47 true (.bin .leq (.t 49) (.t 53)),oPf 22 55 47 54,oM 23 56 55,oH 24 57 56 true 2,oH 25 58 56 true 8,oG 26 59 56 true (.call 1505 [.t 58]),oG 27 60 56 true (.bin .add (.t 57) (.t 59)),oG 28 61 56 true (.bin .leq (.t 60) (.c (.int .i64 8))),oPf 29 62 56 61,oM 30 6 62]
@[go_sem] theorem qpB:OE qDL.eq_1:=OEM qDL.eq_1
def XD:qJ:=⟨3,63,[.t 6],.seq (.reg true [oQ 0 6 false]) (.seq (.seq (.reg true qDI) (.cond (.t 16) (.seq (.reg true [oQ 0 6 false]) (.ret)) (.skip))) (.seq (.reg true qDJ) (.seq (.reg true qDK) (.seq (.reg true qDL) (.ret)))))⟩
def qDN:List qB:=[oM 0 10 1,oK 1 11 10,oF 2 12 3 11,oL 3 13 12,oP 4 14 (.iaddr 4 (.t 13) (.c (.int .i64 0))),oM 5 8 14]
@[go_sem] theorem qpD:OE qDN.eq_1:=OEM qDN.eq_1
def qDO:List qB:=[oM 0 15 1,oK 1 16 15,oF 2 17 3 16,oL 3 18 17,oP 4 19 (.iaddr 4 (.t 18) (.c (.int .i64 1))),oM 5 20 2,oP 6 21 (.call 990 [.t 19,.c (.int .i64 0),.t 20,.c (.nils)]),oM 7 9 21]
@[go_sem] theorem qpE:OE qDO.eq_1:=OEM qDO.eq_1
def qDP:List qB:=[oM 0 23 9,oW 1 24 23,oE 2 25 .eql 24 0,oM 3 26 25,oH 4 27 26 false 8,oG 5 28 26 false (.nilchk (.t 27)),oG 6 29 26 false (.faddr 0 (.t 28)),oG 7 30 26 false (.load none (.t 29)),oG 8 31 26 false (.bin .eql (.t 30) (.c (.int .i64 2))),oPt 9 32 26 31,oM 10 22 32]
@[go_sem] theorem qpF:OE qDP.eq_1:=OEM qDP.eq_1
def qDQ:List qB:=[oM 0 33 8,oK 1 34 33,oP 2 35 (.load (some 4) (.t 34)),oS 3 6 0 4 35,oC 4 7 0]
@[go_sem] theorem qpG:OE qDQ.eq_1:=OEM qDQ.eq_1
def qDR:List qB:=[oM 0 37 8,oK 1 38 37,oF 2 39 0 38,oL 3 40 39,oE 4 41 .eql 40 6,oM 5 42 41,oH 6 43 42 true 8,oG 7 44 42 true (.nilchk (.t 43)),oG 8 45 42 true (.faddr 3 (.t 44)),oG 9 46 42 true (.load none (.t 45)),oG 10 47 42 true (.iaddr 4 (.t 46) (.c (.int .i64 0))),oG 11 48 42 true (.faddr 0 (.t 47)),oG 12 49 42 true (.load none (.t 48)),oG 13 50 42 true (.bin .eql (.t 49) (.c (.int .i64 2))),oPf 14 51 42 50,oM 15 36 51]
@[go_sem] theorem qpH:OE qDR.eq_1:=OEM qDR.eq_1
def qDS:List qB:=[oM 0 52 8,oK 1 53 52,oF 2 54 3 53,oL 3 55 54,oP 4 56 (.iaddr 4 (.t 55) (.c (.int .i64 0))),oP 5 57 (.load (some 4) (.t 56)),oS 6 6 0 4 57,oC 7 7 0]
@[go_sem] theorem qpI:OE qDS.eq_1:=OEM qDS.eq_1
def qDT:List qB:=[oM 0 59 9,oW 1 60 59,oE 2 61 .eql 60 1,oM 3 62 61,oH 4 63 62 true 9,oG 5 64 62 true (.iaddr 1 (.t 63) (.c (.int .i64 0))),oG 6 65 62 true (.load none (.t 64)),oH 7 66 62 true 2,oG 8 67 62 true (.bin .eql (.t 65) (.t 66)),oPf 9 68 62 67,oM 10 58 68]
@[go_sem] theorem qpJ:OE qDT.eq_1:=OEM qDT.eq_1
def qDU:List qB:=[oM 0 69 8,oK 1 70 69,oP 2 71 (.load (some 4) (.t 70)),oS 3 6 0 4 71,oC 4 7 0]
@[go_sem] theorem qpK:OE qDU.eq_1:=OEM qDU.eq_1
def qDV:List qB:=[oM 0 73 9,oW 1 74 73,oE 2 75 .eql 74 1,oM 3 76 75,oH 4 77 76 true 8,oG 5 78 76 true (.nilchk (.t 77)),oG 6 79 76 true (.faddr 0 (.t 78)),oG 7 80 76 true (.load none (.t 79)),oG 8 81 76 true (.bin .eql (.t 80) (.c (.int .i64 6))),oPf 9 82 76 81,oM 10 72 82]
@[go_sem] theorem qpL:OE qDV.eq_1:=OEM qDV.eq_1
def qDW:List qB:=[oM 0 83 8,oK 1 84 83,oF 2 85 3 84,oL 3 86 85,oP 4 87 (.iaddr 4 (.t 86) (.c (.int .i64 0))),oP 5 88 (.load (some 4) (.t 87)),oS 6 6 0 4 88,oC 7 7 0]
@[go_sem] theorem qpM:OE qDW.eq_1:=OEM qDW.eq_1
def qDM:qH:=.seq (.blk 0 (.seq (.reg true qDP) (.cond (.t 22) (.seq (.reg true qDQ) (.ret)) (.seq (.reg true qDR) (.cond (.t 36) (.seq (.reg true qDS) (.ret)) (.seq (.reg true qDT) (.cond (.t 58) (.seq (.reg true qDU) (.ret)) (.seq (.reg true qDV) (.cond (.t 72) (.seq (.reg true qDW) (.ret)) (.skip)))))))))) (.seq (.reg true [oP 0 89 (.build (.agg [.int .i64 0,.int .i64 0,.nils,.nils]) []),oS 1 6 0 4 89,oC 2 7 3]) (.ret))
@[go_sem] theorem qpC:CE qDM.eq_1:=CEM qDM.eq_1
def XE:qJ:=⟨3,90,[.l 6 (some 4),.t 7],.seq (.reg true [oZ 0 6,oC 1 7 0]) (.seq (.reg true qDN) (.seq (.reg true qDO) qDM))⟩
def kJ:List qB:=[oM 0 15 1,oK 1 16 15,oF 2 17 0 16,oL 3 18 17]
@[go_sem] theorem qk3:OE kJ.eq_1:=OEM kJ.eq_1
def kK:List qB:=[oM 0 21 1,oK 1 22 21,oF 2 23 3 22,oL 3 24 23,oP 4 25 (.iaddr 4 (.t 24) (.c (.int .i64 0))),oF 5 26 0 25,oL 6 27 26,oE 7 28 .eql 27 2,oM 8 29 28,oH 9 30 29 true 1,oG 10 31 29 true (.nilchk (.t 30)),oG 11 32 29 true (.faddr 3 (.t 31)),oG 12 33 29 true (.load none (.t 32)),oG 13 34 29 true (.iaddr 4 (.t 33) (.c (.int .i64 1))),oG 14 35 29 true (.faddr 0 (.t 34)),oG 15 36 29 true (.load none (.t 35)),oG 16 37 29 true (.bin .eql (.t 36) (.c (.int .i64 2))),oPf 17 38 29 37]
@[go_sem] theorem qk7:OE kK.eq_1:=OEM kK.eq_1
def kO:List qB:=[oM 0 39 1,oK 1 40 39,oF 2 41 1 40,oL 3 42 41,oM 4 43 1,oK 5 44 43,oF 6 45 3 44,oL 7 46 45,oP 8 47 (.iaddr 4 (.t 46) (.c (.int .i64 0))),oF 9 48 1 47,oL 10 49 48,oM 11 50 1,oK 12 51 50,oF 13 52 3 51,oL 14 53 52,oP 15 54 (.iaddr 4 (.t 53) (.c (.int .i64 1))),oF 16 55 1 54,oL 17 56 55,oP 18 57 (.call 762 [.t 42,.t 49,.t 56]),oD1 19 58 381 57,oS 20 6 0 4 58,oC 21 7 1,oC 22 8 0]
@[go_sem] theorem qk8:OE kO.eq_1:=OEM kO.eq_1
def kP:List qB:=[oM 0 65 1,oM 1 66 1,oK 2 67 66,oF 3 68 3 67,oL 4 69 68,oP 5 70 (.iaddr 4 (.t 69) (.c (.int .i64 0))),oF 6 71 3 70,oL 7 72 71,oD2 8 73 763 65 72,oS 9 6 0 4 73,oC 10 7 2,oC 11 8 0]
@[go_sem] theorem qk9:OE kP.eq_1:=OEM kP.eq_1
def kQ:List qB:=[oM 0 76 1,oK 1 77 76,oF 2 78 3 77,oL 3 79 78,oP 4 80 (.iaddr 4 (.t 79) (.c (.int .i64 0))),oF 5 81 0 80,oL 6 82 81,oE 7 83 .eql 82 4]
@[go_sem] theorem qlA:OE kQ.eq_1:=OEM kQ.eq_1
def kR:List qB:=[oM 0 85 1,oK 1 86 85,oF 2 87 3 86,oL 3 88 87,oP 4 89 (.iaddr 4 (.t 88) (.c (.int .i64 0))),oF 5 90 3 89,oL 6 91 90,oP 7 92 (.iaddr 4 (.t 91) (.c (.int .i64 0))),oM 8 93 1,oK 9 94 93,oF 10 95 3 94,oL 11 96 95,oP 12 97 (.iaddr 4 (.t 96) (.c (.int .i64 1))),oZ 17 9,oD2 13 98 761 92 97,oM 14 84 98,oV 15 99 84 0,oV 16 100 84 1,oS 18 9 0 4 99,oM 19 10 100]
@[go_sem] theorem qlB:OE kR.eq_1:=OEM kR.eq_1
def kS:List qB:=[oY 0 101 9 0 4,oM 1 102 10,oS 2 6 0 4 101,oC 3 7 3,oM 4 8 102]
@[go_sem] theorem qlC:OE kS.eq_1:=OEM kS.eq_1
def kT:List qB:=[oM 0 103 0,oM 1 104 1,oM 2 105 2,oP 3 106 (.call 1408 [.t 103,.t 104,.t 105])]
@[go_sem] theorem qlD:OE kT.eq_1:=OEM kT.eq_1
def kU:List qB:=[oM 0 107 0,oK 1 108 107,oF 2 109 0 108,oL 3 110 109,oK 4 111 110,oF 5 112 0 111,oL 6 113 112,oM 7 114 1,oK 8 115 114,oF 9 116 3 115,oL 10 117 116,oP 11 118 (.iaddr 4 (.t 117) (.c (.int .i64 0))),oF 12 119 1 118,oL 13 120 119,oA 14 121 4 113 120,oP 15 122 (.load (some 4) (.t 121)),oM 16 123 1,oK 17 124 123,oF 18 125 3 124,oL 19 126 125,oP 20 127 (.iaddr 4 (.t 126) (.c (.int .i64 1))),oP 21 128 (.load (some 4) (.t 127)),oD2 22 129 1117 122 128,oS 23 6 0 4 129,oC 24 7 5,oC 25 8 0]
@[go_sem] theorem qlE:OE kU.eq_1:=OEM kU.eq_1
def kV:List qB:=[oM 0 133 0,oM 1 134 1,oM 2 135 2,oP 3 136 (.call 1409 [.t 133,.t 134,.t 135]),oM 4 132 136,oV 5 137 132 0,oV 6 138 132 1,oP 7 11 (.halloc 4 (.agg [.int .i64 0,.int .i64 0,.nils,.nils])),oT 8 4 11 137,oM 9 12 138]
@[go_sem] theorem qlF:OE kV.eq_1:=OEM kV.eq_1
def kL:List qB:=[oM 0 142 1,oK 1 143 142,oF 2 144 3 143,oL 3 145 144,oP 4 146 (.iaddr 4 (.t 145) (.c (.int .i64 1))),oD2 5 147 761 146 11,oM 6 141 147,oV 7 148 141 0,oV 8 149 141 1,oZ 9 13,oS 10 13 0 4 148,oM 11 14 149]
@[go_sem] theorem qk4:OE kL.eq_1:=OEM kL.eq_1
def kM:List qB:=[oY 0 150 13 0 4,oM 1 151 14,oS 2 6 0 4 150,oC 3 7 4,oM 4 8 151]
@[go_sem] theorem qk5:OE kM.eq_1:=OEM kM.eq_1
def kG:qH:=.seq (.reg true [oE 0 131 .eql 18 7,oM 1 130 131]) (.cond (.t 130) (.seq (.reg true kV) (.seq (.reg true [oM 0 139 12,oE 1 140 .eql 139 0]) (.cond (.t 140) (.seq (.reg true kL) (.seq (.reg true kM) (.ret))) (.skip)))) (.skip))
@[go_sem] theorem qk0:CE kG.eq_1:=CEM kG.eq_1
def kH:qH:=.cond (.t 59) (.seq (.reg true [oM 0 62 1,oD1 1 63 760 62,oE 2 64 .eql 63 3]) (.cond (.t 64) (.seq (.reg true kP) (.ret)) (.skip))) (.seq (.reg true [oE 0 75 .eql 18 5,oM 1 74 75]) (.cond (.t 74) (.seq (.seq (.reg true kQ) (.cond (.t 83) (.seq (.reg true kR) (.seq (.reg true kS) (.ret))) (.skip))) (.seq (.reg true kT) (.cond (.t 106) (.seq (.reg true kU) (.ret)) (.skip)))) kG))
@[go_sem] theorem qk1:CE kH.eq_1:=CEM kH.eq_1
def kI:qH:=.seq (.reg true [oE 0 20 .eql 18 3,oM 1 19 20]) (.cond (.t 19) (.seq (.reg true kK) (.cond (.t 38) (.seq (.reg true kO) (.ret)) (.skip))) (.seq (.seq (.reg true [oE 0 60 .eql 18 10,oM 1 59 60]) (.cond (.t 59) (.skip) (.reg true [oE 0 61 .eql 18 9,oM 1 59 61]))) kH))
@[go_sem] theorem qk2:CE kI.eq_1:=CEM kI.eq_1
def kN:List qB:=[oP 0 152 (.build (.agg [.int .i64 0,.int .i64 0,.nils,.nils]) []),oS 1 6 0 4 152,oC 2 7 0,oC 3 8 0]
@[go_sem] theorem qk6:OE kN.eq_1:=OEM kN.eq_1
def Wl:qJ:=⟨3,153,[.l 6 (some 4),.t 7,.t 8],.seq (.reg true [oZ 0 6,oC 1 7 0,oC 2 8 0]) (.seq (.seq (.reg true kJ) (.blk 0 kI)) (.seq (.reg true kN) (.ret)))⟩
def qLH:List qB:=[oM 0 18 0,oM 1 19 1,oM 2 20 2,oP 3 21 (.call 1163 [.t 18,.t 19,.t 20]),oM 4 17 21,oV 5 22 17 0,oV 6 23 17 1,oV 7 24 17 2,oZ 8 9,oS 9 9 0 4 22,oM 10 10 23,oM 11 11 24]
@[go_sem] theorem qw7:OE qLH.eq_1:=OEM qLH.eq_1
def qLI:List qB:=[oY 0 27 9 0 4,oM 1 28 10,oM 2 29 11,oS 3 6 0 4 27,oM 4 7 28,oM 5 8 29]
@[go_sem] theorem qw8:OE qLI.eq_1:=OEM qLI.eq_1
def qLJ:List qB:=[oM 0 30 1,oK 1 31 30,oF 2 32 0 31,oL 3 33 32,oE 4 34 .eql 33 6]
@[go_sem] theorem qw9:OE qLJ.eq_1:=OEM qLJ.eq_1
def qLK:List qB:=[oM 0 37 12,oM 1 38 1,oK 2 39 38,oF 3 40 3 39,oL 4 41 40,oW 5 42 41,oB 6 43 .lss 37 42]
@[go_sem] theorem qxA:OE qLK.eq_1:=OEM qLK.eq_1
def qLL:List qB:=[oM 0 47 0,oM 1 48 1,oK 2 49 48,oF 3 50 3 49,oL 4 51 50,oM 5 52 12,oA 6 53 4 51 52,oM 7 54 2,oP 8 55 (.call 836 [.t 47,.t 53,.t 54]),oM 9 46 55,oV 10 56 46 0,oV 11 57 46 1,oV 12 58 46 2,oZ 13 13,oS 14 13 0 4 56,oM 15 14 57,oM 16 15 58]
@[go_sem] theorem qxB:OE qLL.eq_1:=OEM qLL.eq_1
def qLM:List qB:=[oM 0 61 1,oK 1 62 61,oF 2 63 0 62,oL 3 64 63,oM 4 65 1,oK 5 66 65,oF 6 67 1 66,oL 7 68 67,oM 8 69 1,oK 9 70 69,oF 10 71 2 70,oL 11 72 71,oP 12 73 (.mov (.c (.lst 4 [] true))),oM 13 74 1,oK 14 75 74,oF 15 76 3 75,oL 16 77 76,oZ 19 16,⟨17,some 78,none,.app 4 (.t 73) (.t 77),[⟨3,some 64,none,.load none (.t 63),[]⟩,⟨7,some 68,none,.load none (.t 67),[]⟩,⟨11,some 72,none,.load none (.t 71),[]⟩]⟩,oP 18 79 (.build (.agg [.int .i64 0,.int .i64 0,.nils,.nils]) [(0,1,.t 64),(1,1,.t 68),(2,1,.t 72),(3,1,.t 78)]),oS 20 16 0 4 79]
@[go_sem] theorem qxC:OE qLM.eq_1:=OEM qLM.eq_1
def qLN:List qB:=[oU 0 80 16,oX 1 81 16 3,oM 2 82 12,oY 3 83 13 0 4,oA 4 84 4 81 82,oT 5 4 84 83]
@[go_sem] theorem qxD:OE qLN.eq_1:=OEM qLN.eq_1
def qLO:List qB:=[oY 0 85 16 0 4,oM 1 86 14,oM 2 87 15,oS 3 6 0 4 85,oM 4 7 86,oM 5 8 87]
@[go_sem] theorem qxE:OE qLO.eq_1:=OEM qLO.eq_1
def qLG:qH:=.seq (.blk 1 (.seq (.reg true qLL) (.seq (.seq (.reg true [oM 0 59 14,oE 1 60 .eql 59 0]) (.cond (.t 60) (.exit 1) (.skip))) (.seq (.reg true qLM) (.seq (.reg true qLN) (.seq (.reg true qLO) (.ret))))))) (.reg true [oM 0 44 12,oE 1 45 .add 44 1,oM 2 12 45])
@[go_sem] theorem qw6:CE qLG.eq_1:=CEM qLG.eq_1
def qLP:List qB:=[oP 0 88 (.build (.agg [.int .i64 0,.int .i64 0,.nils,.nils]) []),oS 1 6 0 4 88,oC 2 7 0,oC 3 8 0]
@[go_sem] theorem qxF:OE qLP.eq_1:=OEM qLP.eq_1
def qLF:qH:=.seq (.seq (.reg true qLJ) (.cond (.t 34) (.reg true [oM 0 35 2,oE 1 36 .add 35 1,oM 2 2 36]) (.skip))) (.seq (.seq (.reg true [oC 0 12 0]) (.blk 0 (.loop (.seq (.seq (.reg true qLK) (.cond (.t 43) (.skip) (.exit 0))) qLG)))) (.seq (.reg true qLP) (.ret)))
@[go_sem] theorem qw5:CE qLF.eq_1:=CEM qLF.eq_1
def YA:qJ:=⟨3,89,[.l 6 (some 4),.t 7,.t 8],.seq (.reg true [oZ 0 6,oC 1 7 0,oC 2 8 0]) (.seq (.reg true qLH) (.seq (.seq (.reg true [oM 0 25 10,oE 1 26 .neq 25 0]) (.cond (.t 26) (.seq (.reg true qLI) (.ret)) (.skip))) qLF))⟩
def qGQ:List qB:=[oM 0 11 0,oM 1 12 1,oP 2 13 (.call 836 [.t 11,.t 12,.c (.int .i64 0)]),oM 3 10 13,oV 4 14 10 0,oV 5 15 10 1,oV 6 16 10 2,oP 7 7 (.halloc 4 (.agg [.int .i64 0,.int .i64 0,.nils,.nils])),oT 8 4 7 14,oM 9 8 15,oM 10 9 16]
@[go_sem] theorem qsG:OE qGQ.eq_1:=OEM qGQ.eq_1
def qGR:List qB:=[oM 0 17 8,oE 1 18 .neq 17 0,oM 2 19 18,oH 3 20 19 true 9,oG 4 21 19 true (.bin .eql (.t 20) (.c (.int .i64 0))),oPf 5 22 19 21,oM 6 23 22,oG 7 24 23 true (.call 765 [.t 7]),oG 8 25 23 true (.not (.t 24)),oPf 9 26 23 25]
@[go_sem] theorem qsH:OE qGR.eq_1:=OEM qGR.eq_1
def qGS:List qB:=[oP 0 27 (.load (some 4) (.t 7)),oM 1 28 8,oM 2 29 9,oS 3 4 0 4 27,oM 4 5 28,oM 5 6 29]
@[go_sem] theorem qsI:OE qGS.eq_1:=OEM qGS.eq_1
def Xb:qJ:=⟨2,30,[.l 4 (some 4),.t 5,.t 6],.seq (.reg true [oZ 0 4,oC 1 5 0,oC 2 6 0]) (.seq (.reg true qGQ) (.seq (.seq (.reg true qGR) (.cond (.t 26) (.reg true [oC 0 9 4]) (.skip))) (.seq (.reg true qGS) (.ret))))⟩
def qGI:List qB:=[oP 0 5 (.mov (.c (.lst 1 [] true))),oM 1 6 0,oP 2 7 (.app 1 (.t 5) (.t 6)),oM 3 2 7]
@[go_sem] theorem qr8:OE qGI.eq_1:=OEM qGI.eq_1
def F401:qJ:=⟨1,8,[.t 2],.seq (.reg true [oP 0 2 (.mov (.c (.nils)))]) (.seq (.seq (.reg true [oM 0 3 0,oP 1 4 (.isnil 1 false (.t 3))]) (.cond (.t 4) (.seq (.reg true [oP 0 2 (.mov (.c (.nils)))]) (.ret)) (.skip))) (.seq (.reg true qGI) (.ret)))⟩
def qGC:List qB:=[oU 0 6 1,oX 1 7 1 0,oU 2 8 1,oX 3 9 1 1,oU 4 10 1,oX 5 11 1 2,oZ 8 3,oD1 6 12 401 11,oP 7 13 (.build (.agg [.int .i64 0,.int .i64 0,.nils,.nils]) [(0,1,.t 7),(1,1,.t 9),(2,1,.t 12)]),oS 9 3 0 4 13]
@[go_sem] theorem qr2:OE qGC.eq_1:=OEM qGC.eq_1
def qGD:List qB:=[oU 0 14 1,oX 1 15 1 3,oW 2 16 15,oC 3 17 0]
@[go_sem] theorem qr3:OE qGD.eq_1:=OEM qGD.eq_1
def qGE:List qB:=[oA 0 19 4 15 17,oP 1 20 (.load (some 4) (.t 19)),oZ 2 5,oS 3 5 0 4 20]
@[go_sem] theorem qr4:OE qGE.eq_1:=OEM qGE.eq_1
def qGF:List qB:=[oU 0 21 3,oX 1 22 3 3,oY 2 23 5 0 4,oD1 3 24 385 23,oP 4 25 (.bslice 4 (.agg [.int .i64 0,.int .i64 0,.nils,.nils]) 1 [(0,.t 24)]),oP 5 26 (.app 4 (.t 22) (.t 25)),oU 6 27 3,oS 7 3 3 1 26]
@[go_sem] theorem qr5:OE qGF.eq_1:=OEM qGF.eq_1
def qGB:qH:=.loop (.seq (.reg true [oB 0 18 .lss 17 16]) (.seq (.cond (.t 18) (.skip) (.exit 0)) (.seq (.blk 1 (.seq (.reg true qGE) (.reg true qGF))) (.reg true [oE 0 28 .add 17 1,oM 1 17 28]))))
@[go_sem] theorem qr1:CE qGB.eq_1:=CEM qGB.eq_1
def XV:qJ:=⟨1,30,[.l 2 (some 4)],.seq (.reg true [oP 0 1 (.lbox 4 (.t 0)),oZ 1 2]) (.seq (.reg true qGC) (.seq (.seq (.reg true qGD) (.blk 0 qGB)) (.seq (.reg true [oY 0 29 3 0 4,oS 1 2 0 4 29]) (.ret))))⟩
def F774:qJ:=Zi 1 none
def F397:qJ:=QX 774
def qKW:List qB:=[oM 0 4 0,oE 1 5 .lss 4 0,oM 2 6 5,oH 3 7 6 false 0,oG 4 8 6 false (.load none (.t 1)),oG 5 9 6 false (.bin .gtr (.t 7) (.t 8)),oPt 6 10 6 9,oM 7 3 10]
@[go_sem] theorem qwM:OE qKW.eq_1:=OEM qKW.eq_1
def X7:qJ:=⟨2,11,[.t 3],.seq (.reg true [oQ 0 3 false]) (.seq (.reg true qKW) (.ret))⟩
def qGK:List qB:=[oM 0 5 1,oP 1 6 (.mkfn 801 [.t 2]),oD2 2 7 397 5 6,oJ 3 8 7,oM 4 4 8]
@[go_sem] theorem qsA:OE qGK.eq_1:=OEM qGK.eq_1
def XY:qJ:=⟨2,9,[.t 4],.seq (.reg true [oP 0 2 (.hbox 1 (.t 0)),oQ 1 4 false]) (.seq (.reg true qGK) (.ret))⟩
def F958:qJ:=Zi 4 (some 4)
def F581:qJ:=QX 958
def qIF:List qB:=[oU 0 8 1,oX 1 9 1 3,oW 2 10 9,oC 3 11 0]
@[go_sem] theorem qt5:OE qIF.eq_1:=OEM qIF.eq_1
def qIG:List qB:=[oA 0 13 4 9 11,oP 1 14 (.load (some 4) (.t 13)),oZ 2 5,oS 3 5 0 4 14]
@[go_sem] theorem qt6:OE qIG.eq_1:=OEM qIG.eq_1
def qIH:List qB:=[oY 0 16 5 0 4,oD1 1 17 665 16,oM 2 15 17,oV 3 18 15 0,oV 4 19 15 1,oM 5 6 18,oM 6 7 19]
@[go_sem] theorem qt7:OE qIH.eq_1:=OEM qIH.eq_1
def qII:List qB:=[oM 0 20 2,oM 1 21 6,oE 2 22 .add 21 1,oP 3 23 (.max (.t 20) (.t 22)),oM 4 24 3,oM 5 25 7,oB 6 26 .add 24 25,oM 7 2 23,oM 8 3 26]
@[go_sem] theorem qt8:OE qII.eq_1:=OEM qII.eq_1
def qIE:qH:=.loop (.seq (.reg true [oB 0 12 .lss 11 10]) (.seq (.cond (.t 12) (.skip) (.exit 0)) (.seq (.blk 1 (.seq (.reg true qIG) (.seq (.reg true qIH) (.reg true qII)))) (.reg true [oE 0 27 .add 11 1,oM 1 11 27]))))
@[go_sem] theorem qt4:CE qIE.eq_1:=CEM qIE.eq_1
def qIJ:List qB:=[oM 0 28 2,oM 1 29 3,oM 2 2 28,oM 3 3 29]
@[go_sem] theorem qt9:OE qIJ.eq_1:=OEM qIJ.eq_1
def Xt:qJ:=⟨1,30,[.t 2,.t 3],.seq (.reg true [oP 0 1 (.lbox 4 (.t 0)),oC 1 2 0,oC 2 3 0]) (.seq (.reg true [oC 0 2 1,oC 1 3 1]) (.seq (.seq (.reg true qIF) (.blk 0 qIE)) (.seq (.reg true qIJ) (.ret))))⟩
def qG9:List qB:=[oY 0 6 1 0 4,oD1 1 7 665 6,oM 2 5 7,oV 3 8 5 0,oV 4 9 5 1,oM 5 3 8,oM 6 4 9]
@[go_sem] theorem qsZ:OE qG9.eq_1:=OEM qG9.eq_1
def qHA:List qB:=[oM 0 10 3,oE 1 11 .leq 10 80,oM 2 12 11,oH 3 13 12 true 4,oG 4 14 12 true (.bin .leq (.t 13) (.c (.int .i64 400))),oPf 5 15 12 14,oM 6 2 15]
@[go_sem] theorem qs0:OE qHA.eq_1:=OEM qHA.eq_1
def Xe:qJ:=⟨1,16,[.t 2],.seq (.reg true [oP 0 1 (.lbox 4 (.t 0)),oQ 1 2 false]) (.seq (.reg true qG9) (.seq (.reg true qHA) (.ret)))⟩
def qKT:List qB:=[oM 0 3 0,oE 1 4 .geq 3 0,oM 2 5 4,oH 3 6 5 true 0,oG 4 7 5 true (.bin .lss (.t 6) (.c (.int .i64 24))),oPf 5 8 5 7,oM 6 2 8]
@[go_sem] theorem qwJ:OE qKT.eq_1:=OEM qKT.eq_1
def X6:qJ:=⟨1,9,[.t 2],.seq (.reg true [oQ 0 2 false]) (.seq (.reg true qKT) (.ret))⟩
def Ut:List qB:=[oM 0 3 0,oE 1 4 .geq 3 1,oM 2 5 4,oH 3 6 5 true 0,oG 4 7 5 true (.bin .leq (.t 6) (.c (.int .i64 6))),oPf 5 8 5 7,oM 6 2 8]
@[go_sem] theorem qiM:OE Ut.eq_1:=OEM Ut.eq_1
def WR:qJ:=⟨1,9,[.t 2],.seq (.reg true [oQ 0 2 false]) (.seq (.reg true Ut) (.ret))⟩
def Uu:List qB:=[oM 0 3 0,oP 1 4 (.bin .geq (.t 3) (.c (.int .i64 (-2147483648)))),oM 2 5 4,oH 3 6 5 true 0,oG 4 7 5 true (.bin .leq (.t 6) (.c (.int .i64 2147483647))),oPf 5 8 5 7,oM 6 2 8]
@[go_sem] theorem qiN:OE Uu.eq_1:=OEM Uu.eq_1
def WS:qJ:=⟨1,9,[.t 2],.seq (.reg true [oQ 0 2 false]) (.seq (.reg true Uu) (.ret))⟩
def qC9:List qB:=[oM 0 3 0,oD1 1 4 796 3,oJ 2 5 4,oM 3 2 5]
@[go_sem] theorem qoZ:OE qC9.eq_1:=OEM qC9.eq_1
def XB:qJ:=⟨1,6,[.t 2],.seq (.reg true [oQ 0 2 false]) (.seq (.reg true qC9) (.ret))⟩
def K1:List qB:=[oU 0 7 1,oX 1 8 1 3,oW 2 9 8,oM 3 3 9]
@[go_sem] theorem qkL:OE K1.eq_1:=OEM K1.eq_1
def K2:List qB:=[oU 0 10 1,oX 1 11 1 2,oW 2 12 11,oE 3 13 .eql 12 0,oQ 4 4 true,oM 5 5 13]
@[go_sem] theorem qkO:OE K2.eq_1:=OEM K2.eq_1
def K5:List qB:=[oU 0 18 1,oX 1 19 1 1,oE 2 20 .geq 19 0,oM 3 21 20,oG 4 22 21 true (.nop 1),oG 5 23 21 true (.lload 1 1 none),oG 6 24 21 true (.bin .leq (.t 23) (.c (.int .i64 255))),oPf 7 25 21 24,oM 8 4 25]
@[go_sem] theorem qkP:OE K5.eq_1:=OEM K5.eq_1
def K6:List qB:=[oU 0 28 1,oX 1 29 1 1,oD1 2 30 1051 29,oM 3 4 30]
@[go_sem] theorem qkQ:OE K6.eq_1:=OEM K6.eq_1
def K7:List qB:=[oU 0 33 1,oX 1 34 1 1,oD1 2 35 1050 34,oM 3 4 35,oC 4 6 2]
@[go_sem] theorem qkR:OE K7.eq_1:=OEM K7.eq_1
def K8:List qB:=[oU 0 39 1,oX 1 40 1 1,oE 2 41 .eql 40 0,oM 3 4 41,oC 4 6 1]
@[go_sem] theorem qkS:OE K8.eq_1:=OEM K8.eq_1
def K9:List qB:=[oU 0 45 1,oX 1 46 1 1,oE 2 47 .eql 46 0,oM 3 4 47,oC 4 6 2]
@[go_sem] theorem qkT:OE K9.eq_1:=OEM K9.eq_1
def kA:List qB:=[oM 0 50 5,oM 1 51 50,oG 2 52 51 true (.nop 1),oG 3 53 51 true (.lload 1 1 none),oG 4 54 51 true (.bin .geq (.t 53) (.c (.int .i64 0))),oPf 5 55 51 54,oM 6 56 55,oG 7 57 56 true (.nop 1),oG 8 58 56 true (.lload 1 1 none),oG 9 59 56 true (.bin .lss (.t 58) (.c (.int .i64 4))),oPf 10 60 56 59,oM 11 61 60,oH 12 62 61 true 3,oG 13 63 61 true (.bin .leq (.t 62) (.c (.int .i64 3))),oPf 14 64 61 63,oM 15 2 64]
@[go_sem] theorem qkU:OE kA.eq_1:=OEM kA.eq_1
def kB:List qB:=[oU 0 67 1,oX 1 68 1 1,oE 2 69 .eql 68 0,oU 3 70 1,oX 4 71 1 2,oW 5 72 71,oE 6 73 .geq 72 1,oM 7 74 73,oG 8 75 74 true (.nop 1),oG 9 76 74 true (.lload 1 2 none),oG 10 77 74 true (.len (.t 76)),oG 11 78 74 true (.bin .leq (.t 77) (.c (.int .i64 4))),oPf 12 79 74 78,oM 13 4 69,oC 14 6 1,oM 15 5 79]
@[go_sem] theorem qkV:OE kB.eq_1:=OEM kB.eq_1
def kC:List qB:=[oU 0 82 1,oX 1 83 1 1,oE 2 84 .eql 83 0,oU 3 85 1,oX 4 86 1 2,oW 5 87 86,oE 6 88 .eql 87 2,oM 7 4 84,oC 8 6 1,oM 9 5 88]
@[go_sem] theorem qkW:OE kC.eq_1:=OEM kC.eq_1
def K3:List qB:=[oU 0 91 1,oX 1 92 1 1,oD1 2 93 796 92,oM 3 4 93]
@[go_sem] theorem qkM:OE K3.eq_1:=OEM K3.eq_1
def Kw:qH:=.seq (.reg true [oE 0 81 .eql 15 10,oM 1 80 81]) (.cond (.t 80) (.reg true kC) (.seq (.reg true [oE 0 90 .eql 15 11,oM 1 89 90]) (.cond (.t 89) (.reg true K3) (.seq (.reg true [oQ 0 2 false]) (.ret)))))
@[go_sem] theorem qkG:CE Kw.eq_1:=CEM Kw.eq_1
def Kx:qH:=.cond (.t 42) (.reg true K9) (.seq (.reg true [oE 0 49 .eql 15 8,oM 1 48 49]) (.cond (.t 48) (.seq (.reg true kA) (.ret)) (.seq (.reg true [oE 0 66 .eql 15 9,oM 1 65 66]) (.cond (.t 65) (.reg true kB) Kw))))
@[go_sem] theorem qkH:CE Kx.eq_1:=CEM Kx.eq_1
def Ky:qH:=.seq (.seq (.reg true [oE 0 37 .eql 15 4,oM 1 36 37]) (.cond (.t 36) (.skip) (.reg true [oE 0 38 .eql 15 6,oM 1 36 38]))) (.cond (.t 36) (.reg true K8) (.seq (.seq (.reg true [oE 0 43 .eql 15 5,oM 1 42 43]) (.cond (.t 42) (.skip) (.reg true [oE 0 44 .eql 15 7,oM 1 42 44]))) Kx))
@[go_sem] theorem qkI:CE Ky.eq_1:=CEM Ky.eq_1
def Kz:qH:=.cond (.t 16) (.reg true K5) (.seq (.reg true [oE 0 27 .eql 15 2,oM 1 26 27]) (.cond (.t 26) (.reg true K6) (.seq (.reg true [oE 0 32 .eql 15 3,oM 1 31 32]) (.cond (.t 31) (.reg true K7) Ky))))
@[go_sem] theorem qkJ:CE Kz.eq_1:=CEM Kz.eq_1
def K4:List qB:=[oM 0 94 4,oM 1 95 94,oH 2 96 95 true 5,oPf 3 97 95 96,oM 4 98 97,oH 5 99 98 true 3,oH 6 100 98 true 6,oG 7 101 98 true (.bin .eql (.t 99) (.t 100)),oPf 8 102 98 101,oM 9 103 102,oG 10 104 103 true (.nop 1),oG 11 105 103 true (.lload 1 2 none),oG 12 106 103 true (.call 397 [.t 105,.f 1402]),oG 13 107 103 true (.not (.t 106)),oPf 14 108 103 107,oM 15 2 108]
@[go_sem] theorem qkN:OE K4.eq_1:=OEM K4.eq_1
def K0:qH:=.seq (.reg true [oC 0 6 0]) (.seq (.seq (.reg true [oU 0 14 1,oX 1 15 1 0]) (.blk 0 (.seq (.reg true [oE 0 17 .eql 15 1,oM 1 16 17]) Kz))) (.seq (.reg true K4) (.ret)))
@[go_sem] theorem qkK:CE K0.eq_1:=CEM K0.eq_1
def Wj:qJ:=⟨1,109,[.t 2],.seq (.reg true [oP 0 1 (.lbox 4 (.t 0)),oQ 1 2 false]) (.seq (.reg true K1) (.seq (.reg true K2) K0))⟩
def qKN:List qB:=[oP 0 1 (.lbox 4 (.t 0)),oC 1 2 0,oC 2 3 0,oQ 3 4 false]
@[go_sem] theorem qwD:OE qKN.eq_1:=OEM qKN.eq_1
def qKO:List qB:=[oU 0 13 1,oX 1 14 1 3,oW 2 15 14,oC 3 16 0]
@[go_sem] theorem qwE:OE qKO.eq_1:=OEM qKO.eq_1
def qKP:List qB:=[oA 0 18 4 14 16,oP 1 19 (.load (some 4) (.t 18)),oZ 2 6,oS 3 6 0 4 19]
@[go_sem] theorem qwF:OE qKP.eq_1:=OEM qKP.eq_1
def qKQ:List qB:=[oY 0 21 6 0 4,oD1 1 22 770 21,oM 2 20 22,oV 3 23 20 0,oV 4 24 20 1,oV 5 25 20 2,oM 6 7 23,oM 7 8 24,oM 8 9 25]
@[go_sem] theorem qwG:OE qKQ.eq_1:=OEM qKQ.eq_1
def qKR:List qB:=[oM 0 28 2,oM 1 29 7,oE 2 30 .add 29 1,oP 3 31 (.max (.t 28) (.t 30)),oM 4 32 3,oM 5 33 8,oB 6 34 .add 32 33,oM 7 2 31,oM 8 3 34]
@[go_sem] theorem qwH:OE qKR.eq_1:=OEM qKR.eq_1
def qKK:qH:=.seq (.reg true qKQ) (.seq (.seq (.reg true [oM 0 26 9,oJ 1 27 26]) (.cond (.t 27) (.seq (.reg true [oC 0 2 0,oC 1 3 0,oQ 2 4 false]) (.ret)) (.skip))) (.reg true qKR))
@[go_sem] theorem qwA:CE qKK.eq_1:=CEM qKK.eq_1
def qKL:qH:=.seq (.reg true qKO) (.blk 0 (.loop (.seq (.reg true [oB 0 17 .lss 16 15]) (.seq (.cond (.t 17) (.skip) (.exit 0)) (.seq (.blk 1 (.seq (.reg true qKP) qKK)) (.reg true [oE 0 35 .add 16 1,oM 1 16 35]))))))
@[go_sem] theorem qwB:CE qKL.eq_1:=CEM qKL.eq_1
def qKS:List qB:=[oM 0 36 2,oM 1 37 3,oM 2 2 36,oM 3 3 37,oQ 4 4 true]
@[go_sem] theorem qwI:OE qKS.eq_1:=OEM qKS.eq_1
def qKM:qH:=.seq (.seq (.reg true [oY 0 10 1 0 4,oD1 1 11 1130 10,oJ 2 12 11]) (.cond (.t 12) (.seq (.reg true [oC 0 2 0,oC 1 3 0,oQ 2 4 false]) (.ret)) (.skip))) (.seq (.reg true [oC 0 2 1,oC 1 3 1]) (.seq qKL (.seq (.reg true qKS) (.ret))))
@[go_sem] theorem qwC:CE qKM.eq_1:=CEM qKM.eq_1
def X5:qJ:=⟨1,38,[.t 2,.t 3,.t 4],.seq (.reg true qKN) qKM⟩
def qGG:List qB:=[oY 0 7 1 0 4,oD1 1 8 770 7,oM 2 6 8,oV 3 9 6 0,oV 4 10 6 1,oV 5 11 6 2,oM 6 3 9,oM 7 4 10,oM 8 5 11]
@[go_sem] theorem qr6:OE qGG.eq_1:=OEM qGG.eq_1
def qGH:List qB:=[oM 0 12 5,oM 1 13 12,oG 2 14 13 true (.lload 1 0 (some 4)),oG 3 15 13 true (.call 495 [.t 14]),oPf 4 16 13 15,oM 5 2 16]
@[go_sem] theorem qr7:OE qGH.eq_1:=OEM qGH.eq_1
def XX:qJ:=⟨1,17,[.t 2],.seq (.reg true [oP 0 1 (.lbox 4 (.t 0)),oQ 1 2 false]) (.seq (.reg true qGG) (.seq (.reg true qGH) (.ret)))⟩
def Xk:qJ:=⟨1,4,[.t 2],.seq (.reg true [oC 0 2 0]) (.seq (.seq (.reg true [oM 0 3 0]) (.cond (.t 3) (.seq (.reg true [oC 0 2 1]) (.ret)) (.skip))) (.seq (.reg true [oC 0 2 0]) (.ret)))⟩
def qAB:List qB:=[oU 0 5 2,oX 1 6 2 0,oE 2 7 .eql 6 4,oM 3 8 7,oG 4 9 8 false (.nop 2),oG 5 10 8 false (.lload 2 0 none),oG 6 11 8 false (.bin .eql (.t 10) (.c (.int .i64 7))),oH 7 12 8 false 11,oH 8 13 12 true 1,oG 9 14 12 true (.bin .eql (.t 13) (.c (.int .i64 1))),oG 10 15 8 false (.pick (.t 12) (.t 14) (.c (.bool false))),oPt 11 16 8 15,oD1 12 17 566 16,oM 13 4 17]
@[go_sem] theorem ql1:OE qAB.eq_1:=OEM qAB.eq_1
def Ws:qJ:=⟨2,18,[.t 4],.seq (.reg true [oP 0 2 (.lbox 4 (.t 0)),oC 1 4 0]) (.seq (.reg true qAB) (.ret))⟩
def qMR:List qB:=[oU 0 7 2,oX 1 8 2 0,oE 2 9 .eql 8 1,oM 3 10 9,oG 4 11 10 true (.nop 2),oG 5 12 10 true (.lload 2 1 none),oH 6 13 10 true 1,oG 7 14 10 true (.bin .geq (.t 12) (.t 13)),oPf 8 15 10 14]
@[go_sem] theorem qyH:OE qMR.eq_1:=OEM qMR.eq_1
def qMS:List qB:=[oU 0 16 2,oX 1 17 2 3,oW 2 18 17,oC 3 19 0]
@[go_sem] theorem qyI:OE qMS.eq_1:=OEM qMS.eq_1
def qMT:List qB:=[oM 0 21 19,oA 1 22 4 17 19,oP 2 23 (.load (some 4) (.t 22)),oZ 3 6,oM 4 5 21,oS 5 6 0 4 23]
@[go_sem] theorem qyJ:OE qMT.eq_1:=OEM qMT.eq_1
def qMU:List qB:=[oY 0 24 6 0 4,oM 1 25 1,oY 2 26 2 0 4,oM 3 27 5,oD2 4 28 1193 26 27,oB 5 29 .add 25 28,oD2 6 30 880 24 29,oJ 7 31 30]
@[go_sem] theorem qyK:OE qMU.eq_1:=OEM qMU.eq_1
def qMQ:qH:=.seq (.reg true [oB 0 20 .lss 19 18]) (.seq (.cond (.t 20) (.skip) (.exit 0)) (.seq (.blk 1 (.seq (.reg true qMT) (.seq (.reg true qMU) (.cond (.t 31) (.seq (.reg true [oQ 0 4 false]) (.ret)) (.skip))))) (.reg true [oE 0 32 .add 19 1,oM 1 19 32])))
@[go_sem] theorem qyG:CE qMQ.eq_1:=CEM qMQ.eq_1
def YI:qJ:=⟨2,33,[.t 4],.seq (.reg true [oP 0 2 (.lbox 4 (.t 0)),oQ 1 4 false]) (.seq (.seq (.reg true qMR) (.cond (.t 15) (.seq (.reg true [oQ 0 4 false]) (.ret)) (.skip))) (.seq (.seq (.reg true qMS) (.blk 0 (.loop qMQ))) (.seq (.reg true [oQ 0 4 true]) (.ret))))⟩
def qHI:List qB:=[oY 0 3 1 0 4,oD1 1 4 391 3,oM 2 5 4,oG 3 6 5 true (.lload 1 0 (some 4)),oG 4 7 5 true (.call 880 [.t 6,.c (.int .i64 0)]),oPf 5 8 5 7,oM 6 2 8]
@[go_sem] theorem qs8:OE qHI.eq_1:=OEM qHI.eq_1
def Xi:qJ:=⟨1,9,[.t 2],.seq (.reg true [oP 0 1 (.lbox 4 (.t 0)),oQ 1 2 false]) (.seq (.reg true qHI) (.ret))⟩
def qNY:List qB:=[oY 0 4 2 0 4,oL 1 5 1,oD2 2 6 615 4 5,oM 3 3 6]
@[go_sem] theorem qzO:OE qNY.eq_1:=OEM qNY.eq_1
def YO:qJ:=⟨2,7,[.t 3],.seq (.reg true [oP 0 2 (.lbox 4 (.t 0)),oQ 1 3 false]) (.seq (.reg true qNY) (.ret))⟩
def qH0:List qB:=[oL 0 5 3,oY 1 6 2 0 4,oP 2 7 (.callv (.t 5) [.t 6]),oM 3 8 7,oG 4 9 8 false (.nop 2),oG 5 10 8 false (.lload 2 3 none),oG 6 11 8 false (.mkfn 993 [.t 3]),oG 7 12 8 false (.call 581 [.t 10,.t 11]),oPt 8 13 8 12,oM 9 4 13]
@[go_sem] theorem qtQ:OE qH0.eq_1:=OEM qH0.eq_1
def Xn:qJ:=⟨2,14,[.t 4],.seq (.reg true [oP 0 2 (.lbox 4 (.t 0)),oP 1 3 (.hbox 1 (.t 1)),oQ 2 4 false]) (.seq (.reg true qH0) (.ret))⟩
def kY:List qB:=[oM 0 4 0,oL 1 5 1,oB 2 6 .geq 4 5,oM 3 3 6]
@[go_sem] theorem qlI:OE kY.eq_1:=OEM kY.eq_1
def Wo:qJ:=⟨2,7,[.t 3],.seq (.reg true [oQ 0 3 false]) (.seq (.reg true kY) (.ret))⟩
def kX:List qB:=[oU 0 4 2,oX 1 5 2 0,oE 2 6 .eql 5 11,oM 3 7 6,oG 4 8 7 true (.nop 2),oG 5 9 7 true (.lload 2 1 none),oG 6 10 7 true (.load none (.t 1)),oG 7 11 7 true (.bin .geq (.t 9) (.t 10)),oPf 8 12 7 11,oM 9 13 12,oG 10 14 13 false (.nop 2),oG 11 15 13 false (.lload 2 2 none),oG 12 16 13 false (.mkfn 1169 [.t 1]),oG 13 17 13 false (.call 397 [.t 15,.t 16]),oPt 14 18 13 17,oM 15 3 18]
@[go_sem] theorem qlH:OE kX.eq_1:=OEM kX.eq_1
def Wn:qJ:=⟨2,19,[.t 3],.seq (.reg true [oP 0 2 (.lbox 4 (.t 0)),oQ 1 3 false]) (.seq (.reg true kX) (.ret))⟩
def qLV:List qB:=[oY 0 5 2 0 4,oP 1 6 (.mkfn 1168 [.t 3]),oD2 2 7 615 5 6,oJ 3 8 7,oM 4 4 8]
@[go_sem] theorem qxL:OE qLV.eq_1:=OEM qLV.eq_1
def YB:qJ:=⟨2,9,[.t 4],.seq (.reg true [oP 0 2 (.lbox 4 (.t 0)),oP 1 3 (.hbox 1 (.t 1)),oQ 2 4 false]) (.seq (.reg true qLV) (.ret))⟩
def qMD:List qB:=[oY 0 4 2 0 4,oD1 1 5 521 4,oJ 2 6 5,oM 3 7 6,oG 4 8 7 false (.lload 2 0 (some 4)),oG 5 9 7 false (.faddr 0 (.t 1)),oG 6 10 7 false (.load none (.t 9)),oG 7 11 7 false (.len (.t 10)),oG 8 12 7 false (.call 847 [.t 8,.t 11]),oG 9 13 7 false (.not (.t 12)),oPt 10 14 7 13,oM 11 3 14]
@[go_sem] theorem qx3:OE qMD.eq_1:=OEM qMD.eq_1
def YF:qJ:=⟨2,15,[.t 3],.seq (.reg true [oP 0 2 (.lbox 4 (.t 0)),oQ 1 3 false]) (.seq (.reg true qMD) (.ret))⟩
def qHF:List qB:=[oF 0 3 0 1,oL 1 4 3,oW 2 5 4,oE 3 6 .lss 5 1,oM 4 7 6,oG 5 8 7 false (.faddr 0 (.t 1)),oG 6 9 7 false (.load none (.t 8)),oG 7 10 7 false (.len (.t 9)),oG 8 11 7 false (.bin .gtr (.t 10) (.c (.int .i64 24))),oPt 9 12 7 11]
@[go_sem] theorem qs5:OE qHF.eq_1:=OEM qHF.eq_1
def qHG:List qB:=[oF 0 13 0 1,oL 1 14 13,oP 2 15 (.mkfn 851 [.t 1]),oD2 3 16 581 14 15,oJ 4 17 16,oM 5 2 17]
@[go_sem] theorem qs6:OE qHG.eq_1:=OEM qHG.eq_1
def Xg:qJ:=⟨1,18,[.t 2],.seq (.reg true [oP 0 1 (.hbox 1 (.t 0)),oQ 1 2 false]) (.seq (.seq (.reg true qHF) (.cond (.t 12) (.seq (.reg true [oQ 0 2 false]) (.ret)) (.skip))) (.seq (.reg true qHG) (.ret)))⟩
def Ul:List qB:=[oM 0 10 3,oM 1 11 0,oW 2 12 11,oB 3 13 .lss 10 12]
@[go_sem] theorem qiE:OE Ul.eq_1:=OEM Ul.eq_1
def Um:List qB:=[oM 0 16 0,oM 1 17 3,oA 2 18 1 16 17,oL 3 19 18,oM 4 20 0,oM 5 21 3,oE 6 22 .sub 21 1,oA 7 23 1 20 22,oL 8 24 23,oB 9 25 .eql 19 24]
@[go_sem] theorem qiF:OE Um.eq_1:=OEM Um.eq_1
def Un:List qB:=[oM 0 26 0,oM 1 27 3,oP 2 28 (.slc 1 (.t 26) (some (.t 27)) none none),oM 3 4 28]
@[go_sem] theorem qiG:OE Un.eq_1:=OEM Un.eq_1
def Uo:List qB:=[oM 0 29 5,oM 1 30 4,oW 2 31 30,oB 3 32 .lss 29 31]
@[go_sem] theorem qiH:OE Uo.eq_1:=OEM Uo.eq_1
def Up:List qB:=[oM 0 35 4,oM 1 36 5,oA 2 37 1 35 36,oL 3 38 37,oM 4 39 4,oM 5 40 5,oE 6 41 .sub 40 1,oA 7 42 1 39 41,oL 8 43 42,oB 9 44 .neq 38 43]
@[go_sem] theorem qiI:OE Up.eq_1:=OEM Up.eq_1
def Uq:List qB:=[oM 0 45 0,oM 1 46 3,oM 2 47 4,oM 3 48 5,oA 4 49 1 47 48,oL 5 50 49,oA 6 51 1 45 46,oT 7 1 51 50]
@[go_sem] theorem qiJ:OE Uq.eq_1:=OEM Uq.eq_1
def Uj:qH:=.seq (.blk 3 (.seq (.reg true Up) (.cond (.t 44) (.seq (.reg true Uq) (.reg true [oM 0 52 3,oE 1 53 .add 52 1,oM 2 3 53])) (.skip)))) (.reg true [oM 0 33 5,oE 1 34 .add 33 1,oM 2 5 34])
@[go_sem] theorem qiC:CE Uj.eq_1:=CEM Uj.eq_1
def Ur:List qB:=[oM 0 54 0,oM 1 55 3,oP 2 56 (.slc 1 (.t 54) (some (.t 55)) none none),oN 3 (.clear 1 (.int .i64 0) (.t 56))]
@[go_sem] theorem qiK:OE Ur.eq_1:=OEM Ur.eq_1
def Us:List qB:=[oM 0 57 0,oM 1 58 3,oP 2 59 (.slc 1 (.t 57) none (some (.t 58)) none),oM 3 2 59]
@[go_sem] theorem qiL:OE Us.eq_1:=OEM Us.eq_1
def Uk:qH:=.seq (.reg true Um) (.cond (.t 25) (.seq (.reg true Un) (.seq (.seq (.reg true [oC 0 5 1]) (.blk 2 (.loop (.seq (.seq (.reg true Uo) (.cond (.t 32) (.skip) (.exit 2))) Uj)))) (.seq (.reg true Ur) (.seq (.reg true Us) (.ret))))) (.skip))
@[go_sem] theorem qiD:CE Uk.eq_1:=CEM Uk.eq_1
def Uh:qH:=.seq (.reg true [oC 0 3 1]) (.blk 0 (.loop (.seq (.seq (.reg true Ul) (.cond (.t 13) (.skip) (.exit 0))) (.seq (.blk 1 Uk) (.reg true [oM 0 14 3,oE 1 15 .add 14 1,oM 2 3 15])))))
@[go_sem] theorem qiA:CE Uh.eq_1:=CEM Uh.eq_1
def Ui:qH:=.seq (.seq (.reg true [oM 0 6 0,oW 1 7 6,oE 2 8 .lss 7 2]) (.cond (.t 8) (.seq (.reg true [oM 0 9 0,oM 1 2 9]) (.ret)) (.skip))) (.seq Uh (.seq (.reg true [oM 0 60 0,oM 1 2 60]) (.ret)))
@[go_sem] theorem qiB:CE Ui.eq_1:=CEM Ui.eq_1
def WQ:qJ:=⟨1,61,[.t 2],.seq (.reg true [oP 0 2 (.mov (.c (.nils)))]) Ui⟩
def qAD:List qB:=[oU 0 11 4,oX 1 12 4 0,oE 2 13 .eql 12 1,oM 3 14 13,oG 4 15 14 true (.nop 4),oG 5 16 14 true (.lload 4 1 none),oH 6 17 14 true 1,oG 7 18 14 true (.bin .eql (.t 16) (.t 17)),oPf 8 19 14 18]
@[go_sem] theorem ql3:OE qAD.eq_1:=OEM qAD.eq_1
def qAE:List qB:=[oM 0 20 3,oM 1 21 2,oP 2 22 (.bslice 1 (.int .i64 0) 1 [(0,.t 21)]),oP 3 23 (.app 1 (.t 20) (.t 22)),oM 4 8 23]
@[go_sem] theorem ql4:OE qAE.eq_1:=OEM qAE.eq_1
def qAF:List qB:=[oU 0 24 4,oX 1 25 4 3,oW 2 26 25,oC 3 27 0]
@[go_sem] theorem ql5:OE qAF.eq_1:=OEM qAF.eq_1
def qAG:List qB:=[oM 0 29 27,oA 1 30 4 25 27,oP 2 31 (.load (some 4) (.t 30)),oZ 3 10,oM 4 9 29,oS 5 10 0 4 31]
@[go_sem] theorem ql6:OE qAG.eq_1:=OEM qAG.eq_1
def qAH:List qB:=[oY 0 32 10 0 4,oM 1 33 1,oY 2 34 4 0 4,oM 3 35 9,oM 6 38 2,oU 7 39 4,oX 8 40 4 0,oE 9 41 .eql 40 6,oM 12 44 3,oD2 4 36 1193 34 35,oB 5 37 .add 33 36,oD1 10 42 566 41,oB 11 43 .add 38 42,oP 13 45 (.call 1194 [.t 32,.t 37,.t 43,.t 44]),oM 14 3 45]
@[go_sem] theorem ql7:OE qAH.eq_1:=OEM qAH.eq_1
def qAC:qH:=.loop (.seq (.reg true [oB 0 28 .lss 27 26]) (.seq (.cond (.t 28) (.skip) (.exit 0)) (.seq (.blk 1 (.seq (.reg true qAG) (.reg true qAH))) (.reg true [oE 0 46 .add 27 1,oM 1 27 46]))))
@[go_sem] theorem ql2:CE qAC.eq_1:=CEM qAC.eq_1
def Wu:qJ:=⟨4,48,[.t 8],.seq (.reg true [oP 0 4 (.lbox 4 (.t 0)),oP 1 8 (.mov (.c (.nils)))]) (.seq (.seq (.reg true qAD) (.cond (.t 19) (.seq (.reg true qAE) (.ret)) (.skip))) (.seq (.seq (.reg true qAF) (.blk 0 qAC)) (.seq (.reg true [oM 0 47 3,oM 1 8 47]) (.ret))))⟩
def qAI:List qB:=[oY 0 5 3 0 4,oL 1 6 1,oF 2 7 0 2,oL 3 8 7,oE 4 9 .eql 8 6,⟨5,some 10,none,.call 566 [.t 9],[⟨1,some 6,none,.load none (.t 1),[]⟩]⟩,oB 6 11 .add 6 10,oD2 7 12 881 5 11,oJ 8 13 12,oM 9 4 13]
@[go_sem] theorem ql8:OE qAI.eq_1:=OEM qAI.eq_1
def Wv:qJ:=⟨3,14,[.t 4],.seq (.reg true [oP 0 3 (.lbox 4 (.t 0)),oQ 1 4 false]) (.seq (.reg true qAI) (.ret))⟩
def qMX:List qB:=[oF 0 13 3 2,oL 1 14 13,oP 2 15 (.iaddr 4 (.t 14) (.c (.int .i64 0))),oP 3 16 (.load (some 4) (.t 15)),oL 4 17 3,oP 5 18 (.call 1194 [.t 16,.c (.int .i64 0),.t 17,.c (.nils)]),oM 6 5 18]
@[go_sem] theorem qyN:OE qMX.eq_1:=OEM qMX.eq_1
def qMY:List qB:=[oM 0 19 5,oW 1 20 19,oE 2 21 .gtr 20 1,oM 3 22 21,oH 4 23 22 false 5,oG 5 24 22 false (.len (.t 23)),oG 6 25 22 false (.bin .eql (.t 24) (.c (.int .i64 1))),oH 7 26 22 false 25,oH 8 27 26 true 5,oG 9 28 26 true (.iaddr 1 (.t 27) (.c (.int .i64 0))),oG 10 29 26 true (.load none (.t 28)),oG 11 30 26 true (.load none (.t 3)),oG 12 31 26 true (.bin .neq (.t 29) (.t 30)),oG 13 32 22 false (.pick (.t 26) (.t 31) (.c (.bool false))),oPt 14 33 22 32]
@[go_sem] theorem qyO:OE qMY.eq_1:=OEM qMY.eq_1
def qMZ:List qB:=[oF 0 36 3 2,oL 1 37 36,oP 2 38 (.iaddr 4 (.t 37) (.c (.int .i64 1))),oP 3 39 (.load (some 4) (.t 38)),oL 4 40 3,oP 5 41 (.call 1194 [.t 39,.c (.int .i64 0),.t 40,.c (.nils)]),oM 6 6 41]
@[go_sem] theorem qyP:OE qMZ.eq_1:=OEM qMZ.eq_1
def qM0:List qB:=[oM 0 42 6,oD1 1 43 1042 42,oW 2 44 43,oE 3 45 .gtr 44 1,oM 4 46 45,oH 5 47 46 false 6,oG 6 48 46 false (.len (.t 47)),oG 7 49 46 false (.bin .gtr (.t 48) (.c (.int .i64 0))),oH 8 50 46 false 49,oH 9 51 50 true 6,oG 10 52 50 true (.iaddr 1 (.t 51) (.c (.int .i64 0))),oG 11 53 50 true (.load none (.t 52)),oG 12 54 50 true (.load none (.t 3)),oG 13 55 50 true (.bin .neq (.t 53) (.t 54)),oG 14 56 46 false (.pick (.t 50) (.t 55) (.c (.bool false))),oH 15 57 46 false 56,oH 16 58 57 true 6,oG 17 59 57 true (.iaddr 1 (.t 58) (.c (.int .i64 0))),oG 18 60 57 true (.load none (.t 59)),oG 19 61 57 true (.load none (.t 3)),oG 20 62 57 true (.bin .add (.t 61) (.c (.int .i64 1))),oG 21 63 57 true (.bin .neq (.t 60) (.t 62)),oG 22 64 46 false (.pick (.t 57) (.t 63) (.c (.bool false))),oPt 23 65 46 64]
@[go_sem] theorem qyQ:OE qM0.eq_1:=OEM qM0.eq_1
def qMV:qH:=.cond (.t 11) (.seq (.reg true qMX) (.seq (.reg true qMY) (.cond (.t 33) (.seq (.reg true [oQ 0 4 false]) (.ret)) (.skip)))) (.seq (.reg true [oE 0 35 .eql 10 7,oM 1 34 35]) (.cond (.t 34) (.seq (.reg true qMZ) (.seq (.reg true qM0) (.cond (.t 65) (.seq (.reg true [oQ 0 4 false]) (.ret)) (.skip)))) (.skip)))
@[go_sem] theorem qyL:CE qMV.eq_1:=CEM qMV.eq_1
def qM1:List qB:=[oF 0 66 3 2,oL 1 67 66,oP 2 68 (.mkfn 1195 [.t 3,.t 2]),oD2 3 69 581 67 68,oJ 4 70 69,oM 5 4 70]
@[go_sem] theorem qyR:OE qM1.eq_1:=OEM qM1.eq_1
def qMW:qH:=.seq (.seq (.reg true [oL 0 7 3,oE 1 8 .gtr 7 8]) (.cond (.t 8) (.seq (.reg true [oQ 0 4 false]) (.ret)) (.skip))) (.seq (.seq (.reg true [oF 0 9 0 2,oL 1 10 9]) (.blk 0 (.seq (.reg true [oE 0 12 .eql 10 4,oM 1 11 12]) qMV))) (.seq (.reg true qM1) (.ret)))
@[go_sem] theorem qyM:CE qMW.eq_1:=CEM qMW.eq_1
def YJ:qJ:=⟨2,71,[.t 4],.seq (.reg true [oP 0 2 (.hbox 4 (.t 0)),oP 1 3 (.hbox 1 (.t 1)),oQ 2 4 false]) qMW⟩
def qHJ:List qB:=[oY 0 3 1 0 4,oD1 1 4 521 3,oM 2 5 4,oG 3 6 5 true (.lload 1 0 (some 4)),oG 4 7 5 true (.call 881 [.t 6,.c (.int .i64 0)]),oPf 5 8 5 7,oM 6 2 8]
@[go_sem] theorem qs9:OE qHJ.eq_1:=OEM qHJ.eq_1
def Xj:qJ:=⟨1,9,[.t 2],.seq (.reg true [oP 0 1 (.lbox 4 (.t 0)),oQ 1 2 false]) (.seq (.reg true qHJ) (.ret))⟩
def kZ:List qB:=[oY 0 3 1 0 4,oD1 1 4 522 3,oJ 2 5 4,oM 3 2 5]
@[go_sem] theorem qlJ:OE kZ.eq_1:=OEM kZ.eq_1
def Wp:qJ:=⟨1,6,[.t 2],.seq (.reg true [oP 0 1 (.lbox 4 (.t 0)),oQ 1 2 false]) (.seq (.reg true kZ) (.ret))⟩
def qLW:List qB:=[oU 0 3 1,oX 1 4 1 0,oP 2 5 (.call 581 [.t 4,.f 1170]),oJ 3 6 5,oM 4 2 6]
@[go_sem] theorem qxM:OE qLW.eq_1:=OEM qLW.eq_1
def YC:qJ:=⟨1,7,[.t 2],.seq (.reg true [oP 0 1 (.lbox 1 (.t 0)),oQ 1 2 false]) (.seq (.reg true qLW) (.ret))⟩
def qK3:List qB:=[oM 0 11 1,oM 1 12 0,oM 2 13 5,oA 3 14 1 12 13,oL 4 15 14,oB 5 16 .eql 11 15]
@[go_sem] theorem qwT:OE qK3.eq_1:=OEM qK3.eq_1
def qK1:qH:=.seq (.blk 1 (.seq (.reg true [oM 0 10 8,oM 1 5 10]) (.seq (.reg true qK3) (.cond (.t 16) (.seq (.reg true [oM 0 17 5,oM 1 4 17]) (.ret)) (.skip))))) (.reg true [oE 0 18 .add 8 1,oM 1 8 18])
@[go_sem] theorem qwR:CE qK1.eq_1:=CEM qK1.eq_1
def qK2:qH:=.seq (.seq (.reg true [oM 0 6 0,oW 1 7 6,oC 2 8 0]) (.blk 0 (.loop (.seq (.reg true [oB 0 9 .lss 8 7]) (.seq (.cond (.t 9) (.skip) (.exit 0)) qK1))))) (.seq (.reg true [oP 0 4 (.mov (.c (.int .i64 (-1))))]) (.ret))
@[go_sem] theorem qwS:CE qK2.eq_1:=CEM qK2.eq_1
def X8:qJ:=⟨2,19,[.t 4],.seq (.reg true [oC 0 4 0]) qK2⟩
def Xq:qJ:=QX 834
def kW:List qB:=[oM 0 3 0,oM 1 4 0,oB 2 5 .neq 3 4,oM 3 2 5]
@[go_sem] theorem qlG:OE kW.eq_1:=OEM kW.eq_1
def Wm:qJ:=⟨1,6,[.t 2],.seq (.reg true [oQ 0 2 false]) (.seq (.reg true kW) (.ret))⟩
def qCA:List qB:=[oM 0 5 0,oD1 1 6 1167 5,oM 2 7 6,oH 3 8 7 true 1,oG 4 9 7 true (.call 1167 [.t 8]),oG 5 10 7 true (.not (.t 9)),oPf 6 11 7 10,oM 7 12 11,oH 8 13 12 false 0,oH 9 14 12 false 1,oG 10 15 12 false (.bin .lss (.t 13) (.t 14)),oPt 11 16 12 15,oM 12 4 16]
@[go_sem] theorem qn0:OE qCA.eq_1:=OEM qCA.eq_1
def W5:qJ:=⟨2,17,[.t 4],.seq (.reg true [oQ 0 4 false]) (.seq (.reg true qCA) (.ret))⟩
def qAY:List qB:=[oM 0 16 7,oM 1 17 1,oB 2 18 .gtr 16 17,oM 3 19 18,oH 4 20 19 true 0,oH 5 21 19 true 7,oG 6 22 19 true (.iaddr 1 (.t 20) (.t 21)),oG 7 23 19 true (.load none (.t 22)),oH 8 24 19 true 0,oH 9 25 19 true 7,oG 10 26 19 true (.bin .sub (.t 25) (.c (.int .i64 1))),oG 11 27 19 true (.iaddr 1 (.t 24) (.t 26)),oG 12 28 19 true (.load none (.t 27)),oG 13 29 19 true (.call 1345 [.t 23,.t 28]),oPf 14 30 19 29]
@[go_sem] theorem qmO:OE qAY.eq_1:=OEM qAY.eq_1
def qAZ:List qB:=[oM 0 33 0,oM 1 34 7,oM 2 35 0,oM 3 36 7,oE 4 37 .sub 36 1,oM 5 38 0,oM 6 39 7,oE 7 40 .sub 39 1,oA 8 41 1 38 40,oL 9 42 41,oM 10 43 0,oM 11 44 7,oA 12 45 1 43 44,oL 13 46 45,oA 14 47 1 33 34,oT 15 1 47 42,oA 16 48 1 35 37,oT 17 1 48 46]
@[go_sem] theorem qmP:OE qAZ.eq_1:=OEM qAZ.eq_1
def qAW:qH:=.seq (.reg true [oM 0 15 6,oM 1 7 15]) (.blk 2 (.loop (.seq (.seq (.reg true qAY) (.cond (.t 30) (.skip) (.exit 2))) (.seq (.blk 3 (.reg true qAZ)) (.reg true [oM 0 31 7,oE 1 32 .sub 31 1,oM 2 7 32])))))
@[go_sem] theorem qmM:CE qAW.eq_1:=CEM qAW.eq_1
def qAX:qH:=.loop (.seq (.seq (.reg true [oM 0 10 6,oM 1 11 2,oB 2 12 .lss 10 11]) (.cond (.t 12) (.skip) (.exit 0))) (.seq (.blk 1 qAW) (.reg true [oM 0 13 6,oE 1 14 .add 13 1,oM 2 6 14])))
@[go_sem] theorem qmN:CE qAX.eq_1:=CEM qAX.eq_1
def Wz:qJ:=⟨3,49,[],.seq (.reg true [oM 0 8 1,oE 1 9 .add 8 1,oM 2 6 9]) (.blk 0 qAX)⟩
def qD0:List qB:=[oM 0 11 8,oP 1 12 (.bin .mul (.c (.int .i64 2)) (.t 11)),oE 2 13 .add 12 1,oM 3 9 13]
@[go_sem] theorem qpQ:OE qD0.eq_1:=OEM qD0.eq_1
def qD1:List qB:=[oM 0 17 9,oE 1 18 .add 17 1,oM 2 19 2,oB 3 20 .lss 18 19,oM 4 21 20,oH 5 22 21 true 0,oH 6 23 21 true 3,oH 7 24 21 true 9,oG 8 25 21 true (.bin .add (.t 23) (.t 24)),oG 9 26 21 true (.iaddr 1 (.t 22) (.t 25)),oG 10 27 21 true (.load none (.t 26)),oH 11 28 21 true 0,oH 12 29 21 true 3,oH 13 30 21 true 9,oG 14 31 21 true (.bin .add (.t 29) (.t 30)),oG 15 32 21 true (.bin .add (.t 31) (.c (.int .i64 1))),oG 16 33 21 true (.iaddr 1 (.t 28) (.t 32)),oG 17 34 21 true (.load none (.t 33)),oG 18 35 21 true (.call 1345 [.t 27,.t 34]),oPf 19 36 21 35]
@[go_sem] theorem qpR:OE qD1.eq_1:=OEM qD1.eq_1
def qD2:List qB:=[oM 0 39 0,oM 1 40 3,oM 2 41 8,oB 3 42 .add 40 41,oA 4 43 1 39 42,oL 5 44 43,oM 6 45 0,oM 7 46 3,oM 8 47 9,oB 9 48 .add 46 47,oA 10 49 1 45 48,oL 11 50 49,oD2 12 51 1345 44 50,oJ 13 52 51]
@[go_sem] theorem qpS:OE qD2.eq_1:=OEM qD2.eq_1
def qD3:List qB:=[oM 0 53 0,oM 1 54 3,oM 2 55 8,oB 3 56 .add 54 55,oM 4 57 0,oM 5 58 3,oM 6 59 9,oB 7 60 .add 58 59,oM 8 61 0,oM 9 62 3,oM 10 63 9,oB 11 64 .add 62 63,oA 12 65 1 61 64,oL 13 66 65,oM 14 67 0,oM 15 68 3,oM 16 69 8,oB 17 70 .add 68 69,oA 18 71 1 67 70,oL 19 72 71,oA 20 73 1 53 56,oT 21 1 73 66,oA 22 74 1 57 60,oT 23 1 74 72]
@[go_sem] theorem qpT:OE qD3.eq_1:=OEM qD3.eq_1
def qDZ:qH:=.seq (.seq (.reg true qD1) (.cond (.t 36) (.reg true [oM 0 37 9,oE 1 38 .add 37 1,oM 2 9 38]) (.skip))) (.seq (.seq (.reg true qD2) (.cond (.t 52) (.ret) (.skip))) (.seq (.reg true qD3) (.reg true [oM 0 75 9,oM 1 8 75])))
@[go_sem] theorem qpP:CE qDZ.eq_1:=CEM qDZ.eq_1
def XG:qJ:=⟨4,76,[],.seq (.reg true [oM 0 10 1,oM 1 8 10]) (.blk 0 (.loop (.blk 1 (.seq (.reg true qD0) (.seq (.seq (.reg true [oM 0 14 9,oM 1 15 2,oB 2 16 .geq 14 15]) (.cond (.t 16) (.exit 0) (.skip))) qDZ)))))⟩
def qA3:List qB:=[oM 0 12 2,oM 1 13 1,oB 2 14 .sub 12 13,oM 3 8 14]
@[go_sem] theorem qmT:OE qA3.eq_1:=OEM qA3.eq_1
def qA4:List qB:=[oM 0 15 8,oE 1 16 .sub 15 1,oE 2 17 .quo 16 2,oM 3 9 17]
@[go_sem] theorem qmU:OE qA4.eq_1:=OEM qA4.eq_1
def qA5:List qB:=[oM 0 22 0,oM 1 23 9,oM 2 24 8,oM 3 25 6,oP 4 26 (.call 1476 [.t 22,.t 23,.t 24,.t 25])]
@[go_sem] theorem qmV:OE qA5.eq_1:=OEM qA5.eq_1
def qA0:qH:=.loop (.seq (.seq (.reg true [oM 0 18 9,oE 1 19 .geq 18 0]) (.cond (.t 19) (.skip) (.exit 0))) (.seq (.blk 1 (.reg true qA5)) (.reg true [oM 0 20 9,oE 1 21 .sub 20 1,oM 2 9 21])))
@[go_sem] theorem qmQ:CE qA0.eq_1:=CEM qA0.eq_1
def qA6:List qB:=[oM 0 33 0,oM 1 34 6,oM 2 35 0,oM 3 36 6,oM 4 37 10,oB 5 38 .add 36 37,oM 6 39 0,oM 7 40 6,oM 8 41 10,oB 9 42 .add 40 41,oA 10 43 1 39 42,oL 11 44 43,oM 12 45 0,oM 13 46 6,oA 14 47 1 45 46,oL 15 48 47,oA 16 49 1 33 34,oT 17 1 49 44,oA 18 50 1 35 38,oT 19 1 50 48]
@[go_sem] theorem qmW:OE qA6.eq_1:=OEM qA6.eq_1
def qA7:List qB:=[oM 0 51 0,oM 1 52 7,oM 2 53 10,oM 3 54 6,oP 4 55 (.call 1476 [.t 51,.t 52,.t 53,.t 54])]
@[go_sem] theorem qmX:OE qA7.eq_1:=OEM qA7.eq_1
def qA1:qH:=.seq (.seq (.reg true [oM 0 29 10,oE 1 30 .geq 29 0]) (.cond (.t 30) (.skip) (.exit 2))) (.seq (.blk 3 (.seq (.reg true qA6) (.reg true qA7))) (.reg true [oM 0 31 10,oE 1 32 .sub 31 1,oM 2 10 32]))
@[go_sem] theorem qmR:CE qA1.eq_1:=CEM qA1.eq_1
def qA2:qH:=.seq (.reg true [oC 0 7 0]) (.seq (.reg true qA3) (.seq (.seq (.reg true qA4) (.blk 0 qA0)) (.seq (.reg true [oM 0 27 8,oE 1 28 .sub 27 1,oM 2 10 28]) (.blk 2 (.loop qA1)))))
@[go_sem] theorem qmS:CE qA2.eq_1:=CEM qA2.eq_1
def W0:qJ:=⟨3,56,[],.seq (.reg true [oM 0 11 1,oM 1 6 11]) qA2⟩
def qC0:qH:=.seq (.reg true [oM 0 3 0,oP 1 4 (.bin .geq (.t 3) (.c (.int .u32 65536)))]) (.cond (.t 4) (.seq (.reg true [oM 0 5 0,oP 1 6 (.shft .shr (.t 5) (.c (.int .u64 16))),oM 2 0 6]) (.reg true [oC 0 2 16])) (.skip))
@[go_sem] theorem qoQ:CE qC0.eq_1:=CEM qC0.eq_1
def qC1:qH:=.seq (.reg true [oM 0 7 0,oP 1 8 (.bin .geq (.t 7) (.c (.int .u32 256)))]) (.cond (.t 8) (.seq (.reg true [oM 0 9 0,oP 1 10 (.shft .shr (.t 9) (.c (.int .u64 8))),oM 2 0 10]) (.reg true [oM 0 11 2,oE 1 12 .add 11 8,oM 2 2 12])) (.skip))
@[go_sem] theorem qoR:CE qC1.eq_1:=CEM qC1.eq_1
def qC2:List qB:=[oM 0 13 2,oM 1 14 0,oP 2 15 (.conv .u8 (.t 14)),oP 3 16 (.sidx (.c (.str [0,1,2,2,3,3,3,3,4,4,4,4,4,4,4,4,5,5,5,5,5,5,5,5,5,5,5,5,5,5,5,5,6,6,6,6,6,6,6,6,6,6,6,6,6,6,6,6,6,6,6,6,6,6,6,6,6,6,6,6,6,6,6,6,7,7,7,7,7,7,7,7,7,7,7,7,7,7,7,7,7,7,7,7,7,7,7,7,7,7,7,7,7,7,7,7,7,7,7,7,7,7,7,7,7,7,7,7,7,7,7,7,7,7,7,7,7,7,7,7,7,7,7,7,7,7,7,7,8,8,8,8,8,8,8,8,8,8,8,8,8,8,8,8,8,8,8,8,8,8,8,8,8,8,8,8,8,8,8,8,8,8,8,8,8,8,8,8,8,8,8,8,8,8,8,8,8,8,8,8,8,8,8,8,8,8,8,8,8,8,8,8,8,8,8,8,8,8,8,8,8,8,8,8,8,8,8,8,8,8,8,8,8,8,8,8,8,8,8,8,8,8,8,8,8,8,8,8,8,8,8,8,8,8,8,8,8,8,8,8,8,8,8,8,8,8,8,8,8,8,8,8,8,8,8,8])) (.t 15)),oP 4 17 (.conv .i64 (.t 16)),oB 5 18 .add 13 17,oM 6 2 18]
@[go_sem] theorem qoS:OE qC2.eq_1:=OEM qC2.eq_1
def qQM:qJ:=⟨1,19,[.t 2],.seq (.reg true [oC 0 2 0]) (.seq qC0 (.seq qC1 (.seq (.reg true qC2) (.ret))))⟩
def qC3:qH:=.seq (.reg true [oM 0 3 0,oP 1 4 (.bin .geq (.t 3) (.c (.int .u64 4294967296)))]) (.cond (.t 4) (.seq (.reg true [oM 0 5 0,oP 1 6 (.shft .shr (.t 5) (.c (.int .u64 32))),oM 2 0 6]) (.reg true [oC 0 2 32])) (.skip))
@[go_sem] theorem qoT:CE qC3.eq_1:=CEM qC3.eq_1
def qC4:qH:=.seq (.reg true [oM 0 7 0,oP 1 8 (.bin .geq (.t 7) (.c (.int .u64 65536)))]) (.cond (.t 8) (.seq (.reg true [oM 0 9 0,oP 1 10 (.shft .shr (.t 9) (.c (.int .u64 16))),oM 2 0 10]) (.reg true [oM 0 11 2,oE 1 12 .add 11 16,oM 2 2 12])) (.skip))
@[go_sem] theorem qoU:CE qC4.eq_1:=CEM qC4.eq_1
def qC5:qH:=.seq (.reg true [oM 0 13 0,oP 1 14 (.bin .geq (.t 13) (.c (.int .u64 256)))]) (.cond (.t 14) (.seq (.reg true [oM 0 15 0,oP 1 16 (.shft .shr (.t 15) (.c (.int .u64 8))),oM 2 0 16]) (.reg true [oM 0 17 2,oE 1 18 .add 17 8,oM 2 2 18])) (.skip))
@[go_sem] theorem qoV:CE qC5.eq_1:=CEM qC5.eq_1
def qC6:List qB:=[oM 0 19 2,oM 1 20 0,oP 2 21 (.conv .u8 (.t 20)),oP 3 22 (.sidx (.c (.str [0,1,2,2,3,3,3,3,4,4,4,4,4,4,4,4,5,5,5,5,5,5,5,5,5,5,5,5,5,5,5,5,6,6,6,6,6,6,6,6,6,6,6,6,6,6,6,6,6,6,6,6,6,6,6,6,6,6,6,6,6,6,6,6,7,7,7,7,7,7,7,7,7,7,7,7,7,7,7,7,7,7,7,7,7,7,7,7,7,7,7,7,7,7,7,7,7,7,7,7,7,7,7,7,7,7,7,7,7,7,7,7,7,7,7,7,7,7,7,7,7,7,7,7,7,7,7,7,8,8,8,8,8,8,8,8,8,8,8,8,8,8,8,8,8,8,8,8,8,8,8,8,8,8,8,8,8,8,8,8,8,8,8,8,8,8,8,8,8,8,8,8,8,8,8,8,8,8,8,8,8,8,8,8,8,8,8,8,8,8,8,8,8,8,8,8,8,8,8,8,8,8,8,8,8,8,8,8,8,8,8,8,8,8,8,8,8,8,8,8,8,8,8,8,8,8,8,8,8,8,8,8,8,8,8,8,8,8,8,8,8,8,8,8,8,8,8,8,8,8,8,8,8,8,8,8])) (.t 21)),oP 4 23 (.conv .i64 (.t 22)),oB 5 24 .add 19 23,oM 6 2 24]
@[go_sem] theorem qoW:OE qC6.eq_1:=OEM qC6.eq_1
def W8:qJ:=⟨1,25,[.t 2],.seq (.reg true [oC 0 2 0]) (.seq qC3 (.seq qC4 (.seq qC5 (.seq (.reg true qC6) (.ret)))))⟩
def KB:List qB:=[oM 0 3 0,oP 1 4 (.conv .u32 (.t 3)),oD1 2 5 1348 4,oM 3 2 5]
@[go_sem] theorem qi6:OE KB.eq_1:=OEM KB.eq_1
def WV:qJ:=⟨1,8,[.t 2],.seq (.reg true [oC 0 2 0]) (.seq (.cond (.c (.bool false)) (.seq (.reg true KB) (.ret)) (.skip)) (.seq (.reg true [oM 0 6 0,oD1 1 7 1349 6,oM 2 2 7]) (.ret)))⟩
def qD4:List qB:=[oM 0 3 0,oP 1 4 (.conv .u64 (.t 3)),oD1 2 5 1054 4,oP 3 6 (.shft .shl (.c (.int .u64 1)) (.t 5)),oM 4 2 6]
@[go_sem] theorem qpU:OE qD4.eq_1:=OEM qD4.eq_1
def XH:qJ:=⟨1,7,[.t 2],.seq (.reg true [oP 0 2 (.mov (.c (.int .u64 0)))]) (.seq (.reg true qD4) (.ret))⟩
def qD5:List qB:=[oM 0 3 0,oK 1 4 3,oL 2 5 4,oM 3 6 0,oK 4 7 6,oL 5 8 7,oP 6 9 (.shft .shl (.t 8) (.c (.int .u64 13))),oB 7 10 .xor 5 9,oK 8 11 3,oT 9 1 11 10]
@[go_sem] theorem qpV:OE qD5.eq_1:=OEM qD5.eq_1
def qD6:List qB:=[oM 0 12 0,oK 1 13 12,oL 2 14 13,oM 3 15 0,oK 4 16 15,oL 5 17 16,oP 6 18 (.shft .shr (.t 17) (.c (.int .u64 7))),oB 7 19 .xor 14 18,oK 8 20 12,oT 9 1 20 19]
@[go_sem] theorem qpW:OE qD6.eq_1:=OEM qD6.eq_1
def qD7:List qB:=[oM 0 21 0,oK 1 22 21,oL 2 23 22,oM 3 24 0,oK 4 25 24,oL 5 26 25,oP 6 27 (.shft .shl (.t 26) (.c (.int .u64 17))),oB 7 28 .xor 23 27,oK 8 29 21,oT 9 1 29 28]
@[go_sem] theorem qpX:OE qD7.eq_1:=OEM qD7.eq_1
def qD8:List qB:=[oM 0 30 0,oK 1 31 30,oL 2 32 31,oM 3 2 32]
@[go_sem] theorem qpY:OE qD8.eq_1:=OEM qD8.eq_1
def XI:qJ:=⟨1,33,[.t 2],.seq (.reg true [oP 0 2 (.mov (.c (.int .u64 0)))]) (.seq (.reg true qD5) (.seq (.reg true qD6) (.seq (.reg true qD7) (.seq (.reg true qD8) (.ret)))))⟩
def qBA:List qB:=[oM 0 11 2,oM 1 12 1,oB 2 13 .sub 11 12,oM 3 6 13]
@[go_sem] theorem qm0:OE qBA.eq_1:=OEM qBA.eq_1
def qBB:List qB:=[oM 0 16 6,oP 1 17 (.conv .u64 (.t 16)),oP 2 7 (.halloc 1 (.int .u64 0)),oT 3 1 7 17]
@[go_sem] theorem qm1:OE qBB.eq_1:=OEM qBB.eq_1
def qBC:List qB:=[oM 0 20 1,oM 1 21 6,oE 2 22 .quo 21 4,oE 3 23 .mul 22 2,oB 4 24 .add 20 23,oE 5 25 .sub 24 1,oM 6 9 25]
@[go_sem] theorem qm2:OE qBC.eq_1:=OEM qBC.eq_1
def qBD:List qB:=[oM 0 26 9,oM 1 27 1,oM 2 28 6,oE 3 29 .quo 28 4,oE 4 30 .mul 29 2,oB 5 31 .add 27 30,oE 6 32 .add 31 1,oB 7 33 .leq 26 32]
@[go_sem] theorem qm3:OE qBD.eq_1:=OEM qBD.eq_1
def qBE:List qB:=[oD1 0 36 1478 7,oM 1 37 8,oP 2 38 (.bin .sub (.t 37) (.c (.int .u64 1))),oB 3 39 .and 36 38,oP 4 40 (.conv .i64 (.t 39)),oM 5 10 40]
@[go_sem] theorem qm4:OE qBE.eq_1:=OEM qBE.eq_1
def qBF:List qB:=[oM 0 44 10,oM 1 45 6,oB 2 46 .sub 44 45,oM 3 10 46]
@[go_sem] theorem qm5:OE qBF.eq_1:=OEM qBF.eq_1
def qBG:List qB:=[oM 0 47 0,oM 1 48 9,oM 2 49 0,oM 3 50 1,oM 4 51 10,oB 5 52 .add 50 51,oM 6 53 0,oM 7 54 1,oM 8 55 10,oB 9 56 .add 54 55,oA 10 57 1 53 56,oL 11 58 57,oM 12 59 0,oM 13 60 9,oA 14 61 1 59 60,oL 15 62 61,oA 16 63 1 47 48,oT 17 1 63 58,oA 18 64 1 49 52,oT 19 1 64 62]
@[go_sem] theorem qm6:OE qBG.eq_1:=OEM qBG.eq_1
def qA8:qH:=.seq (.blk 1 (.seq (.reg true qBE) (.seq (.seq (.reg true [oM 0 41 10,oM 1 42 6,oB 2 43 .geq 41 42]) (.cond (.t 43) (.reg true qBF) (.skip))) (.reg true qBG)))) (.reg true [oM 0 34 9,oE 1 35 .add 34 1,oM 2 9 35])
@[go_sem] theorem qmY:CE qA8.eq_1:=CEM qA8.eq_1
def qA9:qH:=.seq (.reg true qBB) (.seq (.reg true [oM 0 18 6,oD1 1 19 1477 18,oM 2 8 19]) (.seq (.reg true qBC) (.blk 0 (.loop (.seq (.seq (.reg true qBD) (.cond (.t 33) (.skip) (.exit 0))) qA8)))))
@[go_sem] theorem qmZ:CE qA9.eq_1:=CEM qA9.eq_1
def W1:qJ:=⟨3,65,[],.seq (.reg true qBA) (.seq (.reg true [oM 0 14 6,oE 1 15 .geq 14 8]) (.cond (.t 15) qA9 (.skip)))⟩
def qEL:List qB:=[oM 0 10 0,oM 1 11 2,oA 2 12 1 10 11,oL 3 13 12,oM 4 14 0,oM 5 15 1,oA 6 16 1 14 15,oL 7 17 16,oD2 8 18 1345 13 17]
@[go_sem] theorem qqB:OE qEL.eq_1:=OEM qEL.eq_1
def qEM:List qB:=[oM 0 19 3,oK 1 20 19,oL 2 21 20,oE 3 22 .add 21 1,oK 4 23 19,oT 5 1 23 22]
@[go_sem] theorem qqC:OE qEM.eq_1:=OEM qEM.eq_1
def qEN:List qB:=[oM 0 24 2,oM 1 25 1,oM 2 8 24,oM 3 9 25]
@[go_sem] theorem qqD:OE qEN.eq_1:=OEM qEN.eq_1
def qEO:List qB:=[oM 0 26 1,oM 1 27 2,oM 2 8 26,oM 3 9 27]
@[go_sem] theorem qqE:OE qEO.eq_1:=OEM qEO.eq_1
def XN:qJ:=⟨4,28,[.t 8,.t 9],.seq (.reg true [oC 0 8 0,oC 1 9 0]) (.seq (.seq (.reg true qEL) (.cond (.t 18) (.seq (.reg true qEM) (.seq (.reg true qEN) (.ret))) (.skip))) (.seq (.reg true qEO) (.ret)))⟩
def qEA:List qB:=[oM 0 12 0,oM 1 13 1,oM 2 14 2,oM 3 15 4,oP 4 16 (.call 1529 [.t 12,.t 13,.t 14,.t 15]),oM 5 11 16,oV 6 17 11 0,oV 7 18 11 1,oM 8 1 17,oM 9 2 18]
@[go_sem] theorem qp0:OE qEA.eq_1:=OEM qEA.eq_1
def qEB:List qB:=[oM 0 20 0,oM 1 21 2,oM 2 22 3,oM 3 23 4,oP 4 24 (.call 1529 [.t 20,.t 21,.t 22,.t 23]),oM 5 19 24,oV 6 25 19 0,oV 7 26 19 1,oM 8 2 25,oM 9 3 26]
@[go_sem] theorem qp1:OE qEB.eq_1:=OEM qEB.eq_1
def qEC:List qB:=[oM 0 28 0,oM 1 29 1,oM 2 30 2,oM 3 31 4,oP 4 32 (.call 1529 [.t 28,.t 29,.t 30,.t 31]),oM 5 27 32,oV 6 33 27 0,oV 7 34 27 1,oM 8 1 33,oM 9 2 34]
@[go_sem] theorem qp2:OE qEC.eq_1:=OEM qEC.eq_1
def XK:qJ:=⟨5,36,[.t 10],.seq (.reg true [oC 0 10 0]) (.seq (.reg true qEA) (.seq (.reg true qEB) (.seq (.reg true qEC) (.seq (.reg true [oM 0 35 2,oM 1 10 35]) (.ret)))))⟩
def qD9:List qB:=[oM 0 7 0,oM 1 8 1,oE 2 9 .sub 8 1,oM 3 10 1,oM 4 11 1,oE 5 12 .add 11 1,oM 6 13 2,oP 7 14 (.call 1480 [.t 7,.t 9,.t 10,.t 12,.t 13]),oM 8 6 14]
@[go_sem] theorem qpZ:OE qD9.eq_1:=OEM qD9.eq_1
def XJ:qJ:=⟨3,15,[.t 6],.seq (.reg true [oC 0 6 0]) (.seq (.reg true qD9) (.ret))⟩
def qBK:List qB:=[oM 0 13 2,oM 1 14 1,oB 2 15 .sub 13 14,oM 3 8 15]
@[go_sem] theorem qnA:OE qBK.eq_1:=OEM qBK.eq_1
def qBL:List qB:=[oM 0 16 1,oM 1 17 8,oE 2 18 .quo 17 4,oE 3 19 .mul 18 1,oB 4 20 .add 16 19,oM 5 10 20]
@[go_sem] theorem qnB:OE qBL.eq_1:=OEM qBL.eq_1
def qBM:List qB:=[oM 0 21 1,oM 1 22 8,oE 2 23 .quo 22 4,oE 3 24 .mul 23 2,oB 4 25 .add 21 24,oM 5 11 25]
@[go_sem] theorem qnC:OE qBM.eq_1:=OEM qBM.eq_1
def qBN:List qB:=[oM 0 26 1,oM 1 27 8,oE 2 28 .quo 27 4,oE 3 29 .mul 28 3,oB 4 30 .add 26 29,oM 5 12 30]
@[go_sem] theorem qnD:OE qBN.eq_1:=OEM qBN.eq_1
def qBO:List qB:=[oM 0 35 0,oM 1 36 10,oP 2 37 (.call 1479 [.t 35,.t 36,.t 9]),oM 3 10 37]
@[go_sem] theorem qnE:OE qBO.eq_1:=OEM qBO.eq_1
def qBP:List qB:=[oM 0 38 0,oM 1 39 11,oP 2 40 (.call 1479 [.t 38,.t 39,.t 9]),oM 3 11 40]
@[go_sem] theorem qnF:OE qBP.eq_1:=OEM qBP.eq_1
def qBQ:List qB:=[oM 0 41 0,oM 1 42 12,oP 2 43 (.call 1479 [.t 41,.t 42,.t 9]),oM 3 12 43]
@[go_sem] theorem qnG:OE qBQ.eq_1:=OEM qBQ.eq_1
def qBR:List qB:=[oM 0 44 0,oM 1 45 10,oM 2 46 11,oM 3 47 12,oP 4 48 (.call 1480 [.t 44,.t 45,.t 46,.t 47,.t 9]),oM 5 11 48]
@[go_sem] theorem qnH:OE qBR.eq_1:=OEM qBR.eq_1
def qBI:qH:=.seq (.reg true [oM 0 31 8,oE 1 32 .geq 31 8]) (.cond (.t 32) (.seq (.seq (.reg true [oM 0 33 8,oE 1 34 .geq 33 50]) (.cond (.t 34) (.seq (.reg true qBO) (.seq (.reg true qBP) (.reg true qBQ))) (.skip))) (.reg true qBR)) (.skip))
@[go_sem] theorem qm8:CE qBI.eq_1:=CEM qBI.eq_1
def qBJ:qH:=.seq (.reg true [oE 0 55 .eql 49 12,oM 1 54 55]) (.cond (.t 54) (.seq (.reg true [oM 0 56 11,oM 1 6 56,oC 2 7 2]) (.ret)) (.seq (.reg true [oM 0 50 11,oM 1 6 50,oC 2 7 0]) (.ret)))
@[go_sem] theorem qm9:CE qBJ.eq_1:=CEM qBJ.eq_1
def qBH:qH:=.seq (.reg true [oL 0 49 9]) (.blk 0 (.seq (.reg true [oE 0 52 .eql 49 0,oM 1 51 52]) (.cond (.t 51) (.seq (.reg true [oM 0 53 11,oM 1 6 53,oC 2 7 1]) (.ret)) qBJ)))
@[go_sem] theorem qm7:CE qBH.eq_1:=CEM qBH.eq_1
def W2:qJ:=⟨3,57,[.t 6,.t 7],.seq (.reg true [oC 0 6 0,oC 1 7 0]) (.seq (.reg true qBK) (.seq (.reg true [oP 0 9 (.halloc 1 (.int .i64 0))]) (.seq (.reg true qBL) (.seq (.reg true qBM) (.seq (.reg true qBN) (.seq qBI qBH))))))⟩
def qBU:List qB:=[oM 0 14 0,oM 1 15 6,oM 2 16 0,oM 3 17 7,oM 4 18 0,oM 5 19 7,oA 6 20 1 18 19,oL 7 21 20,oM 8 22 0,oM 9 23 6,oA 10 24 1 22 23,oL 11 25 24,oA 12 26 1 14 15,oT 13 1 26 21,oA 14 27 1 16 17,oT 15 1 27 25]
@[go_sem] theorem qnK:OE qBU.eq_1:=OEM qBU.eq_1
def qBS:qH:=.seq (.reg true qBU) (.seq (.reg true [oM 0 28 6,oE 1 29 .add 28 1,oM 2 6 29]) (.reg true [oM 0 30 7,oE 1 31 .sub 30 1,oM 2 7 31]))
@[go_sem] theorem qnI:CE qBS.eq_1:=CEM qBS.eq_1
def qBT:qH:=.seq (.reg true [oM 0 9 2,oE 1 10 .sub 9 1,oM 2 7 10]) (.blk 0 (.loop (.seq (.seq (.reg true [oM 0 11 6,oM 1 12 7,oB 2 13 .lss 11 12]) (.cond (.t 13) (.skip) (.exit 0))) (.blk 1 qBS))))
@[go_sem] theorem qnJ:CE qBT.eq_1:=CEM qBT.eq_1
def W3:qJ:=⟨3,32,[],.seq (.reg true [oM 0 8 1,oM 1 6 8]) qBT⟩
def qB1:List qB:=[oM 0 17 7,oM 1 18 2,oB 2 19 .lss 17 18,oM 3 20 19,oH 4 21 20 true 0,oH 5 22 20 true 7,oG 6 23 20 true (.iaddr 1 (.t 21) (.t 22)),oG 7 24 20 true (.load none (.t 23)),oH 8 25 20 true 0,oH 9 26 20 true 7,oG 10 27 20 true (.bin .sub (.t 26) (.c (.int .i64 1))),oG 11 28 20 true (.iaddr 1 (.t 25) (.t 27)),oG 12 29 20 true (.load none (.t 28)),oG 13 30 20 true (.call 1345 [.t 24,.t 29]),oG 14 31 20 true (.not (.t 30)),oPf 15 32 20 31]
@[go_sem] theorem qnR:OE qB1.eq_1:=OEM qB1.eq_1
def qB2:List qB:=[oM 0 38 2,oM 1 39 1,oB 2 40 .sub 38 39,oE 3 41 .lss 40 50]
@[go_sem] theorem qnS:OE qB2.eq_1:=OEM qB2.eq_1
def qB3:List qB:=[oM 0 42 0,oM 1 43 7,oM 2 44 0,oM 3 45 7,oE 4 46 .sub 45 1,oM 5 47 0,oM 6 48 7,oE 7 49 .sub 48 1,oA 8 50 1 47 49,oL 9 51 50,oM 10 52 0,oM 11 53 7,oA 12 54 1 52 53,oL 13 55 54,oA 14 56 1 42 43,oT 15 1 56 51,oA 16 57 1 44 46,oT 17 1 57 55]
@[go_sem] theorem qnT:OE qB3.eq_1:=OEM qB3.eq_1
def qB4:List qB:=[oM 0 58 7,oM 1 59 1,oB 2 60 .sub 58 59,oE 3 61 .geq 60 2]
@[go_sem] theorem qnU:OE qB4.eq_1:=OEM qB4.eq_1
def qB5:List qB:=[oM 0 68 0,oM 1 69 9,oA 2 70 1 68 69,oL 3 71 70,oM 4 72 0,oM 5 73 9,oE 6 74 .sub 73 1,oA 7 75 1 72 74,oL 8 76 75,oD2 9 77 1345 71 76,oJ 10 78 77]
@[go_sem] theorem qnV:OE qB5.eq_1:=OEM qB5.eq_1
def qB6:List qB:=[oM 0 79 0,oM 1 80 9,oM 2 81 0,oM 3 82 9,oE 4 83 .sub 82 1,oM 5 84 0,oM 6 85 9,oE 7 86 .sub 85 1,oA 8 87 1 84 86,oL 9 88 87,oM 10 89 0,oM 11 90 9,oA 12 91 1 89 90,oL 13 92 91,oA 14 93 1 79 80,oT 15 1 93 88,oA 16 94 1 81 83,oT 17 1 94 92]
@[go_sem] theorem qnW:OE qB6.eq_1:=OEM qB6.eq_1
def qB0:qH:=.seq (.seq (.reg true [oM 0 64 9,oE 1 65 .geq 64 1]) (.cond (.t 65) (.skip) (.exit 4))) (.seq (.blk 5 (.seq (.seq (.reg true qB5) (.cond (.t 78) (.exit 4) (.skip))) (.reg true qB6))) (.reg true [oM 0 66 9,oE 1 67 .sub 66 1,oM 2 9 67]))
@[go_sem] theorem qnQ:CE qB0.eq_1:=CEM qB0.eq_1
def qB7:List qB:=[oM 0 95 2,oM 1 96 7,oB 2 97 .sub 95 96,oE 3 98 .geq 97 2]
@[go_sem] theorem qnX:OE qB7.eq_1:=OEM qB7.eq_1
def qB8:List qB:=[oM 0 106 0,oM 1 107 10,oA 2 108 1 106 107,oL 3 109 108,oM 4 110 0,oM 5 111 10,oE 6 112 .sub 111 1,oA 7 113 1 110 112,oL 8 114 113,oD2 9 115 1345 109 114,oJ 10 116 115]
@[go_sem] theorem qnY:OE qB8.eq_1:=OEM qB8.eq_1
def qB9:List qB:=[oM 0 117 0,oM 1 118 10,oM 2 119 0,oM 3 120 10,oE 4 121 .sub 120 1,oM 5 122 0,oM 6 123 10,oE 7 124 .sub 123 1,oA 8 125 1 122 124,oL 9 126 125,oM 10 127 0,oM 11 128 10,oA 12 129 1 127 128,oL 13 130 129,oA 14 131 1 117 118,oT 15 1 131 126,oA 16 132 1 119 121,oT 17 1 132 130]
@[go_sem] theorem qnZ:OE qB9.eq_1:=OEM qB9.eq_1
def qBV:qH:=.seq (.seq (.reg true [oM 0 101 10,oM 1 102 2,oB 2 103 .lss 101 102]) (.cond (.t 103) (.skip) (.exit 6))) (.seq (.blk 7 (.seq (.seq (.reg true qB8) (.cond (.t 116) (.exit 6) (.skip))) (.reg true qB9))) (.reg true [oM 0 104 10,oE 1 105 .add 104 1,oM 2 10 105]))
@[go_sem] theorem qnL:CE qBV.eq_1:=CEM qBV.eq_1
def qBW:qH:=.seq (.seq (.reg true qB4) (.cond (.t 61) (.seq (.reg true [oM 0 62 7,oE 1 63 .sub 62 1,oM 2 9 63]) (.blk 4 (.loop qB0))) (.skip))) (.seq (.reg true qB7) (.cond (.t 98) (.seq (.reg true [oM 0 99 7,oE 1 100 .add 99 1,oM 2 10 100]) (.blk 6 (.loop qBV))) (.skip)))
@[go_sem] theorem qnM:CE qBW.eq_1:=CEM qBW.eq_1
def qBX:qH:=.seq (.seq (.reg true [oM 0 35 7,oM 1 36 2,oB 2 37 .eql 35 36]) (.cond (.t 37) (.seq (.reg true [oQ 0 6 true]) (.ret)) (.skip))) (.seq (.seq (.reg true qB2) (.cond (.t 41) (.seq (.reg true [oQ 0 6 false]) (.ret)) (.skip))) (.seq (.reg true qB3) qBW))
@[go_sem] theorem qnN:CE qBX.eq_1:=CEM qBX.eq_1
def qBY:qH:=.seq (.blk 1 (.seq (.blk 2 (.loop (.seq (.seq (.reg true qB1) (.cond (.t 32) (.skip) (.exit 2))) (.blk 3 (.reg true [oM 0 33 7,oE 1 34 .add 33 1,oM 2 7 34]))))) qBX)) (.reg true [oM 0 15 8,oE 1 16 .add 15 1,oM 2 8 16])
@[go_sem] theorem qnO:CE qBY.eq_1:=CEM qBY.eq_1
def qBZ:qH:=.seq (.seq (.reg true [oC 0 8 0]) (.blk 0 (.loop (.seq (.seq (.reg true [oM 0 13 8,oE 1 14 .lss 13 5]) (.cond (.t 14) (.skip) (.exit 0))) qBY)))) (.seq (.reg true [oQ 0 6 false]) (.ret))
@[go_sem] theorem qnP:CE qBZ.eq_1:=CEM qBZ.eq_1
def W4:qJ:=⟨3,133,[.t 6],.seq (.reg true [oQ 0 6 false]) (.seq (.reg true [oM 0 11 1,oE 1 12 .add 11 1,oM 2 7 12]) qBZ)⟩
def qCE:List qB:=[oM 0 11 0,oM 1 12 1,oM 2 13 0,oM 3 14 3,oM 4 15 0,oM 5 16 3,oA 6 17 1 15 16,oL 7 18 17,oM 8 19 0,oM 9 20 1,oA 10 21 1 19 20,oL 11 22 21,oA 12 23 1 11 12,oT 13 1 23 18,oA 14 24 1 13 14,oT 15 1 24 22]
@[go_sem] theorem qn4:OE qCE.eq_1:=OEM qCE.eq_1
def qCF:List qB:=[oM 0 25 1,oE 1 26 .add 25 1,oM 2 27 2,oE 3 28 .sub 27 1,oM 4 9 26,oM 5 10 28]
@[go_sem] theorem qn5:OE qCF.eq_1:=OEM qCF.eq_1
def qCG:List qB:=[oM 0 29 9,oM 1 30 10,oB 2 31 .leq 29 30,oM 3 32 31,oH 4 33 32 true 0,oH 5 34 32 true 1,oG 6 35 32 true (.iaddr 1 (.t 33) (.t 34)),oG 7 36 32 true (.load none (.t 35)),oH 8 37 32 true 0,oH 9 38 32 true 9,oG 10 39 32 true (.iaddr 1 (.t 37) (.t 38)),oG 11 40 32 true (.load none (.t 39)),oG 12 41 32 true (.call 1345 [.t 36,.t 40]),oG 13 42 32 true (.not (.t 41)),oPf 14 43 32 42]
@[go_sem] theorem qn6:OE qCG.eq_1:=OEM qCG.eq_1
def qCH:List qB:=[oM 0 46 9,oM 1 47 10,oB 2 48 .leq 46 47,oM 3 49 48,oH 4 50 49 true 0,oH 5 51 49 true 1,oG 6 52 49 true (.iaddr 1 (.t 50) (.t 51)),oG 7 53 49 true (.load none (.t 52)),oH 8 54 49 true 0,oH 9 55 49 true 10,oG 10 56 49 true (.iaddr 1 (.t 54) (.t 55)),oG 11 57 49 true (.load none (.t 56)),oG 12 58 49 true (.call 1345 [.t 53,.t 57]),oPf 13 59 49 58]
@[go_sem] theorem qn7:OE qCH.eq_1:=OEM qCH.eq_1
def qCI:List qB:=[oM 0 65 0,oM 1 66 9,oM 2 67 0,oM 3 68 10,oM 4 69 0,oM 5 70 10,oA 6 71 1 69 70,oL 7 72 71,oM 8 73 0,oM 9 74 9,oA 10 75 1 73 74,oL 11 76 75,oA 12 77 1 65 66,oT 13 1 77 72,oA 14 78 1 67 68,oT 15 1 78 76]
@[go_sem] theorem qn8:OE qCI.eq_1:=OEM qCI.eq_1
def qCB:qH:=.seq (.reg true qCI) (.seq (.reg true [oM 0 79 9,oE 1 80 .add 79 1,oM 2 9 80]) (.reg true [oM 0 81 10,oE 1 82 .sub 81 1,oM 2 10 82]))
@[go_sem] theorem qn1:CE qCB.eq_1:=CEM qCB.eq_1
def qCC:qH:=.seq (.blk 4 (.loop (.seq (.seq (.reg true qCH) (.cond (.t 59) (.skip) (.exit 4))) (.blk 5 (.reg true [oM 0 60 10,oE 1 61 .sub 60 1,oM 2 10 61]))))) (.seq (.seq (.reg true [oM 0 62 9,oM 1 63 10,oB 2 64 .gtr 62 63]) (.cond (.t 64) (.exit 0) (.skip))) qCB)
@[go_sem] theorem qn2:CE qCC.eq_1:=CEM qCC.eq_1
def qCD:qH:=.loop (.blk 1 (.seq (.blk 2 (.loop (.seq (.seq (.reg true qCG) (.cond (.t 43) (.skip) (.exit 2))) (.blk 3 (.reg true [oM 0 44 9,oE 1 45 .add 44 1,oM 2 9 45]))))) qCC))
@[go_sem] theorem qn3:CE qCD.eq_1:=CEM qCD.eq_1
def W6:qJ:=⟨4,84,[.t 8],.seq (.reg true [oC 0 8 0]) (.seq (.reg true qCE) (.seq (.reg true qCF) (.seq (.blk 0 qCD) (.seq (.reg true [oM 0 83 9,oM 1 8 83]) (.ret)))))⟩
def qCQ:List qB:=[oM 0 12 0,oM 1 13 1,oM 2 14 0,oM 3 15 3,oM 4 16 0,oM 5 17 3,oA 6 18 1 16 17,oL 7 19 18,oM 8 20 0,oM 9 21 1,oA 10 22 1 20 21,oL 11 23 22,oA 12 24 1 12 13,oT 13 1 24 19,oA 14 25 1 14 15,oT 15 1 25 23]
@[go_sem] theorem qoG:OE qCQ.eq_1:=OEM qCQ.eq_1
def qCR:List qB:=[oM 0 26 1,oE 1 27 .add 26 1,oM 2 28 2,oE 3 29 .sub 28 1,oM 4 10 27,oM 5 11 29]
@[go_sem] theorem qoI:OE qCR.eq_1:=OEM qCR.eq_1
def qCT:List qB:=[oM 0 30 10,oM 1 31 11,oB 2 32 .leq 30 31,oM 3 33 32,oH 4 34 33 true 0,oH 5 35 33 true 10,oG 6 36 33 true (.iaddr 1 (.t 34) (.t 35)),oG 7 37 33 true (.load none (.t 36)),oH 8 38 33 true 0,oH 9 39 33 true 1,oG 10 40 33 true (.iaddr 1 (.t 38) (.t 39)),oG 11 41 33 true (.load none (.t 40)),oG 12 42 33 true (.call 1345 [.t 37,.t 41]),oPf 13 43 33 42]
@[go_sem] theorem qoJ:OE qCT.eq_1:=OEM qCT.eq_1
def qCU:List qB:=[oM 0 46 10,oM 1 47 11,oB 2 48 .leq 46 47,oM 3 49 48,oH 4 50 49 true 0,oH 5 51 49 true 11,oG 6 52 49 true (.iaddr 1 (.t 50) (.t 51)),oG 7 53 49 true (.load none (.t 52)),oH 8 54 49 true 0,oH 9 55 49 true 1,oG 10 56 49 true (.iaddr 1 (.t 54) (.t 55)),oG 11 57 49 true (.load none (.t 56)),oG 12 58 49 true (.call 1345 [.t 53,.t 57]),oG 13 59 49 true (.not (.t 58)),oPf 14 60 49 59]
@[go_sem] theorem qoK:OE qCU.eq_1:=OEM qCU.eq_1
def qCV:List qB:=[oM 0 66 0,oM 1 67 11,oM 2 68 0,oM 3 69 1,oM 4 70 0,oM 5 71 1,oA 6 72 1 70 71,oL 7 73 72,oM 8 74 0,oM 9 75 11,oA 10 76 1 74 75,oL 11 77 76,oA 12 78 1 66 67,oT 13 1 78 73,oA 14 79 1 68 69,oT 15 1 79 77]
@[go_sem] theorem qoL:OE qCV.eq_1:=OEM qCV.eq_1
def qCP:qH:=.seq (.reg true [oM 0 63 10,oM 1 64 11,oB 2 65 .gtr 63 64]) (.cond (.t 65) (.seq (.reg true qCV) (.seq (.reg true [oM 0 80 11,oM 1 8 80,oQ 2 9 true]) (.ret))) (.skip))
@[go_sem] theorem qoF:CE qCP.eq_1:=CEM qCP.eq_1
def qCW:List qB:=[oM 0 81 0,oM 1 82 10,oM 2 83 0,oM 3 84 11,oM 4 85 0,oM 5 86 11,oA 6 87 1 85 86,oL 7 88 87,oM 8 89 0,oM 9 90 10,oA 10 91 1 89 90,oL 11 92 91,oA 12 93 1 81 82,oT 13 1 93 88,oA 14 94 1 83 84,oT 15 1 94 92]
@[go_sem] theorem qoM:OE qCW.eq_1:=OEM qCW.eq_1
def qCX:List qB:=[oM 0 99 10,oM 1 100 11,oB 2 101 .leq 99 100,oM 3 102 101,oH 4 103 102 true 0,oH 5 104 102 true 10,oG 6 105 102 true (.iaddr 1 (.t 103) (.t 104)),oG 7 106 102 true (.load none (.t 105)),oH 8 107 102 true 0,oH 9 108 102 true 1,oG 10 109 102 true (.iaddr 1 (.t 107) (.t 108)),oG 11 110 102 true (.load none (.t 109)),oG 12 111 102 true (.call 1345 [.t 106,.t 110]),oPf 13 112 102 111]
@[go_sem] theorem qoN:OE qCX.eq_1:=OEM qCX.eq_1
def qCY:List qB:=[oM 0 115 10,oM 1 116 11,oB 2 117 .leq 115 116,oM 3 118 117,oH 4 119 118 true 0,oH 5 120 118 true 11,oG 6 121 118 true (.iaddr 1 (.t 119) (.t 120)),oG 7 122 118 true (.load none (.t 121)),oH 8 123 118 true 0,oH 9 124 118 true 1,oG 10 125 118 true (.iaddr 1 (.t 123) (.t 124)),oG 11 126 118 true (.load none (.t 125)),oG 12 127 118 true (.call 1345 [.t 122,.t 126]),oG 13 128 118 true (.not (.t 127)),oPf 14 129 118 128]
@[go_sem] theorem qoO:OE qCY.eq_1:=OEM qCY.eq_1
def qCZ:List qB:=[oM 0 135 0,oM 1 136 10,oM 2 137 0,oM 3 138 11,oM 4 139 0,oM 5 140 11,oA 6 141 1 139 140,oL 7 142 141,oM 8 143 0,oM 9 144 10,oA 10 145 1 143 144,oL 11 146 145,oA 12 147 1 135 136,oT 13 1 147 142,oA 14 148 1 137 138,oT 15 1 148 146]
@[go_sem] theorem qoP:OE qCZ.eq_1:=OEM qCZ.eq_1
def qCJ:qH:=.seq (.reg true qCZ) (.seq (.reg true [oM 0 149 10,oE 1 150 .add 149 1,oM 2 10 150]) (.reg true [oM 0 151 11,oE 1 152 .sub 151 1,oM 2 11 152]))
@[go_sem] theorem qn9:CE qCJ.eq_1:=CEM qCJ.eq_1
def qCK:qH:=.seq (.blk 8 (.loop (.seq (.seq (.reg true qCY) (.cond (.t 129) (.skip) (.exit 8))) (.blk 9 (.reg true [oM 0 130 11,oE 1 131 .sub 130 1,oM 2 11 131]))))) (.seq (.seq (.reg true [oM 0 132 10,oM 1 133 11,oB 2 134 .gtr 132 133]) (.cond (.t 134) (.exit 4) (.skip))) qCJ)
@[go_sem] theorem qoA:CE qCK.eq_1:=CEM qCK.eq_1
def qCL:qH:=.loop (.blk 5 (.seq (.blk 6 (.loop (.seq (.seq (.reg true qCX) (.cond (.t 112) (.skip) (.exit 6))) (.blk 7 (.reg true [oM 0 113 10,oE 1 114 .add 113 1,oM 2 10 114]))))) qCK))
@[go_sem] theorem qoB:CE qCL.eq_1:=CEM qCL.eq_1
def qCS:List qB:=[oM 0 153 0,oM 1 154 11,oM 2 155 0,oM 3 156 1,oM 4 157 0,oM 5 158 1,oA 6 159 1 157 158,oL 7 160 159,oM 8 161 0,oM 9 162 11,oA 10 163 1 161 162,oL 11 164 163,oA 12 165 1 153 154,oT 13 1 165 160,oA 14 166 1 155 156,oT 15 1 166 164]
@[go_sem] theorem qoH:OE qCS.eq_1:=OEM qCS.eq_1
def qCM:qH:=.seq (.reg true [oM 0 97 11,oE 1 98 .sub 97 1,oM 2 11 98]) (.seq (.blk 4 qCL) (.seq (.reg true qCS) (.seq (.reg true [oM 0 167 11,oM 1 8 167,oQ 2 9 false]) (.ret))))
@[go_sem] theorem qoC:CE qCM.eq_1:=CEM qCM.eq_1
def qCN:qH:=.seq (.blk 2 (.loop (.seq (.seq (.reg true qCU) (.cond (.t 60) (.skip) (.exit 2))) (.blk 3 (.reg true [oM 0 61 11,oE 1 62 .sub 61 1,oM 2 11 62]))))) (.seq qCP (.seq (.reg true qCW) (.seq (.reg true [oM 0 95 10,oE 1 96 .add 95 1,oM 2 10 96]) qCM)))
@[go_sem] theorem qoD:CE qCN.eq_1:=CEM qCN.eq_1
def qCO:qH:=.seq (.reg true qCQ) (.seq (.reg true qCR) (.seq (.blk 0 (.loop (.seq (.seq (.reg true qCT) (.cond (.t 43) (.skip) (.exit 0))) (.blk 1 (.reg true [oM 0 44 10,oE 1 45 .add 44 1,oM 2 10 45]))))) qCN))
@[go_sem] theorem qoE:CE qCO.eq_1:=CEM qCO.eq_1
def W7:qJ:=⟨4,168,[.t 8,.t 9],.seq (.reg true [oC 0 8 0,oQ 1 9 false]) qCO⟩
def Uy:List qB:=[oM 0 19 2,oM 1 20 1,oB 2 21 .sub 19 20,oM 3 10 21]
@[go_sem] theorem qiS:OE Uy.eq_1:=OEM Uy.eq_1
def Uz:List qB:=[oM 0 24 0,oM 1 25 1,oM 2 26 2,oP 3 27 (.call 1339 [.t 24,.t 25,.t 26])]
@[go_sem] theorem qiZ:OE Uz.eq_1:=OEM Uz.eq_1
def U6:List qB:=[oM 0 30 0,oM 1 31 1,oM 2 32 2,oP 3 33 (.call 1340 [.t 30,.t 31,.t 32])]
@[go_sem] theorem qi0:OE U6.eq_1:=OEM U6.eq_1
def U7:List qB:=[oM 0 36 0,oM 1 37 1,oM 2 38 2,oP 3 39 (.call 1341 [.t 36,.t 37,.t 38])]
@[go_sem] theorem qi1:OE U7.eq_1:=OEM U7.eq_1
def ZF:List qB:=[oM 0 43 0,oM 1 44 1,oM 2 45 2,oP 3 46 (.call 1342 [.t 43,.t 44,.t 45]),oM 4 42 46,oV 5 47 42 0,oV 6 48 42 1,oM 7 11 47,oM 8 12 48]
@[go_sem] theorem qVX:OE ZF.eq_1:=OEM ZF.eq_1
def U8:List qB:=[oM 0 51 0,oM 1 52 1,oM 2 53 2,oP 3 54 (.call 1343 [.t 51,.t 52,.t 53])]
@[go_sem] theorem qi2:OE U8.eq_1:=OEM U8.eq_1
def U9:List qB:=[oM 0 55 2,oE 1 56 .sub 55 1,oM 2 57 11,oM 3 58 1,oB 4 59 .sub 57 58,oB 5 60 .sub 56 59,oM 6 11 60]
@[go_sem] theorem qi3:OE U9.eq_1:=OEM U9.eq_1
def ZG:List qB:=[oM 0 61 8,oM 1 62 61,oH 2 63 62 true 9,oPf 3 64 62 63,oM 4 65 64,oH 5 66 65 true 12,oG 6 67 65 true (.bin .eql (.t 66) (.c (.int .i64 1))),oPf 7 68 65 67]
@[go_sem] theorem qVY:OE ZG.eq_1:=OEM ZG.eq_1
def WU:List qB:=[oM 0 69 0,oM 1 70 1,oM 2 71 2,oP 3 72 (.call 1344 [.t 69,.t 70,.t 71])]
@[go_sem] theorem qi4:OE WU.eq_1:=OEM WU.eq_1
def KA:List qB:=[oM 0 73 1,oE 1 74 .gtr 73 0,oM 2 75 74,oH 3 76 75 true 0,oH 4 77 75 true 1,oG 5 78 75 true (.bin .sub (.t 77) (.c (.int .i64 1))),oG 6 79 75 true (.iaddr 1 (.t 76) (.t 78)),oG 7 80 75 true (.load none (.t 79)),oH 8 81 75 true 0,oH 9 82 75 true 11,oG 10 83 75 true (.iaddr 1 (.t 81) (.t 82)),oG 11 84 75 true (.load none (.t 83)),oG 12 85 75 true (.call 1345 [.t 80,.t 84]),oG 13 86 75 true (.not (.t 85)),oPf 14 87 75 86]
@[go_sem] theorem qi5:OE KA.eq_1:=OEM KA.eq_1
def U0:List qB:=[oM 0 88 0,oM 1 89 1,oM 2 90 2,oM 3 91 11,oP 4 92 (.call 1346 [.t 88,.t 89,.t 90,.t 91]),oM 5 13 92]
@[go_sem] theorem qiT:OE U0.eq_1:=OEM U0.eq_1
def ZE:List qB:=[oM 0 95 0,oM 1 96 1,oM 2 97 2,oM 3 98 11,oP 4 99 (.call 1347 [.t 95,.t 96,.t 97,.t 98]),oM 5 94 99,oV 6 100 94 0,oV 7 101 94 1,oM 8 14 100,oM 9 15 101]
@[go_sem] theorem qVW:OE ZE.eq_1:=OEM ZE.eq_1
def U1:List qB:=[oM 0 103 14,oM 1 104 1,oB 2 105 .sub 103 104,oM 3 106 2,oM 4 107 14,oB 5 108 .sub 106 107,oM 6 16 105,oM 7 17 108]
@[go_sem] theorem qiU:OE U1.eq_1:=OEM U1.eq_1
def U2:List qB:=[oM 0 114 16,oM 1 115 18,oB 2 116 .geq 114 115,oM 3 8 116]
@[go_sem] theorem qiV:OE U2.eq_1:=OEM U2.eq_1
def U3:List qB:=[oM 0 117 0,oM 1 118 1,oM 2 119 14,oM 3 120 3,oP 4 121 (.call 1053 [.t 117,.t 118,.t 119,.t 120])]
@[go_sem] theorem qiW:OE U3.eq_1:=OEM U3.eq_1
def U4:List qB:=[oM 0 124 17,oM 1 125 18,oB 2 126 .geq 124 125,oM 3 8 126]
@[go_sem] theorem qiX:OE U4.eq_1:=OEM U4.eq_1
def U5:List qB:=[oM 0 127 0,oM 1 128 14,oE 2 129 .add 128 1,oM 3 130 2,oM 4 131 3,oP 5 132 (.call 1053 [.t 127,.t 129,.t 130,.t 131])]
@[go_sem] theorem qiY:OE U5.eq_1:=OEM U5.eq_1
def Uv:qH:=.cond (.t 113) (.seq (.reg true U2) (.seq (.reg true U3) (.reg true [oM 0 122 14,oE 1 123 .add 122 1,oM 2 1 123]))) (.seq (.reg true U4) (.seq (.reg true U5) (.reg true [oM 0 133 14,oM 1 2 133])))
@[go_sem] theorem qiO:CE Uv.eq_1:=CEM Uv.eq_1
def QL:qH:=.seq (.reg true U1) (.seq (.reg true [oM 0 109 10,oE 1 110 .quo 109 8,oM 2 18 110]) (.seq (.reg true [oM 0 111 16,oM 1 112 17,oB 2 113 .lss 111 112]) Uv))
@[go_sem] theorem qiP:CE QL.eq_1:=CEM QL.eq_1
def QM:qH:=.seq (.seq (.reg true KA) (.cond (.t 87) (.seq (.reg true U0) (.seq (.reg true [oM 0 93 13,oM 1 1 93]) (.exit 1))) (.skip))) (.seq (.reg true ZE) (.seq (.reg true [oM 0 102 15,oM 1 9 102]) QL))
@[go_sem] theorem qVU:CE QM.eq_1:=CEM QM.eq_1
def Jy:qH:=.seq (.seq (.reg true [oM 0 49 12,oE 1 50 .eql 49 2]) (.cond (.t 50) (.seq (.reg true U8) (.seq (.reg true U9) (.reg true [oC 0 12 1]))) (.skip))) (.seq (.seq (.reg true ZG) (.cond (.t 68) (.seq (.reg true WU) (.cond (.t 72) (.ret) (.skip))) (.skip))) QM)
@[go_sem] theorem qVV:CE Jy.eq_1:=CEM Jy.eq_1
def Uw:qH:=.seq (.seq (.reg true [oM 0 34 8,oJ 1 35 34]) (.cond (.t 35) (.seq (.reg true U7) (.reg true [oM 0 40 3,oE 1 41 .sub 40 1,oM 2 3 41])) (.skip))) (.seq (.reg true ZF) Jy)
@[go_sem] theorem qiQ:CE Uw.eq_1:=CEM Uw.eq_1
def Ux:qH:=.seq (.reg true Uy) (.seq (.seq (.reg true [oM 0 22 10,oE 1 23 .leq 22 12]) (.cond (.t 23) (.seq (.reg true Uz) (.ret)) (.skip))) (.seq (.seq (.reg true [oM 0 28 3,oE 1 29 .eql 28 0]) (.cond (.t 29) (.seq (.reg true U6) (.ret)) (.skip))) Uw))
@[go_sem] theorem qiR:CE Ux.eq_1:=CEM Ux.eq_1
def WT:qJ:=⟨4,134,[],.seq (.reg true [oQ 0 8 true]) (.seq (.reg true [oQ 0 9 true]) (.blk 0 (.loop (.blk 1 Ux))))⟩
def qIK:List qB:=[oM 0 5 0,oM 1 6 2,oM 2 7 2,oP 3 8 (.conv .u64 (.t 7)),oD1 4 9 1054 8,oP 5 10 (.call 1053 [.t 5,.c (.int .i64 0),.t 6,.t 9])]
@[go_sem] theorem quA:OE qIK.eq_1:=OEM qIK.eq_1
def Xu:qJ:=⟨1,11,[],.seq (.reg true [oM 0 3 0,oW 1 4 3,oM 2 2 4]) (.reg true qIK)⟩
def Uc:List qB:=[oM 0 10 1,oU 1 11 2,oX 2 12 2 1,oP 3 13 (.bslice 1 (.int .i64 0) 1 [(0,.t 12)]),oP 4 14 (.app 1 (.t 10) (.t 13)),oM 5 1 14]
@[go_sem] theorem qh5:OE Uc.eq_1:=OEM Uc.eq_1
def Ud:List qB:=[oM 0 15 1,oU 1 16 2,oX 2 17 2 2,oP 3 18 (.app 1 (.t 15) (.t 17)),oM 4 1 18]
@[go_sem] theorem qh6:OE Ud.eq_1:=OEM Ud.eq_1
def Ue:List qB:=[oU 0 19 2,oX 1 20 2 3,oW 2 21 20,oC 3 22 0]
@[go_sem] theorem qh7:OE Ue.eq_1:=OEM Ue.eq_1
def Uf:List qB:=[oA 0 24 4 20 22,oP 1 25 (.load (some 4) (.t 24)),oZ 2 6,oS 3 6 0 4 25]
@[go_sem] theorem qh8:OE Uf.eq_1:=OEM Uf.eq_1
def Ug:List qB:=[oY 0 26 6 0 4,oM 1 27 1,oD2 2 28 1041 26 27,oM 3 1 28]
@[go_sem] theorem qh9:OE Ug.eq_1:=OEM Ug.eq_1
def Ua:qH:=.loop (.seq (.reg true [oB 0 23 .lss 22 21]) (.seq (.cond (.t 23) (.skip) (.exit 0)) (.seq (.blk 1 (.seq (.reg true Uf) (.reg true Ug))) (.reg true [oE 0 29 .add 22 1,oM 1 22 29]))))
@[go_sem] theorem qh3:CE Ua.eq_1:=CEM Ua.eq_1
def Ub:qH:=.seq (.seq (.reg true [oU 0 7 2,oX 1 8 2 0,oE 2 9 .eql 8 11]) (.cond (.t 9) (.reg true Uc) (.skip))) (.seq (.reg true Ud) (.seq (.seq (.reg true Ue) (.blk 0 Ua)) (.seq (.reg true [oM 0 30 1,oM 1 4 30]) (.ret))))
@[go_sem] theorem qh4:CE Ub.eq_1:=CEM Ub.eq_1
def WP:qJ:=⟨2,31,[.t 4],.seq (.reg true [oP 0 2 (.lbox 4 (.t 0)),oP 1 4 (.mov (.c (.nils)))]) Ub⟩
def qID:List qB:=[oU 0 6 2,oX 1 7 2 0,oM 2 8 1,oA 3 9 4 7 8,oP 4 10 (.load (some 4) (.t 9)),oP 5 11 (.call 1041 [.t 10,.c (.nils)]),oM 6 5 11]
@[go_sem] theorem qt3:OE qID.eq_1:=OEM qID.eq_1
def Xs:qJ:=⟨2,16,[.t 4],.seq (.reg true [oP 0 2 (.lbox 1 (.t 0)),oP 1 4 (.mov (.c (.nils)))]) (.seq (.reg true qID) (.seq (.reg true [oM 0 12 5,oD1 1 13 678 12]) (.seq (.reg true [oM 0 14 5,oD1 1 15 1042 14,oM 2 4 15]) (.ret))))⟩
def UV:List qB:=[oM 0 11 6,oM 1 12 5,oW 2 13 12,oB 3 14 .lss 11 13]
@[go_sem] theorem qhY:OE UV.eq_1:=OEM UV.eq_1
def UW:List qB:=[oY 0 17 2 0 1,oM 1 18 5,oM 2 19 6,oA 3 20 1 18 19,oL 4 21 20,oC 7 24 0,oD2 5 22 664 17 21,oW 6 23 22]
@[go_sem] theorem qhZ:OE UW.eq_1:=OEM UW.eq_1
def UX:List qB:=[oM 0 28 5,oM 1 29 8,oD2 2 30 647 28 29,oJ 3 31 30]
@[go_sem] theorem qh0:OE UX.eq_1:=OEM UX.eq_1
def UY:List qB:=[oM 0 32 5,oM 1 33 8,oP 2 34 (.bslice 1 (.int .i64 0) 1 [(0,.t 33)]),oP 3 35 (.app 1 (.t 32) (.t 34)),oM 4 5 35]
@[go_sem] theorem qh1:OE UY.eq_1:=OEM UY.eq_1
def US:qH:=.seq (.blk 3 (.seq (.reg true [oA 0 26 1 22 24,oL 1 27 26,oM 2 8 27]) (.seq (.reg true UX) (.cond (.t 31) (.reg true UY) (.skip))))) (.reg true [oE 0 36 .add 24 1,oM 1 24 36])
@[go_sem] theorem qhV:CE US.eq_1:=CEM US.eq_1
def UT:qH:=.seq (.blk 1 (.seq (.reg true UW) (.blk 2 (.loop (.seq (.reg true [oB 0 25 .lss 24 23]) (.seq (.cond (.t 25) (.skip) (.exit 2)) US)))))) (.reg true [oM 0 15 6,oE 1 16 .add 15 1,oM 2 6 16])
@[go_sem] theorem qhW:CE UT.eq_1:=CEM UT.eq_1
def UU:qH:=.seq (.seq (.reg true [oC 0 6 0]) (.blk 0 (.loop (.seq (.seq (.reg true UV) (.cond (.t 14) (.skip) (.exit 0))) UT)))) (.seq (.reg true [oM 0 37 5,oD1 1 38 678 37]) (.seq (.reg true [oM 0 39 5,oD1 1 40 1042 39,oM 2 4 40]) (.ret)))
@[go_sem] theorem qhX:CE UU.eq_1:=CEM UU.eq_1
def WN:qJ:=⟨2,41,[.t 4],.seq (.reg true [oP 0 2 (.lbox 1 (.t 0)),oP 1 4 (.mov (.c (.nils)))]) (.seq (.reg true [oM 0 9 1,oD1 1 10 401 9,oM 2 5 10]) UU)⟩
def UZ:List qB:=[oP 0 5 (.load (some 1) (.t 1)),oM 1 6 0,oL 3 8 2,⟨2,some 7,none,.call 664 [.t 5,.t 6],[⟨3,some 8,none,.load none (.t 2),[]⟩]⟩,oD2 4 9 647 7 8,oM 5 4 9]
@[go_sem] theorem qh2:OE UZ.eq_1:=OEM UZ.eq_1
def WO:qJ:=⟨3,10,[.t 4],.seq (.reg true [oQ 0 4 false]) (.seq (.reg true UZ) (.ret))⟩
def qIC:List qB:=[oP 0 5 (.load (some 1) (.t 2)),oL 1 6 3,oP 2 7 (.bslice 1 (.int .i64 0) 1 [(0,.t 6)]),oD2 3 8 1039 5 7,oP 4 9 (.mkfn 1040 [.t 2,.t 3]),oD2 5 10 397 8 9,oM 6 4 10]
@[go_sem] theorem qt2:OE qIC.eq_1:=OEM qIC.eq_1
def Xr:qJ:=⟨2,11,[.t 4],.seq (.reg true [oP 0 2 (.hbox 1 (.t 0)),oP 1 3 (.hbox 1 (.t 1)),oQ 2 4 false]) (.seq (.reg true qIC) (.ret))⟩
def qLY:List qB:=[oY 0 10 2 0 1,oM 1 11 1,oP 2 12 (.build (.agg [.nils,.int .i64 0,.nils]) [(0,1,.t 10),(1,1,.t 11)]),oP 3 13 (.hbox 3 (.t 12)),oM 4 5 13]
@[go_sem] theorem qxO:OE qLY.eq_1:=OEM qLY.eq_1
def qLZ:List qB:=[oU 0 14 2,oX 1 15 2 0,oW 2 16 15,oC 3 17 0]
@[go_sem] theorem qxP:OE qLZ.eq_1:=OEM qLZ.eq_1
def qL0:List qB:=[oM 0 19 17,oA 1 20 4 15 17,oP 2 21 (.load (some 4) (.t 20)),oZ 3 7,oM 4 6 19,oS 5 7 0 4 21]
@[go_sem] theorem qxQ:OE qL0.eq_1:=OEM qL0.eq_1
def qL1:List qB:=[oY 0 23 7 0 4,oD1 1 24 665 23,oM 2 22 24,oV 3 25 22 0,oV 4 26 22 1,oM 5 8 25,oM 6 9 26]
@[go_sem] theorem qxR:OE qL1.eq_1:=OEM qL1.eq_1
def qL2:List qB:=[oM 0 27 5,oM 1 28 5,oK 2 29 28,oF 3 30 2 29,oL 4 31 30,oU 5 32 7,oX 6 33 7 0,oE 7 34 .eql 33 4,oM 8 35 34,oH 9 36 35 true 9,oH 10 37 35 true 1,oG 11 38 35 true (.bin .leq (.t 36) (.t 37)),oPf 12 39 35 38,oM 13 40 39,oG 14 41 40 true (.lload 2 0 (some 1)),oH 15 42 40 true 6,⟨16,some 43,(some (40,true)),.call 663 [.t 41,.t 42],[⟨4,some 31,none,.load none (.t 30),[]⟩]⟩,oG 17 44 40 true (.not (.t 43)),oPf 18 45 40 44,oP 19 46 (.bslice 1 (.bool false) 1 [(0,.t 45)]),oP 20 47 (.app 1 (.t 31) (.t 46)),oK 21 48 27,oF 22 49 2 48,oT 23 1 49 47]
@[go_sem] theorem qxS:OE qL2.eq_1:=OEM qL2.eq_1
def qLX:qH:=.loop (.seq (.reg true [oB 0 18 .lss 17 16]) (.seq (.cond (.t 18) (.skip) (.exit 0)) (.seq (.blk 1 (.seq (.reg true qL0) (.seq (.reg true qL1) (.reg true qL2)))) (.reg true [oE 0 50 .add 17 1,oM 1 17 50]))))
@[go_sem] theorem qxN:CE qLX.eq_1:=CEM qLX.eq_1
def YD:qJ:=⟨2,52,[.t 4],.seq (.reg true [oP 0 2 (.lbox 1 (.t 0)),oP 1 4 (.mov (.c (.nilp)))]) (.seq (.reg true qLY) (.seq (.seq (.reg true qLZ) (.blk 0 qLX)) (.seq (.reg true [oM 0 51 5,oM 1 4 51]) (.ret))))⟩
def qGU:List qB:=[oP 0 4 (.lbox 1 (.t 0)),oP 1 5 (.lbox 4 (.t 1)),oP 2 8 (.mov (.c (.nilp))),oC 3 9 0]
@[go_sem] theorem qsK:OE qGU.eq_1:=OEM qGU.eq_1
def qGV:List qB:=[oY 0 11 4 0 1,oD1 1 12 498 11,oJ 2 13 12,oM 3 14 13,oG 4 15 14 false (.lload 5 0 (some 4)),oG 5 16 14 false (.call 521 [.t 15]),oG 6 17 14 false (.not (.t 16)),oPt 7 18 14 17,oM 8 19 18,oG 9 20 19 false (.lload 5 0 (some 4)),oG 10 21 19 false (.nop 4),oG 11 22 19 false (.lload 4 0 none),oG 12 23 19 false (.len (.t 22)),oG 13 24 19 false (.call 847 [.t 20,.t 23]),oG 14 25 19 false (.not (.t 24)),oPt 15 26 19 25,oM 16 10 26]
@[go_sem] theorem qsL:OE qGV.eq_1:=OEM qGV.eq_1
def qGW:List qB:=[oY 0 28 5 0 4,oD1 1 29 522 28,oJ 2 30 29,oM 3 31 30,oG 4 32 31 false (.lload 4 0 (some 1)),oG 5 33 31 false (.call 848 [.t 32]),oG 6 34 31 false (.not (.t 33)),oPt 7 35 31 34,oM 8 27 35]
@[go_sem] theorem qsM:OE qGW.eq_1:=OEM qGW.eq_1
def qGX:List qB:=[oM 0 37 2,oP 1 38 (.bslice 1 (.int .i64 0) 1 [(0,.t 37)]),oP 2 39 (.call 436 [.c (.int .i64 40),.t 38]),oJ 3 40 39,oM 4 41 40,oH 5 42 41 false 3,oG 6 43 41 false (.bslice 1 (.int .i64 0) 1 [(0,.t 42)]),oG 7 44 41 false (.call 436 [.c (.int .i64 2000),.t 43]),oG 8 45 41 false (.not (.t 44)),oPt 9 46 41 45,oM 10 36 46]
@[go_sem] theorem qsN:OE qGX.eq_1:=OEM qGX.eq_1
def qGT:qH:=.cond (.t 10) (.seq (.reg true [oP 0 8 (.mov (.c (.nilp))),oC 1 9 1]) (.ret)) (.seq (.reg true qGW) (.cond (.t 27) (.seq (.reg true [oP 0 8 (.mov (.c (.nilp))),oC 1 9 9]) (.ret)) (.seq (.reg true qGX) (.cond (.t 36) (.seq (.reg true [oP 0 8 (.mov (.c (.nilp))),oC 1 9 2]) (.ret)) (.skip)))))
@[go_sem] theorem qsJ:CE qGT.eq_1:=CEM qGT.eq_1
def qGY:List qB:=[oY 0 47 4 0 1,oM 1 48 2,oD2 2 49 849 47 48,oM 3 8 49,oC 4 9 0]
@[go_sem] theorem qsO:OE qGY.eq_1:=OEM qGY.eq_1
def Xc:qJ:=⟨4,50,[.t 8,.t 9],.seq (.reg true qGU) (.seq (.blk 0 (.seq (.reg true qGV) qGT)) (.seq (.reg true qGY) (.ret)))⟩
def qKJ:List qB:=[oP 0 5 (.mov (.c (.lst 4 [] true))),oM 1 6 0,oP 2 7 (.app 4 (.t 5) (.t 6)),oM 3 2 7]
@[go_sem] theorem qv9:OE qKJ.eq_1:=OEM qKJ.eq_1
def X4:qJ:=⟨1,8,[.t 2],.seq (.reg true [oP 0 2 (.mov (.c (.nils)))]) (.seq (.seq (.reg true [oM 0 3 0,oP 1 4 (.isnil 1 false (.t 3))]) (.cond (.t 4) (.seq (.reg true [oP 0 2 (.mov (.c (.nils)))]) (.ret)) (.skip))) (.seq (.reg true qKJ) (.ret)))⟩
def qIX:List qB:=[oU 0 5 1,oX 1 6 1 3,oW 2 7 6,oE 3 8 .eql 7 0]
@[go_sem] theorem quN:OE qIX.eq_1:=OEM qIX.eq_1
def qIY:List qB:=[oU 0 9 1,oX 1 10 1 3,oP 2 11 (.iaddr 4 (.t 10) (.c (.int .i64 0))),oP 3 12 (.load (some 4) (.t 11)),oZ 4 3,oS 5 3 0 4 12]
@[go_sem] theorem quO:OE qIY.eq_1:=OEM qIY.eq_1
def qIV:qH:=.seq (.reg true [oE 0 20 .eql 18 4,oM 1 19 20]) (.cond (.t 19) (.seq (.reg true [oC 0 2 1]) (.ret)) (.seq (.reg true [oE 0 22 .eql 18 11,oM 1 21 22]) (.cond (.t 21) (.seq (.reg true [oC 0 2 4]) (.ret)) (.skip))))
@[go_sem] theorem quL:CE qIV.eq_1:=CEM qIV.eq_1
def qIZ:List qB:=[oU 0 25 1,oX 1 26 1 3,oP 2 27 (.iaddr 4 (.t 26) (.c (.int .i64 1))),oP 3 28 (.load (some 4) (.t 27)),oZ 4 4,oS 5 4 0 4 28]
@[go_sem] theorem quP:OE qIZ.eq_1:=OEM qIZ.eq_1
def qI0:List qB:=[oU 0 30 3,oX 1 31 3 0,oE 2 32 .eql 31 2,oM 3 33 32,oG 4 34 33 true (.nop 4),oG 5 35 33 true (.lload 4 0 none),oG 6 36 33 true (.bin .eql (.t 35) (.c (.int .i64 2))),oPf 7 37 33 36,oM 8 29 37]
@[go_sem] theorem quQ:OE qI0.eq_1:=OEM qI0.eq_1
def qI1:List qB:=[oU 0 39 3,oX 1 40 3 0,oE 2 41 .eql 40 11,oM 3 42 41,oG 4 43 42 false (.nop 3),oG 5 44 42 false (.lload 3 0 none),oG 6 45 42 false (.bin .eql (.t 44) (.c (.int .i64 2))),oH 7 46 42 false 45,oG 8 47 46 true (.nop 4),oG 9 48 46 true (.lload 4 0 none),oG 10 49 46 true (.bin .eql (.t 48) (.c (.int .i64 11))),oG 11 50 42 false (.pick (.t 46) (.t 49) (.c (.bool false))),oPt 12 51 42 50,oM 13 38 51]
@[go_sem] theorem quR:OE qI1.eq_1:=OEM qI1.eq_1
def qI2:List qB:=[oU 0 56 3,oX 1 57 3 0,oE 2 58 .eql 57 11,oM 3 55 58]
@[go_sem] theorem quS:OE qI2.eq_1:=OEM qI2.eq_1
def qI3:List qB:=[oU 0 60 1,oX 1 61 1 0,oE 2 62 .eql 61 9,oM 3 63 62,oG 4 64 63 true (.nop 3),oG 5 65 63 true (.lload 3 0 none),oG 6 66 63 true (.bin .eql (.t 65) (.c (.int .i64 8))),oPf 7 67 63 66,oM 8 68 67,oG 9 69 68 true (.nop 3),oG 10 70 68 true (.lload 3 1 none),oG 11 71 68 true (.nop 1),oG 12 72 68 true (.lload 1 2 none),oG 13 73 68 true (.len (.t 72)),oG 14 74 68 true (.bin .lss (.t 70) (.t 73)),oPf 15 75 68 74,oM 16 59 75]
@[go_sem] theorem quT:OE qI3.eq_1:=OEM qI3.eq_1
def qI4:List qB:=[oU 0 76 1,oX 1 77 1 0,oE 2 78 .eql 77 10,oM 3 79 78,oG 4 80 79 true (.nop 3),oG 5 81 79 true (.lload 3 0 none),oG 6 82 79 true (.bin .eql (.t 81) (.c (.int .i64 2))),oPf 7 83 79 82,oM 8 59 83]
@[go_sem] theorem quU:OE qI4.eq_1:=OEM qI4.eq_1
def qIW:qH:=.seq (.seq (.reg true [oE 0 53 .eql 14 9,oM 1 52 53]) (.cond (.t 52) (.skip) (.reg true [oE 0 54 .eql 14 10,oM 1 52 54]))) (.cond (.t 52) (.blk 3 (.seq (.reg true qI2) (.cond (.t 55) (.seq (.reg true [oC 0 2 4]) (.ret)) (.seq (.seq (.reg true qI3) (.cond (.t 59) (.skip) (.reg true qI4))) (.cond (.t 59) (.seq (.reg true [oC 0 2 3]) (.ret)) (.skip)))))) (.skip))
@[go_sem] theorem quM:CE qIW.eq_1:=CEM qIW.eq_1
def qIT:qH:=.seq (.reg true [oE 0 24 .eql 14 3,oM 1 23 24]) (.cond (.t 23) (.seq (.reg true qIZ) (.blk 2 (.seq (.reg true qI0) (.cond (.t 29) (.seq (.reg true [oC 0 2 2]) (.ret)) (.seq (.reg true qI1) (.cond (.t 38) (.seq (.reg true [oC 0 2 4]) (.ret)) (.skip))))))) qIW)
@[go_sem] theorem quJ:CE qIT.eq_1:=CEM qIT.eq_1
def qIU:qH:=.seq (.reg true [oU 0 13 1,oX 1 14 1 0]) (.blk 0 (.seq (.reg true [oE 0 16 .eql 14 5,oM 1 15 16]) (.cond (.t 15) (.seq (.reg true [oU 0 17 3,oX 1 18 3 0]) (.blk 1 qIV)) qIT)))
@[go_sem] theorem quK:CE qIU.eq_1:=CEM qIU.eq_1
def Xx:qJ:=⟨1,84,[.t 2],.seq (.reg true [oP 0 1 (.lbox 4 (.t 0)),oC 1 2 0]) (.seq (.seq (.reg true qIX) (.cond (.t 8) (.seq (.reg true [oC 0 2 0]) (.ret)) (.skip))) (.seq (.reg true qIY) (.seq qIU (.seq (.reg true [oC 0 2 0]) (.ret)))))⟩
def Xw:qJ:=⟨1,5,[.l 2 (some 4)],.seq (.reg true [oZ 0 2]) (.seq (.reg true [oM 0 3 0,oP 1 4 (.build (.agg [.int .i64 0,.int .i64 0,.nils,.nils]) [(0,1,.c (.int .i64 2)),(1,1,.t 3)]),oS 2 2 0 4 4]) (.ret))⟩
def qAL:List qB:=[oM 0 13 2,oY 1 14 3 0 4,oM 2 15 1,oP 3 16 (.callv (.t 13) [.t 14,.t 15]),oS 4 6 0 4 16]
@[go_sem] theorem qmB:OE qAL.eq_1:=OEM qAL.eq_1
def qAM:List qB:=[oU 0 17 3,oX 1 18 3 0,oU 2 19 3,oX 3 20 3 1,oU 4 21 3,oX 5 22 3 2,oZ 8 7,oD1 6 23 401 22,oP 7 24 (.build (.agg [.int .i64 0,.int .i64 0,.nils,.nils]) [(0,1,.t 18),(1,1,.t 20),(2,1,.t 23)]),oS 9 7 0 4 24]
@[go_sem] theorem qmC:OE qAM.eq_1:=OEM qAM.eq_1
def qAN:List qB:=[oU 0 25 3,oX 1 26 3 3,oW 2 27 26,oC 3 28 0]
@[go_sem] theorem qmD:OE qAN.eq_1:=OEM qAN.eq_1
def qAO:List qB:=[oM 0 30 28,oA 1 31 4 26 28,oP 2 32 (.load (some 4) (.t 31)),oZ 3 9,oM 4 8 30,oS 5 9 0 4 32]
@[go_sem] theorem qmE:OE qAO.eq_1:=OEM qAO.eq_1
def qAP:List qB:=[oU 0 33 7,oX 1 34 7 3,oY 2 35 9 0 4,oM 3 36 1,oY 4 37 3 0 4,oM 5 38 8,oM 8 41 2,oD2 6 39 1193 37 38,oB 7 40 .add 36 39,oP 9 42 (.call 1316 [.t 35,.t 40,.t 41]),oP 10 43 (.bslice 4 (.agg [.int .i64 0,.int .i64 0,.nils,.nils]) 1 [(0,.t 42)]),oP 11 44 (.app 4 (.t 34) (.t 43)),oU 12 45 7,oS 13 7 3 1 44]
@[go_sem] theorem qmF:OE qAP.eq_1:=OEM qAP.eq_1
def qAJ:qH:=.loop (.seq (.reg true [oB 0 29 .lss 28 27]) (.seq (.cond (.t 29) (.skip) (.exit 0)) (.seq (.blk 1 (.seq (.reg true qAO) (.reg true qAP))) (.reg true [oE 0 46 .add 28 1,oM 1 28 46]))))
@[go_sem] theorem ql9:CE qAJ.eq_1:=CEM qAJ.eq_1
def qAK:qH:=.seq (.seq (.reg true [oU 0 10 3,oX 1 11 3 0,oE 2 12 .eql 11 1]) (.cond (.t 12) (.seq (.reg true qAL) (.ret)) (.skip))) (.seq (.reg true qAM) (.seq (.seq (.reg true qAN) (.blk 0 qAJ)) (.seq (.reg true [oY 0 47 7 0 4,oS 1 6 0 4 47]) (.ret))))
@[go_sem] theorem qmA:CE qAK.eq_1:=CEM qAK.eq_1
def Ww:qJ:=⟨3,48,[.l 6 (some 4)],.seq (.reg true [oP 0 3 (.lbox 4 (.t 0)),oZ 1 6]) qAK⟩
def qDX:List qB:=[oU 0 7 4,oX 1 8 4 1,oM 2 9 1,oL 3 10 2,oB 4 11 .add 9 10,oB 5 12 .geq 8 11]
@[go_sem] theorem qpN:OE qDX.eq_1:=OEM qDX.eq_1
def qDY:List qB:=[oU 0 13 4,oX 1 14 4 1,oL 2 15 3,oB 3 16 .add 14 15,oU 4 17 4,oS 5 4 1 1 16]
@[go_sem] theorem qpO:OE qDY.eq_1:=OEM qDY.eq_1
def XF:qJ:=⟨4,19,[.l 6 (some 4)],.seq (.reg true [oP 0 4 (.lbox 4 (.t 0)),oZ 1 6]) (.seq (.seq (.reg true qDX) (.cond (.t 12) (.reg true qDY) (.skip))) (.seq (.reg true [oY 0 18 4 0 4,oS 1 6 0 4 18]) (.ret)))⟩
def qAU:List qB:=[oP 0 3 (.lbox 4 (.t 0)),oP 1 4 (.hbox 1 (.t 1)),oP 2 5 (.hbox 1 (.t 2)),oZ 3 6]
@[go_sem] theorem qmK:OE qAU.eq_1:=OEM qAU.eq_1
def qAV:List qB:=[oY 0 7 3 0 4,oP 1 8 (.mkfn 1462 [.t 5,.t 4]),oP 2 9 (.call 1316 [.t 7,.c (.int .i64 0),.t 8]),oS 3 6 0 4 9]
@[go_sem] theorem qmL:OE qAV.eq_1:=OEM qAV.eq_1
def Wy:qJ:=⟨3,10,[.l 6 (some 4)],.seq (.reg true qAU) (.seq (.reg true qAV) (.ret))⟩
def qAQ:List qB:=[oU 0 7 3,oX 1 8 3 1,oM 2 9 1,oB 3 10 .eql 8 9,oM 4 6 10]
@[go_sem] theorem qmG:OE qAQ.eq_1:=OEM qAQ.eq_1
def qAR:List qB:=[oP 0 11 (.load (some 4) (.t 2)),oM 1 12 1,oP 2 13 (.call 1318 [.t 11,.t 12,.c (.int .i64 0)]),oS 3 5 0 4 13]
@[go_sem] theorem qmH:OE qAR.eq_1:=OEM qAR.eq_1
def qAS:List qB:=[oU 0 15 3,oX 1 16 3 1,oM 2 17 1,oB 3 18 .gtr 16 17,oM 4 14 18]
@[go_sem] theorem qmI:OE qAS.eq_1:=OEM qAS.eq_1
def qAT:List qB:=[oU 0 19 3,oX 1 20 3 1,oE 2 21 .sub 20 1,oU 3 22 3,oS 4 3 1 1 21]
@[go_sem] theorem qmJ:OE qAT.eq_1:=OEM qAT.eq_1
def Wx:qJ:=⟨3,24,[.l 5 (some 4)],.seq (.reg true [oP 0 3 (.lbox 4 (.t 0)),oZ 1 5]) (.seq (.blk 0 (.seq (.reg true qAQ) (.cond (.t 6) (.seq (.reg true qAR) (.ret)) (.seq (.reg true qAS) (.cond (.t 14) (.reg true qAT) (.skip)))))) (.seq (.reg true [oY 0 23 3 0 4,oS 1 5 0 4 23]) (.ret)))⟩
def qNX:List qB:=[oY 0 5 2 0 4,oP 1 6 (.mkfn 1317 [.t 3]),oP 2 7 (.call 1316 [.t 5,.c (.int .i64 0),.t 6]),oS 3 4 0 4 7]
@[go_sem] theorem qzN:OE qNX.eq_1:=OEM qNX.eq_1
def YN:qJ:=⟨2,8,[.l 4 (some 4)],.seq (.reg true [oP 0 2 (.lbox 4 (.t 0)),oP 1 3 (.hbox 4 (.t 1)),oZ 2 4]) (.seq (.reg true qNX) (.ret))⟩
def qC7:List qB:=[oM 0 3 0,oP 1 4 (.conv .i32 (.t 3)),oP 2 5 (.conv .i64 (.t 4)),oM 3 2 5]
@[go_sem] theorem qoX:OE qC7.eq_1:=OEM qC7.eq_1
def W9:qJ:=⟨1,6,[.t 2],.seq (.reg true [oC 0 2 0]) (.seq (.reg true qC7) (.ret))⟩
def KG:List qB:=[oM 0 9 1,oD1 1 10 1400 9,oM 2 11 2,oD1 3 12 1400 11,oM 4 7 10,oM 5 8 12]
@[go_sem] theorem qjB:OE KG.eq_1:=OEM KG.eq_1
def KH:List qB:=[oM 0 16 7,oM 1 17 8,oB 2 18 .add 16 17,oD1 3 19 1400 18,oM 4 6 19]
@[go_sem] theorem qjC:OE KH.eq_1:=OEM KH.eq_1
def KI:List qB:=[oM 0 22 7,oM 1 23 8,oB 2 24 .sub 22 23,oD1 3 25 1400 24,oM 4 6 25]
@[go_sem] theorem qjD:OE KI.eq_1:=OEM KI.eq_1
def KJ:List qB:=[oM 0 28 7,oM 1 29 8,oB 2 30 .mul 28 29,oD1 3 31 1400 30,oM 4 6 31]
@[go_sem] theorem qjE:OE KJ.eq_1:=OEM KJ.eq_1
def KL:List qB:=[oM 0 36 7,oM 1 37 8,oB 2 38 .quo 36 37,oD1 3 39 1400 38,oM 4 6 39]
@[go_sem] theorem qjF:OE KL.eq_1:=OEM KL.eq_1
def KM:List qB:=[oM 0 42 7,oM 1 43 8,oB 2 44 .lss 42 43,oD1 3 45 566 44,oM 4 6 45]
@[go_sem] theorem qjG:OE KM.eq_1:=OEM KM.eq_1
def KN:List qB:=[oM 0 48 7,oM 1 49 8,oB 2 50 .eql 48 49,oD1 3 51 566 50,oM 4 6 51]
@[go_sem] theorem qjH:OE KN.eq_1:=OEM KN.eq_1
def KD:qH:=.cond (.t 32) (.seq (.seq (.reg true [oM 0 34 8,oE 1 35 .eql 34 0]) (.cond (.t 35) (.seq (.reg true [oC 0 6 0]) (.ret)) (.skip))) (.seq (.reg true KL) (.ret))) (.seq (.reg true [oE 0 41 .eql 13 5,oM 1 40 41]) (.cond (.t 40) (.seq (.reg true KM) (.ret)) (.seq (.reg true [oE 0 47 .eql 13 6,oM 1 46 47]) (.cond (.t 46) (.seq (.reg true KN) (.ret)) (.skip)))))
@[go_sem] theorem qi8:CE KD.eq_1:=CEM KD.eq_1
def KE:qH:=.seq (.reg true [oE 0 21 .eql 13 2,oM 1 20 21]) (.cond (.t 20) (.seq (.reg true KI) (.ret)) (.seq (.reg true [oE 0 27 .eql 13 3,oM 1 26 27]) (.cond (.t 26) (.seq (.reg true KJ) (.ret)) (.seq (.reg true [oE 0 33 .eql 13 4,oM 1 32 33]) KD))))
@[go_sem] theorem qi9:CE KE.eq_1:=CEM KE.eq_1
def KF:qH:=.seq (.reg true KG) (.seq (.seq (.reg true [oM 0 13 0]) (.blk 0 (.seq (.reg true [oE 0 15 .eql 13 1,oM 1 14 15]) (.cond (.t 14) (.seq (.reg true KH) (.ret)) KE)))) (.seq (.reg true [oC 0 6 0]) (.ret)))
@[go_sem] theorem qjA:CE KF.eq_1:=CEM KF.eq_1
def WX:qJ:=⟨3,52,[.t 6],.seq (.reg true [oC 0 6 0]) KF⟩
def WZ:qJ:=⟨1,5,[.l 2 (some 4)],.seq (.reg true [oZ 0 2]) (.seq (.reg true [oM 0 3 0,oP 1 4 (.build (.agg [.int .i64 0,.int .i64 0,.nils,.nils]) [(0,1,.c (.int .i64 11)),(1,1,.t 3)]),oS 2 2 0 4 4]) (.ret))⟩
def qC8:List qB:=[oY 0 5 2 0 4,oY 1 6 3 0 4,oP 2 7 (.bslice 4 (.agg [.int .i64 0,.int .i64 0,.nils,.nils]) 2 [(0,.t 5),(1,.t 6)]),oP 3 8 (.build (.agg [.int .i64 0,.int .i64 0,.nils,.nils]) [(0,1,.c (.int .i64 5)),(3,1,.t 7)]),oS 4 4 0 4 8]
@[go_sem] theorem qoY:OE qC8.eq_1:=OEM qC8.eq_1
def XA:qJ:=⟨2,9,[.l 4 (some 4)],.seq (.reg true [oP 0 2 (.lbox 4 (.t 0)),oP 1 3 (.lbox 4 (.t 1)),oZ 2 4]) (.seq (.reg true qC8) (.ret))⟩
def KP:List qB:=[oM 0 8 0,oD1 1 9 1120 8,oZ 2 5,oS 3 5 0 4 9]
@[go_sem] theorem qjJ:OE KP.eq_1:=OEM KP.eq_1
def KQ:List qB:=[oA 0 14 4 10 12,oP 1 15 (.load (some 4) (.t 14)),oZ 2 7,oS 3 7 0 4 15]
@[go_sem] theorem qjK:OE KQ.eq_1:=OEM KQ.eq_1
def KR:List qB:=[oY 0 16 5 0 4,oY 1 17 7 0 4,oD2 2 18 1401 16 17,oS 3 5 0 4 18]
@[go_sem] theorem qjL:OE KR.eq_1:=OEM KR.eq_1
def KO:qH:=.loop (.seq (.reg true [oB 0 13 .lss 12 11]) (.seq (.cond (.t 13) (.skip) (.exit 0)) (.seq (.blk 1 (.seq (.reg true KQ) (.reg true KR))) (.reg true [oE 0 19 .add 12 1,oM 1 12 19]))))
@[go_sem] theorem qjI:CE KO.eq_1:=CEM KO.eq_1
def WY:qJ:=⟨2,21,[.l 4 (some 4)],.seq (.reg true [oZ 0 4]) (.seq (.reg true KP) (.seq (.seq (.reg true [oM 0 10 1,oW 1 11 10,oC 2 12 0]) (.blk 0 KO)) (.seq (.reg true [oY 0 20 5 0 4,oS 1 4 0 4 20]) (.ret))))⟩
def qI7:List qB:=[oU 0 12 5,oX 1 13 5 3,oP 2 14 (.iaddr 4 (.t 13) (.c (.int .i64 0))),oF 3 15 3 14,oL 4 16 15,oP 5 17 (.iaddr 4 (.t 16) (.c (.int .i64 0))),oP 6 18 (.load (some 4) (.t 17)),oU 7 19 5,oX 8 20 5 3,oP 9 21 (.iaddr 4 (.t 20) (.c (.int .i64 1))),oP 10 22 (.load (some 4) (.t 21)),oD2 11 23 992 18 22,oS 12 6 0 4 23]
@[go_sem] theorem quX:OE qI7.eq_1:=OEM qI7.eq_1
def qI8:List qB:=[oU 0 26 5,oX 1 27 5 1,oU 2 28 5,oX 3 29 5 3,oP 4 30 (.iaddr 4 (.t 29) (.c (.int .i64 0))),oF 5 31 1 30,oL 6 32 31,oU 7 33 5,oX 8 34 5 3,oP 9 35 (.iaddr 4 (.t 34) (.c (.int .i64 1))),oF 10 36 1 35,oL 11 37 36,oP 12 38 (.call 1118 [.t 27,.t 32,.t 37]),oD1 13 39 726 38,oS 14 6 0 4 39]
@[go_sem] theorem quY:OE qI8.eq_1:=OEM qI8.eq_1
def qI9:List qB:=[oU 0 45 5,oX 1 46 5 2,oU 2 47 5,oX 3 48 5 3,oP 4 49 (.iaddr 4 (.t 48) (.c (.int .i64 0))),oF 5 50 1 49,oL 6 51 50,oA 7 52 1 46 51,oL 8 53 52,oU 9 54 5,oX 10 55 5 3,oP 11 56 (.iaddr 4 (.t 55) (.c (.int .i64 0))),oF 12 57 3 56,oL 13 58 57,oD2 14 59 1119 53 58,oS 15 6 0 4 59]
@[go_sem] theorem quZ:OE qI9.eq_1:=OEM qI9.eq_1
def qJA:List qB:=[oU 0 60 5,oX 1 61 5 2,oU 2 62 5,oX 3 63 5 3,oP 4 64 (.iaddr 4 (.t 63) (.c (.int .i64 0))),oF 5 65 1 64,oL 6 66 65,oE 7 67 .eql 66 0,oD1 8 68 566 67,oA 9 69 1 61 68,oL 10 70 69,oD1 11 71 1120 70,oS 12 6 0 4 71]
@[go_sem] theorem qu0:OE qJA.eq_1:=OEM qJA.eq_1
def qI5:qH:=.seq (.reg true [oE 0 41 .eql 9 3,oM 1 40 41]) (.cond (.t 40) (.seq (.seq (.reg true [oU 0 42 5,oX 1 43 5 0,oE 2 44 .eql 43 9]) (.cond (.t 44) (.seq (.reg true qI9) (.ret)) (.skip))) (.seq (.reg true qJA) (.ret))) (.skip))
@[go_sem] theorem quV:CE qI5.eq_1:=CEM qI5.eq_1
def qI6:qH:=.seq (.reg true [oM 0 9 1]) (.blk 0 (.seq (.reg true [oE 0 11 .eql 9 1,oM 1 10 11]) (.cond (.t 10) (.seq (.reg true qI7) (.ret)) (.seq (.reg true [oE 0 25 .eql 9 2,oM 1 24 25]) (.cond (.t 24) (.seq (.reg true qI8) (.ret)) qI5)))))
@[go_sem] theorem quW:CE qI6.eq_1:=CEM qI6.eq_1
def qJB:List qB:=[oU 0 72 5,oX 1 73 5 0,oU 2 74 5,oX 3 75 5 1,oU 4 76 5,oX 5 77 5 2,oU 6 78 5,oX 7 79 5 3,oZ 10 7,oD1 8 80 769 79,oP 9 81 (.build (.agg [.int .i64 0,.int .i64 0,.nils,.nils]) [(0,1,.t 73),(1,1,.t 75),(2,1,.t 77),(3,1,.t 80)]),oS 11 7 0 4 81]
@[go_sem] theorem qu1:OE qJB.eq_1:=OEM qJB.eq_1
def qJC:List qB:=[oU 0 82 5,oX 1 83 5 3,oP 2 84 (.iaddr 4 (.t 83) (.c (.int .i64 0))),oF 3 85 0 84,oL 4 86 85,oE 5 87 .neq 86 11,oD1 6 88 566 87,oM 7 8 88]
@[go_sem] theorem qu2:OE qJC.eq_1:=OEM qJC.eq_1
def qJD:List qB:=[oU 0 89 7,oX 1 90 7 3,oM 2 91 8,oU 3 92 3,oX 4 93 3 0,oU 5 94 5,oX 6 95 5 3,oM 7 96 8,oA 8 97 4 95 96,oF 9 98 1 97,oL 10 99 98,oA 11 100 4 93 99,oP 12 101 (.load (some 4) (.t 100)),oA 13 102 4 90 91,oT 14 4 102 101]
@[go_sem] theorem qu3:OE qJD.eq_1:=OEM qJD.eq_1
def Jz:qJ:=⟨3,104,[.l 6 (some 4)],.seq (.reg true [oP 0 3 (.lbox 1 (.t 0)),oP 1 5 (.lbox 4 (.t 2)),oZ 2 6]) (.seq qI6 (.seq (.reg true qJB) (.seq (.reg true qJC) (.seq (.reg true qJD) (.seq (.reg true [oY 0 103 7 0 4,oS 1 6 0 4 103]) (.ret))))))⟩
def kb:List qB:=[oU 0 6 1,oX 1 7 1 3,oW 2 8 7,oC 3 9 0]
@[go_sem] theorem qlL:OE kb.eq_1:=OEM kb.eq_1
def ke:List qB:=[oA 0 11 4 7 9,oP 1 12 (.load (some 4) (.t 11)),oZ 2 5,oS 3 5 0 4 12]
@[go_sem] theorem qlM:OE ke.eq_1:=OEM ke.eq_1
def kf:List qB:=[oM 0 13 3,oY 1 14 5 0 4,oU 3 16 1,oX 4 17 1 0,oE 5 18 .eql 17 6,oD1 2 15 1171 14,oD1 6 19 566 18,oB 7 20 .add 15 19,oP 8 21 (.max (.t 13) (.t 20)),oM 9 3 21]
@[go_sem] theorem qlN:OE kf.eq_1:=OEM kf.eq_1
def ka:qH:=.loop (.seq (.reg true [oB 0 10 .lss 9 8]) (.seq (.cond (.t 10) (.skip) (.exit 0)) (.seq (.blk 1 (.seq (.reg true ke) (.reg true kf))) (.reg true [oE 0 22 .add 9 1,oM 1 9 22]))))
@[go_sem] theorem qlK:CE ka.eq_1:=CEM ka.eq_1
def Wq:qJ:=⟨1,24,[.t 2],.seq (.reg true [oP 0 1 (.lbox 4 (.t 0)),oC 1 2 0]) (.seq (.reg true [oC 0 3 0]) (.seq (.seq (.reg true kb) (.blk 0 ka)) (.seq (.reg true [oM 0 23 3,oM 1 2 23]) (.ret))))⟩
def kn:List qB:=[oU 0 12 4,oX 1 13 4 3,oP 2 14 (.iaddr 4 (.t 13) (.c (.int .i64 0))),oP 3 15 (.load (some 4) (.t 14)),oU 4 16 4,oX 5 17 4 3,oP 6 18 (.iaddr 4 (.t 17) (.c (.int .i64 1))),oP 7 19 (.load (some 4) (.t 18)),oZ 8 8,oZ 9 9,oS 10 8 0 4 15,oS 11 9 0 4 19]
@[go_sem] theorem qlQ:OE kn.eq_1:=OEM kn.eq_1
def kp:List qB:=[oU 0 24 8,oX 1 25 8 3,oP 2 26 (.iaddr 4 (.t 25) (.c (.int .i64 0))),oP 3 27 (.load (some 4) (.t 26)),oS 4 10 0 4 27]
@[go_sem] theorem qlS:OE kp.eq_1:=OEM kp.eq_1
def kt:List qB:=[oY 0 28 9 0 4,oM 1 29 2,oP 2 30 (.call 1194 [.t 28,.c (.int .i64 0),.t 29,.c (.nils)]),oM 3 11 30]
@[go_sem] theorem qlT:OE kt.eq_1:=OEM kt.eq_1
def ku:List qB:=[oM 0 32 11,oW 1 33 32,oE 2 34 .eql 33 0,oM 3 31 34]
@[go_sem] theorem qlU:OE ku.eq_1:=OEM ku.eq_1
def kw:List qB:=[oY 0 35 9 0 4,oY 1 36 8 0 4,oD2 2 37 992 35 36,oS 3 6 0 4 37,oQ 4 7 true]
@[go_sem] theorem qlV:OE kw.eq_1:=OEM kw.eq_1
def kx:List qB:=[oU 0 39 10,oX 1 40 10 0,oE 2 41 .eql 40 2,oM 3 38 41]
@[go_sem] theorem qlW:OE kx.eq_1:=OEM kx.eq_1
def kz:List qB:=[oY 0 42 9 0 4,oY 1 43 10 0 4,oD2 2 44 992 42 43,oS 3 6 0 4 44,oQ 4 7 true]
@[go_sem] theorem qlX:OE kz.eq_1:=OEM kz.eq_1
def k8:List qB:=[oM 0 46 11,oW 1 47 46,oE 2 48 .eql 47 1,oM 3 49 48,oH 4 50 49 true 11,oG 5 51 49 true (.iaddr 1 (.t 50) (.c (.int .i64 0))),oG 6 52 49 true (.load none (.t 51)),oH 7 53 49 true 2,oG 8 54 49 true (.bin .eql (.t 52) (.t 53)),oPf 9 55 49 54,oM 10 45 55]
@[go_sem] theorem qlY:OE k8.eq_1:=OEM k8.eq_1
def k9:List qB:=[oY 0 56 9 0 4,oY 1 57 8 0 4,oD2 2 58 992 56 57,oS 3 6 0 4 58,oQ 4 7 true]
@[go_sem] theorem qlZ:OE k9.eq_1:=OEM k9.eq_1
def qAA:List qB:=[oM 0 60 11,oW 1 61 60,oE 2 62 .eql 61 1,oM 3 63 62,oH 4 64 63 true 11,oG 5 65 63 true (.iaddr 1 (.t 64) (.c (.int .i64 0))),oG 6 66 63 true (.load none (.t 65)),oH 7 67 63 true 2,oG 8 68 63 true (.bin .add (.t 67) (.c (.int .i64 1))),oG 9 69 63 true (.bin .eql (.t 66) (.t 68)),oPf 10 70 63 69,oM 11 71 70,oG 12 72 71 true (.nop 8),oG 13 73 71 true (.lload 8 0 none),oG 14 74 71 true (.bin .eql (.t 73) (.c (.int .i64 6))),oPf 15 75 71 74,oM 16 59 75]
@[go_sem] theorem ql0:OE qAA.eq_1:=OEM qAA.eq_1
def kq:List qB:=[oY 0 76 9 0 4,oY 1 77 10 0 4,oD2 2 78 992 76 77,oS 3 6 0 4 78,oQ 4 7 true]
@[go_sem] theorem qlR:OE kq.eq_1:=OEM kq.eq_1
def ki:qH:=.seq (.blk 0 (.seq (.reg true ku) (.cond (.t 31) (.seq (.reg true kw) (.ret)) (.seq (.reg true kx) (.cond (.t 38) (.seq (.reg true kz) (.ret)) (.seq (.reg true k8) (.cond (.t 45) (.seq (.reg true k9) (.ret)) (.seq (.reg true qAA) (.cond (.t 59) (.seq (.reg true kq) (.ret)) (.skip)))))))))) (.seq (.reg true [oP 0 79 (.build (.agg [.int .i64 0,.int .i64 0,.nils,.nils]) []),oS 1 6 0 4 79,oQ 2 7 false]) (.ret))
@[go_sem] theorem qlO:CE ki.eq_1:=CEM ki.eq_1
def kj:qH:=.seq (.reg true [oY 0 20 8 0 4,oZ 1 10,oS 2 10 0 4 20]) (.seq (.seq (.reg true [oU 0 21 8,oX 1 22 8 0,oE 2 23 .eql 22 6]) (.cond (.t 23) (.reg true kp) (.skip))) (.seq (.reg true kt) ki))
@[go_sem] theorem qlP:CE kj.eq_1:=CEM kj.eq_1
def Wr:qJ:=⟨3,80,[.l 6 (some 4),.t 7],.seq (.reg true [oP 0 4 (.lbox 4 (.t 1)),oZ 1 6,oQ 2 7 false]) (.seq (.reg true kn) kj)⟩
def qL6:List qB:=[oM 0 17 0,oK 1 18 17,oF 2 19 0 18,oP 3 20 (.load (some 1) (.t 19)),oM 4 21 8,oY 5 22 4 0 4,oP 6 23 (.call 759 [.t 20,.t 21,.t 22]),oS 7 6 0 4 23,oC 8 7 1]
@[go_sem] theorem qxW:OE qL6.eq_1:=OEM qL6.eq_1
def qL7:List qB:=[oM 0 26 0,oK 1 27 26,oF 2 28 0 27,oP 3 29 (.load (some 1) (.t 28)),oM 4 30 8,oY 5 31 4 0 4,oP 6 32 (.call 759 [.t 29,.t 30,.t 31]),oS 7 6 0 4 32,oC 8 7 2]
@[go_sem] theorem qxX:OE qL7.eq_1:=OEM qL7.eq_1
def qL8:List qB:=[oM 0 35 0,oK 1 36 35,oF 2 37 0 36,oP 3 38 (.load (some 1) (.t 37)),oM 4 39 8,oY 5 40 4 0 4,oP 6 41 (.call 759 [.t 38,.t 39,.t 40]),oS 7 6 0 4 41,oC 8 7 3]
@[go_sem] theorem qxY:OE qL8.eq_1:=OEM qL8.eq_1
def qL9:List qB:=[oU 0 44 4,oX 1 45 4 3,oP 2 46 (.iaddr 4 (.t 45) (.c (.int .i64 0))),oF 3 47 1 46,oL 4 48 47,oM 5 9 48]
@[go_sem] theorem qxZ:OE qL9.eq_1:=OEM qL9.eq_1
def qMA:List qB:=[oU 0 49 4,oX 1 50 4 0,oE 2 51 .eql 50 5,oM 3 52 51,oH 4 53 52 true 0,oG 5 54 52 true (.nilchk (.t 53)),oG 6 55 52 true (.faddr 2 (.t 54)),oG 7 56 52 true (.load none (.t 55)),oH 8 57 52 true 9,oG 9 58 52 true (.iaddr 1 (.t 56) (.t 57)),oG 10 59 52 true (.load none (.t 58)),oPf 11 60 52 59,oM 12 61 60,oH 13 62 61 true 2,oH 14 63 61 true 0,oG 15 64 61 true (.nilchk (.t 63)),oG 16 65 61 true (.faddr 0 (.t 64)),oG 17 66 61 true (.faddr 0 (.t 65)),oG 18 67 61 true (.load none (.t 66)),oH 19 68 61 true 9,oG 20 69 61 true (.iaddr 4 (.t 67) (.t 68)),oG 21 70 61 true (.load (some 4) (.t 69)),oG 22 71 61 true (.call 1171 [.t 70]),oG 23 72 61 true (.bin .add (.t 62) (.t 71)),oG 24 73 61 true (.bin .leq (.t 72) (.c (.int .i64 8))),oPf 25 74 61 73]
@[go_sem] theorem qx0:OE qMA.eq_1:=OEM qMA.eq_1
def qMB:List qB:=[oM 0 75 0,oK 1 76 75,oF 2 77 0 76,oP 3 78 (.load (some 1) (.t 77)),oM 4 79 8,oY 5 80 4 0 4,oP 6 81 (.call 759 [.t 78,.t 79,.t 80]),oS 7 6 0 4 81,oC 8 7 5]
@[go_sem] theorem qx1:OE qMB.eq_1:=OEM qMB.eq_1
def qL3:qH:=.seq (.reg true [oE 0 34 .eql 14 1,oM 1 33 34]) (.cond (.t 33) (.seq (.reg true qL8) (.ret)) (.seq (.reg true [oE 0 43 .eql 14 4,oM 1 42 43]) (.cond (.t 42) (.seq (.reg true qL9) (.seq (.reg true qMA) (.cond (.t 74) (.seq (.reg true qMB) (.ret)) (.skip)))) (.skip))))
@[go_sem] theorem qxT:CE qL3.eq_1:=CEM qL3.eq_1
def qL4:qH:=.seq (.reg true [oM 0 14 8]) (.blk 0 (.seq (.reg true [oE 0 16 .eql 14 2,oM 1 15 16]) (.cond (.t 15) (.seq (.reg true qL6) (.ret)) (.seq (.reg true [oE 0 25 .eql 14 3,oM 1 24 25]) (.cond (.t 24) (.seq (.reg true qL7) (.ret)) qL3)))))
@[go_sem] theorem qxU:CE qL4.eq_1:=CEM qL4.eq_1
def qMC:List qB:=[oM 0 86 0,oY 1 87 4 0 4,oM 2 88 2,oP 3 89 (.call 1172 [.t 86,.t 87,.t 88]),oM 4 85 89,oV 5 90 85 0,oV 6 91 85 1,oZ 7 10,oS 8 10 0 4 90,oM 9 11 91]
@[go_sem] theorem qx2:OE qMC.eq_1:=OEM qMC.eq_1
def qL5:qH:=.seq (.reg true [oU 0 82 4,oX 1 83 4 0,oE 2 84 .eql 83 7]) (.cond (.t 84) (.seq (.reg true qMC) (.seq (.reg true [oM 0 92 11]) (.cond (.t 92) (.seq (.reg true [oY 0 93 10 0 4,oS 1 6 0 4 93,oC 2 7 4]) (.ret)) (.skip)))) (.skip))
@[go_sem] theorem qxV:CE qL5.eq_1:=CEM qL5.eq_1
def YE:qJ:=⟨3,95,[.l 6 (some 4),.t 7],.seq (.reg true [oP 0 4 (.lbox 4 (.t 1)),oZ 1 6,oC 2 7 0]) (.seq (.seq (.reg true [oY 0 12 4 0 4,oD1 1 13 758 12,oM 2 8 13]) qL4) (.seq qL5 (.seq (.reg true [oP 0 94 (.build (.agg [.int .i64 0,.int .i64 0,.nils,.nils]) []),oS 1 6 0 4 94,oC 2 7 0]) (.ret))))⟩
def qG1:List qB:=[oM 0 16 0,oY 1 17 4 0 4,oM 2 18 2,oP 3 19 (.call 850 [.t 16,.t 17,.t 18]),oM 4 15 19,oV 5 20 15 0,oV 6 21 15 1,oZ 7 8,oS 8 8 0 4 20,oM 9 9 21]
@[go_sem] theorem qsR:OE qG1.eq_1:=OEM qG1.eq_1
def qG2:List qB:=[oY 0 24 8 0 4,oM 1 25 9,oS 2 6 0 4 24,oM 3 7 25]
@[go_sem] theorem qsS:OE qG2.eq_1:=OEM qG2.eq_1
def qG3:List qB:=[oU 0 26 4,oX 1 27 4 3,oW 2 28 27,oC 3 29 0]
@[go_sem] theorem qsT:OE qG3.eq_1:=OEM qG3.eq_1
def qG4:List qB:=[oM 0 31 29,oA 1 32 4 27 29,oP 2 33 (.load (some 4) (.t 32)),oZ 3 11,oM 4 10 31,oS 5 11 0 4 33]
@[go_sem] theorem qsU:OE qG4.eq_1:=OEM qG4.eq_1
def qG5:List qB:=[oM 0 35 0,oY 1 36 11 0 4,oM 2 37 2,oU 3 38 4,oX 4 39 4 0,oE 5 40 .eql 39 6,oZ 12 12,oD1 6 41 566 40,oB 7 42 .add 37 41,oP 8 43 (.call 494 [.t 35,.t 36,.t 42]),oM 9 34 43,oV 10 44 34 0,oV 11 45 34 1,oS 13 12 0 4 44,oM 14 13 45]
@[go_sem] theorem qsV:OE qG5.eq_1:=OEM qG5.eq_1
def qG6:List qB:=[oU 0 48 4,oX 1 49 4 0,oU 2 50 4,oX 3 51 4 1,oU 4 52 4,oX 5 53 4 2,oU 6 54 4,oX 7 55 4 3,oZ 10 14,oD1 8 56 769 55,oP 9 57 (.build (.agg [.int .i64 0,.int .i64 0,.nils,.nils]) [(0,1,.t 49),(1,1,.t 51),(2,1,.t 53),(3,1,.t 56)]),oS 11 14 0 4 57]
@[go_sem] theorem qsW:OE qG6.eq_1:=OEM qG6.eq_1
def qG7:List qB:=[oU 0 58 14,oX 1 59 14 3,oM 2 60 10,oY 3 61 12 0 4,oA 4 62 4 59 60,oT 5 4 62 61]
@[go_sem] theorem qsX:OE qG7.eq_1:=OEM qG7.eq_1
def qG8:List qB:=[oY 0 63 14 0 4,oM 1 64 13,oS 2 6 0 4 63,oM 3 7 64]
@[go_sem] theorem qsY:OE qG8.eq_1:=OEM qG8.eq_1
def qGZ:qH:=.seq (.blk 1 (.seq (.reg true qG4) (.seq (.reg true qG5) (.seq (.reg true [oM 0 46 13,oE 1 47 .neq 46 0]) (.cond (.t 47) (.seq (.reg true qG6) (.seq (.reg true qG7) (.seq (.reg true qG8) (.ret)))) (.skip)))))) (.reg true [oE 0 65 .add 29 1,oM 1 29 65])
@[go_sem] theorem qsP:CE qGZ.eq_1:=CEM qGZ.eq_1
def qG0:qH:=.seq (.seq (.reg true qG3) (.blk 0 (.loop (.seq (.reg true [oB 0 30 .lss 29 28]) (.seq (.cond (.t 30) (.skip) (.exit 0)) qGZ))))) (.seq (.reg true [oP 0 66 (.build (.agg [.int .i64 0,.int .i64 0,.nils,.nils]) []),oS 1 6 0 4 66,oC 2 7 0]) (.ret))
@[go_sem] theorem qsQ:CE qG0.eq_1:=CEM qG0.eq_1
def Xd:qJ:=⟨3,67,[.l 6 (some 4),.t 7],.seq (.reg true [oP 0 4 (.lbox 4 (.t 1)),oZ 1 6,oC 2 7 0]) (.seq (.seq (.reg true qG1) (.seq (.reg true [oM 0 22 9,oE 1 23 .neq 22 0]) (.cond (.t 23) (.seq (.reg true qG2) (.ret)) (.skip)))) qG0)⟩
def qEY:List qB:=[oP 0 3 (.lbox 1 (.t 0)),oP 1 4 (.lbox 4 (.t 1)),oZ 2 6,oC 3 7 0,oC 4 8 0]
@[go_sem] theorem qqO:OE qEY.eq_1:=OEM qEY.eq_1
def qEZ:List qB:=[oY 0 14 3 0 1,oY 1 15 4 0 4,oM 2 16 2,oP 3 17 (.call 493 [.t 14,.t 15,.t 16,.c (.int .i64 0)]),oM 4 13 17,oV 5 18 13 0,oV 6 19 13 1,oM 7 9 18,oM 8 10 19]
@[go_sem] theorem qqP:OE qEZ.eq_1:=OEM qEZ.eq_1
def qE0:List qB:=[oP 0 22 (.build (.agg [.int .i64 0,.int .i64 0,.nils,.nils]) []),oM 1 23 10,oS 2 6 0 4 22,oC 3 7 0,oM 4 8 23]
@[go_sem] theorem qqQ:OE qE0.eq_1:=OEM qE0.eq_1
def qE1:List qB:=[oM 0 25 9,oY 1 26 4 0 4,oP 2 27 (.call 494 [.t 25,.t 26,.c (.int .i64 0)]),oM 3 24 27,oV 4 28 24 0,oV 5 29 24 1,oZ 6 11,oS 7 11 0 4 28,oM 8 12 29]
@[go_sem] theorem qqR:OE qE1.eq_1:=OEM qE1.eq_1
def qE2:List qB:=[oP 0 33 (.build (.agg [.int .i64 0,.int .i64 0,.nils,.nils]) []),oS 1 6 0 4 33,oC 2 7 0,oC 3 8 3]
@[go_sem] theorem qqS:OE qE2.eq_1:=OEM qE2.eq_1
def qE3:List qB:=[oY 0 35 11 0 4,oD1 1 36 495 35,oJ 2 37 36,oM 3 34 37]
@[go_sem] theorem qqT:OE qE3.eq_1:=OEM qE3.eq_1
def qE4:List qB:=[oP 0 38 (.build (.agg [.int .i64 0,.int .i64 0,.nils,.nils]) []),oS 1 6 0 4 38,oC 2 7 0,oC 3 8 4]
@[go_sem] theorem qqU:OE qE4.eq_1:=OEM qE4.eq_1
def qE5:List qB:=[oY 0 39 11 0 4,oD1 1 40 385 39,oM 2 41 12,oS 3 6 0 4 40,oM 4 7 41,oC 5 8 0]
@[go_sem] theorem qqV:OE qE5.eq_1:=OEM qE5.eq_1
def qEX:qH:=.seq (.reg true qE1) (.seq (.blk 0 (.seq (.reg true [oM 0 31 12,oE 1 32 .eql 31 0,oM 2 30 32]) (.cond (.t 30) (.seq (.reg true qE2) (.ret)) (.seq (.reg true qE3) (.cond (.t 34) (.seq (.reg true qE4) (.ret)) (.skip)))))) (.seq (.reg true qE5) (.ret)))
@[go_sem] theorem qqN:CE qEX.eq_1:=CEM qEX.eq_1
def XP:qJ:=⟨3,42,[.l 6 (some 4),.t 7,.t 8],.seq (.reg true qEY) (.seq (.reg true qEZ) (.seq (.seq (.reg true [oM 0 20 10,oE 1 21 .neq 20 0]) (.cond (.t 21) (.seq (.reg true qE0) (.ret)) (.skip))) qEX))⟩
def qM6:List qB:=[oM 0 6 5,oM 1 7 0,oW 2 8 7,oB 3 9 .lss 6 8]
@[go_sem] theorem qyW:OE qM6.eq_1:=OEM qM6.eq_1
def qM7:List qB:=[oM 0 12 0,oM 1 13 5,oM 2 14 1,oA 3 15 1 12 13,oT 4 1 15 14]
@[go_sem] theorem qyX:OE qM7.eq_1:=OEM qM7.eq_1
def qM5:qH:=.seq (.blk 1 (.seq (.reg true qM7) (.reg true [oM 0 16 1,oE 1 17 .add 16 1,oM 2 1 17]))) (.reg true [oM 0 10 5,oE 1 11 .add 10 1,oM 2 5 11])
@[go_sem] theorem qyV:CE qM5.eq_1:=CEM qM5.eq_1
def F90:qJ:=⟨2,19,[.t 4],.seq (.reg true [oC 0 4 0]) (.seq (.seq (.reg true [oC 0 5 0]) (.blk 0 (.loop (.seq (.seq (.reg true qM6) (.cond (.t 9) (.skip) (.exit 0))) qM5)))) (.seq (.reg true [oM 0 18 1,oM 1 4 18]) (.ret)))⟩
def qFX:List qB:=[oM 0 6 5,oM 1 7 0,oW 2 8 7,oB 3 9 .lss 6 8]
@[go_sem] theorem qrN:OE qFX.eq_1:=OEM qFX.eq_1
def qFY:List qB:=[oM 0 12 0,oM 1 13 5,oM 2 14 1,oA 3 15 4 12 13,oF 4 16 0 15,oT 5 1 16 14]
@[go_sem] theorem qrO:OE qFY.eq_1:=OEM qFY.eq_1
def qFZ:List qB:=[oM 0 19 0,oM 1 20 5,oM 2 21 1,oA 3 22 4 19 20,oF 4 23 1 22,oT 5 1 23 21]
@[go_sem] theorem qrP:OE qFZ.eq_1:=OEM qFZ.eq_1
def qF0:List qB:=[oM 0 26 0,oM 1 27 5,oA 2 28 4 26 27,oF 3 29 2 28,oL 4 30 29,oM 5 31 1,oD2 6 32 90 30 31,oM 7 1 32]
@[go_sem] theorem qrQ:OE qF0.eq_1:=OEM qF0.eq_1
def qF1:List qB:=[oM 0 33 0,oM 1 34 5,oA 2 35 4 33 34,oF 3 36 3 35,oL 4 37 36,oM 5 38 1,oD2 6 39 347 37 38,oM 7 1 39]
@[go_sem] theorem qrR:OE qF1.eq_1:=OEM qF1.eq_1
def qFV:qH:=.seq (.reg true [oM 0 17 1,oE 1 18 .add 17 1,oM 2 1 18]) (.seq (.reg true qFZ) (.seq (.reg true [oM 0 24 1,oE 1 25 .add 24 1,oM 2 1 25]) (.seq (.reg true qF0) (.reg true qF1))))
@[go_sem] theorem qrL:CE qFV.eq_1:=CEM qFV.eq_1
def qFW:qH:=.seq (.reg true [oC 0 5 0]) (.blk 0 (.loop (.seq (.seq (.reg true qFX) (.cond (.t 9) (.skip) (.exit 0))) (.seq (.blk 1 (.seq (.reg true qFY) qFV)) (.reg true [oM 0 10 5,oE 1 11 .add 10 1,oM 2 5 11])))))
@[go_sem] theorem qrM:CE qFW.eq_1:=CEM qFW.eq_1
def XR:qJ:=⟨2,41,[.t 4],.seq (.reg true [oC 0 4 0]) (.seq qFW (.seq (.reg true [oM 0 40 1,oM 1 4 40]) (.ret)))⟩
def qM2:List qB:=[oU 0 5 2,oX 1 6 2 0,oM 2 7 1,oD2 3 8 347 6 7,oM 4 1 8]
@[go_sem] theorem qyS:OE qM2.eq_1:=OEM qM2.eq_1
def F88:qJ:=⟨2,10,[.t 4],.seq (.reg true [oP 0 2 (.lbox 1 (.t 0)),oC 1 4 0]) (.seq (.reg true qM2) (.seq (.reg true [oM 0 9 1,oM 1 4 9]) (.ret)))⟩
def qM3:List qB:=[oU 0 5 2,oX 1 6 2 2,oM 2 7 1,oD2 3 8 90 6 7,oM 4 1 8]
@[go_sem] theorem qyT:OE qM3.eq_1:=OEM qM3.eq_1
def qM4:List qB:=[oU 0 9 2,oX 1 10 2 3,oM 2 11 1,oD2 3 12 347 10 11,oM 4 1 12]
@[go_sem] theorem qyU:OE qM4.eq_1:=OEM qM4.eq_1
def F89:qJ:=⟨2,14,[.t 4],.seq (.reg true [oP 0 2 (.lbox 4 (.t 0)),oC 1 4 0]) (.seq (.reg true qM3) (.seq (.reg true qM4) (.seq (.reg true [oM 0 13 1,oM 1 4 13]) (.ret))))⟩
def qNK:List qB:=[oM 0 6 5,oM 1 7 0,oW 2 8 7,oB 3 9 .lss 6 8]
@[go_sem] theorem qzA:OE qNK.eq_1:=OEM qNK.eq_1
def qNL:List qB:=[oM 0 12 0,oM 1 13 5,oA 2 14 1 12 13,oL 3 15 14,oM 4 16 1,oB 5 17 .neq 15 16]
@[go_sem] theorem qzB:OE qNL.eq_1:=OEM qNL.eq_1
def qNJ:qH:=.seq (.blk 1 (.seq (.seq (.reg true qNL) (.cond (.t 17) (.seq (.reg true [oP 0 4 (.mov (.c (.int .i64 (-1))))]) (.ret)) (.skip))) (.reg true [oM 0 18 1,oE 1 19 .add 18 1,oM 2 1 19]))) (.reg true [oM 0 10 5,oE 1 11 .add 10 1,oM 2 5 11])
@[go_sem] theorem qy9:CE qNJ.eq_1:=CEM qNJ.eq_1
def F92:qJ:=⟨2,21,[.t 4],.seq (.reg true [oC 0 4 0]) (.seq (.seq (.reg true [oC 0 5 0]) (.blk 0 (.loop (.seq (.seq (.reg true qNK) (.cond (.t 9) (.skip) (.exit 0))) qNJ)))) (.seq (.reg true [oM 0 20 1,oM 1 4 20]) (.ret)))⟩
def qF5:List qB:=[oM 0 6 5,oM 1 7 0,oW 2 8 7,oB 3 9 .lss 6 8]
@[go_sem] theorem qrV:OE qF5.eq_1:=OEM qF5.eq_1
def qF6:List qB:=[oM 0 12 0,oM 1 13 5,oA 2 14 4 12 13,oF 3 15 0 14,oL 4 16 15,oM 5 17 1,oB 6 18 .neq 16 17]
@[go_sem] theorem qrW:OE qF6.eq_1:=OEM qF6.eq_1
def qF7:List qB:=[oM 0 21 0,oM 1 22 5,oA 2 23 4 21 22,oF 3 24 1 23,oL 4 25 24,oM 5 26 1,oB 6 27 .neq 25 26]
@[go_sem] theorem qrX:OE qF7.eq_1:=OEM qF7.eq_1
def qF8:List qB:=[oM 0 30 0,oM 1 31 5,oA 2 32 4 30 31,oF 3 33 2 32,oL 4 34 33,oM 5 35 1,oD2 6 36 92 34 35,oM 7 1 36]
@[go_sem] theorem qrY:OE qF8.eq_1:=OEM qF8.eq_1
def qF9:List qB:=[oM 0 39 0,oM 1 40 5,oA 2 41 4 39 40,oF 3 42 3 41,oL 4 43 42,oM 5 44 1,oD2 6 45 348 43 44,oM 7 1 45]
@[go_sem] theorem qrZ:OE qF9.eq_1:=OEM qF9.eq_1
def qF2:qH:=.seq (.seq (.reg true [oM 0 37 1,oE 1 38 .lss 37 0]) (.cond (.t 38) (.seq (.reg true [oP 0 4 (.mov (.c (.int .i64 (-1))))]) (.ret)) (.skip))) (.seq (.reg true qF9) (.seq (.reg true [oM 0 46 1,oE 1 47 .lss 46 0]) (.cond (.t 47) (.seq (.reg true [oP 0 4 (.mov (.c (.int .i64 (-1))))]) (.ret)) (.skip))))
@[go_sem] theorem qrS:CE qF2.eq_1:=CEM qF2.eq_1
def qF3:qH:=.seq (.reg true [oM 0 19 1,oE 1 20 .add 19 1,oM 2 1 20]) (.seq (.seq (.reg true qF7) (.cond (.t 27) (.seq (.reg true [oP 0 4 (.mov (.c (.int .i64 (-1))))]) (.ret)) (.skip))) (.seq (.reg true [oM 0 28 1,oE 1 29 .add 28 1,oM 2 1 29]) (.seq (.reg true qF8) qF2)))
@[go_sem] theorem qrT:CE qF3.eq_1:=CEM qF3.eq_1
def qF4:qH:=.loop (.seq (.seq (.reg true qF5) (.cond (.t 9) (.skip) (.exit 0))) (.seq (.blk 1 (.seq (.seq (.reg true qF6) (.cond (.t 18) (.seq (.reg true [oP 0 4 (.mov (.c (.int .i64 (-1))))]) (.ret)) (.skip))) qF3)) (.reg true [oM 0 10 5,oE 1 11 .add 10 1,oM 2 5 11])))
@[go_sem] theorem qrU:CE qF4.eq_1:=CEM qF4.eq_1
def XS:qJ:=⟨2,49,[.t 4],.seq (.reg true [oC 0 4 0]) (.seq (.seq (.reg true [oC 0 5 0]) (.blk 0 qF4)) (.seq (.reg true [oM 0 48 1,oM 1 4 48]) (.ret)))⟩
def qM9:List qB:=[oU 0 5 2,oX 1 6 2 2,oM 2 7 1,oD2 3 8 92 6 7,oM 4 1 8]
@[go_sem] theorem qyZ:OE qM9.eq_1:=OEM qM9.eq_1
def qNA:List qB:=[oU 0 11 2,oX 1 12 2 3,oM 2 13 1,oD2 3 14 348 12 13,oM 4 1 14]
@[go_sem] theorem qy0:OE qNA.eq_1:=OEM qNA.eq_1
def qM8:qH:=.seq (.reg true qNA) (.seq (.seq (.reg true [oM 0 15 1,oE 1 16 .lss 15 0]) (.cond (.t 16) (.seq (.reg true [oP 0 4 (.mov (.c (.int .i64 (-1))))]) (.ret)) (.skip))) (.seq (.reg true [oM 0 17 1,oM 1 4 17]) (.ret)))
@[go_sem] theorem qyY:CE qM8.eq_1:=CEM qM8.eq_1
def F91:qJ:=⟨2,18,[.t 4],.seq (.reg true [oP 0 2 (.lbox 4 (.t 0)),oC 1 4 0]) (.seq (.reg true qM9) (.seq (.seq (.reg true [oM 0 9 1,oE 1 10 .lss 9 0]) (.cond (.t 10) (.seq (.reg true [oP 0 4 (.mov (.c (.int .i64 (-1))))]) (.ret)) (.skip))) qM8))⟩
def XW:qJ:=⟨1,5,[.l 2 (some 4)],.seq (.reg true [oZ 0 2]) (.seq (.reg true [oM 0 3 0,oP 1 4 (.call 766 [.t 3,.c (.int .i64 0),.c (.int .i64 0)]),oS 2 2 0 4 4]) (.ret))⟩
def qER:List qB:=[oP 0 3 (.hbox 1 (.t 0)),oP 1 4 (.hbox 4 (.t 1)),oZ 2 6,oC 3 7 0,oC 4 8 0]
@[go_sem] theorem qqH:OE qER.eq_1:=OEM qER.eq_1
def qES:List qB:=[oP 0 17 (.build (.agg [.int .i64 0,.int .i64 0,.nils,.nils]) []),oM 1 18 9,oS 2 6 0 4 17,oC 3 7 0,oM 4 8 18]
@[go_sem] theorem qqI:OE qES.eq_1:=OEM qES.eq_1
def qET:List qB:=[oM 0 20 2,oD2 1 21 480 3 20,oD2 2 22 481 21 4,oM 3 19 22,oV 4 23 19 0,oV 5 24 19 1,oV 6 25 19 2,oP 7 10 (.halloc 4 (.agg [.int .i64 0,.int .i64 0,.nils,.nils])),oT 8 4 10 23,oM 9 11 24,oM 10 12 25]
@[go_sem] theorem qqJ:OE qET.eq_1:=OEM qET.eq_1
def qEU:List qB:=[oP 0 28 (.build (.agg [.int .i64 0,.int .i64 0,.nils,.nils]) []),oM 1 29 12,oS 2 6 0 4 28,oC 3 7 0,oM 4 8 29]
@[go_sem] theorem qqK:OE qEU.eq_1:=OEM qEU.eq_1
def qEV:List qB:=[oP 0 32 (.build (.agg [.int .i64 0,.int .i64 0,.nils,.nils]) []),oS 1 6 0 4 32,oC 2 7 0,oC 3 8 3]
@[go_sem] theorem qqL:OE qEV.eq_1:=OEM qEV.eq_1
def qEW:List qB:=[oD1 0 33 387 10,oM 1 34 11,oS 2 6 0 4 33,oM 3 7 34,oC 4 8 0]
@[go_sem] theorem qqM:OE qEW.eq_1:=OEM qEW.eq_1
def qEP:qH:=.seq (.seq (.reg true [oM 0 26 12,oE 1 27 .neq 26 0]) (.cond (.t 27) (.seq (.reg true qEU) (.ret)) (.skip))) (.seq (.seq (.reg true [oM 0 30 11,oE 1 31 .eql 30 0]) (.cond (.t 31) (.seq (.reg true qEV) (.ret)) (.skip))) (.seq (.reg true qEW) (.ret)))
@[go_sem] theorem qqF:CE qEP.eq_1:=CEM qEP.eq_1
def qEQ:qH:=.seq (.seq (.reg true [oM 0 13 2,oP 1 14 (.call 479 [.t 3,.t 4,.t 13,.c (.int .i64 0)]),oM 2 9 14]) (.seq (.reg true [oM 0 15 9,oE 1 16 .neq 15 0]) (.cond (.t 16) (.seq (.reg true qES) (.ret)) (.skip)))) (.seq (.reg true qET) qEP)
@[go_sem] theorem qqG:CE qEQ.eq_1:=CEM qEQ.eq_1
def XO:qJ:=⟨3,35,[.l 6 (some 4),.t 7,.t 8],.seq (.reg true qER) qEQ⟩
def qFD:List qB:=[oY 0 22 3 0 1,oM 1 23 7,oD2 2 24 79 22 23,oM 3 7 24]
@[go_sem] theorem qq3:OE qFD.eq_1:=OEM qFD.eq_1
def qFE:List qB:=[oY 0 27 4 0 4,oM 1 28 7,oD2 2 29 80 27 28,oM 3 7 29]
@[go_sem] theorem qrB:OE qFE.eq_1:=OEM qFE.eq_1
def qFM:List qB:=[oY 0 33 3 0 1,oY 2 35 4 0 4,oM 4 37 2,oZ 10 8,oD1 1 34 82 33,oD1 3 36 83 35,oP 5 38 (.call 174 [.t 34,.t 36,.t 37]),oM 6 32 38,oV 7 39 32 0,oV 8 40 32 1,oV 9 41 32 2,oS 11 8 0 4 39,oM 12 9 40,oM 13 10 41]
@[go_sem] theorem qrC:OE qFM.eq_1:=OEM qFM.eq_1
def qFN:List qB:=[oY 0 42 3 0 1,oD1 1 43 82 42,oP 2 11 (.lalloc (.agg [.nils])),oS 3 11 0 1 43]
@[go_sem] theorem qrD:OE qFN.eq_1:=OEM qFN.eq_1
def qFO:List qB:=[oY 0 44 4 0 4,oD1 1 45 83 44,oZ 2 12,oS 3 12 0 4 45]
@[go_sem] theorem qrE:OE qFO.eq_1:=OEM qFO.eq_1
def qFP:List qB:=[oY 0 47 11 0 1,oY 1 48 12 0 4,oM 2 49 2,oP 3 50 (.call 175 [.t 47,.t 48,.t 49]),oM 4 46 50,oV 5 51 46 0,oV 6 52 46 1,oV 7 53 46 2,oZ 8 13,oS 9 13 0 4 51,oM 10 14 52,oM 11 15 53]
@[go_sem] theorem qrF:OE qFP.eq_1:=OEM qFP.eq_1
def qFQ:List qB:=[oY 0 54 13 0 4,oY 1 55 8 0 4,oD2 2 56 85 54 55,oJ 3 57 56,oM 4 58 57,oH 5 59 58 false 14,oH 6 60 58 false 9,oG 7 61 58 false (.bin .neq (.t 59) (.t 60)),oPt 8 62 58 61,oM 9 63 62,oH 10 64 63 false 15,oH 11 65 63 false 10,oG 12 66 63 false (.bin .neq (.t 64) (.t 65)),oPt 13 67 63 66]
@[go_sem] theorem qrG:OE qFQ.eq_1:=OEM qFQ.eq_1
def qFR:List qB:=[oY 0 68 11 0 1,oY 1 69 3 0 1,oD1 2 70 82 69,oD2 3 71 87 68 70,oJ 4 72 71]
@[go_sem] theorem qrH:OE qFR.eq_1:=OEM qFR.eq_1
def qFS:List qB:=[oY 0 73 12 0 4,oY 1 74 4 0 4,oD1 2 75 83 74,oD2 3 76 85 73 75,oJ 4 77 76]
@[go_sem] theorem qrI:OE qFS.eq_1:=OEM qFS.eq_1
def qFT:List qB:=[oY 0 78 11 0 1,oM 1 79 16,oD2 2 80 88 78 79,oM 3 16 80]
@[go_sem] theorem qrJ:OE qFT.eq_1:=OEM qFT.eq_1
def qFF:List qB:=[oY 0 81 12 0 4,oM 1 82 16,oD2 2 83 89 81 82,oM 3 16 83]
@[go_sem] theorem qq4:OE qFF.eq_1:=OEM qFF.eq_1
def qFG:List qB:=[oM 0 84 16,oE 1 85 .lss 84 0,oM 2 86 85,oG 3 87 86 false (.lload 13 0 (some 4)),oG 4 88 86 false (.lload 8 0 (some 4)),oG 5 89 86 false (.call 85 [.t 87,.t 88]),oG 6 90 86 false (.not (.t 89)),oPt 7 91 86 90,oM 8 92 91,oH 9 93 92 false 14,oH 10 94 92 false 9,oG 11 95 92 false (.bin .neq (.t 93) (.t 94)),oPt 12 96 92 95,oM 13 97 96,oH 14 98 97 false 15,oH 15 99 97 false 10,oG 16 100 97 false (.bin .neq (.t 98) (.t 99)),oPt 17 101 97 100]
@[go_sem] theorem qq5:OE qFG.eq_1:=OEM qFG.eq_1
def qFH:List qB:=[oY 0 102 13 0 4,oM 1 103 17,oD2 2 104 89 102 103,oM 3 17 104]
@[go_sem] theorem qq6:OE qFH.eq_1:=OEM qFH.eq_1
def qFI:List qB:=[oY 0 105 13 0 4,oM 1 106 18,oD2 2 107 91 105 106,oM 3 18 107]
@[go_sem] theorem qq7:OE qFI.eq_1:=OEM qFI.eq_1
def qFJ:List qB:=[oY 0 114 3 0 1,oY 2 116 4 0 4,oM 4 118 2,oZ 10 19,oD1 1 115 82 114,oD1 3 117 83 116,oP 5 119 (.call 175 [.t 115,.t 117,.t 118]),oM 6 113 119,oV 7 120 113 0,oV 8 121 113 1,oV 9 122 113 2,oS 11 19 0 4 120,oM 12 20 121,oM 13 21 122]
@[go_sem] theorem qq8:OE qFJ.eq_1:=OEM qFJ.eq_1
def qFK:List qB:=[oY 0 123 19 0 4,oY 1 124 8 0 4,oD2 2 125 85 123 124,oJ 3 126 125,oM 4 127 126,oH 5 128 127 false 20,oH 6 129 127 false 9,oG 7 130 127 false (.bin .neq (.t 128) (.t 129)),oPt 8 131 127 130,oM 9 132 131,oH 10 133 132 false 21,oH 11 134 132 false 10,oG 12 135 132 false (.bin .neq (.t 133) (.t 134)),oPt 13 136 132 135]
@[go_sem] theorem qq9:OE qFK.eq_1:=OEM qFK.eq_1
def qFL:List qB:=[oY 0 137 13 0 4,oM 1 138 18,oD2 2 139 91 137 138,oM 3 18 139]
@[go_sem] theorem qrA:OE qFL.eq_1:=OEM qFL.eq_1
def qE6:qH:=.seq (.seq (.reg true [oM 0 140 18,oE 1 141 .lss 140 0]) (.cond (.t 141) (.seq (.reg true [oQ 0 6 false]) (.ret)) (.skip))) (.seq (.seq (.reg true [oM 0 142 18,oM 1 143 17,oB 2 144 .neq 142 143]) (.cond (.t 144) (.seq (.reg true [oQ 0 6 false]) (.ret)) (.skip))) (.seq (.reg true [oQ 0 6 true]) (.ret)))
@[go_sem] theorem qqW:CE qE6.eq_1:=CEM qE6.eq_1
def qE7:qH:=.seq (.seq (.reg true [oM 0 110 18,oM 1 111 17,oB 2 112 .neq 110 111]) (.cond (.t 112) (.seq (.reg true [oQ 0 6 false]) (.ret)) (.skip))) (.seq (.reg true qFJ) (.seq (.seq (.reg true qFK) (.cond (.t 136) (.seq (.reg true [oQ 0 6 false]) (.ret)) (.skip))) (.seq (.reg true [oC 0 18 1]) (.seq (.reg true qFL) qE6))))
@[go_sem] theorem qqX:CE qE7.eq_1:=CEM qE7.eq_1
def qE8:qH:=.seq (.reg true qFH) (.seq (.reg true [oC 0 18 1]) (.seq (.reg true qFI) (.seq (.seq (.reg true [oM 0 108 18,oE 1 109 .lss 108 0]) (.cond (.t 109) (.seq (.reg true [oQ 0 6 false]) (.ret)) (.skip))) qE7)))
@[go_sem] theorem qqY:CE qE8.eq_1:=CEM qE8.eq_1
def qE9:qH:=.seq (.reg true [oC 0 16 1]) (.seq (.reg true qFT) (.seq (.reg true qFF) (.seq (.seq (.reg true qFG) (.cond (.t 101) (.seq (.reg true [oQ 0 6 false]) (.ret)) (.skip))) (.seq (.reg true [oC 0 17 1]) qE8))))
@[go_sem] theorem qqZ:CE qE9.eq_1:=CEM qE9.eq_1
def qFA:qH:=.seq (.seq (.reg true qFQ) (.cond (.t 67) (.seq (.reg true [oQ 0 6 false]) (.ret)) (.skip))) (.seq (.seq (.reg true qFR) (.cond (.t 72) (.seq (.reg true [oQ 0 6 false]) (.ret)) (.skip))) (.seq (.seq (.reg true qFS) (.cond (.t 77) (.seq (.reg true [oQ 0 6 false]) (.ret)) (.skip))) qE9))
@[go_sem] theorem qq0:CE qFA.eq_1:=CEM qFA.eq_1
def qFB:qH:=.seq (.seq (.reg true [oM 0 30 7,oE 1 31 .lss 30 0]) (.cond (.t 31) (.seq (.reg true [oQ 0 6 true]) (.ret)) (.skip))) (.seq (.reg true qFM) (.seq (.reg true qFN) (.seq (.reg true qFO) (.seq (.reg true qFP) qFA))))
@[go_sem] theorem qq1:CE qFB.eq_1:=CEM qFB.eq_1
def qFC:qH:=.seq (.reg true [oC 0 7 1048576]) (.seq (.reg true qFD) (.seq (.seq (.reg true [oM 0 25 7,oE 1 26 .lss 25 0]) (.cond (.t 26) (.seq (.reg true [oQ 0 6 true]) (.ret)) (.skip))) (.seq (.reg true qFE) qFB)))
@[go_sem] theorem qq2:CE qFC.eq_1:=CEM qFC.eq_1
def F22:qJ:=⟨3,145,[.t 6],.seq (.reg true [oP 0 3 (.lbox 1 (.t 0)),oP 1 4 (.lbox 4 (.t 1)),oQ 2 6 false]) qFC⟩
def tabm:List (Nat×qJ):=[(338,F338),(80,F80),(337,F337),(79,F79),(147,F147),(83,F83),(342,F342),(82,F82),(86,F86),(346,F346),(85,F85),(87,F87),(340,XQ),(1023,WK),(1024,WL),(643,Xp),(642,Xo),(1129,Wi),(878,YH),(519,Xh),(725,Xv),(579,Xl),(990,YL),(991,YM),(610,Xm),(496,Xf),(479,XZ),(402,ZH),(1026,WM),(920,YK),(1407,XC),(1162,Wk),(835,X9),(480,Xa),(856,YG),(1123,Wc),(1128,Wh),(765,X2),(381,XT),(760,Xy),(1121,Wa),(766,X3),(1122,Wb),(1124,Wd),(761,Xz),(1125,We),(1126,Wf),(762,X0),(382,XU),(1117,WW),(1127,Wg),(763,X1),(1504,XL),(1505,XM),(1408,XD),(1409,XE),(1163,Wl),(836,YA),(481,Xb),(401,F401),(385,XV),(774,F774),(397,F397),(801,X7),(436,XY),(958,F958),(581,F581),(665,Xt),(495,Xe),(796,X6),(1050,WR),(1051,WS),(1402,XB),(1130,Wj),(770,X5),(391,XX),(566,Xk),(1193,Ws),(880,YI),(521,Xi),(993,YO),(615,Xn),(1169,Wo),(1168,Wn),(847,YB),(851,YF),(498,Xg),(1042,WQ),(1194,Wu),(1195,Wv),(881,YJ),(522,Xj),(1170,Wp),(848,YC),(834,X8),(647,Xq),(1167,Wm),(1345,W5),(1339,Wz),(1476,XG),(1340,W0),(1348,qQM),(1349,W8),(1054,WV),(1477,XH),(1478,XI),(1341,W1),(1529,XN),(1480,XK),(1479,XJ),(1342,W2),(1343,W3),(1344,W4),(1346,W6),(1347,W7),(1053,WT),(678,Xu),(1041,WP),(664,Xs),(1039,WN),(1040,WO),(663,Xr),(849,YD),(493,Xc),(769,X4),(758,Xx),(726,Xw),(1316,Ww),(1462,XF),(1318,Wy),(1317,Wx),(992,YN),(1400,W9),(1118,WX),(1120,WZ),(1401,XA),(1119,WY),(759,Jz),(1171,Wq),(1172,Wr),(850,YE),(494,Xd),(175,XP),(90,F90),(347,XR),(88,F88),(89,F89),(92,F92),(348,XS),(91,F91),(387,XW),(174,XO),(22,F22)]
def Gm (g:Nat):Option AFn:=Jf g tabm
theorem g338:Gm 338=some (.fn F338):=by kernel_rfl
theorem g80:Gm 80=some (.fn F80):=by kernel_rfl
theorem g337:Gm 337=some (.fn F337):=by kernel_rfl
theorem g79:Gm 79=some (.fn F79):=by kernel_rfl
theorem g147:Gm 147=some (.fn F147):=by kernel_rfl
theorem g83:Gm 83=some (.fn F83):=by kernel_rfl
theorem Yz:Gm 342=some (.fn F342):=by kernel_rfl
theorem g82:Gm 82=some (.fn F82):=by kernel_rfl
theorem g86:Gm 86=some (.fn F86):=by kernel_rfl
theorem g346:Gm 346=some (.fn F346):=by kernel_rfl
theorem g85:Gm 85=some (.fn F85):=by kernel_rfl
theorem g87:Gm 87=some (.fn F87):=by kernel_rfl
theorem g340:Gm 340=some (.fn XQ):=by kernel_rfl
theorem qZC:Gm 1023=some (.fn WK):=by kernel_rfl
theorem qZD:Gm 1024=some (.fn WL):=by kernel_rfl
theorem g643:Gm 643=some (.fn Xp):=by kernel_rfl
theorem g642:Gm 642=some (.fn Xo):=by kernel_rfl
theorem qZZ:Gm 1129=some (.fn Wi):=by kernel_rfl
theorem g878:Gm 878=some (.fn YH):=by kernel_rfl
theorem g519:Gm 519=some (.fn Xh):=by kernel_rfl
theorem g725:Gm 725=some (.fn Xv):=by kernel_rfl
theorem g579:Gm 579=some (.fn Xl):=by kernel_rfl
theorem g990:Gm 990=some (.fn YL):=by kernel_rfl
theorem g991:Gm 991=some (.fn YM):=by kernel_rfl
theorem g610:Gm 610=some (.fn Xm):=by kernel_rfl
theorem g496:Gm 496=some (.fn Xf):=by kernel_rfl
theorem g479:Gm 479=some (.fn XZ):=by kernel_rfl
theorem g402:Gm 402=some (.fn ZH):=by kernel_rfl
theorem qZE:Gm 1026=some (.fn WM):=by kernel_rfl
theorem g920:Gm 920=some (.fn YK):=by kernel_rfl
theorem qaS:Gm 1407=some (.fn XC):=by kernel_rfl
theorem qZ1:Gm 1162=some (.fn Wk):=by kernel_rfl
theorem g835:Gm 835=some (.fn X9):=by kernel_rfl
theorem g480:Gm 480=some (.fn Xa):=by kernel_rfl
theorem g856:Gm 856=some (.fn YG):=by kernel_rfl
theorem qZT:Gm 1123=some (.fn Wc):=by kernel_rfl
theorem qZY:Gm 1128=some (.fn Wh):=by kernel_rfl
theorem g765:Gm 765=some (.fn X2):=by kernel_rfl
theorem g381:Gm 381=some (.fn XT):=by kernel_rfl
theorem g760:Gm 760=some (.fn Xy):=by kernel_rfl
theorem qZR:Gm 1121=some (.fn Wa):=by kernel_rfl
theorem g766:Gm 766=some (.fn X3):=by kernel_rfl
theorem qZS:Gm 1122=some (.fn Wb):=by kernel_rfl
theorem qZU:Gm 1124=some (.fn Wd):=by kernel_rfl
theorem g761:Gm 761=some (.fn Xz):=by kernel_rfl
theorem qZV:Gm 1125=some (.fn We):=by kernel_rfl
theorem qZW:Gm 1126=some (.fn Wf):=by kernel_rfl
theorem g762:Gm 762=some (.fn X0):=by kernel_rfl
theorem g382:Gm 382=some (.fn XU):=by kernel_rfl
theorem qZN:Gm 1117=some (.fn WW):=by kernel_rfl
theorem qZX:Gm 1127=some (.fn Wg):=by kernel_rfl
theorem g763:Gm 763=some (.fn X1):=by kernel_rfl
theorem qa1:Gm 1504=some (.fn XL):=by kernel_rfl
theorem qa2:Gm 1505=some (.fn XM):=by kernel_rfl
theorem qaT:Gm 1408=some (.fn XD):=by kernel_rfl
theorem qaU:Gm 1409=some (.fn XE):=by kernel_rfl
theorem qZ2:Gm 1163=some (.fn Wl):=by kernel_rfl
theorem g836:Gm 836=some (.fn YA):=by kernel_rfl
theorem g481:Gm 481=some (.fn Xb):=by kernel_rfl
theorem g401:Gm 401=some (.fn F401):=by kernel_rfl
theorem g385:Gm 385=some (.fn XV):=by kernel_rfl
theorem g774:Gm 774=some (.fn F774):=by kernel_rfl
theorem g397:Gm 397=some (.fn F397):=by kernel_rfl
theorem g801:Gm 801=some (.fn X7):=by kernel_rfl
theorem g436:Gm 436=some (.fn XY):=by kernel_rfl
theorem g958:Gm 958=some (.fn F958):=by kernel_rfl
theorem g581:Gm 581=some (.fn F581):=by kernel_rfl
theorem g665:Gm 665=some (.fn Xt):=by kernel_rfl
theorem g495:Gm 495=some (.fn Xe):=by kernel_rfl
theorem g796:Gm 796=some (.fn X6):=by kernel_rfl
theorem qZJ:Gm 1050=some (.fn WR):=by kernel_rfl
theorem qZK:Gm 1051=some (.fn WS):=by kernel_rfl
theorem qaR:Gm 1402=some (.fn XB):=by kernel_rfl
theorem qZ0:Gm 1130=some (.fn Wj):=by kernel_rfl
theorem g770:Gm 770=some (.fn X5):=by kernel_rfl
theorem g391:Gm 391=some (.fn XX):=by kernel_rfl
theorem g566:Gm 566=some (.fn Xk):=by kernel_rfl
theorem qZ9:Gm 1193=some (.fn Ws):=by kernel_rfl
theorem g880:Gm 880=some (.fn YI):=by kernel_rfl
theorem g521:Gm 521=some (.fn Xi):=by kernel_rfl
theorem g993:Gm 993=some (.fn YO):=by kernel_rfl
theorem g615:Gm 615=some (.fn Xn):=by kernel_rfl
theorem qZ5:Gm 1169=some (.fn Wo):=by kernel_rfl
theorem qZ4:Gm 1168=some (.fn Wn):=by kernel_rfl
theorem g847:Gm 847=some (.fn YB):=by kernel_rfl
theorem g851:Gm 851=some (.fn YF):=by kernel_rfl
theorem g498:Gm 498=some (.fn Xg):=by kernel_rfl
theorem qZI:Gm 1042=some (.fn WQ):=by kernel_rfl
theorem qaA:Gm 1194=some (.fn Wu):=by kernel_rfl
theorem qaB:Gm 1195=some (.fn Wv):=by kernel_rfl
theorem g881:Gm 881=some (.fn YJ):=by kernel_rfl
theorem g522:Gm 522=some (.fn Xj):=by kernel_rfl
theorem qZ6:Gm 1170=some (.fn Wp):=by kernel_rfl
theorem g848:Gm 848=some (.fn YC):=by kernel_rfl
theorem g834:Gm 834=some (.fn X8):=by kernel_rfl
theorem g647:Gm 647=some (.fn Xq):=by kernel_rfl
theorem qZ3:Gm 1167=some (.fn Wm):=by kernel_rfl
theorem qaL:Gm 1345=some (.fn W5):=by kernel_rfl
theorem qaF:Gm 1339=some (.fn Wz):=by kernel_rfl
theorem qaW:Gm 1476=some (.fn XG):=by kernel_rfl
theorem qaG:Gm 1340=some (.fn W0):=by kernel_rfl
theorem qaO:Gm 1349=some (.fn W8):=by kernel_rfl
theorem qZM:Gm 1054=some (.fn WV):=by kernel_rfl
theorem qaX:Gm 1477=some (.fn XH):=by kernel_rfl
theorem qaY:Gm 1478=some (.fn XI):=by kernel_rfl
theorem qaH:Gm 1341=some (.fn W1):=by kernel_rfl
theorem qa3:Gm 1529=some (.fn XN):=by kernel_rfl
theorem qa0:Gm 1480=some (.fn XK):=by kernel_rfl
theorem qaZ:Gm 1479=some (.fn XJ):=by kernel_rfl
theorem qaI:Gm 1342=some (.fn W2):=by kernel_rfl
theorem qaJ:Gm 1343=some (.fn W3):=by kernel_rfl
theorem qaK:Gm 1344=some (.fn W4):=by kernel_rfl
theorem qaM:Gm 1346=some (.fn W6):=by kernel_rfl
theorem qaN:Gm 1347=some (.fn W7):=by kernel_rfl
theorem qZL:Gm 1053=some (.fn WT):=by kernel_rfl
theorem g678:Gm 678=some (.fn Xu):=by kernel_rfl
theorem qZH:Gm 1041=some (.fn WP):=by kernel_rfl
theorem g664:Gm 664=some (.fn Xs):=by kernel_rfl
theorem qZF:Gm 1039=some (.fn WN):=by kernel_rfl
theorem qZG:Gm 1040=some (.fn WO):=by kernel_rfl
theorem g663:Gm 663=some (.fn Xr):=by kernel_rfl
theorem g849:Gm 849=some (.fn YD):=by kernel_rfl
theorem g493:Gm 493=some (.fn Xc):=by kernel_rfl
theorem g769:Gm 769=some (.fn X4):=by kernel_rfl
theorem g758:Gm 758=some (.fn Xx):=by kernel_rfl
theorem g726:Gm 726=some (.fn Xw):=by kernel_rfl
theorem qaC:Gm 1316=some (.fn Ww):=by kernel_rfl
theorem qaV:Gm 1462=some (.fn XF):=by kernel_rfl
theorem qaE:Gm 1318=some (.fn Wy):=by kernel_rfl
theorem qaD:Gm 1317=some (.fn Wx):=by kernel_rfl
theorem g992:Gm 992=some (.fn YN):=by kernel_rfl
theorem qaP:Gm 1400=some (.fn W9):=by kernel_rfl
theorem qZO:Gm 1118=some (.fn WX):=by kernel_rfl
theorem qZQ:Gm 1120=some (.fn WZ):=by kernel_rfl
theorem qaQ:Gm 1401=some (.fn XA):=by kernel_rfl
theorem qZP:Gm 1119=some (.fn WY):=by kernel_rfl
theorem Y0:Gm 759=some (.fn Jz):=by kernel_rfl
theorem qZ7:Gm 1171=some (.fn Wq):=by kernel_rfl
theorem qZ8:Gm 1172=some (.fn Wr):=by kernel_rfl
theorem g850:Gm 850=some (.fn YE):=by kernel_rfl
theorem g494:Gm 494=some (.fn Xd):=by kernel_rfl
theorem g175:Gm 175=some (.fn XP):=by kernel_rfl
theorem g90:Gm 90=some (.fn F90):=by kernel_rfl
theorem g347:Gm 347=some (.fn XR):=by kernel_rfl
theorem g88:Gm 88=some (.fn F88):=by kernel_rfl
theorem g89:Gm 89=some (.fn F89):=by kernel_rfl
theorem g92:Gm 92=some (.fn F92):=by kernel_rfl
theorem g348:Gm 348=some (.fn XS):=by kernel_rfl
theorem g91:Gm 91=some (.fn F91):=by kernel_rfl
theorem g387:Gm 387=some (.fn XW):=by kernel_rfl
theorem g174:Gm 174=some (.fn XO):=by kernel_rfl
theorem g22:Gm 22=some (.fn F22):=by kernel_rfl
end Go.Ab
namespace Go.Ab
open Go
set_option maxRecDepth 10000
theorem c338 (xs:List Int) (hx:xs.length≤140737488355328) (left:Nat) (hl:left≤1048576):Pure Gm 338 [.lst 1 (xs.map qE) false,.int .i64 left] (.int .i64 (jy xs.length left)):=
  qgR g338 shI.tree xs left hl hx
theorem c80 (x:qA):∀(_:x.bd) (left:Nat) (_:left≤1048576),Pure Gm 80 [x.enc,.int .i64 left] (.int .i64 (jy x.sz left)):=by
  induction x using qA.ind with
  | _ x ih=>
  intro hb left hl
  refine Pure.intro [] [] g80 (by kernel_rfl) rfl (by simp [AV.trees,AV.tree,qA.tr]) rfl ?_
  simp only [F80,qL,go_sem]
  refine qa qA.ln ?_
  simp only [go_sem]
  rw [qA.bd_eq] at hb
  refine qG (c338 _ hb.1 _ (by omega)) ?_
  simp only [go_sem]
  refine qD ?_ ?_<;>intro hc<;>simp only [hc,go_sem]
  · have hq:=odT hc;rw [ws] at hq
    exact qK rfl (by rw [JK (by rw [qA.sz_eq];omega)])
  have hq:=odF hc;rw [ws] at hq;rw [wH (by omega)];clear hc
  refine qG (qVF qA.isSh g337 qA.sz x.Kids (fun y hm lf hlf=>ih y hm (hb.2.2 y hm) lf hlf) _ (by omega) hb.2.1) ?_
  simp only [go_sem]
  refine qD ?_ ?_<;>intro hc<;>simp only [hc,go_sem]
  · have hq:=odT hc;rw [ws] at hq
    exact qK rfl (by rw [JK (by rw [qA.sz_eq];omega)])
  have hq:=odF hc;rw [ws] at hq;rw [wH (by omega)];clear hc
  exact qK rfl (by rw [wH (by rw [qA.sz_eq];omega)];rw [qA.sz_eq];first | rfl | (congr 2;omega))
theorem c337 (xs:List qA) (hx:xs.length≤140737488355328∧(∀y∈xs,qA.bd y)) (left:Nat) (hl:left≤1048576):Pure Gm 337 [.lst 4 (xs.map qA.enc) false,.int .i64 left] (.int .i64 (jy (xs.length+qF qA.sz xs) left)):=
  qVF qA.isSh g337 qA.sz xs (fun x hm lf hlf=>c80 x (hx.2 x hm) lf hlf) left hl hx.1
theorem c79 (x:qI) (hb:x.bd) (left:Nat) (hl:left≤1048576):Pure Gm 79 [x.enc,.int .i64 left] (.int .i64 (jy x.sz left)):=by
  refine Pure.intro [] [] g79 (by kernel_rfl) rfl (by simp [AV.trees,AV.tree,qI.tr]) rfl ?_
  simp only [F79,qL,go_sem]
  refine qa rfl ?_
  simp only [go_sem]
  unfold qI.bd at hb
  refine qG (c337 _ ⟨hb.1,hb.2⟩ _ (by omega)) ?_
  simp only [go_sem]
  refine qD ?_ ?_<;>intro hc<;>simp only [hc,go_sem]
  · have hq:=odT hc;rw [ws] at hq
    exact qK rfl (by rw [JK (by unfold qI.sz;omega)])
  have hq:=odF hc;rw [ws] at hq;rw [wH (by omega)];clear hc
  exact qK rfl (by rw [wH (by unfold qI.sz;omega)];unfold qI.sz;first | rfl | (congr 2;omega))
theorem c147 (xs:List Int) (hl:xs.length≤1048576):Pure Gm 147 [.lst 1 (xs.map qE) false] (.lst 1 (xs.map qE) false):=qgV g147 xs hl
theorem c83 (x:qA):∀(_:x.sz≤1048576),Pure Gm 83 [x.enc] (x.enc):=by
  induction x using qA.ind with
  | _ x ih=>
  intro hz
  refine Pure.intro [] [] g83 (by kernel_rfl) rfl (by simp [AV.trees,AV.tree,qA.tr]) qA.tr ?_
  simp only [F83,qL,go_sem]
  refine qa qA.ln ?_
  simp only [go_sem]
  rw [qA.sz_eq] at hz
  refine qG (c147 _ (by omega)) ?_
  simp only [go_sem]
  refine qG (qVJ qA.isSh rfl rfl (by simp) Yz x.Kids (fun y hm=>ih y hm (by have:=zV (f:=qA.sz) hm;omega)) (by omega)) ?_
  simp only [go_sem]
  refine qO rfl rfl ⟨_,rfl⟩ (by decide) ?_
  simp only [go_sem]
  exact qK qA.tr (by rw [qA.enc_eq])
theorem c342 (xs:List qA) (hl:xs.length+qF qA.sz xs≤1048576):Pure Gm 342 [.lst 4 (xs.map qA.enc) false] (.lst 4 (xs.map qA.enc) false):=
  qVJ qA.isSh rfl rfl (by simp) Yz xs (fun x hm=>c83 x (by have:=zV (f:=qA.sz) hm;omega)) (by omega)
theorem c82 (x:qI) (hz:x.sz≤1048576):Pure Gm 82 [x.enc] x.enc:=by
  refine Pure.intro [] [] g82 (by kernel_rfl) rfl (by simp [AV.trees,AV.tree,qI.tr]) qI.tr ?_
  simp only [F82,qL,go_sem]
  refine qa rfl ?_
  simp only [go_sem]
  unfold qI.sz at hz
  refine qG (c342 _ (by omega)) ?_
  simp only [go_sem]
  exact qK qI.tr rfl
theorem c86 (xs:List Int) (hl:xs.length≤2097152):Pure Gm 86 [.lst 1 (xs.map qE) false,.lst 1 (xs.map qE) false] (.bool true):=qYY g86 xs hl
theorem c85 (x:qA):∀(_:x.sz≤2097152),Pure Gm 85 [x.enc,x.enc] (.bool true):=by
  induction x using qA.ind with
  | _ x ih=>
  intro hz
  refine Pure.intro [] [] g85 (by kernel_rfl) rfl (by simp [AV.trees,AV.tree,qA.tr]) rfl ?_
  simp only [F85,qL,go_sem]
  refine qa qA.ln ?_
  simp only [go_sem]
  refine qa qA.ln ?_
  simp only [go_sem]
  rw [qA.sz_eq] at hz
  refine qG (c86 _ (by omega)) ?_
  simp only [go_sem]
  refine qG (qRX qA.isSh g346 x.Kids (fun y hm=>ih y hm (by have:=zV (f:=qA.sz) hm;omega)) (by omega)) ?_
  simp only [go_sem]
  exact qK rfl rfl
theorem c346 (xs:List qA) (hl:xs.length+qF qA.sz xs≤2097152):Pure Gm 346 [.lst 4 (xs.map qA.enc) false,.lst 4 (xs.map qA.enc) false] (.bool true):=
  qRX qA.isSh g346 xs (fun x hm=>c85 x (by have:=zV (f:=qA.sz) hm;omega)) (by omega)
theorem c87 (x:qI) (hz:x.sz≤2097152):Pure Gm 87 [x.enc,x.enc] (.bool true):=by
  refine Pure.intro [] [] g87 (by kernel_rfl) rfl (by simp [AV.trees,AV.tree,qI.tr]) rfl ?_
  simp only [F87,qL,go_sem]
  refine qa rfl ?_
  simp only [go_sem]
  refine qa rfl ?_
  simp only [go_sem]
  unfold qI.sz at hz
  refine qG (c346 _ (by omega)) ?_
  simp only [go_sem]
  exact qK rfl rfl
end Go.Ab
namespace Go.Ab
open Go
set_option maxRecDepth 10000
set_option maxHeartbeats 2000000
def inI (n lo hi:Int):Bool:=decide (lo≤n)&&decide (n≤hi)
theorem dlt (a b:Int):decide (a<b)= !decide (b≤a):=by rw [Bool.eq_iff_iff];simp
theorem nt {b:Bool} (h:(!b)=true):b=false:=by cases b<;>simp_all
theorem nf {b:Bool} (h:(!b)=false):b=true:=by cases b<;>simp_all
theorem jk {α:Type} {xs:List α} {i:Nat} (h:i<xs.length):xs.drop i=xs[i]::xs.drop (i+1):=by simp
def shp (k:Int):(Int×Int)×Int×Int:=
  if k=1∨k=2∨k=11 then ((0,0),0,0) else if k=3∨k=5∨k=7 then ((2,2),0,0) else if k=4∨k=6 then ((1,1),0,0)
  else if k=8 then ((0,3),0,0) else if k=9 then ((1,1),1,4) else if k=10 then ((1,1),2,2) else ((0,-1),0,0)
def wi (k v:Int):Bool:=
  if k=1 then inI v 0 255 else if k=2 then inI v (-2147483648) 2147483647 else if k=3 then inI v 1 6 else if k=8 then inI v 0 3 else if k=11 then inI v 0 23 else decide (v=0)
def j5 (n:Int):Bool:=inI n 0 23
def zw (x:qA):Bool:=inI x.Kids.length (shp x.Kind).1.1 (shp x.Kind).1.2&&inI x.Data.length (shp x.Kind).2.1 (shp x.Kind).2.2&&wi x.Kind x.Value&&x.Data.all j5
def qA.fold {β:Type} (f:qA→List β→β) (x:qA):β:=f x (x.Kids.attach.map fun y=>qA.fold f y.1)
termination_by SizeOf.sizeOf x
decreasing_by exact qA.lt_of_mem y.2
theorem qA.fold_eq {β:Type} (f:qA→List β→β) (x:qA):qA.fold f x=f x (x.Kids.map (qA.fold f)):=by
  rw [qA.fold]
  congr 1
  rw [List.attach_map_val (l:=x.Kids) (f:=qA.fold f)]
@[go_sem] theorem zG7 {α:Type} (f:α→Nat):qF f []=0:=rfl
theorem Q7 {α:Type} {f:α→Nat} {xs:List α} {i:Nat} (h:i<xs.length):qF f (xs.take (i+1))=qF f (xs.take i)+f xs[i]:=by
  induction xs generalizing i with
  | nil=>simp at h
  | cons a xs ih=>
    cases i with
    | zero=>simp [qF]
    | succ i=>simp only [List.take_succ_cons,qF,List.getElem_cons_succ,ih (by simpa using h)];omega
def qz {α:Type} (f:α→Nat):List α→Nat
  |[]=>0
  | x::xs=>Nat.max (f x) (qz f xs)
def qA.ok:qA→Bool:=qA.fold fun x rs=>zw x&&rs.all id
theorem qA.ok_eq (x:qA):x.ok=(zw x&&x.Kids.all qA.ok):=by
  unfold qA.ok;rw [qA.fold_eq];simp
def qA.size:qA→Nat:=qA.fold fun _ rs=>1+qF id rs
theorem qVD {α β:Type} (f:β→Nat) (g:α→β):∀xs:List α,qF f (xs.map g)=qF (fun x=>f (g x)) xs
  |[]=>rfl
  | x::xs=>by simp [qF,qVD f g xs]
theorem qA.size_eq (x:qA):x.size=1+qF qA.size x.Kids:=by
  unfold qA.size;rw [qA.fold_eq,qVD];rfl
theorem qPO {α β:Type} (f:β→Nat) (g:α→β):∀xs:List α,qz f (xs.map g)=qz (fun x=>f (g x)) xs
  |[]=>rfl
  | x::xs=>by simp [qz,qPO f g xs]
def qA.dep:qA→Nat:=qA.fold fun _ rs=>1+qz id rs
theorem qA.dep_eq (x:qA):x.dep=1+qz qA.dep x.Kids:=by
  unfold qA.dep;rw [qA.fold_eq,qPO];rfl
theorem qA.kid_sz {x y:qA} (h:y∈x.Kids):y.sz≤x.sz:=by
  have:=zV (f:=qA.sz) h
  rw [qA.sz_eq x];omega
theorem qA.len_sz (x:qA):x.Kids.length≤x.sz∧x.Data.length≤x.sz:=by rw [qA.sz_eq x];omega
def wq (d:Int):List qA→Int→Option Int
  |[],n=>some n
  | x::xs,n=>if x.ok∧(x.dep:Int)≤d∧(x.size:Int)≤n then wq d xs (n-x.size) else none
def jq (x:qA) (d left:Int):Int:=if x.ok∧(x.dep:Int)≤d∧(x.size:Int)≤left then x.size else-1
theorem QT {n lo hi:Int}:Pure Gm 340 [.int .i64 n,.int .i64 lo,.int .i64 hi] (.bool (inI n lo hi)):=by
  refine Pure.intro [] [] g340 (by kernel_rfl) rfl (by simp [AV.trees,AV.tree,go_sem]) rfl ?_
  simp only [XQ,qL,go_sem]
  repeat' (first | (refine qa rfl ?_;simp only [go_sem]) | (first | (refine qZ ?_ ?_<;>intro hc<;>simp only [hc,go_sem]) | (refine qD ?_ ?_<;>intro hc<;>simp only [hc,go_sem])) | refine qK rfl ?_ | refine jU (by rfl) ?_)
  all_goals (simp_all [inI]<;>omega)
theorem qWQ {k:Int}:Pure Gm 1023 [.int .i64 k] (.tup [.int .i64 (shp k).1.1,.int .i64 (shp k).1.2,.int .i64 (shp k).2.1,.int .i64 (shp k).2.2]):=by
  refine Pure.intro [] [] qZC (by kernel_rfl) rfl (by simp [AV.trees,AV.tree,go_sem]) rfl ?_
  simp only [WK,qL,go_sem]
  repeat' (first | (refine qa rfl ?_;simp only [go_sem]) | (first | (refine qZ ?_ ?_<;>intro hc<;>simp only [hc,go_sem]) | (refine qD ?_ ?_<;>intro hc<;>simp only [hc,go_sem])) | refine qK rfl ?_ | refine jU (by rfl) ?_)
  all_goals (simp_all [shp,zW])
theorem qWR {x:qA}:Pure Gm 1024 [.ept x.enc 0] (.bool (wi x.Kind x.Value)):=by
  refine Pure.intro [] [] qZD (by kernel_rfl) rfl (by simp [AV.trees,AV.tree,go_sem]) rfl ?_
  simp only [WL,qL,go_sem]
  repeat' (first | (refine qa rfl ?_;simp only [go_sem]) | (first | (refine qZ ?_ ?_<;>intro hc<;>simp only [hc,go_sem]) | (refine qD ?_ ?_<;>intro hc<;>simp only [hc,go_sem])) | (refine qG (QT) ?_;simp only [go_sem]) | refine qK rfl ?_ | refine jU (by rfl) ?_)
  all_goals (simp_all [wi])
theorem qA.size_pos (x:qA):1≤x.size:=by rw [qA.size_eq];omega
theorem qA.dep_pos (x:qA):1≤x.dep:=by rw [qA.dep_eq];omega
theorem qSS (d:Int):∀(xs:List qA) (n:Int),0≤n→wq d xs n=if xs.all qA.ok∧(∀y∈xs,(y.dep:Int)≤d)∧(qF qA.size xs:Int)≤n then some (n-qF qA.size xs) else none
  |[],n,hn=>by simp [wq,qF,hn]
  | x::xs,n,hn=>by
    unfold wq
    have hp:=x.size_pos
    by_cases h:x.ok∧(x.dep:Int)≤d∧(x.size:Int)≤n
    · rw [if_pos h,qSS d xs _ (by omega)]
      simp only [qF,List.all_cons,h.1,Bool.true_and,List.forall_mem_cons,h.2.1,true_and]
      by_cases h2:xs.all qA.ok∧(∀y∈xs,(y.dep:Int)≤d)∧(qF qA.size xs:Int)≤n-x.size
      · rw [if_pos h2,if_pos ⟨h2.1,h2.2.1,by omega⟩];congr 1;omega
      · rw [if_neg h2,if_neg (fun q=>h2 ⟨q.1,q.2.1,by omega⟩)]
    · rw [if_neg h,if_neg]
      simp only [qF,List.all_cons,Bool.and_eq_true,List.forall_mem_cons]
      rintro ⟨⟨a,_⟩,⟨b,_⟩,c⟩
      exact h ⟨a,b,by omega⟩
theorem Zt {α:Type} (f:α→Nat) (n:Nat):∀xs:List α,qz f xs≤n↔∀y∈xs,f y≤n
  |[]=>by simp [qz]
  | x::xs=>by
    simp only [qz,List.forall_mem_cons,←Zt f n xs]
    exact Nat.max_le
theorem qd4 (x:qA) (d left:Int) (hd:1≤d) (hl:1≤left) (hn:zw x=true):jq x d left=match wq (d-1) x.Kids (left-1) with | some r=>left-r | none=> -1:=by
  unfold jq
  rw [qSS _ _ _ (by omega),x.ok_eq,hn,x.size_eq,x.dep_eq,Bool.true_and]
  have hm:((1+qz qA.dep x.Kids:Nat):Int)≤d↔∀y∈x.Kids,(y.dep:Int)≤d-1:=by
    have:=Zt qA.dep (d-1).toNat x.Kids
    constructor
    · intro h y hy;have:=this.1 (by omega) y hy;omega
    · intro h;have:=this.2 (fun y hy=>by have:=h y hy;omega);omega
  by_cases h:x.Kids.all qA.ok∧(∀y∈x.Kids,(y.dep:Int)≤d-1)∧(qF qA.size x.Kids:Int)≤left-1
  · rw [if_pos h,if_pos ⟨h.1,hm.2 h.2.1,by omega⟩];simp only [];omega
  · rw [if_neg h,if_neg (fun q=>h ⟨q.1,hm.1 q.2.1,by omega⟩)]
theorem qd3 {x:qA} {d left:Int} (h:d<1∨left<1∨zw x=false):jq x d left= -1:=by
  unfold jq
  rw [if_neg]
  rintro ⟨h1,h2,h3⟩
  have:=x.size_pos;have:=x.dep_pos
  rcases h with h | h | h
  · omega
  · omega
  · rw [x.ok_eq,h] at h1;cases h1
theorem c643 (x:qA):∀(d left:Int) (hz:x.sz≤1048576) (hd:0≤d∧d≤1048576) (hl:0≤left∧left≤1048576),Pure Gm 643 [.ept x.enc 0,.int .i64 d,.int .i64 left] (.int .i64 (jq x d left)):=by
  induction x using qA.ind with
  | _ x ih=>
  intro d left hz hd hl
  refine Pure.intro [] [] g643 (by kernel_rfl) rfl (by simp [AV.trees,AV.tree,go_sem]) rfl ?_
  simp only [Xp,qL,go_sem]
  have hL:=x.len_sz
  refine qG qWQ ?_
  simp only [go_sem]
  have bad:∀{h:List qC},d<1∨left<1∨zw x=false→Fin (some [.int .i64 (-1)]) h (.int .i64 (jq x d left)):=fun h=>qK rfl (by rw [qd3 h])
  repeat' (first
    | (first | (refine qZ ?_ ?_<;>intro hc<;>simp only [hc,go_sem]) | (refine qD ?_ ?_<;>intro hc<;>simp only [hc,go_sem]))
    | (refine qG QT ?_;simp only [go_sem])
    | (refine qG qWR ?_;simp only [go_sem])
    | refine bad ?_)
  all_goals try (first
    | (refine .inl ?_;simp_all;done)
    | (refine .inr (.inl ?_);simp_all;done)
    | (refine .inr (.inr ?_);simp_all [zw];done))
  rename_i h1 h2 h3 h4
  have hn0:x.Data.all j5=true→zw x=true:=by intro h;simp_all [zw]
  have hn1:x.Data.all j5=false→zw x=false:=by intro h;simp_all [zw]
  have d1:1≤d:=by have:=odF h1;omega
  have l1:1≤left:=by have:=odF h2;omega
  refine Sem.loop (fun i:Nat=>i≤x.Data.length∧x.Data.all j5=(x.Data.drop i).all j5) (fun i=>(⟨[(0,.ept x.enc 0),(1,.int .i64 d),(2,.int .i64 left),(11,.int .i64 (i:Nat))],[],[]⟩:VSt)) (fun i=>x.Data.length-i) 0 (by kernel_rfl) ⟨Nat.zero_le _,by simp⟩ (Can.sub (by simp [go_sem]) (by simp [go_sem])) ?_
  rintro i ⟨hi,hI⟩
  simp only [go_sem]
  refine qD ?_ ?_<;>intro hc<;>simp only [hc,go_sem]
  · have hlt:i<x.Data.length:=by have:=odT hc;omega
    simp only [List.getElem?_map,gEg hlt,Option.map_some,go_sem]
    simp only [qE]
    simp only [go_sem]
    refine qG QT ?_
    simp only [go_sem]
    refine qD ?_ ?_<;>intro hc<;>simp only [hc,go_sem]
    · refine bad (.inr (.inr (hn1 ?_)))
      rw [hI,jk hlt,List.all_cons];simp_all [j5]
    · simp only [qe (show i<4611686018427387904 by omega)];refine qY (i+1) ⟨by omega, ?_⟩ (by omega) (Can.sub (by simp [go_sem]) (by simp [go_sem]))
      rw [hI,jk hlt,List.all_cons];simp_all [j5]
  · obtain rfl:i=x.Data.length:=by have:=odF hc;omega
    have hn:=hn0 (by rw [hI];simp)
    rw [qd4 x d left d1 l1 hn]
    refine Sem.loop (fun i:Nat=>i≤x.Kids.length∧wq (d-1) x.Kids (left-1)=wq (d-1) (x.Kids.drop i) (left-((1+qF qA.size (x.Kids.take i):Nat):Int))∧((1+qF qA.size (x.Kids.take i):Nat):Int)≤left) (fun i=>(⟨[(0,.ept x.enc 0),(1,.int .i64 d),(2,.int .i64 left),(12,.int .i64 ((1+qF qA.size (x.Kids.take i):Nat):Int)),(13,.int .i64 (i:Nat))],[],[]⟩:VSt)) (fun i=>x.Kids.length-i) 0 (by kernel_rfl) ⟨Nat.zero_le _,by simp [qF];omega⟩ (Can.sub (by simp [go_sem]) (by simp [go_sem])) ?_
    rintro i ⟨hi,hI⟩
    simp only [go_sem]
    refine qD ?_ ?_<;>intro hc<;>simp only [hc,go_sem]
    · have hlt:i<x.Kids.length:=by have:=odT hc;omega
      simp only [List.getElem?_map,gEg hlt,Option.map_some,go_sem]
      have hm:=List.getElem_mem hlt
      have hk:=qA.kid_sz hm
      have hp:=x.Kids[i].size_pos
      have ht:=Q7 (f:=qA.size) hlt
      rw [qi (by omega) (by omega),qi (by omega) (by omega)]
      refine qG (ih _ hm (d-1) (left-((1+qF qA.size (x.Kids.take i):Nat):Int)) (by omega) (by omega) (by omega)) ?_
      simp only [go_sem]
      rw [jk hlt] at hI
      refine qD ?_ ?_<;>intro hc<;>simp only [hc,go_sem]
      · have hb:¬(x.Kids[i].ok∧(x.Kids[i].dep:Int)≤d-1∧(x.Kids[i].size:Int)≤left-((1+qF qA.size (x.Kids.take i):Nat):Int)):=by
          intro q
          have:=odT hc
          unfold jq at this
          rw [if_pos q] at this;omega
        refine qK rfl ?_
        rw [hI.1,wq,if_neg hb]
      · have hb:x.Kids[i].ok∧(x.Kids[i].dep:Int)≤d-1∧(x.Kids[i].size:Int)≤left-((1+qF qA.size (x.Kids.take i):Nat):Int):=by
          by_cases q:x.Kids[i].ok∧(x.Kids[i].dep:Int)≤d-1∧(x.Kids[i].size:Int)≤left-((1+qF qA.size (x.Kids.take i):Nat):Int)
          · exact q
          · have:=odF hc
            unfold jq at this
            rw [if_neg q] at this;omega
        have hv:jq x.Kids[i] (d-1) (left-((1+qF qA.size (x.Kids.take i):Nat):Int))=x.Kids[i].size:=by unfold jq;rw [if_pos hb]
        have e1:((1+qF qA.size (x.Kids.take i):Nat):Int)+x.Kids[i].size=((1+qF qA.size (x.Kids.take (i+1)):Nat):Int):=by omega
        rw [hv,qi (n:=((1+qF qA.size (x.Kids.take i):Nat):Int)+x.Kids[i].size) (by omega) (by omega),e1]
        simp only [qe (show i<4611686018427387904 by omega)];refine qY (i+1) ⟨by omega, ?_⟩ (by omega) (Can.sub (by simp [go_sem]) (by simp [go_sem]))
        rw [wq,if_pos hb] at hI
        refine ⟨?_,by omega⟩
        rw [hI.1];congr 1;omega
    · obtain rfl:i=x.Kids.length:=by have:=odF hc;omega
      refine qK rfl ?_
      rw [hI.1]
      simp only [List.drop_length,wq,AV.int.injEq,true_and]
      exact (Int.sub_sub_self _ _).symm
theorem c642 {x:qA} (hz:x.sz≤1048576):Pure Gm 642 [.ept x.enc 0] (.bool (decide (0<jq x 80 400))):=by
  refine Pure.intro [] [] g642 (by kernel_rfl) rfl (by simp [AV.trees,AV.tree,go_sem]) rfl ?_
  simp only [Xo,qL,go_sem]
  refine qG (c643 x 80 400 hz (by omega) (by omega)) ?_
  simp only [go_sem]
  exact qK rfl rfl
def qA.valid (x:qA):Bool:=x.ok&&decide (x.dep≤80)&&decide (x.size≤400)
theorem qd5 (x:qA):decide (0<jq x 80 400)=x.valid:=by
  unfold jq qA.valid
  have:=x.size_pos
  by_cases h:x.ok∧(x.dep:Int)≤80∧(x.size:Int)≤400
  · rw [if_pos h]
    have h2:x.dep≤80:=by omega
    have h3:x.size≤400:=by omega
    simp [h.1,h2,h3];omega
  · rw [if_neg h]
    cases hv:(x.ok&&decide (x.dep≤80)&&decide (x.size≤400)) with
    | false=>rfl
    | true=>
      simp only [Bool.and_eq_true,decide_eq_true_eq] at hv
      exact absurd ⟨hv.1.1,by omega,by omega⟩ h
def qV (k:Int) (i:Nat):Int:=if k=4∨k=7∧i=1 then 1 else 0
theorem jt (k:Int) (i:Nat):0≤qV k i∧qV k i≤1:=by unfold qV;split<;>omega
def jH {α:Type} (p:Nat→α→Bool):List α→Nat→Bool
  |[],_=>false
  | x::xs,i=>p i x || jH p xs (i+1)
theorem qQT {α β:Type} (p:Nat→β→Bool) (f:α→β):∀(xs:List α) (i:Nat),jH p (xs.map f) i=jH (fun k x=>p k (f x)) xs i
  |[],_=>rfl
  | x::xs,i=>by simp [jH,qQT p f xs]
def qA.above:qA→Int→Bool:=qA.fold fun x rs d=>if x.Kind=1 then decide (d≤x.Value) else jH (fun i (r:Int→Bool)=>r (d+qV x.Kind i)) rs 0
theorem qA.above_eq (x:qA) (d:Int):x.above d=if x.Kind=1 then decide (d≤x.Value) else jH (fun i y=>y.above (d+qV x.Kind i)) x.Kids 0:=by
  unfold qA.above;rw [qA.fold_eq,qQT]
theorem qA.dep_kid {x y:qA} (h:y∈x.Kids):y.dep+1≤x.dep:=by
  rw [x.dep_eq];have:=(Zt qA.dep (qz qA.dep x.Kids) x.Kids).1 (Nat.le_refl _) y h;omega
theorem ZT {x:qA} {i:Nat}:Pure Gm 1129 [.ept x.enc 0,.int .i64 (i:Int)] (.int .i64 (qV x.Kind i)):=by
  refine Pure.intro [] [] qZZ (by kernel_rfl) rfl (by simp [AV.trees,AV.tree,go_sem]) rfl ?_
  simp only [Wi,qL,go_sem]
  repeat' (first | (refine qa rfl ?_;simp only [go_sem]) | (first | (refine qZ ?_ ?_<;>intro hc<;>simp only [hc,go_sem]) | (refine qD ?_ ?_<;>intro hc<;>simp only [hc,go_sem])) | refine qK rfl ?_ | refine jU (by rfl) ?_)
  all_goals (simp_all [qV]<;>omega)
theorem c878 (x:qA):∀(d:Int) (hz:x.sz≤1048576) (hd:0≤d∧d+x.dep≤4194304),Pure Gm 878 [.ept x.enc 0,.int .i64 d] (.bool (x.above d)):=by
  induction x using qA.ind with
  | _ x ih=>
  intro d hz hd
  refine Pure.intro [] [] g878 (by kernel_rfl) rfl (by simp [AV.trees,AV.tree,go_sem]) rfl ?_
  simp only [YH,qL,go_sem]
  have hL:=x.len_sz
  refine qD ?_ ?_<;>intro hc<;>simp only [hc,go_sem]
  · refine qK rfl ?_
    rw [x.above_eq];simp_all
  have hk1:x.above d=jH (fun i y=>y.above (d+qV x.Kind i)) x.Kids 0:=by rw [x.above_eq,if_neg (odF hc)]
  refine Sem.loop (fun i:Nat=>i≤x.Kids.length∧x.above d=jH (fun i y=>y.above (d+qV x.Kind i)) (x.Kids.drop i) i) (fun i=>(⟨[(0,.ept x.enc 0),(1,.int .i64 d),(5,.int .i64 (i:Nat))],[],[]⟩:VSt)) (fun i=>x.Kids.length-i) 0 (by kernel_rfl) ⟨Nat.zero_le _,by simp [hk1]⟩ (Can.sub (by simp [go_sem]) (by simp [go_sem])) ?_
  rintro i ⟨hi,hI⟩
  simp only [go_sem]
  refine qD ?_ ?_<;>intro hc<;>simp only [hc,go_sem]
  · have hlt:i<x.Kids.length:=by have:=odT hc;omega
    simp only [List.getElem?_map,gEg hlt,Option.map_some,go_sem]
    refine qG ZT ?_
    simp only [go_sem]
    have hm:=List.getElem_mem hlt
    have hk:=qA.kid_sz hm
    have hp:=qA.dep_kid hm
    have hb:=jt x.Kind i
    rw [qi (by omega) (by omega)]
    refine qG (ih _ hm _ (by omega) (by omega)) ?_
    simp only [go_sem]
    rw [jk hlt,jH] at hI
    refine qD ?_ ?_<;>intro hc<;>simp only [hc,go_sem]
    · refine qK rfl ?_
      rw [hI,hc];rfl
    · simp only [qe (show i<4611686018427387904 by omega)];refine qY (i+1) ⟨by omega, ?_⟩ (by omega) (Can.sub (by simp [go_sem]) (by simp [go_sem]))
      rw [hI,hc];rfl
  · obtain rfl:i=x.Kids.length:=by have:=odF hc;omega
    refine qK rfl ?_
    rw [hI];simp [jH]
def qA.closed (x:qA):Bool:=x.valid&& !x.above 0
def qA.refs (n:Int):qA→Bool:=qA.fold fun x rs=> !(decide (x.Kind=11)&&decide (n≤x.Value))&&x.Data.all (fun k=>decide (k<n))&&rs.all id
theorem qA.refs_eq (n:Int) (x:qA):x.refs n=(!(decide (x.Kind=11)&&decide (n≤x.Value))&&x.Data.all (fun k=>decide (k<n))&&x.Kids.all (qA.refs n)):=by
  unfold qA.refs;rw [qA.fold_eq];simp
def qI.ok (b:qI):Bool:=inI b.Defs.length 1 24&&b.Defs.all fun c=>c.closed&&c.refs b.Defs.length
theorem c519 {x:qA} (hz:x.sz≤1048576):Pure Gm 519 [.ept x.enc 0] (.bool x.closed):=by
  refine Pure.intro [] [] g519 (by kernel_rfl) rfl (by simp [AV.trees,AV.tree,go_sem]) rfl ?_
  simp only [Xh,qL,go_sem]
  refine qG (c642 hz) ?_
  simp only [go_sem]
  rw [qd5]
  refine qZ ?_ ?_<;>intro hc<;>simp only [hc,go_sem]
  · have hd:x.dep≤80:=by unfold qA.valid at hc;simp only [Bool.and_eq_true,decide_eq_true_eq] at hc;omega
    refine qG (c878 x 0 hz (by omega)) ?_
    simp only [go_sem]
    exact qK rfl (by simp [qA.closed,hc])
  · exact qK rfl (by simp [qA.closed,hc])
theorem c725 (x:qA):∀(n:Int) (hz:x.sz≤1048576),Pure Gm 725 [.ept x.enc 0,.int .i64 n] (.bool (x.refs n)):=by
  induction x using qA.ind with
  | _ x ih=>
  intro n hz
  refine Pure.intro [] [] g725 (by kernel_rfl) rfl (by simp [AV.trees,AV.tree,go_sem]) rfl ?_
  simp only [Xv,qL,go_sem]
  have hL:=x.len_sz
  have bad:∀{h:List qC},x.refs n=false→Fin (some [.bool false]) h (.bool (x.refs n)):=fun h=>qK rfl (by rw [h])
  repeat' (first
    | (first | (refine qZ ?_ ?_<;>intro hc<;>simp only [hc,go_sem]) | (refine qD ?_ ?_<;>intro hc<;>simp only [hc,go_sem]))
    | refine bad ?_)
  all_goals try (rw [x.refs_eq];simp_all;done)
  all_goals
    have hk1:x.refs n=(x.Data.all (fun k=>decide (k<n))&&x.Kids.all (qA.refs n)):=by rw [x.refs_eq];simp [*]
    refine Sem.loop (fun i:Nat=>i≤x.Data.length∧x.refs n=((x.Data.drop i).all (fun k=>decide (k<n))&&x.Kids.all (qA.refs n))) (fun i=>(⟨[(0,.ept x.enc 0),(1,.int .i64 n),(5,.int .i64 (i:Nat))],[],[]⟩:VSt)) (fun i=>x.Data.length-i) 0 (by kernel_rfl) ⟨Nat.zero_le _,by simp [hk1]⟩ (Can.sub (by simp [go_sem]) (by simp [go_sem])) ?_
    rintro i ⟨hi,hI⟩
    simp only [go_sem]
    refine qD ?_ ?_<;>intro hc<;>simp only [hc,go_sem]
    · have hlt:i<x.Data.length:=by have:=odT hc;omega
      simp only [List.getElem?_map,gEg hlt,Option.map_some,go_sem]
      simp only [qE]
      simp only [go_sem]
      rw [jk hlt,List.all_cons] at hI
      refine qD ?_ ?_<;>intro hc<;>simp only [hc,go_sem]
      · exact bad (by rw [hI,dlt,hc];rfl)
      · simp only [qe (show i<4611686018427387904 by omega)];refine qY (i+1) ⟨by omega, ?_⟩ (by omega) (Can.sub (by simp [go_sem]) (by simp [go_sem]))
        rw [hI,dlt,hc];rfl
    · obtain rfl:i=x.Data.length:=by have:=odF hc;omega
      simp only [List.drop_length,List.all_nil,Bool.true_and] at hI
      have hk2:=hI
      clear hI hi
      refine Sem.loop (fun i:Nat=>i≤x.Kids.length∧x.refs n=(x.Kids.drop i).all (qA.refs n)) (fun i=>(⟨[(0,.ept x.enc 0),(1,.int .i64 n),(6,.int .i64 (i:Nat))],[],[]⟩:VSt)) (fun i=>x.Kids.length-i) 0 (by kernel_rfl) ⟨Nat.zero_le _,by simp [hk2]⟩ (Can.sub (by simp [go_sem]) (by simp [go_sem])) ?_
      rintro i ⟨hi,hI⟩
      simp only [go_sem]
      refine qD ?_ ?_<;>intro hc<;>simp only [hc,go_sem]
      · have hlt:i<x.Kids.length:=by have:=odT hc;omega
        simp only [List.getElem?_map,gEg hlt,Option.map_some,go_sem]
        have hm:=List.getElem_mem hlt
        have hk:=qA.kid_sz hm
        refine qG (ih _ hm _ (by omega)) ?_
        simp only [go_sem]
        rw [jk hlt,List.all_cons] at hI
        refine qD ?_ ?_<;>intro hc<;>simp only [hc,go_sem]
        · exact bad (by rw [hI,nt hc];rfl)
        · simp only [qe (show i<4611686018427387904 by omega)];refine qY (i+1) ⟨by omega, ?_⟩ (by omega) (Can.sub (by simp [go_sem]) (by simp [go_sem]))
          rw [hI,nf hc];rfl
      · obtain rfl:i=x.Kids.length:=by have:=odF hc;omega
        exact qK rfl (by rw [hI];simp)
end Go.Ab
namespace Go.Ab
open Go
set_option maxRecDepth 10000
set_option maxHeartbeats 2000000
theorem c579 {b:qI} (hz:b.sz≤1048576):Pure Gm 579 [.ept b.enc 0] (.bool b.ok):=by
  refine Pure.intro [] [] g579 (by kernel_rfl) rfl (by simp [AV.trees,AV.tree,go_sem]) rfl ?_
  simp only [Xl,qL,go_sem]
  have hz':b.Defs.length+qF qA.sz b.Defs≤1048576:=hz
  refine qG QT ?_
  simp only [go_sem]
  refine qD ?_ ?_<;>intro hc<;>simp only [hc,go_sem]
  · exact qK rfl (by simp_all [qI.ok])
  have hk1:b.ok=b.Defs.all (fun c=>c.closed&&c.refs b.Defs.length):=by simp_all [qI.ok]
  refine Sem.loop (fun i:Nat=>i≤b.Defs.length∧b.ok=(b.Defs.drop i).all (fun c=>c.closed&&c.refs b.Defs.length)) (fun i=>(⟨[(0,.ept b.enc 0),(3,.int .i64 (i:Nat))],[],[]⟩:VSt)) (fun i=>b.Defs.length-i) 0 (by kernel_rfl) ⟨Nat.zero_le _,by simp [hk1]⟩ (Can.sub (by simp [go_sem]) (by simp [go_sem])) ?_
  rintro i ⟨hi,hI⟩
  simp only [go_sem]
  refine qD ?_ ?_<;>intro hc<;>simp only [hc,go_sem]
  · have hlt:i<b.Defs.length:=by have:=odT hc;omega
    simp only [List.getElem?_map,gEg hlt,Option.map_some,go_sem]
    have hm:=List.getElem_mem hlt
    have hk:=zV (f:=qA.sz) hm
    rw [jk hlt,List.all_cons] at hI
    refine qG (c519 (x:=b.Defs[i]) (by omega)) ?_
    simp only [go_sem]
    repeat' (first
      | (first | (refine qZ ?_ ?_<;>intro hc<;>simp only [hc,go_sem]) | (refine qD ?_ ?_<;>intro hc<;>simp only [hc,go_sem]))
      | (refine qG (c725 b.Defs[i] _ (by omega)) ?_;simp only [go_sem])
      | (simp only [List.getElem?_map,gEg hlt,Option.map_some,go_sem]))
    · rename_i h0
      exact qK rfl (by rw [hI,nf h0,nt hc];rfl)
    · rename_i h0
      simp only [qe (show i<4611686018427387904 by omega)];refine qY (i+1) ⟨by omega, ?_⟩ (by omega) (Can.sub (by simp [go_sem]) (by simp [go_sem]))
      rw [hI,nf h0,nf hc];rfl
    · exact qK rfl (by rw [hI,nt hc];rfl)
  · obtain rfl:i=b.Defs.length:=by have:=odF hc;omega
    exact qK rfl (by rw [hI];simp)
def zM {α:Type} (f:Nat→α→List Int):List α→Nat→List Int
  |[],_=>[]
  | x::xs,i=>f i x++zM f xs (i+1)
theorem qSC {α β:Type} (f:Nat→β→List Int) (g:α→β):∀(xs:List α) (i:Nat),zM f (xs.map g) i=zM (fun k x=>f k (g x)) xs i
  |[],_=>rfl
  | x::xs,i=>by simp [zM,qSC f g xs]
def qd (k:Int):Int:=if k=6 then 1 else 0
def qA.levels:qA→Int→Int→List Int:=qA.fold fun x rs v l=>if x.Kind=1 then (if x.Value=v then [l] else []) else zM (fun i (r:Int→Int→List Int)=>r (v+qV x.Kind i) (l+qd x.Kind)) rs 0
theorem qA.levels_eq (x:qA) (v l:Int):x.levels v l=if x.Kind=1 then (if x.Value=v then [l] else []) else zM (fun i y=>y.levels (v+qV x.Kind i) (l+qd x.Kind)) x.Kids 0:=by
  unfold qA.levels;rw [qA.fold_eq,qSC]
theorem Yv {α:Type} {f:Nat→α→List Int} {n:α→Nat}:∀{xs:List α} {i:Nat},(∀x∈xs,∀k,(f k x).length≤n x)→(zM f xs i).length≤qF n xs
  |[],_,_=>by simp [zM,qF]
  | x::xs,i,h=>by
    simp only [zM,List.length_append,qF]
    have:=h x (by simp) i
    have:=Yv (f:=f) (n:=n) (xs:=xs) (i:=i+1) (fun y hy=>h y (by simp [hy]))
    omega
theorem qA.levels_len:∀(x:qA) (v l:Int),(x.levels v l).length≤x.size:=qA.ind fun x ih v l=>by
  rw [x.levels_eq,x.size_eq]
  split
  · split<;>simp
  · have:=Yv (f:=fun i y=>y.levels (v+qV x.Kind i) (l+qd x.Kind)) (n:=qA.size) (xs:=x.Kids) (i:=0) (fun y hy k=>ih y hy _ _)
    omega
end Go.Ab
namespace Go.Ab
open Go
set_option maxRecDepth 10000
set_option maxHeartbeats 2000000
def fil (e:Env) (w:Nat) (el:List AV) (i:Nat) (v:Option AV) (r:List (Nat×Ao)):Option (List AV):=match v with
  | some v=>if v.cells.length=w∧i<el.length then zf e w (el.set i v) r else none
  | none=>none
section
variable {e:Env} {w i:Nat} {el:List AV} {v:AV} {x:Ao} {r:List (Nat×Ao)}
@[go_sem] theorem qY2:zf e w el []=some el:=nr (by unfold zf;rfl)
@[go_sem] theorem zAS:zf e w el ((i,x)::r)=fil e w el i (ev e x) r:=nr (by unfold zf;rfl)
@[go_sem] theorem qY3 {el0:AV} (h:v.cells.length=w):fil e w [el0] 0 (some v) r=zf e w [v] r:=by
  show (if v.cells.length=w∧0<1 then _ else _)=_
  rw [if_pos ⟨h,by omega⟩];rfl
@[go_sem] theorem rep0 {v:AV}:List.replicate 0 v=[]:=nr rfl
@[go_sem] theorem rep1 {v:AV}:List.replicate 1 v=[v]:=nr rfl
end
theorem zE.ofApp {h X h':List qC} {id id' w:Nat} {ys:List AV} (g:zE (h++X) id w ys h' id') (hid:id<h.length):zE h id w ys h' id':=by
  have hl:=g.len
  simp only [List.length_append] at hl
  refine ⟨g.at',by omega, ?_,fun j hj hne=> ?_⟩
  · rcases g.pos with e | e
    · exact .inl e
    · simp only [List.length_append] at e;right;omega
  · rw [g.keep j (by simp;omega) hne,List.getElem?_append_left hj]
theorem Yw {α:Type} {f:Nat→α→List Int}:∀{xs:List α} {i k:Nat} (h:i<xs.length),zM f (xs.take (i+1)) k=zM f (xs.take i) k++f (k+i) xs[i]
  |[],i,k,h=>by simp at h
  | x::xs,0,k,h=>by simp [zM]
  | x::xs,i+1,k,h=>by
    simp only [List.take_succ_cons,zM,List.getElem_cons_succ]
    rw [Yw (i:=i) (k:=k+1) (by simpa using h),List.append_assoc]
    congr 2
    congr 1
    omega
theorem qA.size_sz:∀x:qA,x.size≤x.sz+1:=qA.ind fun x ih=>by
  rw [x.size_eq,x.sz_eq]
  have:∀xs:List qA,(∀y∈xs,y.size≤y.sz+1)→qF qA.size xs≤xs.length+qF qA.sz xs:=by
    intro xs
    induction xs with
    | nil=>intro _;simp [qF]
    | cons a xs ihx=>intro h;simp only [qF,List.length_cons];have:=h a (by simp);have:=ihx (fun y hy=>h y (by simp [hy]));omega
  have:=this _ ih
  omega
theorem Qg (x:qA) (v l:Int) (i:Nat):(zM (fun i y=>qA.levels y (v+qV x.Kind i) (l+qd x.Kind)) (x.Kids.take i) 0).length+1≤x.size:=by
  rw [x.size_eq]
  have h1:=Yv (f:=fun i y=>qA.levels y (v+qV x.Kind i) (l+qd x.Kind)) (n:=qA.size) (xs:=x.Kids.take i) (i:=0) (fun y hy k=>qA.levels_len _ _ _)
  have h2:∀(xs:List qA) (i:Nat),qF qA.size (xs.take i)≤qF qA.size xs:=by
    intro xs
    induction xs with
    | nil=>intro i;simp
    | cons a xs ih=>intro i;cases i with
      | zero=>simp [qF]
      | succ i=>simp only [List.take_succ_cons,qF];have:=ih i;omega
  have:=h2 x.Kids i
  omega
theorem qA.size_kid {x:qA} {i:Nat} (h:i<x.Kids.length) (v l:Int):(zM (fun i y=>qA.levels y (v+qV x.Kind i) (l+qd x.Kind)) (x.Kids.take i) 0).length+x.Kids[i].size+1≤x.size:=by
  rw [x.size_eq]
  have h1:=Yv (f:=fun i y=>qA.levels y (v+qV x.Kind i) (l+qd x.Kind)) (n:=qA.size) (xs:=x.Kids.take i) (i:=0) (fun y hy k=>qA.levels_len _ _ _)
  have h2:=Q7 (f:=qA.size) h
  have h3:∀(xs:List qA) (i:Nat),qF qA.size (xs.take i)≤qF qA.size xs:=by
    intro xs
    induction xs with
    | nil=>intro i;simp
    | cons a xs ih=>intro i;cases i with
      | zero=>simp [qF]
      | succ i=>simp only [List.take_succ_cons,qF];have:=ih i;omega
  have:=h3 x.Kids (i+1)
  omega
theorem a990 (x:qA):∀(v l:Int) (xs:List Int) (_:x.sz≤1048576) (_:0≤v∧v+x.dep≤4194304) (_:0≤l∧l+x.dep≤4194304) (_:xs.length+x.size≤4194304),
    Acc Gm 990 [.ept x.enc 0,.int .i64 v,.int .i64 l] 1 (xs.map qE) ((xs++x.levels v l).map qE):=by
  induction x using qA.ind with
  | _ x ih=>
  intro v l xs hz hv hl hx h id K ho hK
  have hL:=x.len_sz
  have hid:id<h.length:=(List.getElem?_eq_some_iff.1 ho).1
  refine SCall.run [] [] g990 (by kernel_rfl) rfl ?_
  simp only [List.cons_append,List.nil_append,YL,qL,go_sem]
  refine qD ?_ ?_<;>intro hc<;>simp only [hc,go_sem]
  · refine qD ?_ ?_<;>intro hc<;>simp only [hc,go_sem]
    · refine jO (el:=xs.map qE) Je (by rw [List.getElem?_append_left hid];exact ho) (by simp) (by omega) ?_
      simp only [go_sem]
      have e:x.levels v l=[l]:=by rw [x.levels_eq];simp_all
      rw [e] at hK
      have:=hK _ _ (zE.ofApp (X:=[.row 1 [.int .i64 l] true]) (zE.app (by rw [List.getElem?_append_left hid];exact ho)) hid)
      simpa [qE] using this
    · have e:x.levels v l=[]:=by rw [x.levels_eq];simp_all
      rw [e,List.append_nil] at hK
      have:=hK _ _ (zE.refl ho)
      simpa using this
  have hk1:x.levels v l=zM (fun i y=>qA.levels y (v+qV x.Kind i) (l+qd x.Kind)) x.Kids 0:=by rw [x.levels_eq,if_neg (odF hc)]
  clear hc
  have cont:∀(b:Int),b=qd x.Kind→∀s:qg,get s 0=some (.ept x.enc 0)→get s 1=some (.int .i64 v)→get s 2=some (.int .i64 (l+b))→get s 3=some (.slice 1 id 0 xs.length false)→get s 9=some (.int .i64 0)→
      Jr s [(0,.ept x.enc 0),(1,.int .i64 v),(2,.int .i64 (l+qd x.Kind)),(3,.slice 1 id 0 (xs.length+0) false),(9,.int .i64 ((0:Nat):Int))]:=by
    intro b hb s h0 h1 h2 h3 h4
    subst hb
    exact ⟨h0,h1,h2,h3,h4,trivial⟩
  have hb0:0≤qd x.Kind∧qd x.Kind≤1:=by unfold qd;split<;>omega
  refine qD ?_ ?_<;>intro hc<;>simp only [hc,go_sem]
  all_goals
    (try rw [qi (n:=l+1) (by omega) (by omega)])
    refine Sem.loop (fun a:Nat×List qC×Nat=>a.1≤x.Kids.length∧zE h id 1 ((xs++zM (fun i y=>qA.levels y (v+qV x.Kind i) (l+qd x.Kind)) (x.Kids.take a.1) 0).map qE) a.2.1 a.2.2)
      (fun a=>(⟨[(0,.ept x.enc 0),(1,.int .i64 v),(2,.int .i64 (l+qd x.Kind)),(3,.slice 1 a.2.2 0 (xs.length+(zM (fun i y=>qA.levels y (v+qV x.Kind i) (l+qd x.Kind)) (x.Kids.take a.1) 0).length) false),(9,.int .i64 (a.1:Nat))],[],a.2.1⟩:VSt)) (fun a=>x.Kids.length-a.1) (0,h,id) (by kernel_rfl) ⟨Nat.zero_le _,by simpa [zM] using zE.refl ho⟩
      (Can.sub (by first | exact cont 1 (by simp_all [qd]) _ rfl rfl rfl rfl rfl | exact cont 0 (by simp_all [qd]) _ rfl rfl (by simp [go_sem]) rfl rfl) (by simp [go_sem])) ?_
    rintro ⟨i,h',id'⟩ ⟨hi,hG⟩
    simp only at hi hG
    simp only [go_sem]
    have hfl:=Qg x v l i
    refine qD ?_ ?_<;>intro hc<;>simp only [hc,go_sem]
    · have hlt:i<x.Kids.length:=by have:=odT hc;omega
      simp only [List.getElem?_map,gEg hlt,Option.map_some,go_sem]
      have hm:=List.getElem_mem hlt
      have hk:=qA.kid_sz hm
      have hp:=qA.dep_kid hm
      have hb:=jt x.Kind i
      have hft:=Yw (f:=fun i y=>qA.levels y (v+qV x.Kind i) (l+qd x.Kind)) (k:=0) hlt
      have hfl2:=Qg x v l (i+1)
      rw [hft,Nat.zero_add,List.length_append] at hfl2
      refine qG ZT ?_
      simp only [go_sem]
      rw [qi (n:=v+qV x.Kind i) (by omega) (by omega)]
      have hsz:=qA.size_kid hlt v l
      refine ZW (ih _ hm (v+qV x.Kind i) (l+qd x.Kind) (xs++zM (fun i y=>qA.levels y (v+qV x.Kind i) (l+qd x.Kind)) (x.Kids.take i) 0) (by omega) (by omega) (by omega) (by rw [List.length_append];omega)) hG.at' (by simp) rfl ?_
      intro h2 id2 hG2
      simp only [go_sem]
      simp only [qe (show i<4611686018427387904 by omega)]
      refine qY (i+1,h2,id2) ⟨by omega, ?_⟩ (by simp only;omega) (Can.sub ?_ (by simp [go_sem]))
      · rw [hft,Nat.zero_add,←List.append_assoc]
        exact hG.trans hG2
      · simp only [hft,Nat.zero_add]
        simp [go_sem,Nat.add_assoc]
    · have e:i=x.Kids.length:=by have:=odF hc;omega
      subst e
      rw [List.take_length] at hG⊢
      rw [hk1] at hK
      have:=hK _ _ hG
      simpa using this
end Go.Ab
namespace Go.Ab
open Go
set_option maxRecDepth 10000
set_option maxHeartbeats 2000000
def z4 (x:qA) (l:Int):Bool:=
  if x.Kind=4 then (match x.Kids[0]? with
    | some y=>decide ((y.levels 0 l).length≤1)&&(y.levels 0 l).all (fun n=>decide (n=l))
    | none=>true)
  else if x.Kind=7 then (match x.Kids[1]? with
    | some y=>(y.levels 0 l).all (fun n=>decide (n=l)) || (y.levels 0 l).all (fun n=>decide (n=l+1))
    | none=>true)
  else true
def qA.strat:qA→Int→Bool:=qA.fold fun x rs l=>decide (l≤8)&&z4 x l&&rs.all fun r=>r (l+qd x.Kind)
theorem qA.strat_eq (x:qA) (l:Int):x.strat l=(decide (l≤8)&&z4 x l&&x.Kids.all fun y=>y.strat (l+qd x.Kind)):=by
  unfold qA.strat;rw [qA.fold_eq];simp [Function.comp_def]
theorem qv {x y:qA} (h:x.ok=true) (hy:y∈x.Kids):y.ok=true:=by
  rw [x.ok_eq,Bool.and_eq_true,List.all_eq_true] at h;exact h.2 y hy
theorem wx {x:qA} (h:x.ok=true):zw x=true:=by rw [x.ok_eq,Bool.and_eq_true] at h;exact h.1
theorem qx {x:qA} (h:x.ok=true):((x.Kind=3∨x.Kind=5∨x.Kind=7)→x.Kids.length=2)∧((x.Kind=4∨x.Kind=6∨x.Kind=9∨x.Kind=10)→x.Kids.length=1):=by
  have h:=wx h
  unfold zw inI at h
  simp only [Bool.and_eq_true,decide_eq_true_eq] at h
  obtain ⟨⟨⟨⟨h1,h2⟩,_⟩,_⟩,_⟩:=h
  constructor
  · rintro (hk | hk | hk)<;>simp [shp,hk] at h1 h2<;>omega
  · rintro (hk | hk | hk | hk)<;>simp [shp,hk] at h1 h2<;>omega
theorem c991 {xs:List Int} {n:Int} (hl:xs.length≤4194304):Pure Gm 991 [.lst 1 (xs.map qE) false,.int .i64 n] (.bool (xs.all fun k=>decide (k=n))):=by
  refine Pure.intro [] [] g991 (by kernel_rfl) rfl (by simp [AV.trees,AV.tree,zg shI.tree]) rfl ?_
  simp only [YM,qL,go_sem]
  refine Sem.loop (fun i:Nat=>i≤xs.length∧(xs.all fun k=>decide (k=n))=(xs.drop i).all fun k=>decide (k=n)) (fun i=>(⟨[(0,.lst 1 (xs.map qE) false),(1,.int .i64 n),(5,.int .i64 (i:Nat))],[],[]⟩:VSt)) (fun i=>xs.length-i) 0 (by kernel_rfl) ⟨Nat.zero_le _,by simp⟩ (Can.sub (by simp [go_sem]) (by simp [go_sem])) ?_
  rintro i ⟨hi,hI⟩
  simp only [go_sem]
  refine qD ?_ ?_<;>intro hc<;>simp only [hc,go_sem]
  · have hlt:i<xs.length:=by have:=odT hc;omega
    simp only [List.getElem?_map,gEg hlt,Option.map_some,go_sem]
    simp only [qE]
    simp only [go_sem]
    rw [jk hlt,List.all_cons] at hI
    refine qD ?_ ?_<;>intro hc<;>simp only [hc,go_sem]
    · exact qK rfl (by rw [hI];simp_all)
    · simp only [qe (show i<4611686018427387904 by omega)];refine qY (i+1) ⟨by omega, ?_⟩ (by omega) (Can.sub (by simp [go_sem]) (by simp [go_sem]))
      rw [hI];simp_all
  · obtain rfl:i=xs.length:=by have:=odF hc;omega
    exact qK rfl (by rw [hI];simp)
theorem c610 (x:qA):∀(l:Int) (hz:x.sz≤1048576) (hk:x.ok=true) (hl:0≤l∧l≤9) (hd:x.dep≤1000) (hq:x.size≤2097152),Pure Gm 610 [.ept x.enc 0,.int .i64 l] (.bool (x.strat l)):=by
  induction x using qA.ind with
  | _ x ih=>
  intro l hz hk hl hd hq
  refine Pure.intro [] [] g610 (by kernel_rfl) rfl (by simp [AV.trees,AV.tree,go_sem]) rfl ?_
  simp only [Xm,qL,go_sem]
  have hL:=x.len_sz
  have bad:∀{h:List qC},x.strat l=false→Fin (some [.bool false]) h (.bool (x.strat l)):=fun h=>qK rfl (by rw [h])
  have hsz:=x.size_sz
  have lvb:∀{h:List qC},decide (8<l)=false→z4 x l=false→Fin (some [.bool false]) h (.bool (x.strat l)):=fun h1 h=>bad (by rw [x.strat_eq,h];simp)
  have h01:∀{y:qA},y∈x.Kids→y.sz≤1048576∧y.dep≤1000∧y.size≤2097152:=fun hy=>by
    have:=qA.kid_sz hy;have:=qA.dep_kid hy;have:=zV (f:=qA.size) hy;have:=x.size_eq;omega
  refine qD ?_ ?_<;>intro hc<;>simp only [hc,go_sem]
  · exact bad (by rw [x.strat_eq,show decide (l≤8)=false by have:=odT hc;exact decide_eq_false (by omega)];rfl)
  have hc8:=hc
  refine qD ?_ ?_<;>intro hc<;>simp only [hc,go_sem]
  have h1:=(qx hk).2 (.inl (odT hc))
  have hlt:0<x.Kids.length:=by omega
  simp only [List.getElem?_map,gEg hlt,Option.map_some,go_sem]
  have hm:=List.getElem_mem hlt
  have ha:=a990 x.Kids[0] 0 l [] (h01 hm).1 (by have:=(h01 hm).2.1;omega) (by have:=(h01 hm).2.1;omega) (by simp;have:=(h01 hm).2.2;omega)
  have hll:=qA.levels_len x.Kids[0] 0 l
  have hq0:=(h01 hm).2.2
  have hlv:z4 x l=(decide ((x.Kids[0].levels 0 l).length≤1)&&(x.Kids[0].levels 0 l).all (fun n=>decide (n=l))):=by
    unfold z4;rw [if_pos (odT hc),gEg hlt]
  rw [List.nil_append] at ha
  refine JW ha rfl ?_
  intro h' id' hG
  simp only [go_sem]
  refine qZ ?_ ?_<;>intro hc<;>simp only [hc,go_sem]
  rotate_left
  exact lvb hc8 (by rw [hlv,show decide ((x.Kids[0].levels 0 l).length≤1)=false by have:=odT hc;exact decide_eq_false (by omega)];rfl)
  rotate_right
  have hc1:=hc
  refine jI (vs':=[.lst 1 ((x.Kids[0].levels 0 l).map qE) false,.int .i64 l]) (Cvs.cons (Cv.row hG.at' (by simp) (zg shI.tree _) (by decide)) (Cvs.cons (.refl rfl) Cvs.nil)) (c991 (by omega)) rfl ?_
  simp only [go_sem]
  refine qD ?_ ?_<;>intro hc<;>simp only [hc,go_sem]
  exact lvb hc8 (by rw [hlv,nt hc,Bool.and_false])
  have hT:z4 x l=true:=by rw [hlv,nf hc,Bool.and_true];have:=odF hc1;exact decide_eq_true (by omega)
  rotate_left
  refine qD ?_ ?_<;>intro hc<;>simp only [hc,go_sem]
  have h1:=(qx hk).1 (.inr (.inr (odT hc)))
  have hlt:1<x.Kids.length:=by omega
  simp only [List.getElem?_map,gEg hlt,Option.map_some,go_sem]
  have hm:=List.getElem_mem hlt
  have ha:=a990 x.Kids[1] 0 l [] (h01 hm).1 (by have:=(h01 hm).2.1;omega) (by have:=(h01 hm).2.1;omega) (by simp;have:=(h01 hm).2.2;omega)
  have hll:=qA.levels_len x.Kids[1] 0 l
  have hq0:=(h01 hm).2.2
  have hlv:z4 x l=((x.Kids[1].levels 0 l).all (fun n=>decide (n=l)) || (x.Kids[1].levels 0 l).all (fun n=>decide (n=l+1))):=by
    have hk7:=odT hc
    unfold z4;rw [if_neg (by omega),if_pos hk7,gEg hlt]
  rw [List.nil_append] at ha
  refine JW ha rfl ?_
  intro h' id' hG
  simp only [go_sem]
  refine jI (vs':=[.lst 1 ((x.Kids[1].levels 0 l).map qE) false,.int .i64 l]) (Cvs.cons (Cv.row hG.at' (by simp) (zg shI.tree _) (by decide)) (Cvs.cons (.refl rfl) Cvs.nil)) (c991 (by omega)) rfl ?_
  simp only [go_sem]
  refine qZ ?_ ?_<;>intro hc<;>simp only [hc,go_sem]
  have hc1:=hc
  rw [qi (n:=l+1) (by omega) (by omega)]
  refine jI (vs':=[.lst 1 ((x.Kids[1].levels 0 l).map qE) false,.int .i64 (l+1)]) (Cvs.cons (Cv.row hG.at' (by simp) (zg shI.tree _) (by decide)) (Cvs.cons (.refl rfl) Cvs.nil)) (c991 (by omega)) rfl ?_
  simp only [go_sem]
  refine qD ?_ ?_<;>intro hc<;>simp only [hc,go_sem]
  exact lvb hc8 (by rw [hlv,nt hc,nt hc1];rfl)
  have hT:z4 x l=true:=by rw [hlv,nf hc,Bool.or_true]
  rotate_left
  have hT:z4 x l=true:=by rw [hlv,show (x.Kids[1].levels 0 l).all (fun n=>decide (n=l))=true by revert hc;cases (x.Kids[1].levels 0 l).all (fun n=>decide (n=l))<;>simp];rfl
  rotate_left
  have hT:z4 x l=true:=by unfold z4;rename_i h4;rw [if_neg (odF h4),if_neg (odF hc)]
  all_goals
    have hk1:x.strat l=x.Kids.all fun y=>y.strat (l+qd x.Kind):=by
      rw [x.strat_eq,hT,show decide (l≤8)=true by have:=odF hc8;exact decide_eq_true (by omega)];rfl
    have hl8:l≤8:=by have:=odF hc8;omega
    refine Sem.loop (fun i:Nat=>i≤x.Kids.length∧x.strat l=(x.Kids.drop i).all fun y=>y.strat (l+qd x.Kind)) (fun i=>(⟨[(0,.ept x.enc 0),(1,.int .i64 l),(7,.int .i64 (i:Nat))],[],[]⟩:VSt)) (fun i=>x.Kids.length-i) 0 (by kernel_rfl) ⟨Nat.zero_le _,by simp [hk1]⟩ (Can.renum [] rfl trivial ⟨⟨_,rfl,.tree (by simp [go_sem,AV.tree])⟩,⟨_,rfl,.tree rfl⟩,⟨_,rfl,.tree rfl⟩,trivial⟩ trivial) ?_
    rintro i ⟨hi,hI⟩
    simp only [go_sem]
    refine qD ?_ ?_<;>intro hc<;>simp only [hc,go_sem]
    · have hlt:i<x.Kids.length:=by have:=odT hc;omega
      have hm:=List.getElem_mem hlt
      have hb0:qd x.Kind=if x.Kind=6 then 1 else 0:=rfl
      rw [jk hlt,List.all_cons] at hI
      refine qD ?_ ?_<;>intro hc<;>simp only [hc,go_sem]
      · have hb1:qd x.Kind=1:=by rw [hb0,if_pos (odT hc)]
        simp only [List.getElem?_map,gEg hlt,Option.map_some,go_sem]
        rw [qi (n:=l+1) (by omega) (by omega)]
        rw [hb1] at hI
        refine qG (ih _ hm (l+1) (h01 hm).1 (qv hk hm) (by omega) (h01 hm).2.1 (h01 hm).2.2) ?_
        simp only [go_sem]
        refine qD ?_ ?_<;>intro hc<;>simp only [hc,go_sem]
        · exact bad (by rw [hI,nt hc];rfl)
        · simp only [qe (show i<4611686018427387904 by omega)];refine qY (i+1) ⟨by omega, ?_⟩ (by omega) (Can.sub (by simp [go_sem]) (by simp [go_sem]))
          rw [hI,nf hc,hb1];rfl
      · have hb1:qd x.Kind=0:=by rw [hb0,if_neg (odF hc)]
        simp only [List.getElem?_map,gEg hlt,Option.map_some,go_sem]
        rw [hb1,Int.add_zero] at hI
        refine qG (ih _ hm l (h01 hm).1 (qv hk hm) (by omega) (h01 hm).2.1 (h01 hm).2.2) ?_
        simp only [go_sem]
        refine qD ?_ ?_<;>intro hc<;>simp only [hc,go_sem]
        · exact bad (by rw [hI,nt hc];rfl)
        · simp only [qe (show i<4611686018427387904 by omega)];refine qY (i+1) ⟨by omega, ?_⟩ (by omega) (Can.sub (by simp [go_sem]) (by simp [go_sem]))
          rw [hI,nf hc,hb1,Int.add_zero];rfl
    · obtain rfl:i=x.Kids.length:=by have:=odF hc;omega
      exact qK rfl (by rw [hI];simp)
end Go.Ab
namespace Go.Ab
open Go
set_option maxRecDepth 10000
set_option maxHeartbeats 2000000
def wS (b:qI):Int:=if b.ok then (if b.Defs.all (fun c=>c.strat 0) then 0 else 9) else 1
def zR (b:qI) (c:qA) (limit budget:Int):Int:=
  if b.ok&&c.closed&&c.refs b.Defs.length then (if c.strat 0 then (if wS b=0 then (if inI limit 0 40&&inI budget 0 2000 then 0 else 2) else wS b) else 9) else 1
theorem QU {x:qA} (h:x.closed=true):x.ok=true∧x.dep≤80∧x.size≤400:=by
  unfold qA.closed qA.valid at h
  simp only [Bool.and_eq_true,decide_eq_true_eq] at h
  exact ⟨h.1.1.1,h.1.1.2,h.1.2⟩
theorem ZQ {b:qI} (h:b.ok=true) {c:qA} (hc:c∈b.Defs):c.closed=true∧c.refs b.Defs.length=true:=by
  unfold qI.ok at h
  simp only [Bool.and_eq_true,List.all_eq_true] at h
  exact h.2 c hc
theorem qOC {b:qI} (h:b.ok=true):1≤b.Defs.length∧b.Defs.length≤24:=by
  unfold qI.ok inI at h
  simp only [Bool.and_eq_true,decide_eq_true_eq] at h
  omega
theorem c496 {b:qI} (hz:b.sz≤1048576):Pure Gm 496 [.ept b.enc 0] (.int .i64 (wS b)):=by
  refine Pure.intro [] [] g496 (by kernel_rfl) rfl (by simp [AV.trees,AV.tree,go_sem]) rfl ?_
  simp only [Xf,qL,go_sem]
  have hz':b.Defs.length+qF qA.sz b.Defs≤1048576:=hz
  refine qG (c579 hz) ?_
  simp only [go_sem]
  refine qD ?_ ?_<;>intro hc<;>simp only [hc,go_sem]
  · exact qK rfl (by simp_all [wS])
  have hk:=nf hc
  have hk1:wS b=if b.Defs.all (fun c=>c.strat 0) then 0 else 9:=by unfold wS;rw [if_pos hk]
  refine Sem.loop (fun i:Nat=>i≤b.Defs.length∧wS b=(if (b.Defs.drop i).all (fun c=>c.strat 0) then 0 else 9)) (fun i=>(⟨[(0,.ept b.enc 0),(3,.int .i64 (i:Nat))],[],[]⟩:VSt)) (fun i=>b.Defs.length-i) 0 (by kernel_rfl) ⟨Nat.zero_le _,by simpa using hk1⟩ (Can.sub (by simp [go_sem]) (by simp [go_sem])) ?_
  rintro i ⟨hi,hI⟩
  simp only [go_sem]
  refine qD ?_ ?_<;>intro hc<;>simp only [hc,go_sem]
  · have hlt:i<b.Defs.length:=by have:=odT hc;omega
    simp only [List.getElem?_map,gEg hlt,Option.map_some,go_sem]
    have hm:=List.getElem_mem hlt
    have hs:=zV (f:=qA.sz) hm
    have hv:=QU (ZQ hk hm).1
    rw [jk hlt,List.all_cons] at hI
    refine qG (c610 b.Defs[i] 0 (by omega) hv.1 (by omega) (by omega) (by omega)) ?_
    simp only [go_sem]
    refine qD ?_ ?_<;>intro hc<;>simp only [hc,go_sem]
    · exact qK rfl (by rw [hI,nt hc];rfl)
    · simp only [qe (show i<4611686018427387904 by omega)];refine qY (i+1) ⟨by omega, ?_⟩ (by omega) (Can.sub (by simp [go_sem]) (by simp [go_sem]))
      rw [hI,nf hc,Bool.true_and]
  · obtain rfl:i=b.Defs.length:=by have:=odF hc;omega
    exact qK rfl (by rw [hI];simp)
theorem c479 {b:qI} {c:qA} {limit budget:Int} (hz:b.sz≤1048576) (hc0:c.sz≤1048576):Pure Gm 479 [.ept b.enc 0,.ept c.enc 0,.int .i64 limit,.int .i64 budget] (.int .i64 (zR b c limit budget)):=by
  refine Pure.intro [] [] g479 (by kernel_rfl) rfl (by simp [AV.trees,AV.tree,go_sem]) rfl ?_
  simp only [XZ,qL,go_sem]
  refine qG (c579 hz) ?_
  simp only [go_sem]
  have bad:(b.ok&&c.closed&&c.refs b.Defs.length)=false→Fin (some [.int .i64 1]) [] (.int .i64 (zR b c limit budget)):=fun h=>qK rfl (by unfold zR;rw [h];rfl)
  refine qZ ?_ ?_<;>intro hc<;>simp only [hc,go_sem]
  rotate_left
  exact bad (by rw [show b.ok=false by revert hc;cases b.ok<;>simp];rfl)
  have h1:=nf hc
  refine qG (c519 hc0) ?_
  simp only [go_sem]
  refine qZ ?_ ?_<;>intro hc<;>simp only [hc,go_sem]
  rotate_left
  exact bad (by rw [show c.closed=false by revert hc;cases c.closed<;>simp,Bool.and_false];rfl)
  have h2:=nf hc
  refine qG (c725 c _ hc0) ?_
  simp only [go_sem]
  refine qD ?_ ?_<;>intro hc<;>simp only [hc,go_sem]
  · exact bad (by rw [nt hc,Bool.and_false])
  have h3:(b.ok&&c.closed&&c.refs b.Defs.length)=true:=by rw [h1,h2,nf hc];rfl
  have hv:=QU h2
  refine qG (c610 c 0 hc0 hv.1 (by omega) (by omega) (by omega)) ?_
  simp only [go_sem]
  refine qD ?_ ?_<;>intro hc<;>simp only [hc,go_sem]
  · exact qK rfl (by unfold zR;rw [if_pos h3,nt hc];rfl)
  have h4:=nf hc
  refine qG (c496 hz) ?_
  simp only [go_sem]
  refine qD ?_ ?_<;>intro hc<;>simp only [hc,go_sem]
  · exact qK rfl (by unfold zR;rw [if_pos h3,if_pos h4,if_neg (by simpa using hc)])
  have h5:wS b=0:=by simpa using hc
  refine qG QT ?_
  simp only [go_sem]
  refine qZ ?_ ?_<;>intro hc<;>simp only [hc,go_sem]
  rotate_left
  exact qK rfl (by unfold zR;rw [if_pos h3,if_pos h4,if_pos h5,show inI limit 0 40=false by revert hc;cases inI limit 0 40<;>simp];rfl)
  have h6:=nf hc
  refine qG QT ?_
  simp only [go_sem]
  refine qD ?_ ?_<;>intro hc<;>simp only [hc,go_sem]
  · exact qK rfl (by unfold zR;rw [if_pos h3,if_pos h4,if_pos h5,nt hc,Bool.and_false];rfl)
  · exact qK rfl (by unfold zR;rw [if_pos h3,if_pos h4,if_pos h5,nf hc,h6];rfl)
end Go.Ab
namespace Go.Ab
open Go
set_option maxRecDepth 10000
set_option maxHeartbeats 2000000
theorem n402 (xs:List Int) (hz:xs.length≤4194304):Fresh Gm 402 [.lst 1 (xs.map qE) false] (.lst 1 (xs.map qE) false):=by
  refine Fresh.intro [] [] g402 (by kernel_rfl) rfl (by simp [AV.trees,AV.tree,zg shI.tree]) (jW (fun _=>rfl) xs) ?_
  simp only [ZH,qL,go_sem]
  refine ZO Els.lst (by simp;omega) ?_
  simp only [go_sem]
  exact Jb (t:=.lst 1 (xs.map qE) false) (pre:=[]) (post:=[]) (jW (fun _=>rfl) xs) (by simp [zW,lay]) (by simp [lay,lI])
theorem VR2s.of_eq {μ:List (Option Nat)} {a b:List AV} (h:a=b) (ht:AV.trees b=true):VR2s μ a b:=by subst h;exact VR2s.trees ht
theorem qf (xs:List Int):AV.trees (xs.map qE)=true:=zg shI.tree xs
def zC:List Int→Int→List Int
  |[],n=>[n]
  | x::xs,n=>if x<n then x::zC xs n else if x=n then x::xs else n::x::xs
theorem Vh:∀(xs:List Int) (n:Int),(zC xs n).length≤xs.length+1
  |[],n=>by simp [zC]
  | x::xs,n=>by
    unfold zC
    split
    · have:=Vh xs n;simp;omega
    · split<;>simp
theorem qPX:∀(xs:List Int) (n k:Int),k∈zC xs n↔k=n∨k∈xs
  |[],n,k=>by simp [zC]
  | x::xs,n,k=>by
    unfold zC
    split
    · simp only [List.mem_cons,qPX xs n k]
      constructor
      · rintro (h | h | h)<;>simp_all
      · rintro (h | h | h)<;>simp_all
    · split
      · rename_i h;subst h;simp
      · simp
theorem c402 (xs:List Int) (hz:xs.length≤4194304):Pure Gm 402 [.lst 1 (xs.map qE) false] (.lst 1 (xs.map qE) false):=by
  refine Pure.intro [] [] g402 (by kernel_rfl) rfl (by simp [AV.trees,AV.tree,qf]) (by simp [AV.tree,qf]) ?_
  simp only [ZH,qL,go_sem]
  refine ZO Els.lst (by simp;omega) ?_
  simp only [go_sem]
  exact qy (Cv.row rfl (by simp) (qf xs) (by decide))
theorem qOD {xs:List Int} {n:Int} (hl:xs.length≤4194304):Pure Gm 1026 [.lst 1 (xs.map qE) false,.int .i64 n] (.bool (xs.any fun k=>decide (k=n))):=by
  refine Pure.intro [] [] qZE (by kernel_rfl) rfl (by simp [AV.trees,AV.tree,qf]) rfl ?_
  simp only [WM,qL,go_sem]
  refine Sem.loop (fun i:Nat=>i≤xs.length∧(xs.any fun k=>decide (k=n))=(xs.drop i).any fun k=>decide (k=n)) (fun i=>(⟨[(0,.lst 1 (xs.map qE) false),(1,.int .i64 n),(5,.int .i64 (i:Nat))],[],[]⟩:VSt)) (fun i=>xs.length-i) 0 (by kernel_rfl) ⟨Nat.zero_le _,by simp⟩ (Can.sub (by simp [go_sem]) (by simp [go_sem])) ?_
  rintro i ⟨hi,hI⟩
  simp only [go_sem]
  refine qD ?_ ?_<;>intro hc<;>simp only [hc,go_sem]
  · have hlt:i<xs.length:=by have:=odT hc;omega
    simp only [List.getElem?_map,gEg hlt,Option.map_some,go_sem]
    simp only [qE]
    simp only [go_sem]
    rw [jk hlt,List.any_cons] at hI
    refine qD ?_ ?_<;>intro hc<;>simp only [hc,go_sem]
    · exact qK rfl (by rw [hI,hc];rfl)
    · simp only [qe (show i<4611686018427387904 by omega)];refine qY (i+1) ⟨by omega, ?_⟩ (by omega) (Can.sub (by simp [go_sem]) (by simp [go_sem]))
      rw [hI,hc];rfl
  · obtain rfl:i=xs.length:=by have:=odF hc;omega
    exact qK rfl (by rw [hI];simp)
theorem c920 {xs:List Int} {n:Int} (hl:xs.length≤2097152):Pure Gm 920 [.lst 1 (xs.map qE) false,.int .i64 n] (.lst 1 ((zC xs n).map qE) false):=by
  refine Pure.intro [] [] g920 (by kernel_rfl) rfl (by simp [AV.trees,AV.tree,qf]) (by simp [AV.tree,qf]) ?_
  simp only [YK,qL,go_sem]
  refine Sem.loop (fun a:Nat×List Int×Bool=>a.1≤xs.length∧a.2.1.length≤a.1+a.2.2.toNat∧(if a.2.2 then a.2.1++xs.drop a.1 else a.2.1++zC (xs.drop a.1) n)=zC xs n)
    (fun a=>(⟨[(0,.lst 1 (xs.map qE) false),(1,.int .i64 n),(5,.slice 1 0 0 a.2.1.length false),(6,.bool a.2.2),(7,.int .i64 (a.1:Nat))],[],[.row 1 (a.2.1.map qE) true]⟩:VSt)) (fun a=>xs.length-a.1) (0,[],false) (by kernel_rfl) ⟨Nat.zero_le _,Nat.zero_le _,by simp⟩
    (Can.renum [none] rfl ⟨.ph,trivial⟩ ⟨⟨_,rfl,.tree (by simp [AV.tree,qf])⟩,⟨_,rfl,.tree rfl⟩,⟨_,rfl,.ph2 rfl⟩,⟨_,rfl,.tree rfl⟩,⟨_,rfl,.tree rfl⟩,trivial⟩ trivial) ?_
  rintro ⟨i,out,done⟩ ⟨hi,ho,hI⟩
  simp only at hi ho hI
  simp only [go_sem]
  refine qD ?_ ?_<;>intro hc<;>simp only [hc,go_sem]
  · have hlt:i<xs.length:=by have:=odT hc;omega
    rw [jk hlt] at hI
    cases done with
    | true=>
      simp only [if_true] at hI
      have ho:out.length≤i+1:=ho
      simp only [go_sem]
      simp only [List.getElem?_map,gEg hlt,Option.map_some,go_sem]
      simp only [qE]
      simp only [go_sem]
      refine jO (el:=out.map qE) rfl rfl (by simp) (by omega) ?_
      simp only [go_sem]
      simp only [qe (show i<4611686018427387904 by omega)]
      refine qY (i+1,out++[xs[i]],true) ⟨by omega,by simp;omega,by simpa using hI⟩ (by simp only;omega) ?_
      simp only [List.length_append,List.length_cons,List.length_nil,Nat.zero_add]
      refine Can.renum [some 2] rfl ⟨.row rfl (VR2s.of_eq (by simp [qE]) (qf _)),trivial⟩ ⟨⟨_,rfl,.tree (by simp [AV.tree,qf])⟩,⟨_,rfl,.tree rfl⟩,⟨_,rfl,.slice rfl⟩,⟨_,rfl,.tree rfl⟩,⟨_,rfl,.tree rfl⟩,trivial⟩ trivial
    | false=>
      simp only [Bool.false_eq_true,if_false,zC] at hI
      have ho:out.length≤i:=ho
      simp only [go_sem]
      simp only [List.getElem?_map,gEg hlt,Option.map_some,go_sem]
      simp only [qE]
      simp only [go_sem]
      refine qD ?_ ?_<;>intro hc<;>simp only [hc,go_sem]
      · simp only [List.getElem?_map,gEg hlt,Option.map_some,go_sem]
        simp only [qE]
        simp only [go_sem]
        have h1:=odT hc
        rw [if_neg (by omega)] at hI
        refine qD ?_ ?_<;>intro hc<;>simp only [hc,go_sem]
        · have h2:=odT hc
          rw [if_neg (by omega)] at hI
          refine jO (el:=out.map qE) rfl rfl (by simp) (by omega) ?_
          simp only [go_sem]
          simp only [List.getElem?_map,gEg hlt,Option.map_some,go_sem]
          simp only [qE]
          simp only [go_sem]
          refine jO (el:=out.map qE++[.int .i64 n]) rfl rfl (by simp) (by omega) ?_
          simp only [go_sem]
          simp only [qe (show i<4611686018427387904 by omega)]
          refine qY (i+1,out++[n,xs[i]],true) ⟨by omega,by simp;omega,by simpa using hI⟩ (by simp only;omega) ?_
          simp only [List.length_append,List.length_cons,List.length_nil,Nat.zero_add]
          refine Can.renum [some 4] rfl ⟨.row rfl (VR2s.of_eq (by simp [qE]) (qf _)),trivial⟩ ⟨⟨_,rfl,.tree (by simp [AV.tree,qf])⟩,⟨_,rfl,.tree rfl⟩,⟨_,rfl,.slice rfl⟩,⟨_,rfl,.tree rfl⟩,⟨_,rfl,.tree rfl⟩,trivial⟩ trivial
        · have h2:=odF hc
          rw [if_pos (by omega)] at hI
          simp only [List.getElem?_map,gEg hlt,Option.map_some,go_sem]
          simp only [qE]
          simp only [go_sem]
          refine jO (el:=out.map qE) rfl rfl (by simp) (by omega) ?_
          simp only [go_sem]
          simp only [qe (show i<4611686018427387904 by omega)]
          refine qY (i+1,out++[xs[i]],true) ⟨by omega,by simp;omega,by simpa using hI⟩ (by simp only;omega) ?_
          simp only [List.length_append,List.length_cons,List.length_nil,Nat.zero_add]
          refine Can.renum [some 2] rfl ⟨.row rfl (VR2s.of_eq (by simp [qE]) (qf _)),trivial⟩ ⟨⟨_,rfl,.tree (by simp [AV.tree,qf])⟩,⟨_,rfl,.tree rfl⟩,⟨_,rfl,.slice rfl⟩,⟨_,rfl,.tree rfl⟩,⟨_,rfl,.tree rfl⟩,trivial⟩ trivial
      · have h1:=odF hc
        rw [if_pos (by omega)] at hI
        simp only [List.getElem?_map,gEg hlt,Option.map_some,go_sem]
        simp only [qE]
        simp only [go_sem]
        refine jO (el:=out.map qE) rfl rfl (by simp) (by omega) ?_
        simp only [go_sem]
        simp only [qe (show i<4611686018427387904 by omega)]
        refine qY (i+1,out++[xs[i]],false) ⟨by omega,by simp;omega,by simpa using hI⟩ (by simp only;omega) ?_
        simp only [List.length_append,List.length_cons,List.length_nil,Nat.zero_add]
        refine Can.renum [some 2] rfl ⟨.row rfl (VR2s.of_eq (by simp [qE]) (qf _)),trivial⟩ ⟨⟨_,rfl,.tree (by simp [AV.tree,qf])⟩,⟨_,rfl,.tree rfl⟩,⟨_,rfl,.slice rfl⟩,⟨_,rfl,.tree rfl⟩,⟨_,rfl,.tree rfl⟩,trivial⟩ trivial
  · have e:i=xs.length:=by have:=odF hc;omega
    subst e
    simp only [List.drop_length,zC,List.append_nil] at hI
    cases done with
    | true=>
      simp only [if_true] at hI
      subst hI
      simp only [go_sem]
      exact qy (Cv.row rfl (by simp) (qf _) (by decide))
    | false=>
      simp only [Bool.false_eq_true,if_false] at hI
      have ho:out.length≤xs.length:=ho
      simp only [go_sem]
      refine jO (el:=out.map qE) rfl rfl (by simp) (by omega) ?_
      simp only [go_sem]
      rw [←hI]
      have e:out.map qE++[.int .i64 n]=(out++[n]).map qE:=by simp [qE]
      rw [e]
      exact qy (Cv.row rfl (by simp) (qf _) (by decide))
end Go.Ab
