/- Texts Cor0 .. Cor10: the abstract machine, its laws and contracts of functions: lemmas for the statement. No condition. -/
import Derived.Test.YteekllacfpafoaaGreatP4
set_option linter.unusedSimpArgs false
set_option linter.unusedVariables false
namespace Go.Ab
open Go
inductive qA where
  | mk (Kind Value:Int) (Data:List Int) (Kids:List qA)
def qA.Kind:qA→Int |.mk a _ _ _=>a
def qA.Value:qA→Int |.mk _ a _ _=>a
def qA.Data:qA→List Int |.mk _ _ a _=>a
def qA.Kids:qA→List qA |.mk _ _ _ a=>a
theorem qA.ext {x y:qA} (h1:x.Kind=y.Kind) (h2:x.Value=y.Value) (h3:x.Data=y.Data) (h4:x.Kids=y.Kids):x=y:=by
  cases x;cases y;simp_all [qA.Kind,qA.Value,qA.Data,qA.Kids]
theorem qA.eta (x:qA):qA.mk x.Kind x.Value x.Data x.Kids=x:=by cases x;rfl
theorem qA.lt_of_mem {x:qA} {y:qA} (h:y∈x.Kids):SizeOf.sizeOf y<SizeOf.sizeOf x:=by
  cases x with
  | mk a b c d=>
    have:=List.sizeOf_lt_of_mem (show y∈d from h);simp only [qA.mk.sizeOf_spec];omega
theorem qA.ind {P:qA→Prop} (h:∀x,(∀y,y∈x.Kids→P y)→P x) (x:qA):P x:=
  h x fun y hy=>qA.ind h y
termination_by SizeOf.sizeOf x
decreasing_by exact qA.lt_of_mem hy
mutual
def qA.enc:qA→AV
  |.mk k v d ks=>.agg [.int .i64 k,.int .i64 v,.lst 1 (d.map qE) false,.lst 4 (qA.encs ks) false]
def qA.encs:List qA→List AV
  |[]=>[]
  | x::xs=>x.enc::qA.encs xs
end
theorem qA.encs_eq:∀xs,qA.encs xs=xs.map qA.enc
  |[]=>by simp [qA.encs]
  | x::xs=>by simp [qA.encs,qA.encs_eq xs]
theorem qA.enc_eq (x:qA):x.enc=.agg [.int .i64 x.Kind,.int .i64 x.Value,.lst 1 (x.Data.map qE) false,.lst 4 (x.Kids.map qA.enc) false]:=by
  cases x;simp [qA.enc,qA.encs_eq,qA.Kind,qA.Value,qA.Data,qA.Kids]
theorem qA.trx:∀x:qA,x.enc.tree=true:=qA.ind fun x ih=>by
  rw [qA.enc_eq];have h:∀xs:List qA,(∀y∈xs,y.enc.tree=true)→AV.trees (xs.map qA.enc)=true:=by
    intro xs
    induction xs with
    | nil=>intro _;rfl
    | cons a xs ihx=>intro h;simp only [List.map_cons,AV.trees,bAt];exact ⟨h a (by simp),ihx fun y hy=>h y (by simp [hy])⟩
  simp [AV.tree,AV.trees,zq shI.tree,h _ ih]
theorem qA.isSh:Sh qA.enc 4 (some 4):=⟨qA.trx,fun x=>by rw [qA.enc_eq];rfl,fun x=>by rw [qA.enc_eq];rfl,by decide,fun x=>by rw [qA.enc_eq];simp⟩
section
variable {x:qA}
@[go_sem] theorem qA.tr:x.enc.tree=true:=qA.trx x
@[go_sem] theorem qA.ln:x.enc.cells.length=4:=by rw [qA.enc_eq];rfl
@[go_sem] theorem qA.all:x.enc.part 0 (some 4)=some x.enc:=by rw [qA.enc_eq];rfl
@[go_sem] theorem qA.cs:x.enc.cells=[.int .i64 x.Kind,.int .i64 x.Value,.lst 1 (x.Data.map qE) false,.lst 4 (x.Kids.map qA.enc) false]:=by rw [qA.enc_eq];rfl
@[go_sem] theorem qA.p0:x.enc.part 0 none=some (.int .i64 x.Kind):=by rw [qA.enc_eq];rfl
@[go_sem] theorem qA.p1:x.enc.part 1 none=some (.int .i64 x.Value):=by rw [qA.enc_eq];rfl
@[go_sem] theorem qA.p2:x.enc.part 2 none=some (.lst 1 (x.Data.map qE) false):=by rw [qA.enc_eq];rfl
@[go_sem] theorem qA.p3:x.enc.part 3 none=some (.lst 4 (x.Kids.map qA.enc) false):=by rw [qA.enc_eq];rfl
end
mutual
def qA.sz:qA→Nat
  |.mk _ _ d ks=>d.length+(ks.length+qA.szs ks)
def qA.szs:List qA→Nat
  |[]=>0
  | x::xs=>x.sz+qA.szs xs
end
theorem qA.szs_eq:∀xs,qA.szs xs=qG qA.sz xs
  |[]=>by simp [qA.szs,qG]
  | x::xs=>by simp [qA.szs,qG,qA.szs_eq xs]
theorem qA.sz_eq (x:qA):x.sz=x.Data.length+(x.Kids.length+qG qA.sz x.Kids):=by
  cases x;simp [qA.sz,qA.szs_eq,qA.Data,qA.Kids]
mutual
def qA.bd:qA→Prop
  |.mk _ _ d ks=>d.length≤140737488355328∧ks.length≤140737488355328∧qA.bds ks
def qA.bds:List qA→Prop
  |[]=>True
  | x::xs=>x.bd∧qA.bds xs
end
theorem qA.bds_eq:∀xs,qA.bds xs↔∀y∈xs,qA.bd y
  |[]=>by simp [qA.bds]
  | x::xs=>by simp [qA.bds,qA.bds_eq xs]
theorem qA.bd_eq (x:qA):x.bd↔x.Data.length≤140737488355328∧x.Kids.length≤140737488355328∧∀y∈x.Kids,y.bd:=by
  cases x;simp [qA.bd,qA.bds_eq,qA.Data,qA.Kids]
structure qF where
  Defs:List qA
def qF.enc (x:qF):AV:=.agg [.lst 4 (x.Defs.map qA.enc) false]
theorem qF.isSh:Sh qF.enc 1 (some 1):=⟨fun x=>by simp [qF.enc,AV.tree,AV.trees,zq qA.isSh.tree],fun _=>rfl,fun _=>rfl,by decide,fun x=>by simp [qF.enc]⟩
section
variable {x:qF}
@[go_sem] theorem qF.tr:x.enc.tree=true:=qF.isSh.tree x
@[go_sem] theorem qF.ln:x.enc.cells.length=1:=nr rfl
@[go_sem] theorem qF.all:x.enc.part 0 (some 1)=some x.enc:=nr rfl
@[go_sem] theorem qF.cs:x.enc.cells=[.lst 4 (x.Defs.map qA.enc) false]:=nr rfl
@[go_sem] theorem qF.p0:x.enc.part 0 none=some (.lst 4 (x.Defs.map qA.enc) false):=nr rfl
@[go_sem] theorem qF.lst1 {E:Ev} {t off:Nat} {cs:List AV} {l:List qB} {ks:List Fr1} {s m:qg} {h:List qC} {Q:qb→VSt→Prop}:Lst E t off 1 (some (.agg cs)) (some x.enc) l ks ⟨s,m,h⟩ Q=jc E t (zu cs off (.lst 4 (x.Defs.map qA.enc) false)) l ks ⟨s,m,h⟩ Q:=wV rfl
end
def qF.sz (x:qF):Nat:=(x.Defs.length+qG qA.sz x.Defs)
def qF.bd (x:qF):Prop:=x.Defs.length≤140737488355328∧(∀y∈x.Defs,qA.bd y)
end Go.Ab
namespace Go.Ab
open Go
set_option maxRecDepth 10000
def sr (l:List qB) (c:qI):qI:=.seq (.reg true l) c
@[go_sem] theorem zK0 {l:List qB} {c:qI}:sr l c=.seq (.reg true l) c:=nr rfl
def oL (i d t:Nat):qB:=.mk i (some d) none (.load none (.t t)) []
@[go_sem] theorem zIU {i d t:Nat}:oL i d t=.mk i (some d) none (.load none (.t t)) []:=nr rfl
def oC (i d:Nat) (n:Int):qB:=.mk i (some d) none (.mov (.c (.int .i64 n))) []
@[go_sem] theorem zIL {i d:Nat} {n:Int}:oC i d n=.mk i (some d) none (.mov (.c (.int .i64 n))) []:=nr rfl
def oQ (i d:Nat) (b:Bool):qB:=.mk i (some d) none (.mov (.c (.bool b))) []
@[go_sem] theorem zI0 {i d:Nat} {b:Bool}:oQ i d b=.mk i (some d) none (.mov (.c (.bool b))) []:=nr rfl
def oE (i d:Nat) (op:BinOp) (a:Nat) (n:Int):qB:=.mk i (some d) none (.bin op (.t a) (.c (.int .i64 n))) []
@[go_sem] theorem zIO {i d:Nat} {op:BinOp} {a:Nat} {n:Int}:oE i d op a n=.mk i (some d) none (.bin op (.t a) (.c (.int .i64 n))) []:=nr rfl
def oB (i d:Nat) (op:BinOp) (a b:Nat):qB:=.mk i (some d) none (.bin op (.t a) (.t b)) []
@[go_sem] theorem zIK {i d:Nat} {op:BinOp} {a b:Nat}:oB i d op a b=.mk i (some d) none (.bin op (.t a) (.t b)) []:=nr rfl
def oA (i d w a b:Nat):qB:=.mk i (some d) none (.iaddr w (.t a) (.t b)) []
@[go_sem] theorem zIJ {i d w a b:Nat}:oA i d w a b=.mk i (some d) none (.iaddr w (.t a) (.t b)) []:=nr rfl
def oX (i d t k:Nat):qB:=.mk i (some d) none (.lload t k none) []
@[go_sem] theorem zI6 {i d t k:Nat}:oX i d t k=.mk i (some d) none (.lload t k none) []:=nr rfl
def oY (i d t k w:Nat):qB:=.mk i (some d) none (.lload t k (some w)) []
@[go_sem] theorem zI7 {i d t k w:Nat}:oY i d t k w=.mk i (some d) none (.lload t k (some w)) []:=nr rfl
def oS (i t k w x:Nat):qB:=.mk i none none (.lstore t k w (.t x)) []
@[go_sem] theorem zI1 {i t k w x:Nat}:oS i t k w x=.mk i none none (.lstore t k w (.t x)) []:=nr rfl
def oT (i w a b:Nat):qB:=.mk i none none (.store w (.t a) (.t b)) []
@[go_sem] theorem zI2 {i w a b:Nat}:oT i w a b=.mk i none none (.store w (.t a) (.t b)) []:=nr rfl
def oF (i d k a:Nat):qB:=.mk i (some d) none (.faddr k (.t a)) []
@[go_sem] theorem zIP {i d k a:Nat}:oF i d k a=.mk i (some d) none (.faddr k (.t a)) []:=nr rfl
def oK (i d a:Nat):qB:=.mk i (some d) none (.nilchk (.t a)) []
@[go_sem] theorem zIT {i d a:Nat}:oK i d a=.mk i (some d) none (.nilchk (.t a)) []:=nr rfl
def oV (i d a k:Nat):qB:=.mk i (some d) none (.ext (.t a) k) []
@[go_sem] theorem zI4 {i d a k:Nat}:oV i d a k=.mk i (some d) none (.ext (.t a) k) []:=nr rfl
def oU (i d a:Nat):qB:=.mk i (some d) none (.nop a) []
@[go_sem] theorem zI3 {i d a:Nat}:oU i d a=.mk i (some d) none (.nop a) []:=nr rfl
def oJ (i d a:Nat):qB:=.mk i (some d) none (.not (.t a)) []
@[go_sem] theorem zIS {i d a:Nat}:oJ i d a=.mk i (some d) none (.not (.t a)) []:=nr rfl
def oW (i d a:Nat):qB:=.mk i (some d) none (.len (.t a)) []
@[go_sem] theorem zI5 {i d a:Nat}:oW i d a=.mk i (some d) none (.len (.t a)) []:=nr rfl
def oH (i d k:Nat) (b:Bool) (a:Nat):qB:=.mk i (some d) (some (k,b)) (.mov (.t a)) []
@[go_sem] theorem zIR {i d k:Nat} {b:Bool} {a:Nat}:oH i d k b a=.mk i (some d) (some (k,b)) (.mov (.t a)) []:=nr rfl
def oZ (i d:Nat):qB:=.mk i (some d) none (.lalloc (.agg [.int .i64 0,.int .i64 0,.nils,.nils])) []
@[go_sem] theorem zI8 {i d:Nat}:oZ i d=.mk i (some d) none (.lalloc (.agg [.int .i64 0,.int .i64 0,.nils,.nils])) []:=nr rfl
def oD1 (i d g a:Nat):qB:=.mk i (some d) none (.call g [.t a]) []
@[go_sem] theorem zIM {i d g a:Nat}:oD1 i d g a=.mk i (some d) none (.call g [.t a]) []:=nr rfl
def oD2 (i d g a b:Nat):qB:=.mk i (some d) none (.call g [.t a,.t b]) []
@[go_sem] theorem zIN {i d g a b:Nat}:oD2 i d g a b=.mk i (some d) none (.call g [.t a,.t b]) []:=nr rfl
def oPf (i d a b:Nat):qB:=.mk i (some d) none (.pick (.t a) (.t b) (.c (.bool false))) []
@[go_sem] theorem zIY {i d a b:Nat}:oPf i d a b=.mk i (some d) none (.pick (.t a) (.t b) (.c (.bool false))) []:=nr rfl
def oPt (i d a b:Nat):qB:=.mk i (some d) none (.pick (.t a) (.c (.bool true)) (.t b)) []
@[go_sem] theorem zIZ {i d a b:Nat}:oPt i d a b=.mk i (some d) none (.pick (.t a) (.c (.bool true)) (.t b)) []:=nr rfl
def F338:qJ:=szS0
def qML:List qB:=[oU 0 5 2,oX 1 6 2 2,oM 2 7 1,oD2 3 8 338 6 7,oM 4 1 8]
@[go_sem] theorem zAL:OE qML.eq_1:=OEM qML.eq_1
def qMM:List qB:=[oU 0 11 2,oX 1 12 2 3,oM 2 13 1,oD2 3 14 337 12 13,oM 4 1 14]
@[go_sem] theorem zAM:OE qMM.eq_1:=OEM qMM.eq_1
def qMK:qI:=sr qMM (.seq (sr [oM 0 15 1,oE 1 16 .lss 15 0] (.cond (.t 16) (sr [oP 0 4 (.mov (.c (.int .i64 (-1))))] .ret) .skip)) (sr [oM 0 17 1,oM 1 4 17] .ret))
@[go_sem] theorem zAK:CE qMK.eq_1:=CEM qMK.eq_1
def F80:qJ:=⟨2,18,[.t 4],sr [oP 0 2 (.lbox 4 (.t 0)),oC 1 4 0] (sr qML (.seq (sr [oM 0 9 1,oE 1 10 .lss 9 0] (.cond (.t 10) (sr [oP 0 4 (.mov (.c (.int .i64 (-1))))] .ret) .skip)) qMK))⟩
def F337:qJ:=szS 4 (some 4) 80
def qMI:List qB:=[oU 0 5 2,oX 1 6 2 0,oM 2 7 1,oD2 3 8 337 6 7,oM 4 1 8]
@[go_sem] theorem zAI:OE qMI.eq_1:=OEM qMI.eq_1
def qMH:qI:=sr qMI (.seq (sr [oM 0 9 1,oE 1 10 .lss 9 0] (.cond (.t 10) (sr [oP 0 4 (.mov (.c (.int .i64 (-1))))] .ret) .skip)) (sr [oM 0 11 1,oM 1 4 11] .ret))
@[go_sem] theorem zAH:CE qMH.eq_1:=CEM qMH.eq_1
def F79:qJ:=⟨2,12,[.t 4],sr [oP 0 2 (.lbox 1 (.t 0)),oC 1 4 0] qMH⟩
def F147:qJ:=Wn
def qNE:List qB:=[oU 0 4 1,oX 1 5 1 0,oU 2 6 3,oS 3 3 0 1 5]
@[go_sem] theorem zBE:OE qNE.eq_1:=OEM qNE.eq_1
def qNF:List qB:=[oU 0 7 1,oX 1 8 1 1,oU 2 9 3,oS 3 3 1 1 8]
@[go_sem] theorem zBF:OE qNF.eq_1:=OEM qNF.eq_1
def qNG:List qB:=[oU 0 10 1,oX 1 11 1 2,oD1 2 12 147 11,oU 3 13 3,oS 4 3 2 1 12]
@[go_sem] theorem zBG:OE qNG.eq_1:=OEM qNG.eq_1
def qNH:List qB:=[oU 0 14 1,oX 1 15 1 3,oD1 2 16 342 15,oU 3 17 3,oS 4 3 3 1 16]
@[go_sem] theorem zBH:OE qNH.eq_1:=OEM qNH.eq_1
def qND:qI:=sr [oZ 0 3] (sr qNE (sr qNF (sr qNG (sr qNH (sr [oY 0 18 3 0 4,oS 1 2 0 4 18] .ret)))))
@[go_sem] theorem zBD:CE qND.eq_1:=CEM qND.eq_1
def F83:qJ:=⟨1,19,[.l 2 (some 4)],sr [oP 0 1 (.lbox 4 (.t 0)),oZ 1 2] qND⟩
def F342:qJ:=toS 4 (some 4) (.agg [.int .i64 0,.int .i64 0,.nils,.nils]) 83
def qMN:List qB:=[oU 0 4 1,oX 1 5 1 0,oD1 2 6 342 5,oU 3 7 3,oS 4 3 0 1 6]
@[go_sem] theorem zAN:OE qMN.eq_1:=OEM qMN.eq_1
def F82:qJ:=⟨1,9,[.l 2 (some 1)],sr [oP 0 1 (.lbox 1 (.t 0)),oP 1 2 (.lalloc (.agg [.nils]))] (sr [oP 0 3 (.lalloc (.agg [.nils]))] (sr qMN (sr [oY 0 8 3 0 1,oS 1 2 0 1 8] .ret)))⟩
def F86:qJ:=eqS0
def F346:qJ:=eqS 4 (some 4) 85
def qN3:List qB:=[oU 0 5 2,oX 1 6 2 0,oU 2 7 3,oX 3 8 3 0,oB 4 9 .neq 6 8]
@[go_sem] theorem zB3:OE qN3.eq_1:=OEM qN3.eq_1
def qN4:List qB:=[oU 0 10 2,oX 1 11 2 1,oU 2 12 3,oX 3 13 3 1,oB 4 14 .neq 11 13]
@[go_sem] theorem zB4:OE qN4.eq_1:=OEM qN4.eq_1
def qN5:List qB:=[oU 0 15 2,oX 1 16 2 2,oU 2 17 3,oX 3 18 3 2,oD2 4 19 86 16 18,oJ 5 20 19]
@[go_sem] theorem zB5:OE qN5.eq_1:=OEM qN5.eq_1
def qN6:List qB:=[oU 0 21 2,oX 1 22 2 3,oU 2 23 3,oX 3 24 3 3,oD2 4 25 346 22 24,oJ 5 26 25]
@[go_sem] theorem zB6:OE qN6.eq_1:=OEM qN6.eq_1
def qN2:qI:=.seq (sr qN4 (.cond (.t 14) (sr [oQ 0 4 false] .ret) .skip)) (.seq (sr qN5 (.cond (.t 20) (sr [oQ 0 4 false] .ret) .skip)) (.seq (sr qN6 (.cond (.t 26) (sr [oQ 0 4 false] .ret) .skip)) (sr [oQ 0 4 true] .ret)))
@[go_sem] theorem zB2:CE qN2.eq_1:=CEM qN2.eq_1
def F85:qJ:=⟨2,27,[.t 4],sr [oP 0 2 (.lbox 4 (.t 0)),oP 1 3 (.lbox 4 (.t 1)),oQ 2 4 false] (.seq (sr qN3 (.cond (.t 9) (sr [oQ 0 4 false] .ret) .skip)) qN2)⟩
def qOC:List qB:=[oU 0 5 2,oX 1 6 2 0,oU 2 7 3,oX 3 8 3 0,oD2 4 9 346 6 8,oJ 5 10 9]
@[go_sem] theorem zCC:OE qOC.eq_1:=OEM qOC.eq_1
def F87:qJ:=⟨2,11,[.t 4],sr [oP 0 2 (.lbox 1 (.t 0)),oP 1 3 (.lbox 1 (.t 1)),oQ 2 4 false] (.seq (sr qOC (.cond (.t 10) (sr [oQ 0 4 false] .ret) .skip)) (sr [oQ 0 4 true] .ret))⟩
def qG1:List qB:=[oM 0 7 0,oM 1 8 1,oB 2 9 .geq 7 8,oM 3 10 9,oH 4 11 10 true 0,oH 5 12 10 true 2,oG 6 13 10 true (.bin .leq (.t 11) (.t 12)),oPf 7 14 10 13,oM 8 6 14]
@[go_sem] theorem qu1:OE qG1.eq_1:=OEM qG1.eq_1
def Xy:qJ:=⟨3,15,[.t 6],sr [oQ 0 6 false] (sr qG1 .ret)⟩
def Ul:List qB:=[oC 0 2 0,oC 1 3 0,oC 2 4 0,oC 3 5 0]
@[go_sem] theorem qkP:OE Ul.eq_1:=OEM Ul.eq_1
def Uh:qI:=sr [oE 0 8 .eql 6 1,oM 1 7 8] (.cond (.t 7) .skip (sr [oE 0 9 .eql 6 2,oM 1 7 9] (.cond (.t 7) .skip (.reg true [oE 0 10 .eql 6 11,oM 1 7 10]))))
@[go_sem] theorem qkM:CE Uh.eq_1:=CEM Uh.eq_1
def Un:List qB:=[oC 0 2 0,oC 1 3 0,oC 2 4 0,oC 3 5 0]
@[go_sem] theorem qkR:OE Un.eq_1:=OEM Un.eq_1
def Uj:qI:=sr [oE 0 12 .eql 6 3,oM 1 11 12] (.cond (.t 11) .skip (sr [oE 0 13 .eql 6 5,oM 1 11 13] (.cond (.t 11) .skip (.reg true [oE 0 14 .eql 6 7,oM 1 11 14]))))
@[go_sem] theorem qkN:CE Uj.eq_1:=CEM Uj.eq_1
def Uo:List qB:=[oC 0 2 2,oC 1 3 2,oC 2 4 0,oC 3 5 0]
@[go_sem] theorem qkS:OE Uo.eq_1:=OEM Uo.eq_1
def Up:List qB:=[oC 0 2 1,oC 1 3 1,oC 2 4 0,oC 3 5 0]
@[go_sem] theorem qkT:OE Up.eq_1:=OEM Up.eq_1
def Uq:List qB:=[oC 0 2 0,oC 1 3 3,oC 2 4 0,oC 3 5 0]
@[go_sem] theorem qkU:OE Uq.eq_1:=OEM Uq.eq_1
def Ur:List qB:=[oC 0 2 1,oC 1 3 1,oC 2 4 1,oC 3 5 4]
@[go_sem] theorem qkV:OE Ur.eq_1:=OEM Ur.eq_1
def Us:List qB:=[oC 0 2 1,oC 1 3 1,oC 2 4 2,oC 3 5 2]
@[go_sem] theorem qkW:OE Us.eq_1:=OEM Us.eq_1
def Uk:qI:=.cond (.t 18) (sr Uq .ret) (sr [oE 0 21 .eql 6 9,oM 1 20 21] (.cond (.t 20) (sr Ur .ret) (sr [oE 0 23 .eql 6 10,oM 1 22 23] (.cond (.t 22) (sr Us .ret) .skip))))
@[go_sem] theorem qkO:CE Uk.eq_1:=CEM Uk.eq_1
def Ui:qI:=.seq (sr [oE 0 16 .eql 6 4,oM 1 15 16] (.cond (.t 15) .skip (.reg true [oE 0 17 .eql 6 6,oM 1 15 17]))) (.cond (.t 15) (sr Up .ret) (sr [oE 0 19 .eql 6 8,oM 1 18 19] Uk))
@[go_sem] theorem qkL:CE Ui.eq_1:=CEM Ui.eq_1
def Um:List qB:=[oC 0 2 0,oP 1 3 (.mov (.c (.int .i64 (-1)))),oC 2 4 0,oC 3 5 0]
@[go_sem] theorem qkQ:OE Um.eq_1:=OEM Um.eq_1
def Wu:qJ:=⟨1,24,[.t 2,.t 3,.t 4,.t 5],sr Ul (.seq (sr [oM 0 6 0] (.blk 0 (.seq Uh (.cond (.t 7) (sr Un .ret) (.seq Uj (.cond (.t 11) (sr Uo .ret) Ui)))))) (sr Um .ret))⟩
def Uv:List qB:=[oM 0 3 0,oK 1 4 3,oF 2 5 0 4,oL 3 6 5]
@[go_sem] theorem qkZ:OE Uv.eq_1:=OEM Uv.eq_1
def Uw:List qB:=[oM 0 9 0,oK 1 10 9,oF 2 11 1 10,oL 3 12 11,oP 4 13 (.call 340 [.t 12,.c (.int .i64 0),.c (.int .i64 255)]),oM 5 2 13]
@[go_sem] theorem qk0:OE Uw.eq_1:=OEM Uw.eq_1
def Ux:List qB:=[oM 0 16 0,oK 1 17 16,oF 2 18 1 17,oL 3 19 18,oP 4 20 (.call 340 [.t 19,.c (.int .i64 (-2147483648)),.c (.int .i64 2147483647)]),oM 5 2 20]
@[go_sem] theorem qk1:OE Ux.eq_1:=OEM Ux.eq_1
def Uy:List qB:=[oM 0 23 0,oK 1 24 23,oF 2 25 1 24,oL 3 26 25,oP 4 27 (.call 340 [.t 26,.c (.int .i64 1),.c (.int .i64 6)]),oM 5 2 27]
@[go_sem] theorem qk2:OE Uy.eq_1:=OEM Uy.eq_1
def Uz:List qB:=[oM 0 30 0,oK 1 31 30,oF 2 32 1 31,oL 3 33 32,oP 4 34 (.call 340 [.t 33,.c (.int .i64 0),.c (.int .i64 3)]),oM 5 2 34]
@[go_sem] theorem qk3:OE Uz.eq_1:=OEM Uz.eq_1
def U0:List qB:=[oM 0 37 0,oK 1 38 37,oF 2 39 1 38,oL 3 40 39,oP 4 41 (.call 340 [.t 40,.c (.int .i64 0),.c (.int .i64 23)]),oM 5 2 41]
@[go_sem] theorem qk4:OE U0.eq_1:=OEM U0.eq_1
def Ut:qI:=.cond (.t 21) (sr Uy .ret) (sr [oE 0 29 .eql 6 8,oM 1 28 29] (.cond (.t 28) (sr Uz .ret) (sr [oE 0 36 .eql 6 11,oM 1 35 36] (.cond (.t 35) (sr U0 .ret) .skip))))
@[go_sem] theorem qkX:CE Ut.eq_1:=CEM Ut.eq_1
def Uu:qI:=sr [oE 0 8 .eql 6 1,oM 1 7 8] (.cond (.t 7) (sr Uw .ret) (sr [oE 0 15 .eql 6 2,oM 1 14 15] (.cond (.t 14) (sr Ux .ret) (sr [oE 0 22 .eql 6 3,oM 1 21 22] Ut))))
@[go_sem] theorem qkY:CE Uu.eq_1:=CEM Uu.eq_1
def U1:List qB:=[oM 0 42 0,oK 1 43 42,oF 2 44 1 43,oL 3 45 44,oE 4 46 .eql 45 0,oM 5 2 46]
@[go_sem] theorem qk5:OE U1.eq_1:=OEM U1.eq_1
def Wv:qJ:=⟨1,47,[.t 2],sr [oQ 0 2 false] (.seq (sr Uv (.blk 0 Uu)) (sr U1 .ret))⟩
def qJS:List qB:=[oM 0 16 0,oK 1 17 16,oF 2 18 0 17,oL 3 19 18,oD1 4 20 1023 19,oM 5 15 20,oV 6 21 15 0,oV 7 22 15 1,oV 8 23 15 2,oV 9 24 15 3,oM 10 7 21,oM 11 8 22,oM 12 9 23,oM 13 10 24]
@[go_sem] theorem qxS:OE qJS.eq_1:=OEM qJS.eq_1
def qJT:List qB:=[oM 0 25 1,oE 1 26 .lss 25 1,oM 2 27 26,oH 3 28 27 false 2,oG 4 29 27 false (.bin .lss (.t 28) (.c (.int .i64 1))),oPt 5 30 27 29,oM 6 31 30,oH 7 32 31 false 0,oG 8 33 31 false (.nilchk (.t 32)),oG 9 34 31 false (.faddr 3 (.t 33)),oG 10 35 31 false (.load none (.t 34)),oG 11 36 31 false (.len (.t 35)),oH 12 37 31 false 7,oH 13 38 31 false 8,oG 14 39 31 false (.call 340 [.t 36,.t 37,.t 38]),oG 15 40 31 false (.not (.t 39)),oPt 16 41 31 40,oM 17 42 41,oH 18 43 42 false 0,oG 19 44 42 false (.nilchk (.t 43)),oG 20 45 42 false (.faddr 2 (.t 44)),oG 21 46 42 false (.load none (.t 45)),oG 22 47 42 false (.len (.t 46)),oH 23 48 42 false 9,oH 24 49 42 false 10,oG 25 50 42 false (.call 340 [.t 47,.t 48,.t 49]),oG 26 51 42 false (.not (.t 50)),oPt 27 52 42 51,oM 28 53 52,oH 29 54 53 false 0,oG 30 55 53 false (.call 1024 [.t 54]),oG 31 56 53 false (.not (.t 55)),oPt 32 57 53 56]
@[go_sem] theorem qxT:OE qJT.eq_1:=OEM qJT.eq_1
def qJU:List qB:=[oM 0 58 11,oM 1 59 0,oK 2 60 59,oF 3 61 2 60,oL 4 62 61,oW 5 63 62,oB 6 64 .lss 58 63]
@[go_sem] theorem qxU:OE qJU.eq_1:=OEM qJU.eq_1
def qJV:List qB:=[oM 0 67 0,oK 1 68 67,oF 2 69 2 68,oL 3 70 69,oM 4 71 11,oA 5 72 1 70 71,oL 6 73 72,oP 7 74 (.call 340 [.t 73,.c (.int .i64 0),.c (.int .i64 23)]),oJ 8 75 74]
@[go_sem] theorem qxV:OE qJV.eq_1:=OEM qJV.eq_1
def qJP:qI:=.loop (.seq (sr qJU (.cond (.t 64) .skip (.exit 0))) (.seq (.blk 1 (sr qJV (.cond (.t 75) (sr [oP 0 6 (.mov (.c (.int .i64 (-1))))] .ret) .skip))) (.reg true [oM 0 65 11,oE 1 66 .add 65 1,oM 2 11 66])))
@[go_sem] theorem qxP:CE qJP.eq_1:=CEM qJP.eq_1
def qJW:List qB:=[oM 0 76 13,oM 1 77 0,oK 2 78 77,oF 3 79 3 78,oL 4 80 79,oW 5 81 80,oB 6 82 .lss 76 81]
@[go_sem] theorem qxW:OE qJW.eq_1:=OEM qJW.eq_1
def qJX:List qB:=[oM 0 85 0,oK 1 86 85,oF 2 87 3 86,oL 3 88 87,oM 4 89 13,oA 5 90 4 88 89,oM 6 91 1,oE 7 92 .sub 91 1,oM 8 93 2,oM 9 94 12,oB 10 95 .sub 93 94,oP 11 96 (.call 643 [.t 90,.t 92,.t 95]),oM 12 14 96]
@[go_sem] theorem qxX:OE qJX.eq_1:=OEM qJX.eq_1
def qJY:List qB:=[oM 0 99 12,oM 1 100 14,oB 2 101 .add 99 100,oM 3 12 101]
@[go_sem] theorem qxY:OE qJY.eq_1:=OEM qJY.eq_1
def qJQ:qI:=.seq (.blk 3 (sr qJX (.seq (sr [oM 0 97 14,oE 1 98 .lss 97 0] (.cond (.t 98) (sr [oP 0 6 (.mov (.c (.int .i64 (-1))))] .ret) .skip)) (.reg true qJY)))) (.reg true [oM 0 83 13,oE 1 84 .add 83 1,oM 2 13 84])
@[go_sem] theorem qxQ:CE qJQ.eq_1:=CEM qJQ.eq_1
def qJR:qI:=sr [oC 0 12 1] (.seq (sr [oC 0 13 0] (.blk 2 (.loop (.seq (sr qJW (.cond (.t 82) .skip (.exit 2))) qJQ)))) (sr [oM 0 102 12,oM 1 6 102] .ret))
@[go_sem] theorem qxR:CE qJR.eq_1:=CEM qJR.eq_1
def YP:qJ:=⟨3,103,[.t 6],sr [oC 0 6 0] (sr qJS (.seq (sr qJT (.cond (.t 57) (sr [oP 0 6 (.mov (.c (.int .i64 (-1))))] .ret) .skip)) (.seq (sr [oC 0 11 0] (.blk 0 qJP)) qJR)))⟩
def qJO:List qB:=[oM 0 3 0,oP 1 4 (.call 643 [.t 3,.c (.int .i64 80),.c (.int .i64 400)]),oE 2 5 .gtr 4 0,oM 3 2 5]
@[go_sem] theorem qxO:OE qJO.eq_1:=OEM qJO.eq_1
def YO:qJ:=⟨1,6,[.t 2],sr [oQ 0 2 false] (sr qJO .ret)⟩
def kZ:List qB:=[oM 0 5 0,oK 1 6 5,oF 2 7 0 6,oL 3 8 7,oE 4 9 .eql 8 4,oM 5 10 9,oH 6 11 10 false 0,oG 7 12 10 false (.nilchk (.t 11)),oG 8 13 10 false (.faddr 0 (.t 12)),oG 9 14 10 false (.load none (.t 13)),oG 10 15 10 false (.bin .eql (.t 14) (.c (.int .i64 7))),oH 11 16 10 false 15,oH 12 17 16 true 1,oG 13 18 16 true (.bin .eql (.t 17) (.c (.int .i64 1))),oG 14 19 10 false (.pick (.t 16) (.t 18) (.c (.bool false))),oPt 15 20 10 19]
@[go_sem] theorem qnT:OE kZ.eq_1:=OEM kZ.eq_1
def XI:qJ:=⟨2,21,[.t 4],sr [oC 0 4 0] (.seq (sr kZ (.cond (.t 20) (sr [oC 0 4 1] .ret) .skip)) (sr [oC 0 4 0] .ret))⟩
def qN8:List qB:=[oM 0 6 0,oK 1 7 6,oF 2 8 0 7,oL 3 9 8,oE 4 10 .eql 9 1]
@[go_sem] theorem zB8:OE qN8.eq_1:=OEM qN8.eq_1
def qN9:List qB:=[oM 0 11 0,oK 1 12 11,oF 2 13 1 12,oL 3 14 13,oM 4 15 1,oB 5 16 .geq 14 15,oM 6 4 16]
@[go_sem] theorem zB9:OE qN9.eq_1:=OEM qN9.eq_1
def qOA:List qB:=[oM 0 17 5,oM 1 18 0,oK 2 19 18,oF 3 20 3 19,oL 4 21 20,oW 5 22 21,oB 6 23 .lss 17 22]
@[go_sem] theorem zCA:OE qOA.eq_1:=OEM qOA.eq_1
def qOB:List qB:=[oM 0 26 0,oK 1 27 26,oF 2 28 3 27,oL 3 29 28,oM 4 30 5,oA 5 31 4 29 30,oM 6 32 1,oM 7 33 0,oM 8 34 5,⟨9,some 35,none,.call 1129 [.t 33,.t 34],[⟨3,some 29,none,.load none (.t 28),[]⟩]⟩,oB 10 36 .add 32 35,oD2 11 37 878 31 36]
@[go_sem] theorem zCB:OE qOB.eq_1:=OEM qOB.eq_1
def qN7:qI:=.loop (.seq (sr qOA (.cond (.t 23) .skip (.exit 0))) (.seq (.blk 1 (sr qOB (.cond (.t 37) (sr [oQ 0 4 true] .ret) .skip))) (.reg true [oM 0 24 5,oE 1 25 .add 24 1,oM 2 5 25])))
@[go_sem] theorem zB7:CE qN7.eq_1:=CEM qN7.eq_1
def Yp:qJ:=⟨2,38,[.t 4],sr [oQ 0 4 false] (.seq (sr qN8 (.cond (.t 10) (sr qN9 .ret) .skip)) (.seq (sr [oC 0 5 0] (.blk 0 qN7)) (sr [oQ 0 4 false] .ret)))⟩
def qI4:List qB:=[oM 0 3 0,oD1 1 4 642 3,oM 2 5 4,oH 3 6 5 true 0,oG 4 7 5 true (.call 878 [.t 6,.c (.int .i64 0)]),oG 5 8 5 true (.not (.t 7)),oPf 6 9 5 8,oM 7 2 9]
@[go_sem] theorem qw4:OE qI4.eq_1:=OEM qI4.eq_1
def YH:qJ:=⟨1,10,[.t 2],sr [oQ 0 2 false] (sr qI4 .ret)⟩
def qKB:List qB:=[oM 0 7 0,oK 1 8 7,oF 2 9 0 8,oL 3 10 9,oE 4 11 .eql 10 11,oM 5 12 11,oH 6 13 12 true 0,oG 7 14 12 true (.nilchk (.t 13)),oG 8 15 12 true (.faddr 1 (.t 14)),oG 9 16 12 true (.load none (.t 15)),oH 10 17 12 true 1,oG 11 18 12 true (.bin .geq (.t 16) (.t 17)),oPf 12 19 12 18]
@[go_sem] theorem qyB:OE qKB.eq_1:=OEM qKB.eq_1
def qKC:List qB:=[oM 0 20 5,oM 1 21 0,oK 2 22 21,oF 3 23 2 22,oL 4 24 23,oW 5 25 24,oB 6 26 .lss 20 25]
@[go_sem] theorem qyC:OE qKC.eq_1:=OEM qKC.eq_1
def qKD:List qB:=[oM 0 29 0,oK 1 30 29,oF 2 31 2 30,oL 3 32 31,oM 4 33 5,oA 5 34 1 32 33,oL 6 35 34,oM 7 36 1,oB 8 37 .geq 35 36]
@[go_sem] theorem qyD:OE qKD.eq_1:=OEM qKD.eq_1
def qJ8:qI:=.loop (.seq (sr qKC (.cond (.t 26) .skip (.exit 0))) (.seq (.blk 1 (sr qKD (.cond (.t 37) (sr [oQ 0 4 false] .ret) .skip))) (.reg true [oM 0 27 5,oE 1 28 .add 27 1,oM 2 5 28])))
@[go_sem] theorem qx8:CE qJ8.eq_1:=CEM qJ8.eq_1
def qKE:List qB:=[oM 0 38 6,oM 1 39 0,oK 2 40 39,oF 3 41 3 40,oL 4 42 41,oW 5 43 42,oB 6 44 .lss 38 43]
@[go_sem] theorem qyE:OE qKE.eq_1:=OEM qKE.eq_1
def qKF:List qB:=[oM 0 47 0,oK 1 48 47,oF 2 49 3 48,oL 3 50 49,oM 4 51 6,oA 5 52 4 50 51,oM 6 53 1,oD2 7 54 725 52 53,oJ 8 55 54]
@[go_sem] theorem qyF:OE qKF.eq_1:=OEM qKF.eq_1
def qJ9:qI:=.loop (.seq (sr qKE (.cond (.t 44) .skip (.exit 2))) (.seq (.blk 3 (sr qKF (.cond (.t 55) (sr [oQ 0 4 false] .ret) .skip))) (.reg true [oM 0 45 6,oE 1 46 .add 45 1,oM 2 6 46])))
@[go_sem] theorem qx9:CE qJ9.eq_1:=CEM qJ9.eq_1
def qKA:qI:=.seq (sr qKB (.cond (.t 19) (sr [oQ 0 4 false] .ret) .skip)) (.seq (sr [oC 0 5 0] (.blk 0 qJ8)) (.seq (sr [oC 0 6 0] (.blk 2 qJ9)) (sr [oQ 0 4 true] .ret)))
@[go_sem] theorem qyA:CE qKA.eq_1:=CEM qKA.eq_1
def YV:qJ:=⟨2,56,[.t 4],sr [oQ 0 4 false] qKA⟩
def qI8:List qB:=[oM 0 4 0,oK 1 5 4,oF 2 6 0 5,oL 3 7 6,oW 4 8 7,oP 5 9 (.call 340 [.t 8,.c (.int .i64 1),.c (.int .i64 24)]),oJ 6 10 9]
@[go_sem] theorem qw8:OE qI8.eq_1:=OEM qI8.eq_1
def qI9:List qB:=[oM 0 11 3,oM 1 12 0,oK 2 13 12,oF 3 14 0 13,oL 4 15 14,oW 5 16 15,oB 6 17 .lss 11 16]
@[go_sem] theorem qw9:OE qI9.eq_1:=OEM qI9.eq_1
def qJA:List qB:=[oM 0 20 0,oK 1 21 20,oF 2 22 0 21,oL 3 23 22,oM 4 24 3,oA 5 25 4 23 24,oD1 6 26 519 25,oJ 7 27 26,oM 8 28 27,oH 9 29 28 false 0,oG 10 30 28 false (.nilchk (.t 29)),oG 11 31 28 false (.faddr 0 (.t 30)),oG 12 32 28 false (.load none (.t 31)),oH 13 33 28 false 3,oG 14 34 28 false (.iaddr 4 (.t 32) (.t 33)),oH 15 35 28 false 0,oG 16 36 28 false (.nilchk (.t 35)),oG 17 37 28 false (.faddr 0 (.t 36)),oG 18 38 28 false (.load none (.t 37)),oG 19 39 28 false (.len (.t 38)),oG 20 40 28 false (.call 725 [.t 34,.t 39]),oG 21 41 28 false (.not (.t 40)),oPt 22 42 28 41]
@[go_sem] theorem qxA:OE qJA.eq_1:=OEM qJA.eq_1
def qI7:qI:=.loop (.seq (sr qI9 (.cond (.t 17) .skip (.exit 0))) (.seq (.blk 1 (sr qJA (.cond (.t 42) (sr [oQ 0 2 false] .ret) .skip))) (.reg true [oM 0 18 3,oE 1 19 .add 18 1,oM 2 3 19])))
@[go_sem] theorem qw7:CE qI7.eq_1:=CEM qI7.eq_1
def YL:qJ:=⟨1,43,[.t 2],sr [oQ 0 2 false] (.seq (sr qI8 (.cond (.t 10) (sr [oQ 0 2 false] .ret) .skip)) (.seq (sr [oC 0 3 0] (.blk 0 qI7)) (sr [oQ 0 2 true] .ret)))⟩
def qO6:List qB:=[oM 0 10 0,oK 1 11 10,oF 2 12 0 11,oL 3 13 12,oE 4 14 .eql 13 1]
@[go_sem] theorem zC6:OE qO6.eq_1:=OEM qO6.eq_1
def qO7:List qB:=[oM 0 15 0,oK 1 16 15,oF 2 17 1 16,oL 3 18 17,oM 4 19 1,oB 5 20 .eql 18 19]
@[go_sem] theorem zC7:OE qO7.eq_1:=OEM qO7.eq_1
def qO8:List qB:=[oM 0 21 3,oM 1 22 2,oP 2 23 (.bslice 1 (.int .i64 0) 1 [(0,.t 22)]),oP 3 24 (.app 1 (.t 21) (.t 23)),oM 4 3 24]
@[go_sem] theorem zC8:OE qO8.eq_1:=OEM qO8.eq_1
def qO9:List qB:=[oM 0 26 0,oK 1 27 26,oF 2 28 0 27,oL 3 29 28,oE 4 30 .eql 29 6]
@[go_sem] theorem zC9:OE qO9.eq_1:=OEM qO9.eq_1
def qPA:List qB:=[oM 0 33 9,oM 1 34 0,oK 2 35 34,oF 3 36 3 35,oL 4 37 36,oW 5 38 37,oB 6 39 .lss 33 38]
@[go_sem] theorem zDA:OE qPA.eq_1:=OEM qPA.eq_1
def qPB:List qB:=[oM 0 42 0,oK 1 43 42,oF 2 44 3 43,oL 3 45 44,oM 4 46 9,oA 5 47 4 45 46,oM 6 48 1,oM 7 49 0,oM 8 50 9,oM 11 53 2,oM 12 54 3,⟨9,some 51,none,.call 1129 [.t 49,.t 50],[⟨3,some 45,none,.load none (.t 44),[]⟩]⟩,oB 10 52 .add 48 51,oP 13 55 (.call 990 [.t 47,.t 52,.t 53,.t 54]),oM 14 3 55]
@[go_sem] theorem zDB:OE qPB.eq_1:=OEM qPB.eq_1
def qO4:qI:=sr [oC 0 9 0] (.blk 0 (.loop (.seq (sr qPA (.cond (.t 39) .skip (.exit 0))) (.seq (.blk 1 (.reg true qPB)) (.reg true [oM 0 40 9,oE 1 41 .add 40 1,oM 2 9 41])))))
@[go_sem] theorem zC4:CE qO4.eq_1:=CEM qO4.eq_1
def qO5:qI:=.seq (sr qO6 (.cond (.t 14) (.seq (sr qO7 (.cond (.t 20) (.reg true qO8) .skip)) (sr [oM 0 25 3,oM 1 8 25] .ret)) .skip)) (.seq (sr qO9 (.cond (.t 30) (.reg true [oM 0 31 2,oE 1 32 .add 31 1,oM 2 2 32]) .skip)) (.seq qO4 (sr [oM 0 56 3,oM 1 8 56] .ret)))
@[go_sem] theorem zC5:CE qO5.eq_1:=CEM qO5.eq_1
def Yt:qJ:=⟨4,57,[.t 8],sr [oP 0 8 (.mov (.c (.nils)))] qO5⟩
def qPD:List qB:=[oM 0 6 5,oM 1 7 0,oW 2 8 7,oB 3 9 .lss 6 8]
@[go_sem] theorem zDD:OE qPD.eq_1:=OEM qPD.eq_1
def qPE:List qB:=[oM 0 12 0,oM 1 13 5,oA 2 14 1 12 13,oL 3 15 14,oM 4 16 1,oB 5 17 .neq 15 16]
@[go_sem] theorem zDE:OE qPE.eq_1:=OEM qPE.eq_1
def qPC:qI:=.loop (.seq (sr qPD (.cond (.t 9) .skip (.exit 0))) (.seq (.blk 1 (sr qPE (.cond (.t 17) (sr [oQ 0 4 false] .ret) .skip))) (.reg true [oM 0 10 5,oE 1 11 .add 10 1,oM 2 5 11])))
@[go_sem] theorem zDC:CE qPC.eq_1:=CEM qPC.eq_1
def Yu:qJ:=⟨2,18,[.t 4],sr [oQ 0 4 false] (.seq (sr [oC 0 5 0] (.blk 0 qPC)) (sr [oQ 0 4 true] .ret))⟩
def qJF:List qB:=[oM 0 11 0,oK 1 12 11,oF 2 13 0 12,oL 3 14 13]
@[go_sem] theorem qxF:OE qJF.eq_1:=OEM qJF.eq_1
def qJG:List qB:=[oM 0 17 0,oK 1 18 17,oF 2 19 3 18,oL 3 20 19,oP 4 21 (.iaddr 4 (.t 20) (.c (.int .i64 0))),oM 5 22 1,oP 6 23 (.call 990 [.t 21,.c (.int .i64 0),.t 22,.c (.nils)]),oM 7 5 23]
@[go_sem] theorem qxG:OE qJG.eq_1:=OEM qJG.eq_1
def qJH:List qB:=[oM 0 24 5,oW 1 25 24,oE 2 26 .gtr 25 1,oM 3 27 26,oH 4 28 27 false 5,oH 5 29 27 false 1,oG 6 30 27 false (.call 991 [.t 28,.t 29]),oG 7 31 27 false (.not (.t 30)),oPt 8 32 27 31]
@[go_sem] theorem qxH:OE qJH.eq_1:=OEM qJH.eq_1
def qJI:List qB:=[oM 0 35 0,oK 1 36 35,oF 2 37 3 36,oL 3 38 37,oP 4 39 (.iaddr 4 (.t 38) (.c (.int .i64 1))),oM 5 40 1,oP 6 41 (.call 990 [.t 39,.c (.int .i64 0),.t 40,.c (.nils)]),oM 7 6 41]
@[go_sem] theorem qxI:OE qJI.eq_1:=OEM qJI.eq_1
def qJJ:List qB:=[oM 0 42 6,oM 1 43 1,oD2 2 44 991 42 43,oJ 3 45 44,oM 4 46 45,oH 5 47 46 true 6,oH 6 48 46 true 1,oG 7 49 46 true (.bin .add (.t 48) (.c (.int .i64 1))),oG 8 50 46 true (.call 991 [.t 47,.t 49]),oG 9 51 46 true (.not (.t 50)),oPf 10 52 46 51]
@[go_sem] theorem qxJ:OE qJJ.eq_1:=OEM qJJ.eq_1
def qJD:qI:=.cond (.t 15) (sr qJG (sr qJH (.cond (.t 32) (sr [oQ 0 4 false] .ret) .skip))) (sr [oE 0 34 .eql 14 7,oM 1 33 34] (.cond (.t 33) (sr qJI (sr qJJ (.cond (.t 52) (sr [oQ 0 4 false] .ret) .skip))) .skip))
@[go_sem] theorem qxD:CE qJD.eq_1:=CEM qJD.eq_1
def qJK:List qB:=[oM 0 53 7,oM 1 54 0,oK 2 55 54,oF 3 56 3 55,oL 4 57 56,oW 5 58 57,oB 6 59 .lss 53 58]
@[go_sem] theorem qxK:OE qJK.eq_1:=OEM qJK.eq_1
def qJL:List qB:=[oM 0 63 0,oK 1 64 63,oF 2 65 0 64,oL 3 66 65,oE 4 67 .eql 66 6]
@[go_sem] theorem qxL:OE qJL.eq_1:=OEM qJL.eq_1
def qJM:List qB:=[oM 0 70 0,oK 1 71 70,oF 2 72 3 71,oL 3 73 72,oM 4 74 7,oA 5 75 4 73 74,oM 6 76 8,oD2 7 77 610 75 76,oJ 8 78 77]
@[go_sem] theorem qxM:OE qJM.eq_1:=OEM qJM.eq_1
def qJE:qI:=sr [oM 0 62 1,oM 1 8 62] (.seq (sr qJL (.cond (.t 67) (.reg true [oM 0 68 8,oE 1 69 .add 68 1,oM 2 8 69]) .skip)) (sr qJM (.cond (.t 78) (sr [oQ 0 4 false] .ret) .skip)))
@[go_sem] theorem qxE:CE qJE.eq_1:=CEM qJE.eq_1
def qJB:qI:=sr [oC 0 7 0] (.blk 1 (.loop (.seq (sr qJK (.cond (.t 59) .skip (.exit 1))) (.seq (.blk 2 qJE) (.reg true [oM 0 60 7,oE 1 61 .add 60 1,oM 2 7 61])))))
@[go_sem] theorem qxB:CE qJB.eq_1:=CEM qJB.eq_1
def qJC:qI:=.seq (sr [oM 0 9 1,oE 1 10 .gtr 9 8] (.cond (.t 10) (sr [oQ 0 4 false] .ret) .skip)) (.seq (sr qJF (.blk 0 (sr [oE 0 16 .eql 14 4,oM 1 15 16] qJD))) (.seq qJB (sr [oQ 0 4 true] .ret)))
@[go_sem] theorem qxC:CE qJC.eq_1:=CEM qJC.eq_1
def YM:qJ:=⟨2,79,[.t 4],sr [oQ 0 4 false] qJC⟩
def qIG:List qB:=[oM 0 7 3,oM 1 8 0,oK 2 9 8,oF 3 10 0 9,oL 4 11 10,oW 5 12 11,oB 6 13 .lss 7 12]
@[go_sem] theorem qwG:OE qIG.eq_1:=OEM qIG.eq_1
def qIH:List qB:=[oM 0 16 0,oK 1 17 16,oF 2 18 0 17,oL 3 19 18,oM 4 20 3,oA 5 21 4 19 20,oP 6 22 (.call 610 [.t 21,.c (.int .i64 0)]),oJ 7 23 22]
@[go_sem] theorem qwH:OE qIH.eq_1:=OEM qIH.eq_1
def qIE:qI:=.loop (.seq (sr qIG (.cond (.t 13) .skip (.exit 0))) (.seq (.blk 1 (sr qIH (.cond (.t 23) (sr [oC 0 2 9] .ret) .skip))) (.reg true [oM 0 14 3,oE 1 15 .add 14 1,oM 2 3 15])))
@[go_sem] theorem qwE:CE qIE.eq_1:=CEM qIE.eq_1
def qIF:qI:=.seq (sr [oM 0 4 0,oD1 1 5 579 4,oJ 2 6 5] (.cond (.t 6) (sr [oC 0 2 1] .ret) .skip)) (.seq (sr [oC 0 3 0] (.blk 0 qIE)) (sr [oC 0 2 0] .ret))
@[go_sem] theorem qwF:CE qIF.eq_1:=CEM qIF.eq_1
def YC:qJ:=⟨1,24,[.t 2],sr [oC 0 2 0] qIF⟩
def qHQ:List qB:=[oP 0 3 (.mov (.c (.lst 1 [] true))),oM 1 4 0,oP 2 5 (.app 1 (.t 3) (.t 4)),oM 3 2 5]
@[go_sem] theorem qvQ:OE qHQ.eq_1:=OEM qHQ.eq_1
def Zo:qJ:=⟨1,6,[.t 2],sr [oP 0 2 (.mov (.c (.nils)))] (sr qHQ .ret)⟩
def U3:List qB:=[oM 0 6 5,oM 1 7 0,oW 2 8 7,oB 3 9 .lss 6 8]
@[go_sem] theorem qk7:OE U3.eq_1:=OEM U3.eq_1
def U4:List qB:=[oM 0 12 0,oM 1 13 5,oA 2 14 1 12 13,oL 3 15 14,oM 4 16 1,oB 5 17 .eql 15 16]
@[go_sem] theorem qk8:OE U4.eq_1:=OEM U4.eq_1
def U2:qI:=.loop (.seq (sr U3 (.cond (.t 9) .skip (.exit 0))) (.seq (.blk 1 (sr U4 (.cond (.t 17) (sr [oQ 0 4 true] .ret) .skip))) (.reg true [oM 0 10 5,oE 1 11 .add 10 1,oM 2 5 11])))
@[go_sem] theorem qk6:CE U2.eq_1:=CEM U2.eq_1
def Ww:qJ:=⟨2,18,[.t 4],sr [oQ 0 4 false] (.seq (sr [oC 0 5 0] (.blk 0 U2)) (sr [oQ 0 4 false] .ret))⟩
def qOV:List qB:=[oM 0 9 7,oM 1 10 0,oW 2 11 10,oB 3 12 .lss 9 11]
@[go_sem] theorem zCV:OE qOV.eq_1:=OEM qOV.eq_1
def qOW:List qB:=[oM 0 15 6,oJ 1 16 15,oM 2 17 16,oH 3 18 17 true 0,oH 4 19 17 true 7,oG 5 20 17 true (.iaddr 1 (.t 18) (.t 19)),oG 6 21 17 true (.load none (.t 20)),oH 7 22 17 true 1,oG 8 23 17 true (.bin .geq (.t 21) (.t 22)),oPf 9 24 17 23]
@[go_sem] theorem zCW:OE qOW.eq_1:=OEM qOW.eq_1
def qOX:List qB:=[oM 0 25 0,oM 1 26 7,oA 2 27 1 25 26,oL 3 28 27,oM 4 29 1,oB 5 30 .gtr 28 29]
@[go_sem] theorem zCX:OE qOX.eq_1:=OEM qOX.eq_1
def qOY:List qB:=[oM 0 31 5,oM 1 32 1,oP 2 33 (.bslice 1 (.int .i64 0) 1 [(0,.t 32)]),oP 3 34 (.app 1 (.t 31) (.t 33)),oM 4 5 34]
@[go_sem] theorem zCY:OE qOY.eq_1:=OEM qOY.eq_1
def qOZ:List qB:=[oM 0 35 5,oM 1 36 0,oM 2 37 7,oA 3 38 1 36 37,oL 4 39 38,oP 5 40 (.bslice 1 (.int .i64 0) 1 [(0,.t 39)]),oP 6 41 (.app 1 (.t 35) (.t 40)),oM 7 5 41]
@[go_sem] theorem zCZ:OE qOZ.eq_1:=OEM qOZ.eq_1
def qOT:qI:=.seq (.blk 1 (.seq (sr qOW (.cond (.t 24) (sr [oQ 0 6 true] (sr qOX (.cond (.t 30) (.reg true qOY) .skip))) .skip)) (.reg true qOZ))) (.reg true [oM 0 13 7,oE 1 14 .add 13 1,oM 2 7 14])
@[go_sem] theorem zCT:CE qOT.eq_1:=CEM qOT.eq_1
def qO0:List qB:=[oM 0 44 5,oM 1 45 1,oP 2 46 (.bslice 1 (.int .i64 0) 1 [(0,.t 45)]),oP 3 47 (.app 1 (.t 44) (.t 46)),oM 4 5 47]
@[go_sem] theorem zC0:OE qO0.eq_1:=OEM qO0.eq_1
def qOU:qI:=.seq (sr [oC 0 7 0] (.blk 0 (.loop (.seq (sr qOV (.cond (.t 12) .skip (.exit 0))) qOT)))) (.seq (sr [oM 0 42 6,oJ 1 43 42] (.cond (.t 43) (.reg true qO0) .skip)) (sr [oM 0 48 5,oM 1 4 48] .ret))
@[go_sem] theorem zCU:CE qOU.eq_1:=CEM qOU.eq_1
def Ys:qJ:=⟨2,49,[.t 4],sr [oP 0 4 (.mov (.c (.nils)))] (sr [oP 0 8 (.mov (.c (.lst 1 [] true))),oM 1 5 8] (sr [oQ 0 6 false] qOU))⟩
def qEG:List qB:=[oM 0 7 0,oK 1 8 7,oF 2 9 0 8,oL 3 10 9,oE 4 11 .eql 10 11]
@[go_sem] theorem qsG:OE qEG.eq_1:=OEM qEG.eq_1
def qEH:List qB:=[oM 0 12 1,oM 1 13 0,oK 2 14 13,oF 3 15 1 14,oL 4 16 15,oD2 5 17 920 12 16,oM 6 1 17]
@[go_sem] theorem qsH:OE qEH.eq_1:=OEM qEH.eq_1
def qEI:List qB:=[oM 0 18 5,oM 1 19 0,oK 2 20 19,oF 3 21 2 20,oL 4 22 21,oW 5 23 22,oB 6 24 .lss 18 23]
@[go_sem] theorem qsI:OE qEI.eq_1:=OEM qEI.eq_1
def qEJ:List qB:=[oM 0 27 1,oM 1 28 0,oK 2 29 28,oF 3 30 2 29,oL 4 31 30,oM 5 32 5,oA 6 33 1 31 32,oL 7 34 33,oD2 8 35 920 27 34,oM 9 1 35]
@[go_sem] theorem qsJ:OE qEJ.eq_1:=OEM qEJ.eq_1
def qEE:qI:=sr [oC 0 5 0] (.blk 0 (.loop (.seq (sr qEI (.cond (.t 24) .skip (.exit 0))) (.seq (.blk 1 (.reg true qEJ)) (.reg true [oM 0 25 5,oE 1 26 .add 25 1,oM 2 5 26])))))
@[go_sem] theorem qsE:CE qEE.eq_1:=CEM qEE.eq_1
def qEK:List qB:=[oM 0 36 6,oM 1 37 0,oK 2 38 37,oF 3 39 3 38,oL 4 40 39,oW 5 41 40,oB 6 42 .lss 36 41]
@[go_sem] theorem qsK:OE qEK.eq_1:=OEM qEK.eq_1
def qEL:List qB:=[oM 0 45 0,oK 1 46 45,oF 2 47 3 46,oL 3 48 47,oM 4 49 6,oA 5 50 4 48 49,oM 6 51 1,oD2 7 52 1407 50 51,oM 8 1 52]
@[go_sem] theorem qsL:OE qEL.eq_1:=OEM qEL.eq_1
def qEF:qI:=sr [oC 0 6 0] (.blk 2 (.loop (.seq (sr qEK (.cond (.t 42) .skip (.exit 2))) (.seq (.blk 3 (.reg true qEL)) (.reg true [oM 0 43 6,oE 1 44 .add 43 1,oM 2 6 44])))))
@[go_sem] theorem qsF:CE qEF.eq_1:=CEM qEF.eq_1
def Xk:qJ:=⟨2,54,[.t 4],sr [oP 0 4 (.mov (.c (.nils)))] (.seq (sr qEG (.cond (.t 11) (.reg true qEH) .skip)) (.seq qEE (.seq qEF (sr [oM 0 53 1,oM 1 4 53] .ret))))⟩
def qAC:List qB:=[oM 0 6 4,oM 1 7 0,oK 2 8 7,oF 3 9 0 8,oL 4 10 9,oW 5 11 10,oB 6 12 .lss 6 11]
@[go_sem] theorem qoC:OE qAC.eq_1:=OEM qAC.eq_1
def qAD:List qB:=[oM 0 15 3,oM 1 16 0,oK 2 17 16,oF 3 18 0 17,oL 4 19 18,oM 5 20 4,oA 6 21 4 19 20,oP 7 22 (.mov (.c (.lst 1 [] true))),oD2 8 23 1407 21 22,oP 9 24 (.bslice 1 (.nils) 1 [(0,.t 23)]),oP 10 25 (.app 1 (.t 15) (.t 24)),oM 11 3 25]
@[go_sem] theorem qoD:OE qAD.eq_1:=OEM qAD.eq_1
def qAB:qI:=sr [oC 0 4 0] (.blk 0 (.loop (.seq (sr qAC (.cond (.t 12) .skip (.exit 0))) (.seq (.blk 1 (.reg true qAD)) (.reg true [oM 0 13 4,oE 1 14 .add 13 1,oM 2 4 14])))))
@[go_sem] theorem qoB:CE qAB.eq_1:=CEM qAB.eq_1
def XK:qJ:=⟨1,27,[.t 2],sr [oP 0 2 (.mov (.c (.nils)))] (sr [oP 0 5 (.mov (.c (.lst 1 [] true))),oM 1 3 5] (.seq qAB (sr [oM 0 26 3,oM 1 2 26] .ret)))⟩
def qMV:List qB:=[oM 0 12 5,oM 1 13 0,oK 2 14 13,oF 3 15 0 14,oL 4 16 15,oW 5 17 16,oB 6 18 .lss 12 17]
@[go_sem] theorem zAV:OE qMV.eq_1:=OEM qMV.eq_1
def qMW:List qB:=[oM 0 21 3,oM 1 22 5,oA 2 23 1 21 22,oL 3 24 23,oD1 4 25 402 24,oM 5 6 25]
@[go_sem] theorem zAW:OE qMW.eq_1:=OEM qMW.eq_1
def qMX:List qB:=[oM 0 26 7,oM 1 27 6,oW 2 28 27,oB 3 29 .lss 26 28]
@[go_sem] theorem zAX:OE qMX.eq_1:=OEM qMX.eq_1
def qMY:List qB:=[oM 0 32 8,oM 1 33 3,oM 2 34 6,oM 3 35 7,oA 4 36 1 34 35,oL 5 37 36,oA 6 38 1 33 37,oL 7 39 38,oW 8 40 39,oB 9 41 .lss 32 40]
@[go_sem] theorem zAY:OE qMY.eq_1:=OEM qMY.eq_1
def qMZ:List qB:=[oM 0 44 6,oM 1 45 3,oM 2 46 6,oM 3 47 7,oA 4 48 1 46 47,oL 5 49 48,oA 6 50 1 45 49,oL 7 51 50,oM 8 52 8,oA 9 53 1 51 52,oL 10 54 53,oD2 11 55 1026 44 54,oJ 12 56 55]
@[go_sem] theorem zAZ:OE qMZ.eq_1:=OEM qMZ.eq_1
def qM0:List qB:=[oM 0 57 6,oM 1 58 3,oM 2 59 6,oM 3 60 7,oA 4 61 1 59 60,oL 5 62 61,oA 6 63 1 58 62,oL 7 64 63,oM 8 65 8,oA 9 66 1 64 65,oL 10 67 66,oP 11 68 (.bslice 1 (.int .i64 0) 1 [(0,.t 67)]),oP 12 69 (.app 1 (.t 57) (.t 68)),oM 13 6 69]
@[go_sem] theorem zA0:OE qM0.eq_1:=OEM qM0.eq_1
def qMS:qI:=.loop (.seq (sr qMY (.cond (.t 41) .skip (.exit 4))) (.seq (.blk 5 (sr qMZ (.cond (.t 56) (.reg true qM0) .skip))) (.reg true [oM 0 42 8,oE 1 43 .add 42 1,oM 2 8 43])))
@[go_sem] theorem zAS:CE qMS.eq_1:=CEM qMS.eq_1
def qMT:qI:=.loop (.seq (sr qMX (.cond (.t 29) .skip (.exit 2))) (.seq (.blk 3 (sr [oC 0 8 0] (.blk 4 qMS))) (.reg true [oM 0 30 7,oE 1 31 .add 30 1,oM 2 7 31])))
@[go_sem] theorem zAT:CE qMT.eq_1:=CEM qMT.eq_1
def qM1:List qB:=[oM 0 73 4,oM 1 74 5,oP 2 75 (.bslice 1 (.int .i64 0) 1 [(0,.t 74)]),oP 3 76 (.app 1 (.t 73) (.t 75)),oM 4 4 76]
@[go_sem] theorem zA1:OE qM1.eq_1:=OEM qM1.eq_1
def qMU:qI:=.seq (.blk 1 (sr qMW (.seq (sr [oC 0 7 0] (.blk 2 qMT)) (sr [oM 0 70 6,oM 1 71 5,oD2 2 72 1026 70 71] (.cond (.t 72) (.reg true qM1) .skip))))) (.reg true [oM 0 19 5,oE 1 20 .add 19 1,oM 2 5 20])
@[go_sem] theorem zAU:CE qMU.eq_1:=CEM qMU.eq_1
def qMR:qI:=sr [oP 0 11 (.mov (.c (.lst 1 [] true))),oM 1 4 11] (.seq (sr [oC 0 5 0] (.blk 0 (.loop (.seq (sr qMV (.cond (.t 18) .skip (.exit 0))) qMU)))) (sr [oM 0 77 4,oM 1 2 77] .ret))
@[go_sem] theorem zAR:CE qMR.eq_1:=CEM qMR.eq_1
def Yi:qJ:=⟨1,78,[.t 2],sr [oP 0 2 (.mov (.c (.nils)))] (sr [oM 0 9 0,oD1 1 10 1162 9,oM 2 3 10] qMR)⟩
def qHS:List qB:=[oM 0 5 0,oM 1 6 0,oD1 2 7 835 6,oM 3 8 1,oP 4 9 (.build (.agg [.nilp,.nils,.int .i64 0]) [(0,1,.t 5),(1,1,.t 7),(2,1,.t 8)]),oP 5 10 (.hbox 3 (.t 9)),oM 6 4 10]
@[go_sem] theorem qvS:OE qHS.eq_1:=OEM qHS.eq_1
def X7:qJ:=⟨2,11,[.t 4],sr [oP 0 4 (.mov (.c (.nilp)))] (sr qHS .ret)⟩
def qN1:qI:=.seq (sr [oM 0 5 0,oM 1 6 1,oB 2 7 .gtr 5 6] (.cond (.t 7) (sr [oM 0 8 0,oM 1 4 8] .ret) .skip)) (sr [oM 0 9 1,oM 1 4 9] .ret)
@[go_sem] theorem zB1:CE qN1.eq_1:=CEM qN1.eq_1
def Yo:qJ:=⟨2,10,[.t 4],sr [oC 0 4 0] qN1⟩
def kO:List qB:=[oM 0 5 4,oM 1 6 0,oK 2 7 6,oF 3 8 3 7,oL 4 9 8,oW 5 10 9,oB 6 11 .lss 5 10]
@[go_sem] theorem qnI:OE kO.eq_1:=OEM kO.eq_1
def kP:List qB:=[oM 0 14 3,oM 1 15 0,oK 2 16 15,oF 3 17 3 16,oL 4 18 17,oM 5 19 4,oA 6 20 4 18 19,oD1 7 21 1123 20,oD2 8 22 856 14 21,oM 9 3 22]
@[go_sem] theorem qnJ:OE kP.eq_1:=OEM kP.eq_1
def kN:qI:=sr [oC 0 4 0] (.blk 0 (.loop (.seq (sr kO (.cond (.t 11) .skip (.exit 0))) (.seq (.blk 1 (.reg true kP)) (.reg true [oM 0 12 4,oE 1 13 .add 12 1,oM 2 4 13])))))
@[go_sem] theorem qnH:CE kN.eq_1:=CEM kN.eq_1
def XC:qJ:=⟨1,25,[.t 2],sr [oC 0 2 0] (sr [oC 0 3 0] (.seq kN (sr [oM 0 23 3,oE 1 24 .add 23 1,oM 2 2 24] .ret)))⟩
def kX:List qB:=[oM 0 8 5,oM 1 9 0,oK 2 10 9,oF 3 11 3 10,oL 4 12 11,oW 5 13 12,oB 6 14 .lss 8 13,oM 7 15 14,oH 8 16 15 true 1,oG 9 17 15 true (.bin .geq (.t 16) (.c (.int .i64 0))),oPf 10 18 15 17]
@[go_sem] theorem qnR:OE kX.eq_1:=OEM kX.eq_1
def kY:List qB:=[oM 0 21 0,oK 1 22 21,oF 2 23 3 22,oL 3 24 23,oM 4 25 5,oA 5 26 4 24 25,oM 6 27 1,oD2 7 28 1128 26 27,oM 8 1 28]
@[go_sem] theorem qnS:OE kY.eq_1:=OEM kY.eq_1
def kW:qI:=sr [oC 0 5 0] (.blk 0 (.loop (.seq (sr kX (.cond (.t 18) .skip (.exit 0))) (.seq (.blk 1 (.reg true kY)) (.reg true [oM 0 19 5,oE 1 20 .add 19 1,oM 2 5 20])))))
@[go_sem] theorem qnQ:CE kW.eq_1:=CEM kW.eq_1
def XH:qJ:=⟨2,30,[.t 4],sr [oC 0 4 0] (sr [oM 0 6 1,oE 1 7 .sub 6 1,oM 2 1 7] (.seq kW (sr [oM 0 29 1,oM 1 4 29] .ret)))⟩
def qLZ:List qB:=[oM 0 3 0,oP 1 4 (.call 1128 [.t 3,.c (.int .i64 400)]),oE 2 5 .geq 4 0,oM 3 6 5,oH 4 7 6 true 0,oG 5 8 6 true (.call 1123 [.t 7]),oG 6 9 6 true (.bin .leq (.t 8) (.c (.int .i64 80))),oPf 7 10 6 9,oM 8 2 10]
@[go_sem] theorem qzZ:OE qLZ.eq_1:=OEM qLZ.eq_1
def Yb:qJ:=⟨1,11,[.t 2],sr [oQ 0 2 false] (sr qLZ .ret)⟩
def X1:qJ:=⟨1,5,[.l 2 (some 4)],sr [oZ 0 2] (sr [oM 0 3 0,oP 1 4 (.build (.agg [.int .i64 0,.int .i64 0,.nils,.nils]) [(0,1,.c (.int .i64 2)),(1,1,.t 3)]),oS 2 2 0 4 4] .ret)⟩
def qK6:List qB:=[oM 0 3 0,oK 1 4 3,oF 2 5 0 4,oL 3 6 5]
@[go_sem] theorem qy6:OE qK6.eq_1:=OEM qK6.eq_1
def qK7:List qB:=[oM 0 9 0,oK 1 10 9,oF 2 11 3 10,oL 3 12 11,oP 4 13 (.iaddr 4 (.t 12) (.c (.int .i64 0))),oF 5 14 0 13,oL 6 15 14]
@[go_sem] theorem qy7:OE qK7.eq_1:=OEM qK7.eq_1
def qK4:qI:=sr [oE 0 17 .eql 15 4,oM 1 16 17] (.cond (.t 16) (sr [oC 0 2 1] .ret) (sr [oE 0 19 .eql 15 11,oM 1 18 19] (.cond (.t 18) (sr [oC 0 2 4] .ret) .skip)))
@[go_sem] theorem qy4:CE qK4.eq_1:=CEM qK4.eq_1
def qK8:List qB:=[oM 0 22 0,oK 1 23 22,oF 2 24 3 23,oL 3 25 24,oP 4 26 (.iaddr 4 (.t 25) (.c (.int .i64 0))),oF 5 27 0 26,oL 6 28 27,oE 7 29 .eql 28 11]
@[go_sem] theorem qy8:OE qK8.eq_1:=OEM qK8.eq_1
def qK9:List qB:=[oM 0 30 0,oK 1 31 30,oF 2 32 3 31,oL 3 33 32,oP 4 34 (.iaddr 4 (.t 33) (.c (.int .i64 0))),oF 5 35 0 34,oL 6 36 35,oE 7 37 .eql 36 2]
@[go_sem] theorem qy9:OE qK9.eq_1:=OEM qK9.eq_1
def qLA:List qB:=[oM 0 38 0,oK 1 39 38,oF 2 40 3 39,oL 3 41 40,oP 4 42 (.iaddr 4 (.t 41) (.c (.int .i64 1))),oF 5 43 0 42,oL 6 44 43]
@[go_sem] theorem qzA:OE qLA.eq_1:=OEM qLA.eq_1
def qK5:qI:=sr [oE 0 46 .eql 44 2,oM 1 45 46] (.cond (.t 45) (sr [oC 0 2 2] .ret) (sr [oE 0 48 .eql 44 11,oM 1 47 48] (.cond (.t 47) (sr [oC 0 2 4] .ret) .skip)))
@[go_sem] theorem qy5:CE qK5.eq_1:=CEM qK5.eq_1
def qLB:List qB:=[oM 0 51 0,oK 1 52 51,oF 2 53 3 52,oL 3 54 53,oP 4 55 (.iaddr 4 (.t 54) (.c (.int .i64 0))),oF 5 56 0 55,oL 6 57 56,oE 7 58 .eql 57 8,oM 8 59 58,oH 9 60 59 true 0,oG 10 61 59 true (.nilchk (.t 60)),oG 11 62 59 true (.faddr 3 (.t 61)),oG 12 63 59 true (.load none (.t 62)),oG 13 64 59 true (.iaddr 4 (.t 63) (.c (.int .i64 0))),oG 14 65 59 true (.faddr 1 (.t 64)),oG 15 66 59 true (.load none (.t 65)),oH 16 67 59 true 0,oG 17 68 59 true (.nilchk (.t 67)),oG 18 69 59 true (.faddr 2 (.t 68)),oG 19 70 59 true (.load none (.t 69)),oG 20 71 59 true (.len (.t 70)),oG 21 72 59 true (.bin .lss (.t 66) (.t 71)),oPf 22 73 59 72]
@[go_sem] theorem qzB:OE qLB.eq_1:=OEM qLB.eq_1
def qLC:List qB:=[oM 0 74 0,oK 1 75 74,oF 2 76 3 75,oL 3 77 76,oP 4 78 (.iaddr 4 (.t 77) (.c (.int .i64 0))),oF 5 79 0 78,oL 6 80 79,oE 7 81 .eql 80 11]
@[go_sem] theorem qzC:OE qLC.eq_1:=OEM qLC.eq_1
def qLD:List qB:=[oM 0 84 0,oK 1 85 84,oF 2 86 3 85,oL 3 87 86,oP 4 88 (.iaddr 4 (.t 87) (.c (.int .i64 0))),oF 5 89 0 88,oL 6 90 89]
@[go_sem] theorem qzD:OE qLD.eq_1:=OEM qLD.eq_1
def qK1:qI:=sr [oE 0 92 .eql 90 2,oM 1 91 92] (.cond (.t 91) (sr [oC 0 2 3] .ret) (sr [oE 0 94 .eql 90 11,oM 1 93 94] (.cond (.t 93) (sr [oC 0 2 4] .ret) .skip)))
@[go_sem] theorem qy1:CE qK1.eq_1:=CEM qK1.eq_1
def qK2:qI:=.cond (.t 49) (.seq (sr qLB (.cond (.t 73) (sr [oC 0 2 3] .ret) .skip)) (sr qLC (.cond (.t 81) (sr [oC 0 2 4] .ret) .skip))) (sr [oE 0 83 .eql 6 10,oM 1 82 83] (.cond (.t 82) (sr qLD (.blk 3 qK1)) .skip))
@[go_sem] theorem qy2:CE qK2.eq_1:=CEM qK2.eq_1
def qK3:qI:=sr [oE 0 21 .eql 6 3,oM 1 20 21] (.cond (.t 20) (.seq (sr qK8 (.cond (.t 29) (sr [oC 0 2 4] .ret) .skip)) (sr qK9 (.cond (.t 37) (sr qLA (.blk 2 qK5)) .skip))) (sr [oE 0 50 .eql 6 9,oM 1 49 50] qK2))
@[go_sem] theorem qy3:CE qK3.eq_1:=CEM qK3.eq_1
def YY:qJ:=⟨1,95,[.t 2],sr [oC 0 2 0] (.seq (sr qK6 (.blk 0 (sr [oE 0 8 .eql 6 5,oM 1 7 8] (.cond (.t 7) (sr qK7 (.blk 1 qK4)) qK3)))) (sr [oC 0 2 0] .ret))⟩
def K8:List qB:=[oM 0 7 0,oK 1 8 7,oF 2 9 0 8,oL 3 10 9,oE 4 11 .eql 10 1]
@[go_sem] theorem qm2:OE K8.eq_1:=OEM K8.eq_1
def K9:List qB:=[oM 0 12 0,oK 1 13 12,oF 2 14 1 13,oL 3 15 14,oM 4 16 1,oB 5 17 .eql 15 16]
@[go_sem] theorem qm3:OE K9.eq_1:=OEM K9.eq_1
def kA:List qB:=[oM 0 18 6,oM 1 19 0,oK 2 20 19,oF 3 21 3 20,oL 4 22 21,oW 5 23 22,oB 6 24 .lss 18 23]
@[go_sem] theorem qm4:OE kA.eq_1:=OEM kA.eq_1
def kB:List qB:=[oM 0 27 5,oM 1 28 0,oK 2 29 28,oF 3 30 3 29,oL 4 31 30,oM 5 32 6,oA 6 33 4 31 32,oM 7 34 1,oM 8 35 0,oM 9 36 6,⟨10,some 37,none,.call 1129 [.t 35,.t 36],[⟨4,some 31,none,.load none (.t 30),[]⟩]⟩,oB 11 38 .add 34 37,oD2 12 39 1121 33 38,oB 13 40 .add 27 39,oM 14 5 40]
@[go_sem] theorem qm5:OE kB.eq_1:=OEM kB.eq_1
def K6:qI:=sr [oC 0 6 0] (.blk 0 (.loop (.seq (sr kA (.cond (.t 24) .skip (.exit 0))) (.seq (.blk 1 (.reg true kB)) (.reg true [oM 0 25 6,oE 1 26 .add 25 1,oM 2 6 26])))))
@[go_sem] theorem qm0:CE K6.eq_1:=CEM K6.eq_1
def K7:qI:=.seq (sr K8 (.cond (.t 11) (.seq (sr K9 (.cond (.t 17) (sr [oC 0 4 1] .ret) .skip)) (sr [oC 0 4 0] .ret)) .skip)) (sr [oC 0 5 0] (.seq K6 (sr [oM 0 41 5,oM 1 4 41] .ret)))
@[go_sem] theorem qm1:CE K7.eq_1:=CEM K7.eq_1
def XA:qJ:=⟨2,42,[.t 4],sr [oC 0 4 0] K7⟩
def qL1:List qB:=[oM 0 9 0,oK 1 10 9,oF 2 11 0 10,oL 3 12 11,oM 4 13 0,oK 5 14 13,oF 6 15 1 14,oL 7 16 15,oM 8 17 0,oK 9 18 17,oF 10 19 2 18,oL 11 20 19,oZ 14 7,⟨12,some 21,none,.call 402 [.t 20],[⟨3,some 12,none,.load none (.t 11),[]⟩,⟨7,some 16,none,.load none (.t 15),[]⟩]⟩,oP 13 22 (.build (.agg [.int .i64 0,.int .i64 0,.nils,.nils]) [(0,1,.t 12),(1,1,.t 16),(2,1,.t 21)]),oS 15 7 0 4 22]
@[go_sem] theorem qz1:OE qL1.eq_1:=OEM qL1.eq_1
def qL2:List qB:=[oM 0 23 0,oK 1 24 23,oF 2 25 0 24,oL 3 26 25,oE 4 27 .eql 26 1,oM 5 28 27,oH 6 29 28 true 0,oG 7 30 28 true (.nilchk (.t 29)),oG 8 31 28 true (.faddr 1 (.t 30)),oG 9 32 28 true (.load none (.t 31)),oH 10 33 28 true 2,oG 11 34 28 true (.bin .geq (.t 32) (.t 33)),oPf 12 35 28 34]
@[go_sem] theorem qz2:OE qL2.eq_1:=OEM qL2.eq_1
def qL3:List qB:=[oU 0 36 7,oX 1 37 7 1,oM 2 38 1,oB 3 39 .add 37 38,oU 4 40 7,oS 5 7 1 1 39]
@[go_sem] theorem qz3:OE qL3.eq_1:=OEM qL3.eq_1
def qL4:List qB:=[oM 0 41 8,oM 1 42 0,oK 2 43 42,oF 3 44 3 43,oL 4 45 44,oW 5 46 45,oB 6 47 .lss 41 46]
@[go_sem] theorem qz4:OE qL4.eq_1:=OEM qL4.eq_1
def qL5:List qB:=[oU 0 50 7,oX 1 51 7 3,oM 2 52 0,oK 3 53 52,oF 4 54 3 53,oL 5 55 54,oM 6 56 8,oA 7 57 4 55 56,oM 8 58 1,oM 9 59 2,oM 10 60 0,oM 11 61 8,⟨12,some 62,none,.call 1129 [.t 60,.t 61],[⟨5,some 55,none,.load none (.t 54),[]⟩]⟩,oB 13 63 .add 59 62,oP 14 64 (.call 766 [.t 57,.t 58,.t 63]),oP 15 65 (.bslice 4 (.agg [.int .i64 0,.int .i64 0,.nils,.nils]) 1 [(0,.t 64)]),oP 16 66 (.app 4 (.t 51) (.t 65)),oU 17 67 7,oS 18 7 3 1 66]
@[go_sem] theorem qz5:OE qL5.eq_1:=OEM qL5.eq_1
def qL0:qI:=sr [oC 0 8 0] (.blk 0 (.loop (.seq (sr qL4 (.cond (.t 47) .skip (.exit 0))) (.seq (.blk 1 (.reg true qL5)) (.reg true [oM 0 48 8,oE 1 49 .add 48 1,oM 2 8 49])))))
@[go_sem] theorem qz0:CE qL0.eq_1:=CEM qL0.eq_1
def Yc:qJ:=⟨3,69,[.l 6 (some 4)],sr [oZ 0 6] (sr qL1 (.seq (sr qL2 (.cond (.t 35) (.reg true qL3) .skip)) (.seq qL0 (sr [oY 0 68 7 0 4,oS 1 6 0 4 68] .ret))))⟩
def kE:List qB:=[oM 0 10 0,oK 1 11 10,oF 2 12 0 11,oL 3 13 12,oE 4 14 .eql 13 1]
@[go_sem] theorem qm8:OE kE.eq_1:=OEM kE.eq_1
def kF:List qB:=[oM 0 15 0,oK 1 16 15,oF 2 17 1 16,oL 3 18 17,oM 4 19 2,oB 5 20 .eql 18 19]
@[go_sem] theorem qm9:OE kF.eq_1:=OEM kF.eq_1
def kG:List qB:=[oM 0 21 1,oM 1 22 2,oP 2 23 (.call 766 [.t 21,.t 22,.c (.int .i64 0)]),oS 3 6 0 4 23]
@[go_sem] theorem qnA:OE kG.eq_1:=OEM kG.eq_1
def kH:List qB:=[oM 0 24 0,oK 1 25 24,oF 2 26 1 25,oL 3 27 26,oP 4 28 (.build (.agg [.int .i64 0,.int .i64 0,.nils,.nils]) [(0,1,.c (.int .i64 1)),(1,1,.t 27)]),oZ 5 7,oS 6 7 0 4 28]
@[go_sem] theorem qnB:OE kH.eq_1:=OEM kH.eq_1
def kI:List qB:=[oM 0 29 0,oK 1 30 29,oF 2 31 1 30,oL 3 32 31,oM 4 33 2,oB 5 34 .gtr 32 33]
@[go_sem] theorem qnC:OE kI.eq_1:=OEM kI.eq_1
def kJ:List qB:=[oU 0 35 7,oX 1 36 7 1,oE 2 37 .sub 36 1,oU 3 38 7,oS 4 7 1 1 37]
@[go_sem] theorem qnD:OE kJ.eq_1:=OEM kJ.eq_1
def kD:qI:=sr kE (.cond (.t 14) (.seq (sr kF (.cond (.t 20) (sr kG .ret) .skip)) (sr kH (.seq (sr kI (.cond (.t 34) (.reg true kJ) .skip)) (sr [oY 0 39 7 0 4,oS 1 6 0 4 39] .ret)))) .skip)
@[go_sem] theorem qm7:CE kD.eq_1:=CEM kD.eq_1
def kK:List qB:=[oM 0 40 0,oK 1 41 40,oF 2 42 0 41,oL 3 43 42,oM 4 44 0,oK 5 45 44,oF 6 46 1 45,oL 7 47 46,oM 8 48 0,oK 9 49 48,oF 10 50 2 49,oL 11 51 50,oZ 14 8,⟨12,some 52,none,.call 402 [.t 51],[⟨3,some 43,none,.load none (.t 42),[]⟩,⟨7,some 47,none,.load none (.t 46),[]⟩]⟩,oP 13 53 (.build (.agg [.int .i64 0,.int .i64 0,.nils,.nils]) [(0,1,.t 43),(1,1,.t 47),(2,1,.t 52)]),oS 15 8 0 4 53]
@[go_sem] theorem qnE:OE kK.eq_1:=OEM kK.eq_1
def kL:List qB:=[oM 0 54 9,oM 1 55 0,oK 2 56 55,oF 3 57 3 56,oL 4 58 57,oW 5 59 58,oB 6 60 .lss 54 59]
@[go_sem] theorem qnF:OE kL.eq_1:=OEM kL.eq_1
def kM:List qB:=[oU 0 63 8,oX 1 64 8 3,oM 2 65 0,oK 3 66 65,oF 4 67 3 66,oL 5 68 67,oM 6 69 9,oA 7 70 4 68 69,oM 8 71 1,oM 9 72 2,oM 10 73 0,oM 11 74 9,⟨12,some 75,none,.call 1129 [.t 73,.t 74],[⟨5,some 68,none,.load none (.t 67),[]⟩]⟩,oB 13 76 .add 72 75,oP 14 77 (.call 1122 [.t 70,.t 71,.t 76]),oP 15 78 (.bslice 4 (.agg [.int .i64 0,.int .i64 0,.nils,.nils]) 1 [(0,.t 77)]),oP 16 79 (.app 4 (.t 64) (.t 78)),oU 17 80 8,oS 18 8 3 1 79]
@[go_sem] theorem qnG:OE kM.eq_1:=OEM kM.eq_1
def kC:qI:=sr [oC 0 9 0] (.blk 0 (.loop (.seq (sr kL (.cond (.t 60) .skip (.exit 0))) (.seq (.blk 1 (.reg true kM)) (.reg true [oM 0 61 9,oE 1 62 .add 61 1,oM 2 9 62])))))
@[go_sem] theorem qm6:CE kC.eq_1:=CEM kC.eq_1
def XB:qJ:=⟨3,82,[.l 6 (some 4)],sr [oZ 0 6] (.seq kD (sr kK (.seq kC (sr [oY 0 81 8 0 4,oS 1 6 0 4 81] .ret))))⟩
def kR:List qB:=[oM 0 5 0,oK 1 6 5,oF 2 7 0 6,oL 3 8 7,oE 4 9 .eql 8 1]
@[go_sem] theorem qnL:OE kR.eq_1:=OEM kR.eq_1
def kS:List qB:=[oM 0 10 0,oK 1 11 10,oF 2 12 1 11,oL 3 13 12,oM 4 3 13]
@[go_sem] theorem qnM:OE kS.eq_1:=OEM kS.eq_1
def kT:List qB:=[oM 0 14 4,oM 1 15 0,oK 2 16 15,oF 3 17 3 16,oL 4 18 17,oW 5 19 18,oB 6 20 .lss 14 19]
@[go_sem] theorem qnN:OE kT.eq_1:=OEM kT.eq_1
def kU:List qB:=[oM 0 23 3,oM 1 24 0,oK 2 25 24,oF 3 26 3 25,oL 4 27 26,oM 5 28 4,oA 6 29 4 27 28,oD1 7 30 1124 29,oD2 8 31 856 23 30,oM 9 3 31]
@[go_sem] theorem qnO:OE kU.eq_1:=OEM kU.eq_1
def kQ:qI:=sr [oC 0 4 0] (.blk 0 (.loop (.seq (sr kT (.cond (.t 20) .skip (.exit 0))) (.seq (.blk 1 (.reg true kU)) (.reg true [oM 0 21 4,oE 1 22 .add 21 1,oM 2 4 22])))))
@[go_sem] theorem qnK:CE kQ.eq_1:=CEM kQ.eq_1
def XD:qJ:=⟨1,33,[.t 2],sr [oC 0 2 0] (sr [oP 0 3 (.mov (.c (.int .i64 (-1))))] (.seq (sr kR (.cond (.t 9) (.reg true kS) .skip)) (.seq kQ (sr [oM 0 32 3,oM 1 2 32] .ret))))⟩
def qLG:List qB:=[oM 0 10 0,oP 1 11 (.call 643 [.t 10,.c (.int .i64 80),.c (.int .i64 400)]),oM 2 12 6,oM 3 13 1,oP 4 14 (.call 643 [.t 13,.c (.int .i64 80),.c (.int .i64 400)]),oE 5 15 .sub 14 1,oB 6 16 .mul 12 15,oB 7 17 .add 11 16,oE 8 18 .gtr 17 400]
@[go_sem] theorem qzG:OE qLG.eq_1:=OEM qLG.eq_1
def qLH:List qB:=[oM 0 20 0,oM 1 21 1,oP 2 22 (.call 1122 [.t 20,.t 21,.c (.int .i64 0)]),oP 3 7 (.halloc 4 (.agg [.int .i64 0,.int .i64 0,.nils,.nils])),oT 4 4 7 22]
@[go_sem] theorem qzH:OE qLH.eq_1:=OEM qLH.eq_1
def qLE:qI:=.seq (sr [oD1 0 26 1124 7,oE 1 27 .gtr 26 255] (.cond (.t 27) (sr [oP 0 28 (.build (.agg [.int .i64 0,.int .i64 0,.nils,.nils]) []),oS 1 4 0 4 28,oC 2 5 2] .ret) .skip)) (sr [oP 0 29 (.load (some 4) (.t 7)),oS 1 4 0 4 29,oC 2 5 0] .ret)
@[go_sem] theorem qzE:CE qLE.eq_1:=CEM qLE.eq_1
def qLF:qI:=.seq (sr qLG (.cond (.t 18) (sr [oP 0 19 (.build (.agg [.int .i64 0,.int .i64 0,.nils,.nils]) []),oS 1 4 0 4 19,oC 2 5 4] .ret) .skip)) (sr qLH (.seq (sr [oD1 0 23 1123 7,oE 1 24 .gtr 23 80] (.cond (.t 24) (sr [oP 0 25 (.build (.agg [.int .i64 0,.int .i64 0,.nils,.nils]) []),oS 1 4 0 4 25,oC 2 5 4] .ret) .skip)) qLE))
@[go_sem] theorem qzF:CE qLF.eq_1:=CEM qLF.eq_1
def YZ:qJ:=⟨2,30,[.l 4 (some 4),.t 5],sr [oZ 0 4,oC 1 5 0] (sr [oM 0 8 0,oP 1 9 (.call 1121 [.t 8,.c (.int .i64 0)]),oM 2 6 9] qLF)⟩
def kV:List qB:=[oM 0 3 0,oP 1 4 (.conv .u64 (.t 3)),oP 2 5 (.conv .u32 (.t 4)),oP 3 6 (.conv .i32 (.t 5)),oP 4 7 (.conv .i64 (.t 6)),oM 5 2 7]
@[go_sem] theorem qnP:OE kV.eq_1:=OEM kV.eq_1
def XE:qJ:=⟨1,8,[.t 2],sr [oC 0 2 0] (sr kV .ret)⟩
def XF:qJ:=⟨1,4,[.t 2],sr [oC 0 2 0] (.seq (sr [oM 0 3 0] (.cond (.t 3) (sr [oC 0 2 1] .ret) .skip)) (sr [oC 0 2 0] .ret))⟩
def qLL:List qB:=[oM 0 16 7,oM 1 17 8,oB 2 18 .add 16 17,oD1 3 19 1125 18,oM 4 6 19]
@[go_sem] theorem qzL:OE qLL.eq_1:=OEM qLL.eq_1
def qLM:List qB:=[oM 0 22 7,oM 1 23 8,oB 2 24 .sub 22 23,oD1 3 25 1125 24,oM 4 6 25]
@[go_sem] theorem qzM:OE qLM.eq_1:=OEM qLM.eq_1
def qLN:List qB:=[oM 0 28 7,oM 1 29 8,oB 2 30 .mul 28 29,oD1 3 31 1125 30,oM 4 6 31]
@[go_sem] theorem qzN:OE qLN.eq_1:=OEM qLN.eq_1
def qLO:List qB:=[oM 0 36 7,oM 1 37 8,oB 2 38 .quo 36 37,oD1 3 39 1125 38,oM 4 6 39]
@[go_sem] theorem qzO:OE qLO.eq_1:=OEM qLO.eq_1
def qLP:List qB:=[oM 0 42 7,oM 1 43 8,oB 2 44 .lss 42 43,oD1 3 45 1126 44,oM 4 6 45]
@[go_sem] theorem qzP:OE qLP.eq_1:=OEM qLP.eq_1
def qLQ:List qB:=[oM 0 48 7,oM 1 49 8,oB 2 50 .eql 48 49,oD1 3 51 1126 50,oM 4 6 51]
@[go_sem] theorem qzQ:OE qLQ.eq_1:=OEM qLQ.eq_1
def qLI:qI:=.cond (.t 32) (.seq (sr [oM 0 34 8,oE 1 35 .eql 34 0] (.cond (.t 35) (sr [oC 0 6 0] .ret) .skip)) (sr qLO .ret)) (sr [oE 0 41 .eql 13 5,oM 1 40 41] (.cond (.t 40) (sr qLP .ret) (sr [oE 0 47 .eql 13 6,oM 1 46 47] (.cond (.t 46) (sr qLQ .ret) .skip))))
@[go_sem] theorem qzI:CE qLI.eq_1:=CEM qLI.eq_1
def qLJ:qI:=sr [oE 0 21 .eql 13 2,oM 1 20 21] (.cond (.t 20) (sr qLM .ret) (sr [oE 0 27 .eql 13 3,oM 1 26 27] (.cond (.t 26) (sr qLN .ret) (sr [oE 0 33 .eql 13 4,oM 1 32 33] qLI))))
@[go_sem] theorem qzJ:CE qLJ.eq_1:=CEM qLJ.eq_1
def qLK:qI:=sr [oM 0 11 2,oD1 1 12 1125 11,oM 2 8 12] (.seq (sr [oM 0 13 0] (.blk 0 (sr [oE 0 15 .eql 13 1,oM 1 14 15] (.cond (.t 14) (sr qLL .ret) qLJ)))) (sr [oC 0 6 0] .ret))
@[go_sem] theorem qzK:CE qLK.eq_1:=CEM qLK.eq_1
def Ya:qJ:=⟨3,52,[.t 6],sr [oC 0 6 0] (sr [oM 0 9 1,oD1 1 10 1125 9,oM 2 7 10] qLK)⟩
def qHH:List qB:=[oM 0 7 0,oM 1 8 1,oM 2 9 2,oP 3 10 (.build (.agg [.int .i64 0,.int .i64 0,.nils,.nils]) [(0,1,.t 7),(1,1,.t 8),(3,1,.t 9)]),oS 4 6 0 4 10]
@[go_sem] theorem qvH:OE qHH.eq_1:=OEM qHH.eq_1
def X2:qJ:=⟨3,11,[.l 6 (some 4)],sr [oZ 0 6] (sr qHH .ret)⟩
def Kr:List qB:=[oY 0 5 2 0 4,oY 1 6 3 0 4,oP 2 7 (.bslice 4 (.agg [.int .i64 0,.int .i64 0,.nils,.nils]) 2 [(0,.t 5),(1,.t 6)]),oP 3 8 (.call 382 [.c (.int .i64 5),.c (.int .i64 0),.t 7]),oS 4 4 0 4 8]
@[go_sem] theorem qmL:OE Kr.eq_1:=OEM Kr.eq_1
def W6:qJ:=⟨2,9,[.l 4 (some 4)],sr [oP 0 2 (.lbox 4 (.t 0)),oP 1 3 (.lbox 4 (.t 1)),oZ 2 4] (sr Kr .ret)⟩
def XG:qJ:=⟨1,5,[.l 2 (some 4)],sr [oZ 0 2] (sr [oM 0 3 0,oP 1 4 (.build (.agg [.int .i64 0,.int .i64 0,.nils,.nils]) [(0,1,.c (.int .i64 11)),(1,1,.t 3)]),oS 2 2 0 4 4] .ret)⟩
def qLS:List qB:=[oM 0 7 0,oK 1 8 7,oF 2 9 0 8,oL 3 10 9,oE 4 11 .eql 10 10]
@[go_sem] theorem qzS:OE qLS.eq_1:=OEM qLS.eq_1
def qLT:List qB:=[oM 0 12 0,oK 1 13 12,oF 2 14 3 13,oL 3 15 14,oP 4 16 (.iaddr 4 (.t 15) (.c (.int .i64 0))),oF 5 17 1 16,oL 6 18 17,oE 7 19 .neq 18 0]
@[go_sem] theorem qzT:OE qLT.eq_1:=OEM qLT.eq_1
def qLU:List qB:=[oM 0 20 0,oK 1 21 20,oF 2 22 2 21,oL 3 23 22,oP 4 24 (.iaddr 1 (.t 23) (.c (.int .i64 0))),oL 5 25 24,oD1 6 26 1127 25,oS 7 4 0 4 26]
@[go_sem] theorem qzU:OE qLU.eq_1:=OEM qLU.eq_1
def qLV:List qB:=[oM 0 27 0,oK 1 28 27,oF 2 29 2 28,oL 3 30 29,oP 4 31 (.iaddr 1 (.t 30) (.c (.int .i64 1))),oL 5 32 31,oD1 6 33 1127 32,oS 7 4 0 4 33]
@[go_sem] theorem qzV:OE qLV.eq_1:=OEM qLV.eq_1
def qLW:List qB:=[oM 0 34 0,oK 1 35 34,oF 2 36 2 35,oL 3 37 36,oM 4 38 0,oK 5 39 38,oF 6 40 3 39,oL 7 41 40,oP 8 42 (.iaddr 4 (.t 41) (.c (.int .i64 0))),oF 9 43 1 42,oL 10 44 43,oA 11 45 1 37 44,oL 12 46 45,oZ 14 5,oD1 13 47 1127 46,oS 15 5 0 4 47]
@[go_sem] theorem qzW:OE qLW.eq_1:=OEM qLW.eq_1
def qLX:List qB:=[oM 0 48 6,oM 1 49 1,oW 2 50 49,oB 3 51 .lss 48 50]
@[go_sem] theorem qzX:OE qLX.eq_1:=OEM qLX.eq_1
def qLY:List qB:=[oY 0 54 5 0 4,oM 1 55 1,oM 2 56 6,oA 3 57 4 55 56,oP 4 58 (.load (some 4) (.t 57)),oD2 5 59 1117 54 58,oS 6 5 0 4 59]
@[go_sem] theorem qzY:OE qLY.eq_1:=OEM qLY.eq_1
def qLR:qI:=sr [oC 0 6 0] (.blk 0 (.loop (.seq (sr qLX (.cond (.t 51) .skip (.exit 0))) (.seq (.blk 1 (.reg true qLY)) (.reg true [oM 0 52 6,oE 1 53 .add 52 1,oM 2 6 53])))))
@[go_sem] theorem qzR:CE qLR.eq_1:=CEM qLR.eq_1
def Zp:qJ:=⟨2,61,[.l 4 (some 4)],sr [oZ 0 4] (.seq (sr qLS (.cond (.t 11) (.seq (sr qLT (.cond (.t 19) (sr qLU .ret) .skip)) (sr qLV .ret)) .skip)) (sr qLW (.seq qLR (sr [oY 0 60 5 0 4,oS 1 4 0 4 60] .ret))))⟩
def qFI:List qB:=[oM 0 5 4,oM 1 6 0,oK 2 7 6,oF 3 8 3 7,oL 4 9 8,oW 5 10 9,oB 6 11 .lss 5 10]
@[go_sem] theorem qtI:OE qFI.eq_1:=OEM qFI.eq_1
def qFJ:List qB:=[oM 0 14 3,oM 1 15 0,oK 2 16 15,oF 3 17 3 16,oL 4 18 17,oM 5 19 4,oA 6 20 4 18 19,oD1 7 21 1504 20,oB 8 22 .add 14 21,oM 9 3 22]
@[go_sem] theorem qtJ:OE qFJ.eq_1:=OEM qFJ.eq_1
def qFH:qI:=sr [oC 0 4 0] (.blk 0 (.loop (.seq (sr qFI (.cond (.t 11) .skip (.exit 0))) (.seq (.blk 1 (.reg true qFJ)) (.reg true [oM 0 12 4,oE 1 13 .add 12 1,oM 2 4 13])))))
@[go_sem] theorem qtH:CE qFH.eq_1:=CEM qFH.eq_1
def Xs:qJ:=⟨1,24,[.t 2],sr [oC 0 2 0] (sr [oC 0 3 1] (.seq qFH (sr [oM 0 23 3,oM 1 2 23] .ret)))⟩
def qFM:List qB:=[oM 0 5 4,oM 1 6 0,oK 2 7 6,oF 3 8 3 7,oL 4 9 8,oW 5 10 9,oB 6 11 .lss 5 10]
@[go_sem] theorem qtM:OE qFM.eq_1:=OEM qFM.eq_1
def qFN:List qB:=[oM 0 14 3,oM 1 15 0,oK 2 16 15,oF 3 17 3 16,oL 4 18 17,oM 5 19 4,oA 6 20 4 18 19,oD1 7 21 1505 20,oD2 8 22 856 14 21,oM 9 3 22]
@[go_sem] theorem qtN:OE qFN.eq_1:=OEM qFN.eq_1
def qFK:qI:=sr [oC 0 4 0] (.blk 0 (.loop (.seq (sr qFM (.cond (.t 11) .skip (.exit 0))) (.seq (.blk 1 (.reg true qFN)) (.reg true [oM 0 12 4,oE 1 13 .add 12 1,oM 2 4 13])))))
@[go_sem] theorem qtK:CE qFK.eq_1:=CEM qFK.eq_1
def qFO:List qB:=[oM 0 23 0,oK 1 24 23,oF 2 25 0 24,oL 3 26 25,oE 4 27 .eql 26 6]
@[go_sem] theorem qtO:OE qFO.eq_1:=OEM qFO.eq_1
def qFL:qI:=sr [oC 0 3 0] (.seq qFK (.seq (sr qFO (.cond (.t 27) (.reg true [oM 0 28 3,oE 1 29 .add 28 1,oM 2 3 29]) .skip)) (sr [oM 0 30 3,oM 1 2 30] .ret)))
@[go_sem] theorem qtL:CE qFL.eq_1:=CEM qFL.eq_1
def Xt:qJ:=⟨1,31,[.t 2],sr [oC 0 2 0] qFL⟩
def qEM:List qB:=[oM 0 9 1,oK 1 10 9,oF 2 11 3 10,oL 3 12 11,oP 4 13 (.iaddr 4 (.t 12) (.c (.int .i64 0))),oF 5 14 0 13,oL 6 15 14,oE 7 16 .neq 15 11]
@[go_sem] theorem qsM:OE qEM.eq_1:=OEM qEM.eq_1
def qEN:List qB:=[oM 0 17 1,oK 1 18 17,oF 2 19 3 18,oL 3 20 19,oP 4 21 (.iaddr 4 (.t 20) (.c (.int .i64 0))),oF 5 22 1 21,oL 6 23 22,oM 7 7 23]
@[go_sem] theorem qsN:OE qEN.eq_1:=OEM qEN.eq_1
def qEO:List qB:=[oM 0 24 0,oK 1 25 24,oF 2 26 0 25,oL 3 27 26,oK 4 28 27,oF 5 29 0 28,oL 6 30 29,oM 7 31 7,oA 8 32 4 30 31,oM 9 8 32]
@[go_sem] theorem qsO:OE qEO.eq_1:=OEM qEO.eq_1
def qEP:List qB:=[oM 0 33 8,oK 1 34 33,oF 2 35 0 34,oL 3 36 35,oE 4 37 .eql 36 4,oM 5 38 37,oH 6 39 38 true 0,oG 7 40 38 true (.nilchk (.t 39)),oG 8 41 38 true (.faddr 1 (.t 40)),oG 9 42 38 true (.load none (.t 41)),oH 10 43 38 true 7,oG 11 44 38 true (.call 1026 [.t 42,.t 43]),oG 12 45 38 true (.not (.t 44)),oPf 13 46 38 45,oM 14 47 46,oH 15 48 47 true 8,oH 17 50 47 true 0,oG 18 51 47 true (.nilchk (.t 50)),oG 19 52 47 true (.faddr 2 (.t 51)),oG 20 53 47 true (.load none (.t 52)),⟨16,some 49,(some (47,true)),.call 1504 [.t 48],[⟨20,some 53,(some (47,true)),.load none (.t 52),[]⟩]⟩,oG 21 54 47 true (.bin .leq (.t 49) (.t 53)),oPf 22 55 47 54,oM 23 56 55,oH 24 57 56 true 2,oH 25 58 56 true 8,oG 26 59 56 true (.call 1505 [.t 58]),oG 27 60 56 true (.bin .add (.t 57) (.t 59)),oG 28 61 56 true (.bin .leq (.t 60) (.c (.int .i64 8))),oPf 29 62 56 61,oM 30 6 62]
@[go_sem] theorem qsP:OE qEP.eq_1:=OEM qEP.eq_1
def Xl:qJ:=⟨3,63,[.t 6],sr [oQ 0 6 false] (.seq (sr qEM (.cond (.t 16) (sr [oQ 0 6 false] .ret) .skip)) (sr qEN (sr qEO (sr qEP .ret))))⟩
def qER:List qB:=[oM 0 10 1,oK 1 11 10,oF 2 12 3 11,oL 3 13 12,oP 4 14 (.iaddr 4 (.t 13) (.c (.int .i64 0))),oM 5 8 14]
@[go_sem] theorem qsR:OE qER.eq_1:=OEM qER.eq_1
def qES:List qB:=[oM 0 15 1,oK 1 16 15,oF 2 17 3 16,oL 3 18 17,oP 4 19 (.iaddr 4 (.t 18) (.c (.int .i64 1))),oM 5 20 2,oP 6 21 (.call 990 [.t 19,.c (.int .i64 0),.t 20,.c (.nils)]),oM 7 9 21]
@[go_sem] theorem qsS:OE qES.eq_1:=OEM qES.eq_1
def qET:List qB:=[oM 0 23 9,oW 1 24 23,oE 2 25 .eql 24 0,oM 3 26 25,oH 4 27 26 false 8,oG 5 28 26 false (.nilchk (.t 27)),oG 6 29 26 false (.faddr 0 (.t 28)),oG 7 30 26 false (.load none (.t 29)),oG 8 31 26 false (.bin .eql (.t 30) (.c (.int .i64 2))),oPt 9 32 26 31,oM 10 22 32]
@[go_sem] theorem qsT:OE qET.eq_1:=OEM qET.eq_1
def qEU:List qB:=[oM 0 33 8,oK 1 34 33,oP 2 35 (.load (some 4) (.t 34)),oS 3 6 0 4 35,oC 4 7 0]
@[go_sem] theorem qsU:OE qEU.eq_1:=OEM qEU.eq_1
def qEV:List qB:=[oM 0 37 8,oK 1 38 37,oF 2 39 0 38,oL 3 40 39,oE 4 41 .eql 40 6,oM 5 42 41,oH 6 43 42 true 8,oG 7 44 42 true (.nilchk (.t 43)),oG 8 45 42 true (.faddr 3 (.t 44)),oG 9 46 42 true (.load none (.t 45)),oG 10 47 42 true (.iaddr 4 (.t 46) (.c (.int .i64 0))),oG 11 48 42 true (.faddr 0 (.t 47)),oG 12 49 42 true (.load none (.t 48)),oG 13 50 42 true (.bin .eql (.t 49) (.c (.int .i64 2))),oPf 14 51 42 50,oM 15 36 51]
@[go_sem] theorem qsV:OE qEV.eq_1:=OEM qEV.eq_1
def qEW:List qB:=[oM 0 52 8,oK 1 53 52,oF 2 54 3 53,oL 3 55 54,oP 4 56 (.iaddr 4 (.t 55) (.c (.int .i64 0))),oP 5 57 (.load (some 4) (.t 56)),oS 6 6 0 4 57,oC 7 7 0]
@[go_sem] theorem qsW:OE qEW.eq_1:=OEM qEW.eq_1
def qEX:List qB:=[oM 0 59 9,oW 1 60 59,oE 2 61 .eql 60 1,oM 3 62 61,oH 4 63 62 true 9,oG 5 64 62 true (.iaddr 1 (.t 63) (.c (.int .i64 0))),oG 6 65 62 true (.load none (.t 64)),oH 7 66 62 true 2,oG 8 67 62 true (.bin .eql (.t 65) (.t 66)),oPf 9 68 62 67,oM 10 58 68]
@[go_sem] theorem qsX:OE qEX.eq_1:=OEM qEX.eq_1
def qEY:List qB:=[oM 0 69 8,oK 1 70 69,oP 2 71 (.load (some 4) (.t 70)),oS 3 6 0 4 71,oC 4 7 0]
@[go_sem] theorem qsY:OE qEY.eq_1:=OEM qEY.eq_1
def qEZ:List qB:=[oM 0 73 9,oW 1 74 73,oE 2 75 .eql 74 1,oM 3 76 75,oH 4 77 76 true 8,oG 5 78 76 true (.nilchk (.t 77)),oG 6 79 76 true (.faddr 0 (.t 78)),oG 7 80 76 true (.load none (.t 79)),oG 8 81 76 true (.bin .eql (.t 80) (.c (.int .i64 6))),oPf 9 82 76 81,oM 10 72 82]
@[go_sem] theorem qsZ:OE qEZ.eq_1:=OEM qEZ.eq_1
def qE0:List qB:=[oM 0 83 8,oK 1 84 83,oF 2 85 3 84,oL 3 86 85,oP 4 87 (.iaddr 4 (.t 86) (.c (.int .i64 0))),oP 5 88 (.load (some 4) (.t 87)),oS 6 6 0 4 88,oC 7 7 0]
@[go_sem] theorem qs0:OE qE0.eq_1:=OEM qE0.eq_1
def qEQ:qI:=.seq (.blk 0 (sr qET (.cond (.t 22) (sr qEU .ret) (sr qEV (.cond (.t 36) (sr qEW .ret) (sr qEX (.cond (.t 58) (sr qEY .ret) (sr qEZ (.cond (.t 72) (sr qE0 .ret) .skip))))))))) (sr [oP 0 89 (.build (.agg [.int .i64 0,.int .i64 0,.nils,.nils]) []),oS 1 6 0 4 89,oC 2 7 3] .ret)
@[go_sem] theorem qsQ:CE qEQ.eq_1:=CEM qEQ.eq_1
def Zn:qJ:=⟨3,90,[.l 6 (some 4),.t 7],sr [oZ 0 6,oC 1 7 0] (sr qER (sr qES qEQ))⟩
def qAH:List qB:=[oM 0 15 1,oK 1 16 15,oF 2 17 0 16,oL 3 18 17]
@[go_sem] theorem qoH:OE qAH.eq_1:=OEM qAH.eq_1
def qAI:List qB:=[oM 0 21 1,oK 1 22 21,oF 2 23 3 22,oL 3 24 23,oP 4 25 (.iaddr 4 (.t 24) (.c (.int .i64 0))),oF 5 26 0 25,oL 6 27 26,oE 7 28 .eql 27 2,oM 8 29 28,oH 9 30 29 true 1,oG 10 31 29 true (.nilchk (.t 30)),oG 11 32 29 true (.faddr 3 (.t 31)),oG 12 33 29 true (.load none (.t 32)),oG 13 34 29 true (.iaddr 4 (.t 33) (.c (.int .i64 1))),oG 14 35 29 true (.faddr 0 (.t 34)),oG 15 36 29 true (.load none (.t 35)),oG 16 37 29 true (.bin .eql (.t 36) (.c (.int .i64 2))),oPf 17 38 29 37]
@[go_sem] theorem qoL:OE qAI.eq_1:=OEM qAI.eq_1
def qAM:List qB:=[oM 0 39 1,oK 1 40 39,oF 2 41 1 40,oL 3 42 41,oM 4 43 1,oK 5 44 43,oF 6 45 3 44,oL 7 46 45,oP 8 47 (.iaddr 4 (.t 46) (.c (.int .i64 0))),oF 9 48 1 47,oL 10 49 48,oM 11 50 1,oK 12 51 50,oF 13 52 3 51,oL 14 53 52,oP 15 54 (.iaddr 4 (.t 53) (.c (.int .i64 1))),oF 16 55 1 54,oL 17 56 55,oP 18 57 (.call 762 [.t 42,.t 49,.t 56]),oD1 19 58 381 57,oS 20 6 0 4 58,oC 21 7 1,oC 22 8 0]
@[go_sem] theorem qoM:OE qAM.eq_1:=OEM qAM.eq_1
def qAN:List qB:=[oM 0 65 1,oM 1 66 1,oK 2 67 66,oF 3 68 3 67,oL 4 69 68,oP 5 70 (.iaddr 4 (.t 69) (.c (.int .i64 0))),oF 6 71 3 70,oL 7 72 71,oD2 8 73 763 65 72,oS 9 6 0 4 73,oC 10 7 2,oC 11 8 0]
@[go_sem] theorem qoN:OE qAN.eq_1:=OEM qAN.eq_1
def qAO:List qB:=[oM 0 76 1,oK 1 77 76,oF 2 78 3 77,oL 3 79 78,oP 4 80 (.iaddr 4 (.t 79) (.c (.int .i64 0))),oF 5 81 0 80,oL 6 82 81,oE 7 83 .eql 82 4]
@[go_sem] theorem qoO:OE qAO.eq_1:=OEM qAO.eq_1
def qAP:List qB:=[oM 0 85 1,oK 1 86 85,oF 2 87 3 86,oL 3 88 87,oP 4 89 (.iaddr 4 (.t 88) (.c (.int .i64 0))),oF 5 90 3 89,oL 6 91 90,oP 7 92 (.iaddr 4 (.t 91) (.c (.int .i64 0))),oM 8 93 1,oK 9 94 93,oF 10 95 3 94,oL 11 96 95,oP 12 97 (.iaddr 4 (.t 96) (.c (.int .i64 1))),oZ 17 9,oD2 13 98 761 92 97,oM 14 84 98,oV 15 99 84 0,oV 16 100 84 1,oS 18 9 0 4 99,oM 19 10 100]
@[go_sem] theorem qoP:OE qAP.eq_1:=OEM qAP.eq_1
def qAQ:List qB:=[oY 0 101 9 0 4,oM 1 102 10,oS 2 6 0 4 101,oC 3 7 3,oM 4 8 102]
@[go_sem] theorem qoQ:OE qAQ.eq_1:=OEM qAQ.eq_1
def qAR:List qB:=[oM 0 103 0,oM 1 104 1,oM 2 105 2,oP 3 106 (.call 1408 [.t 103,.t 104,.t 105])]
@[go_sem] theorem qoR:OE qAR.eq_1:=OEM qAR.eq_1
def qAS:List qB:=[oM 0 107 0,oK 1 108 107,oF 2 109 0 108,oL 3 110 109,oK 4 111 110,oF 5 112 0 111,oL 6 113 112,oM 7 114 1,oK 8 115 114,oF 9 116 3 115,oL 10 117 116,oP 11 118 (.iaddr 4 (.t 117) (.c (.int .i64 0))),oF 12 119 1 118,oL 13 120 119,oA 14 121 4 113 120,oP 15 122 (.load (some 4) (.t 121)),oM 16 123 1,oK 17 124 123,oF 18 125 3 124,oL 19 126 125,oP 20 127 (.iaddr 4 (.t 126) (.c (.int .i64 1))),oP 21 128 (.load (some 4) (.t 127)),oD2 22 129 1117 122 128,oS 23 6 0 4 129,oC 24 7 5,oC 25 8 0]
@[go_sem] theorem qoS:OE qAS.eq_1:=OEM qAS.eq_1
def qAT:List qB:=[oM 0 133 0,oM 1 134 1,oM 2 135 2,oP 3 136 (.call 1409 [.t 133,.t 134,.t 135]),oM 4 132 136,oV 5 137 132 0,oV 6 138 132 1,oP 7 11 (.halloc 4 (.agg [.int .i64 0,.int .i64 0,.nils,.nils])),oT 8 4 11 137,oM 9 12 138]
@[go_sem] theorem qoT:OE qAT.eq_1:=OEM qAT.eq_1
def qAJ:List qB:=[oM 0 142 1,oK 1 143 142,oF 2 144 3 143,oL 3 145 144,oP 4 146 (.iaddr 4 (.t 145) (.c (.int .i64 1))),oD2 5 147 761 146 11,oM 6 141 147,oV 7 148 141 0,oV 8 149 141 1,oZ 9 13,oS 10 13 0 4 148,oM 11 14 149]
@[go_sem] theorem qoI:OE qAJ.eq_1:=OEM qAJ.eq_1
def qAK:List qB:=[oY 0 150 13 0 4,oM 1 151 14,oS 2 6 0 4 150,oC 3 7 4,oM 4 8 151]
@[go_sem] theorem qoJ:OE qAK.eq_1:=OEM qAK.eq_1
def qAE:qI:=sr [oE 0 131 .eql 18 7,oM 1 130 131] (.cond (.t 130) (sr qAT (sr [oM 0 139 12,oE 1 140 .eql 139 0] (.cond (.t 140) (sr qAJ (sr qAK .ret)) .skip))) .skip)
@[go_sem] theorem qoE:CE qAE.eq_1:=CEM qAE.eq_1
def qAF:qI:=.cond (.t 59) (sr [oM 0 62 1,oD1 1 63 760 62,oE 2 64 .eql 63 3] (.cond (.t 64) (sr qAN .ret) .skip)) (sr [oE 0 75 .eql 18 5,oM 1 74 75] (.cond (.t 74) (.seq (sr qAO (.cond (.t 83) (sr qAP (sr qAQ .ret)) .skip)) (sr qAR (.cond (.t 106) (sr qAS .ret) .skip))) qAE))
@[go_sem] theorem qoF:CE qAF.eq_1:=CEM qAF.eq_1
def qAG:qI:=sr [oE 0 20 .eql 18 3,oM 1 19 20] (.cond (.t 19) (sr qAI (.cond (.t 38) (sr qAM .ret) .skip)) (.seq (sr [oE 0 60 .eql 18 10,oM 1 59 60] (.cond (.t 59) .skip (.reg true [oE 0 61 .eql 18 9,oM 1 59 61]))) qAF))
@[go_sem] theorem qoG:CE qAG.eq_1:=CEM qAG.eq_1
def qAL:List qB:=[oP 0 152 (.build (.agg [.int .i64 0,.int .i64 0,.nils,.nils]) []),oS 1 6 0 4 152,oC 2 7 0,oC 3 8 0]
@[go_sem] theorem qoK:OE qAL.eq_1:=OEM qAL.eq_1
def Zm:qJ:=⟨3,153,[.l 6 (some 4),.t 7,.t 8],sr [oZ 0 6,oC 1 7 0,oC 2 8 0] (.seq (sr qAH (.blk 0 qAG)) (sr qAL .ret))⟩
def qM4:List qB:=[oM 0 18 0,oM 1 19 1,oM 2 20 2,oP 3 21 (.call 1163 [.t 18,.t 19,.t 20]),oM 4 17 21,oV 5 22 17 0,oV 6 23 17 1,oV 7 24 17 2,oZ 8 9,oS 9 9 0 4 22,oM 10 10 23,oM 11 11 24]
@[go_sem] theorem zA4:OE qM4.eq_1:=OEM qM4.eq_1
def qM5:List qB:=[oY 0 27 9 0 4,oM 1 28 10,oM 2 29 11,oS 3 6 0 4 27,oM 4 7 28,oM 5 8 29]
@[go_sem] theorem zA5:OE qM5.eq_1:=OEM qM5.eq_1
def qM6:List qB:=[oM 0 30 1,oK 1 31 30,oF 2 32 0 31,oL 3 33 32,oE 4 34 .eql 33 6]
@[go_sem] theorem zA6:OE qM6.eq_1:=OEM qM6.eq_1
def qM7:List qB:=[oM 0 37 12,oM 1 38 1,oK 2 39 38,oF 3 40 3 39,oL 4 41 40,oW 5 42 41,oB 6 43 .lss 37 42]
@[go_sem] theorem zA7:OE qM7.eq_1:=OEM qM7.eq_1
def qM8:List qB:=[oM 0 47 0,oM 1 48 1,oK 2 49 48,oF 3 50 3 49,oL 4 51 50,oM 5 52 12,oA 6 53 4 51 52,oM 7 54 2,oP 8 55 (.call 836 [.t 47,.t 53,.t 54]),oM 9 46 55,oV 10 56 46 0,oV 11 57 46 1,oV 12 58 46 2,oZ 13 13,oS 14 13 0 4 56,oM 15 14 57,oM 16 15 58]
@[go_sem] theorem zA8:OE qM8.eq_1:=OEM qM8.eq_1
def qM9:List qB:=[oM 0 61 1,oK 1 62 61,oF 2 63 0 62,oL 3 64 63,oM 4 65 1,oK 5 66 65,oF 6 67 1 66,oL 7 68 67,oM 8 69 1,oK 9 70 69,oF 10 71 2 70,oL 11 72 71,oP 12 73 (.mov (.c (.lst 4 [] true))),oM 13 74 1,oK 14 75 74,oF 15 76 3 75,oL 16 77 76,oZ 19 16,⟨17,some 78,none,.app 4 (.t 73) (.t 77),[⟨3,some 64,none,.load none (.t 63),[]⟩,⟨7,some 68,none,.load none (.t 67),[]⟩,⟨11,some 72,none,.load none (.t 71),[]⟩]⟩,oP 18 79 (.build (.agg [.int .i64 0,.int .i64 0,.nils,.nils]) [(0,1,.t 64),(1,1,.t 68),(2,1,.t 72),(3,1,.t 78)]),oS 20 16 0 4 79]
@[go_sem] theorem zA9:OE qM9.eq_1:=OEM qM9.eq_1
def qNA:List qB:=[oU 0 80 16,oX 1 81 16 3,oM 2 82 12,oY 3 83 13 0 4,oA 4 84 4 81 82,oT 5 4 84 83]
@[go_sem] theorem zBA:OE qNA.eq_1:=OEM qNA.eq_1
def qNB:List qB:=[oY 0 85 16 0 4,oM 1 86 14,oM 2 87 15,oS 3 6 0 4 85,oM 4 7 86,oM 5 8 87]
@[go_sem] theorem zBB:OE qNB.eq_1:=OEM qNB.eq_1
def qM3:qI:=.seq (.blk 1 (sr qM8 (.seq (sr [oM 0 59 14,oE 1 60 .eql 59 0] (.cond (.t 60) (.exit 1) .skip)) (sr qM9 (sr qNA (sr qNB .ret)))))) (.reg true [oM 0 44 12,oE 1 45 .add 44 1,oM 2 12 45])
@[go_sem] theorem zA3:CE qM3.eq_1:=CEM qM3.eq_1
def qNC:List qB:=[oP 0 88 (.build (.agg [.int .i64 0,.int .i64 0,.nils,.nils]) []),oS 1 6 0 4 88,oC 2 7 0,oC 3 8 0]
@[go_sem] theorem zBC:OE qNC.eq_1:=OEM qNC.eq_1
def qM2:qI:=.seq (sr qM6 (.cond (.t 34) (.reg true [oM 0 35 2,oE 1 36 .add 35 1,oM 2 2 36]) .skip)) (.seq (sr [oC 0 12 0] (.blk 0 (.loop (.seq (sr qM7 (.cond (.t 43) .skip (.exit 0))) qM3)))) (sr qNC .ret))
@[go_sem] theorem zA2:CE qM2.eq_1:=CEM qM2.eq_1
def Zq:qJ:=⟨3,89,[.l 6 (some 4),.t 7,.t 8],sr [oZ 0 6,oC 1 7 0,oC 2 8 0] (sr qM4 (.seq (sr [oM 0 25 10,oE 1 26 .neq 25 0] (.cond (.t 26) (sr qM5 .ret) .skip)) qM2))⟩
def qHT:List qB:=[oM 0 11 0,oM 1 12 1,oP 2 13 (.call 836 [.t 11,.t 12,.c (.int .i64 0)]),oM 3 10 13,oV 4 14 10 0,oV 5 15 10 1,oV 6 16 10 2,oP 7 7 (.halloc 4 (.agg [.int .i64 0,.int .i64 0,.nils,.nils])),oT 8 4 7 14,oM 9 8 15,oM 10 9 16]
@[go_sem] theorem qvT:OE qHT.eq_1:=OEM qHT.eq_1
def qHU:List qB:=[oM 0 17 8,oE 1 18 .neq 17 0,oM 2 19 18,oH 3 20 19 true 9,oG 4 21 19 true (.bin .eql (.t 20) (.c (.int .i64 0))),oPf 5 22 19 21,oM 6 23 22,oG 7 24 23 true (.call 765 [.t 7]),oG 8 25 23 true (.not (.t 24)),oPf 9 26 23 25]
@[go_sem] theorem qvU:OE qHU.eq_1:=OEM qHU.eq_1
def qHV:List qB:=[oP 0 27 (.load (some 4) (.t 7)),oM 1 28 8,oM 2 29 9,oS 3 4 0 4 27,oM 4 5 28,oM 5 6 29]
@[go_sem] theorem qvV:OE qHV.eq_1:=OEM qHV.eq_1
def X8:qJ:=⟨2,30,[.l 4 (some 4),.t 5,.t 6],sr [oZ 0 4,oC 1 5 0,oC 2 6 0] (sr qHT (.seq (sr qHU (.cond (.t 26) (.reg true [oC 0 9 4]) .skip)) (sr qHV .ret)))⟩
def qHP:List qB:=[oP 0 5 (.mov (.c (.lst 1 [] true))),oM 1 6 0,oP 2 7 (.app 1 (.t 5) (.t 6)),oM 3 2 7]
@[go_sem] theorem qvP:OE qHP.eq_1:=OEM qHP.eq_1
def F401:qJ:=⟨1,8,[.t 2],sr [oP 0 2 (.mov (.c (.nils)))] (.seq (sr [oM 0 3 0,oP 1 4 (.isnil 1 false (.t 3))] (.cond (.t 4) (sr [oP 0 2 (.mov (.c (.nils)))] .ret) .skip)) (sr qHP .ret))⟩
def qHJ:List qB:=[oU 0 6 1,oX 1 7 1 0,oU 2 8 1,oX 3 9 1 1,oU 4 10 1,oX 5 11 1 2,oZ 8 3,oD1 6 12 401 11,oP 7 13 (.build (.agg [.int .i64 0,.int .i64 0,.nils,.nils]) [(0,1,.t 7),(1,1,.t 9),(2,1,.t 12)]),oS 9 3 0 4 13]
@[go_sem] theorem qvJ:OE qHJ.eq_1:=OEM qHJ.eq_1
def qHK:List qB:=[oU 0 14 1,oX 1 15 1 3,oW 2 16 15,oC 3 17 0]
@[go_sem] theorem qvK:OE qHK.eq_1:=OEM qHK.eq_1
def qHL:List qB:=[oA 0 19 4 15 17,oP 1 20 (.load (some 4) (.t 19)),oZ 2 5,oS 3 5 0 4 20]
@[go_sem] theorem qvL:OE qHL.eq_1:=OEM qHL.eq_1
def qHM:List qB:=[oU 0 21 3,oX 1 22 3 3,oY 2 23 5 0 4,oD1 3 24 385 23,oP 4 25 (.bslice 4 (.agg [.int .i64 0,.int .i64 0,.nils,.nils]) 1 [(0,.t 24)]),oP 5 26 (.app 4 (.t 22) (.t 25)),oU 6 27 3,oS 7 3 3 1 26]
@[go_sem] theorem qvM:OE qHM.eq_1:=OEM qHM.eq_1
def qHI:qI:=.loop (sr [oB 0 18 .lss 17 16] (.seq (.cond (.t 18) .skip (.exit 0)) (.seq (.blk 1 (sr qHL (.reg true qHM))) (.reg true [oE 0 28 .add 17 1,oM 1 17 28]))))
@[go_sem] theorem qvI:CE qHI.eq_1:=CEM qHI.eq_1
def X3:qJ:=⟨1,30,[.l 2 (some 4)],sr [oP 0 1 (.lbox 4 (.t 0)),oZ 1 2] (sr qHJ (.seq (sr qHK (.blk 0 qHI)) (sr [oY 0 29 3 0 4,oS 1 2 0 4 29] .ret)))⟩
def F774:qJ:=WH 1 none
def F397:qJ:=Qz 774
def qMJ:List qB:=[oM 0 4 0,oE 1 5 .lss 4 0,oM 2 6 5,oH 3 7 6 false 0,oG 4 8 6 false (.load none (.t 1)),oG 5 9 6 false (.bin .gtr (.t 7) (.t 8)),oPt 6 10 6 9,oM 7 3 10]
@[go_sem] theorem zAJ:OE qMJ.eq_1:=OEM qMJ.eq_1
def Yg:qJ:=⟨2,11,[.t 3],sr [oQ 0 3 false] (sr qMJ .ret)⟩
def qHR:List qB:=[oM 0 5 1,oP 1 6 (.mkfn 801 [.t 2]),oD2 2 7 397 5 6,oJ 3 8 7,oM 4 4 8]
@[go_sem] theorem qvR:OE qHR.eq_1:=OEM qHR.eq_1
def X6:qJ:=⟨2,9,[.t 4],sr [oP 0 2 (.hbox 1 (.t 0)),oQ 1 4 false] (sr qHR .ret)⟩
def F958:qJ:=WH 4 (some 4)
def F581:qJ:=Qz 958
def qJ2:List qB:=[oU 0 8 1,oX 1 9 1 3,oW 2 10 9,oC 3 11 0]
@[go_sem] theorem qx2:OE qJ2.eq_1:=OEM qJ2.eq_1
def qJ3:List qB:=[oA 0 13 4 9 11,oP 1 14 (.load (some 4) (.t 13)),oZ 2 5,oS 3 5 0 4 14]
@[go_sem] theorem qx3:OE qJ3.eq_1:=OEM qJ3.eq_1
def qJ4:List qB:=[oY 0 16 5 0 4,oD1 1 17 665 16,oM 2 15 17,oV 3 18 15 0,oV 4 19 15 1,oM 5 6 18,oM 6 7 19]
@[go_sem] theorem qx4:OE qJ4.eq_1:=OEM qJ4.eq_1
def qJ5:List qB:=[oM 0 20 2,oM 1 21 6,oE 2 22 .add 21 1,oP 3 23 (.max (.t 20) (.t 22)),oM 4 24 3,oM 5 25 7,oB 6 26 .add 24 25,oM 7 2 23,oM 8 3 26]
@[go_sem] theorem qx5:OE qJ5.eq_1:=OEM qJ5.eq_1
def qJ1:qI:=.loop (sr [oB 0 12 .lss 11 10] (.seq (.cond (.t 12) .skip (.exit 0)) (.seq (.blk 1 (sr qJ3 (sr qJ4 (.reg true qJ5)))) (.reg true [oE 0 27 .add 11 1,oM 1 11 27]))))
@[go_sem] theorem qx1:CE qJ1.eq_1:=CEM qJ1.eq_1
def qJ6:List qB:=[oM 0 28 2,oM 1 29 3,oM 2 2 28,oM 3 3 29]
@[go_sem] theorem qx6:OE qJ6.eq_1:=OEM qJ6.eq_1
def YT:qJ:=⟨1,30,[.t 2,.t 3],sr [oP 0 1 (.lbox 4 (.t 0)),oC 1 2 0,oC 2 3 0] (sr [oC 0 2 1,oC 1 3 1] (.seq (sr qJ2 (.blk 0 qJ1)) (sr qJ6 .ret)))⟩
def qIC:List qB:=[oY 0 6 1 0 4,oD1 1 7 665 6,oM 2 5 7,oV 3 8 5 0,oV 4 9 5 1,oM 5 3 8,oM 6 4 9]
@[go_sem] theorem qwC:OE qIC.eq_1:=OEM qIC.eq_1
def qID:List qB:=[oM 0 10 3,oE 1 11 .leq 10 80,oM 2 12 11,oH 3 13 12 true 4,oG 4 14 12 true (.bin .leq (.t 13) (.c (.int .i64 400))),oPf 5 15 12 14,oM 6 2 15]
@[go_sem] theorem qwD:OE qID.eq_1:=OEM qID.eq_1
def YB:qJ:=⟨1,16,[.t 2],sr [oP 0 1 (.lbox 4 (.t 0)),oQ 1 2 false] (sr qIC (sr qID .ret))⟩
def qMG:List qB:=[oM 0 3 0,oE 1 4 .geq 3 0,oM 2 5 4,oH 3 6 5 true 0,oG 4 7 5 true (.bin .lss (.t 6) (.c (.int .i64 24))),oPf 5 8 5 7,oM 6 2 8]
@[go_sem] theorem zAG:OE qMG.eq_1:=OEM qMG.eq_1
def Yf:qJ:=⟨1,9,[.t 2],sr [oQ 0 2 false] (sr qMG .ret)⟩
def KY:List qB:=[oM 0 3 0,oE 1 4 .geq 3 1,oM 2 5 4,oH 3 6 5 true 0,oG 4 7 5 true (.bin .leq (.t 6) (.c (.int .i64 6))),oPf 5 8 5 7,oM 6 2 8]
@[go_sem] theorem ql0:OE KY.eq_1:=OEM KY.eq_1
def W1:qJ:=⟨1,9,[.t 2],sr [oQ 0 2 false] (sr KY .ret)⟩
def KZ:List qB:=[oM 0 3 0,oP 1 4 (.bin .geq (.t 3) (.c (.int .i64 (-2147483648)))),oM 2 5 4,oH 3 6 5 true 0,oG 4 7 5 true (.bin .leq (.t 6) (.c (.int .i64 2147483647))),oPf 5 8 5 7,oM 6 2 8]
@[go_sem] theorem ql1:OE KZ.eq_1:=OEM KZ.eq_1
def W2:qJ:=⟨1,9,[.t 2],sr [oQ 0 2 false] (sr KZ .ret)⟩
def qED:List qB:=[oM 0 3 0,oD1 1 4 796 3,oJ 2 5 4,oM 3 2 5]
@[go_sem] theorem qsD:OE qED.eq_1:=OEM qED.eq_1
def Xj:qJ:=⟨1,6,[.t 2],sr [oQ 0 2 false] (sr qED .ret)⟩
def kj:List qB:=[oU 0 7 1,oX 1 8 1 3,oW 2 9 8,oM 3 3 9]
@[go_sem] theorem qnZ:OE kj.eq_1:=OEM kj.eq_1
def kn:List qB:=[oU 0 10 1,oX 1 11 1 2,oW 2 12 11,oE 3 13 .eql 12 0,oQ 4 4 true,oM 5 5 13]
@[go_sem] theorem qn2:OE kn.eq_1:=OEM kn.eq_1
def kt:List qB:=[oU 0 18 1,oX 1 19 1 1,oE 2 20 .geq 19 0,oM 3 21 20,oG 4 22 21 true (.nop 1),oG 5 23 21 true (.lload 1 1 none),oG 6 24 21 true (.bin .leq (.t 23) (.c (.int .i64 255))),oPf 7 25 21 24,oM 8 4 25]
@[go_sem] theorem qn3:OE kt.eq_1:=OEM kt.eq_1
def ku:List qB:=[oU 0 28 1,oX 1 29 1 1,oD1 2 30 1051 29,oM 3 4 30]
@[go_sem] theorem qn4:OE ku.eq_1:=OEM ku.eq_1
def kw:List qB:=[oU 0 33 1,oX 1 34 1 1,oD1 2 35 1050 34,oM 3 4 35,oC 4 6 2]
@[go_sem] theorem qn5:OE kw.eq_1:=OEM kw.eq_1
def kx:List qB:=[oU 0 39 1,oX 1 40 1 1,oE 2 41 .eql 40 0,oM 3 4 41,oC 4 6 1]
@[go_sem] theorem qn6:OE kx.eq_1:=OEM kx.eq_1
def kz:List qB:=[oU 0 45 1,oX 1 46 1 1,oE 2 47 .eql 46 0,oM 3 4 47,oC 4 6 2]
@[go_sem] theorem qn7:OE kz.eq_1:=OEM kz.eq_1
def k8:List qB:=[oM 0 50 5,oM 1 51 50,oG 2 52 51 true (.nop 1),oG 3 53 51 true (.lload 1 1 none),oG 4 54 51 true (.bin .geq (.t 53) (.c (.int .i64 0))),oPf 5 55 51 54,oM 6 56 55,oG 7 57 56 true (.nop 1),oG 8 58 56 true (.lload 1 1 none),oG 9 59 56 true (.bin .lss (.t 58) (.c (.int .i64 4))),oPf 10 60 56 59,oM 11 61 60,oH 12 62 61 true 3,oG 13 63 61 true (.bin .leq (.t 62) (.c (.int .i64 3))),oPf 14 64 61 63,oM 15 2 64]
@[go_sem] theorem qn8:OE k8.eq_1:=OEM k8.eq_1
def k9:List qB:=[oU 0 67 1,oX 1 68 1 1,oE 2 69 .eql 68 0,oU 3 70 1,oX 4 71 1 2,oW 5 72 71,oE 6 73 .geq 72 1,oM 7 74 73,oG 8 75 74 true (.nop 1),oG 9 76 74 true (.lload 1 2 none),oG 10 77 74 true (.len (.t 76)),oG 11 78 74 true (.bin .leq (.t 77) (.c (.int .i64 4))),oPf 12 79 74 78,oM 13 4 69,oC 14 6 1,oM 15 5 79]
@[go_sem] theorem qn9:OE k9.eq_1:=OEM k9.eq_1
def qAA:List qB:=[oU 0 82 1,oX 1 83 1 1,oE 2 84 .eql 83 0,oU 3 85 1,oX 4 86 1 2,oW 5 87 86,oE 6 88 .eql 87 2,oM 7 4 84,oC 8 6 1,oM 9 5 88]
@[go_sem] theorem qoA:OE qAA.eq_1:=OEM qAA.eq_1
def kp:List qB:=[oU 0 91 1,oX 1 92 1 1,oD1 2 93 796 92,oM 3 4 93]
@[go_sem] theorem qn0:OE kp.eq_1:=OEM kp.eq_1
def ka:qI:=sr [oE 0 81 .eql 15 10,oM 1 80 81] (.cond (.t 80) (.reg true qAA) (sr [oE 0 90 .eql 15 11,oM 1 89 90] (.cond (.t 89) (.reg true kp) (sr [oQ 0 2 false] .ret))))
@[go_sem] theorem qnU:CE ka.eq_1:=CEM ka.eq_1
def kb:qI:=.cond (.t 42) (.reg true kz) (sr [oE 0 49 .eql 15 8,oM 1 48 49] (.cond (.t 48) (sr k8 .ret) (sr [oE 0 66 .eql 15 9,oM 1 65 66] (.cond (.t 65) (.reg true k9) ka))))
@[go_sem] theorem qnV:CE kb.eq_1:=CEM kb.eq_1
def ke:qI:=.seq (sr [oE 0 37 .eql 15 4,oM 1 36 37] (.cond (.t 36) .skip (.reg true [oE 0 38 .eql 15 6,oM 1 36 38]))) (.cond (.t 36) (.reg true kx) (.seq (sr [oE 0 43 .eql 15 5,oM 1 42 43] (.cond (.t 42) .skip (.reg true [oE 0 44 .eql 15 7,oM 1 42 44]))) kb))
@[go_sem] theorem qnW:CE ke.eq_1:=CEM ke.eq_1
def kf:qI:=.cond (.t 16) (.reg true kt) (sr [oE 0 27 .eql 15 2,oM 1 26 27] (.cond (.t 26) (.reg true ku) (sr [oE 0 32 .eql 15 3,oM 1 31 32] (.cond (.t 31) (.reg true kw) ke))))
@[go_sem] theorem qnX:CE kf.eq_1:=CEM kf.eq_1
def kq:List qB:=[oM 0 94 4,oM 1 95 94,oH 2 96 95 true 5,oPf 3 97 95 96,oM 4 98 97,oH 5 99 98 true 3,oH 6 100 98 true 6,oG 7 101 98 true (.bin .eql (.t 99) (.t 100)),oPf 8 102 98 101,oM 9 103 102,oG 10 104 103 true (.nop 1),oG 11 105 103 true (.lload 1 2 none),oG 12 106 103 true (.call 397 [.t 105,.f 1402]),oG 13 107 103 true (.not (.t 106)),oPf 14 108 103 107,oM 15 2 108]
@[go_sem] theorem qn1:OE kq.eq_1:=OEM kq.eq_1
def ki:qI:=sr [oC 0 6 0] (.seq (sr [oU 0 14 1,oX 1 15 1 0] (.blk 0 (sr [oE 0 17 .eql 15 1,oM 1 16 17] kf))) (sr kq .ret))
@[go_sem] theorem qnY:CE ki.eq_1:=CEM ki.eq_1
def XJ:qJ:=⟨1,109,[.t 2],sr [oP 0 1 (.lbox 4 (.t 0)),oQ 1 2 false] (sr kj (sr kn ki))⟩
def qMA:List qB:=[oP 0 1 (.lbox 4 (.t 0)),oC 1 2 0,oC 2 3 0,oQ 3 4 false]
@[go_sem] theorem zAA:OE qMA.eq_1:=OEM qMA.eq_1
def qMB:List qB:=[oU 0 13 1,oX 1 14 1 3,oW 2 15 14,oC 3 16 0]
@[go_sem] theorem zAB:OE qMB.eq_1:=OEM qMB.eq_1
def qMC:List qB:=[oA 0 18 4 14 16,oP 1 19 (.load (some 4) (.t 18)),oZ 2 6,oS 3 6 0 4 19]
@[go_sem] theorem zAC:OE qMC.eq_1:=OEM qMC.eq_1
def qMD:List qB:=[oY 0 21 6 0 4,oD1 1 22 770 21,oM 2 20 22,oV 3 23 20 0,oV 4 24 20 1,oV 5 25 20 2,oM 6 7 23,oM 7 8 24,oM 8 9 25]
@[go_sem] theorem zAD:OE qMD.eq_1:=OEM qMD.eq_1
def qME:List qB:=[oM 0 28 2,oM 1 29 7,oE 2 30 .add 29 1,oP 3 31 (.max (.t 28) (.t 30)),oM 4 32 3,oM 5 33 8,oB 6 34 .add 32 33,oM 7 2 31,oM 8 3 34]
@[go_sem] theorem zAE:OE qME.eq_1:=OEM qME.eq_1
def qL7:qI:=sr qMD (.seq (sr [oM 0 26 9,oJ 1 27 26] (.cond (.t 27) (sr [oC 0 2 0,oC 1 3 0,oQ 2 4 false] .ret) .skip)) (.reg true qME))
@[go_sem] theorem qz7:CE qL7.eq_1:=CEM qL7.eq_1
def qL8:qI:=sr qMB (.blk 0 (.loop (sr [oB 0 17 .lss 16 15] (.seq (.cond (.t 17) .skip (.exit 0)) (.seq (.blk 1 (sr qMC qL7)) (.reg true [oE 0 35 .add 16 1,oM 1 16 35]))))))
@[go_sem] theorem qz8:CE qL8.eq_1:=CEM qL8.eq_1
def qMF:List qB:=[oM 0 36 2,oM 1 37 3,oM 2 2 36,oM 3 3 37,oQ 4 4 true]
@[go_sem] theorem zAF:OE qMF.eq_1:=OEM qMF.eq_1
def qL9:qI:=.seq (sr [oY 0 10 1 0 4,oD1 1 11 1130 10,oJ 2 12 11] (.cond (.t 12) (sr [oC 0 2 0,oC 1 3 0,oQ 2 4 false] .ret) .skip)) (sr [oC 0 2 1,oC 1 3 1] (.seq qL8 (sr qMF .ret)))
@[go_sem] theorem qz9:CE qL9.eq_1:=CEM qL9.eq_1
def Ye:qJ:=⟨1,38,[.t 2,.t 3,.t 4],sr qMA qL9⟩
def qHN:List qB:=[oY 0 7 1 0 4,oD1 1 8 770 7,oM 2 6 8,oV 3 9 6 0,oV 4 10 6 1,oV 5 11 6 2,oM 6 3 9,oM 7 4 10,oM 8 5 11]
@[go_sem] theorem qvN:OE qHN.eq_1:=OEM qHN.eq_1
def qHO:List qB:=[oM 0 12 5,oM 1 13 12,oG 2 14 13 true (.lload 1 0 (some 4)),oG 3 15 13 true (.call 495 [.t 14]),oPf 4 16 13 15,oM 5 2 16]
@[go_sem] theorem qvO:OE qHO.eq_1:=OEM qHO.eq_1
def X5:qJ:=⟨1,17,[.t 2],sr [oP 0 1 (.lbox 4 (.t 0)),oQ 1 2 false] (sr qHN (sr qHO .ret))⟩
def YK:qJ:=⟨1,4,[.t 2],sr [oC 0 2 0] (.seq (sr [oM 0 3 0] (.cond (.t 3) (sr [oC 0 2 1] .ret) .skip)) (sr [oC 0 2 0] .ret))⟩
def qBF:List qB:=[oU 0 5 2,oX 1 6 2 0,oE 2 7 .eql 6 4,oM 3 8 7,oG 4 9 8 false (.nop 2),oG 5 10 8 false (.lload 2 0 none),oG 6 11 8 false (.bin .eql (.t 10) (.c (.int .i64 7))),oH 7 12 8 false 11,oH 8 13 12 true 1,oG 9 14 12 true (.bin .eql (.t 13) (.c (.int .i64 1))),oG 10 15 8 false (.pick (.t 12) (.t 14) (.c (.bool false))),oPt 11 16 8 15,oD1 12 17 566 16,oM 13 4 17]
@[go_sem] theorem qpF:OE qBF.eq_1:=OEM qBF.eq_1
def XR:qJ:=⟨2,18,[.t 4],sr [oP 0 2 (.lbox 4 (.t 0)),oC 1 4 0] (sr qBF .ret)⟩
def qOE:List qB:=[oU 0 7 2,oX 1 8 2 0,oE 2 9 .eql 8 1,oM 3 10 9,oG 4 11 10 true (.nop 2),oG 5 12 10 true (.lload 2 1 none),oH 6 13 10 true 1,oG 7 14 10 true (.bin .geq (.t 12) (.t 13)),oPf 8 15 10 14]
@[go_sem] theorem zCE:OE qOE.eq_1:=OEM qOE.eq_1
def qOF:List qB:=[oU 0 16 2,oX 1 17 2 3,oW 2 18 17,oC 3 19 0]
@[go_sem] theorem zCF:OE qOF.eq_1:=OEM qOF.eq_1
def qOG:List qB:=[oM 0 21 19,oA 1 22 4 17 19,oP 2 23 (.load (some 4) (.t 22)),oZ 3 6,oM 4 5 21,oS 5 6 0 4 23]
@[go_sem] theorem zCG:OE qOG.eq_1:=OEM qOG.eq_1
def qOH:List qB:=[oY 0 24 6 0 4,oM 1 25 1,oY 2 26 2 0 4,oM 3 27 5,oD2 4 28 1193 26 27,oB 5 29 .add 25 28,oD2 6 30 880 24 29,oJ 7 31 30]
@[go_sem] theorem zCH:OE qOH.eq_1:=OEM qOH.eq_1
def qOD:qI:=sr [oB 0 20 .lss 19 18] (.seq (.cond (.t 20) .skip (.exit 0)) (.seq (.blk 1 (sr qOG (sr qOH (.cond (.t 31) (sr [oQ 0 4 false] .ret) .skip)))) (.reg true [oE 0 32 .add 19 1,oM 1 19 32])))
@[go_sem] theorem zCD:CE qOD.eq_1:=CEM qOD.eq_1
def Yq:qJ:=⟨2,33,[.t 4],sr [oP 0 2 (.lbox 4 (.t 0)),oQ 1 4 false] (.seq (sr qOE (.cond (.t 15) (sr [oQ 0 4 false] .ret) .skip)) (.seq (sr qOF (.blk 0 (.loop qOD))) (sr [oQ 0 4 true] .ret)))⟩
def qI5:List qB:=[oY 0 3 1 0 4,oD1 1 4 391 3,oM 2 5 4,oG 3 6 5 true (.lload 1 0 (some 4)),oG 4 7 5 true (.call 880 [.t 6,.c (.int .i64 0)]),oPf 5 8 5 7,oM 6 2 8]
@[go_sem] theorem qw5:OE qI5.eq_1:=OEM qI5.eq_1
def YI:qJ:=⟨1,9,[.t 2],sr [oP 0 1 (.lbox 4 (.t 0)),oQ 1 2 false] (sr qI5 .ret)⟩
def qPG:List qB:=[oY 0 4 2 0 4,oL 1 5 1,oD2 2 6 615 4 5,oM 3 3 6]
@[go_sem] theorem zDG:OE qPG.eq_1:=OEM qPG.eq_1
def Yw:qJ:=⟨2,7,[.t 3],sr [oP 0 2 (.lbox 4 (.t 0)),oQ 1 3 false] (sr qPG .ret)⟩
def qJN:List qB:=[oL 0 5 3,oY 1 6 2 0 4,oP 2 7 (.callv (.t 5) [.t 6]),oM 3 8 7,oG 4 9 8 false (.nop 2),oG 5 10 8 false (.lload 2 3 none),oG 6 11 8 false (.mkfn 993 [.t 3]),oG 7 12 8 false (.call 581 [.t 10,.t 11]),oPt 8 13 8 12,oM 9 4 13]
@[go_sem] theorem qxN:OE qJN.eq_1:=OEM qJN.eq_1
def YN:qJ:=⟨2,14,[.t 4],sr [oP 0 2 (.lbox 4 (.t 0)),oP 1 3 (.hbox 1 (.t 1)),oQ 2 4 false] (sr qJN .ret)⟩
def qAW:List qB:=[oM 0 4 0,oL 1 5 1,oB 2 6 .geq 4 5,oM 3 3 6]
@[go_sem] theorem qoW:OE qAW.eq_1:=OEM qAW.eq_1
def XN:qJ:=⟨2,7,[.t 3],sr [oQ 0 3 false] (sr qAW .ret)⟩
def qAV:List qB:=[oU 0 4 2,oX 1 5 2 0,oE 2 6 .eql 5 11,oM 3 7 6,oG 4 8 7 true (.nop 2),oG 5 9 7 true (.lload 2 1 none),oG 6 10 7 true (.load none (.t 1)),oG 7 11 7 true (.bin .geq (.t 9) (.t 10)),oPf 8 12 7 11,oM 9 13 12,oG 10 14 13 false (.nop 2),oG 11 15 13 false (.lload 2 2 none),oG 12 16 13 false (.mkfn 1169 [.t 1]),oG 13 17 13 false (.call 397 [.t 15,.t 16]),oPt 14 18 13 17,oM 15 3 18]
@[go_sem] theorem qoV:OE qAV.eq_1:=OEM qAV.eq_1
def XM:qJ:=⟨2,19,[.t 3],sr [oP 0 2 (.lbox 4 (.t 0)),oQ 1 3 false] (sr qAV .ret)⟩
def qNI:List qB:=[oY 0 5 2 0 4,oP 1 6 (.mkfn 1168 [.t 3]),oD2 2 7 615 5 6,oJ 3 8 7,oM 4 4 8]
@[go_sem] theorem zBI:OE qNI.eq_1:=OEM qNI.eq_1
def Yj:qJ:=⟨2,9,[.t 4],sr [oP 0 2 (.lbox 4 (.t 0)),oP 1 3 (.hbox 1 (.t 1)),oQ 2 4 false] (sr qNI .ret)⟩
def qN0:List qB:=[oY 0 4 2 0 4,oD1 1 5 521 4,oJ 2 6 5,oM 3 7 6,oG 4 8 7 false (.lload 2 0 (some 4)),oG 5 9 7 false (.faddr 0 (.t 1)),oG 6 10 7 false (.load none (.t 9)),oG 7 11 7 false (.len (.t 10)),oG 8 12 7 false (.call 847 [.t 8,.t 11]),oG 9 13 7 false (.not (.t 12)),oPt 10 14 7 13,oM 11 3 14]
@[go_sem] theorem zB0:OE qN0.eq_1:=OEM qN0.eq_1
def Yn:qJ:=⟨2,15,[.t 3],sr [oP 0 2 (.lbox 4 (.t 0)),oQ 1 3 false] (sr qN0 .ret)⟩
def qIQ:List qB:=[oF 0 3 0 1,oL 1 4 3,oW 2 5 4,oE 3 6 .lss 5 1,oM 4 7 6,oG 5 8 7 false (.faddr 0 (.t 1)),oG 6 9 7 false (.load none (.t 8)),oG 7 10 7 false (.len (.t 9)),oG 8 11 7 false (.bin .gtr (.t 10) (.c (.int .i64 24))),oPt 9 12 7 11]
@[go_sem] theorem qwQ:OE qIQ.eq_1:=OEM qIQ.eq_1
def qIR:List qB:=[oF 0 13 0 1,oL 1 14 13,oP 2 15 (.mkfn 851 [.t 1]),oD2 3 16 581 14 15,oJ 4 17 16,oM 5 2 17]
@[go_sem] theorem qwR:OE qIR.eq_1:=OEM qIR.eq_1
def YE:qJ:=⟨1,18,[.t 2],sr [oP 0 1 (.hbox 1 (.t 0)),oQ 1 2 false] (.seq (sr qIQ (.cond (.t 12) (sr [oQ 0 2 false] .ret) .skip)) (sr qIR .ret))⟩
def KQ:List qB:=[oM 0 10 3,oM 1 11 0,oW 2 12 11,oB 3 13 .lss 10 12]
@[go_sem] theorem qlS:OE KQ.eq_1:=OEM KQ.eq_1
def KR:List qB:=[oM 0 16 0,oM 1 17 3,oA 2 18 1 16 17,oL 3 19 18,oM 4 20 0,oM 5 21 3,oE 6 22 .sub 21 1,oA 7 23 1 20 22,oL 8 24 23,oB 9 25 .eql 19 24]
@[go_sem] theorem qlT:OE KR.eq_1:=OEM KR.eq_1
def KS:List qB:=[oM 0 26 0,oM 1 27 3,oP 2 28 (.slc 1 (.t 26) (some (.t 27)) none none),oM 3 4 28]
@[go_sem] theorem qlU:OE KS.eq_1:=OEM KS.eq_1
def KT:List qB:=[oM 0 29 5,oM 1 30 4,oW 2 31 30,oB 3 32 .lss 29 31]
@[go_sem] theorem qlV:OE KT.eq_1:=OEM KT.eq_1
def KU:List qB:=[oM 0 35 4,oM 1 36 5,oA 2 37 1 35 36,oL 3 38 37,oM 4 39 4,oM 5 40 5,oE 6 41 .sub 40 1,oA 7 42 1 39 41,oL 8 43 42,oB 9 44 .neq 38 43]
@[go_sem] theorem qlW:OE KU.eq_1:=OEM KU.eq_1
def KV:List qB:=[oM 0 45 0,oM 1 46 3,oM 2 47 4,oM 3 48 5,oA 4 49 1 47 48,oL 5 50 49,oA 6 51 1 45 46,oT 7 1 51 50]
@[go_sem] theorem qlX:OE KV.eq_1:=OEM KV.eq_1
def KO:qI:=.seq (.blk 3 (sr KU (.cond (.t 44) (sr KV (.reg true [oM 0 52 3,oE 1 53 .add 52 1,oM 2 3 53])) .skip))) (.reg true [oM 0 33 5,oE 1 34 .add 33 1,oM 2 5 34])
@[go_sem] theorem qlQ:CE KO.eq_1:=CEM KO.eq_1
def KW:List qB:=[oM 0 54 0,oM 1 55 3,oP 2 56 (.slc 1 (.t 54) (some (.t 55)) none none),oN 3 (.clear 1 (.int .i64 0) (.t 56))]
@[go_sem] theorem qlY:OE KW.eq_1:=OEM KW.eq_1
def KX:List qB:=[oM 0 57 0,oM 1 58 3,oP 2 59 (.slc 1 (.t 57) none (some (.t 58)) none),oM 3 2 59]
@[go_sem] theorem qlZ:OE KX.eq_1:=OEM KX.eq_1
def KP:qI:=sr KR (.cond (.t 25) (sr KS (.seq (sr [oC 0 5 1] (.blk 2 (.loop (.seq (sr KT (.cond (.t 32) .skip (.exit 2))) KO)))) (sr KW (sr KX .ret)))) .skip)
@[go_sem] theorem qlR:CE KP.eq_1:=CEM KP.eq_1
def KM:qI:=sr [oC 0 3 1] (.blk 0 (.loop (.seq (sr KQ (.cond (.t 13) .skip (.exit 0))) (.seq (.blk 1 KP) (.reg true [oM 0 14 3,oE 1 15 .add 14 1,oM 2 3 15])))))
@[go_sem] theorem qlO:CE KM.eq_1:=CEM KM.eq_1
def KN:qI:=.seq (sr [oM 0 6 0,oW 1 7 6,oE 2 8 .lss 7 2] (.cond (.t 8) (sr [oM 0 9 0,oM 1 2 9] .ret) .skip)) (.seq KM (sr [oM 0 60 0,oM 1 2 60] .ret))
@[go_sem] theorem qlP:CE KN.eq_1:=CEM KN.eq_1
def W0:qJ:=⟨1,61,[.t 2],sr [oP 0 2 (.mov (.c (.nils)))] KN⟩
def qBH:List qB:=[oU 0 11 4,oX 1 12 4 0,oE 2 13 .eql 12 1,oM 3 14 13,oG 4 15 14 true (.nop 4),oG 5 16 14 true (.lload 4 1 none),oH 6 17 14 true 1,oG 7 18 14 true (.bin .eql (.t 16) (.t 17)),oPf 8 19 14 18]
@[go_sem] theorem qpH:OE qBH.eq_1:=OEM qBH.eq_1
def qBI:List qB:=[oM 0 20 3,oM 1 21 2,oP 2 22 (.bslice 1 (.int .i64 0) 1 [(0,.t 21)]),oP 3 23 (.app 1 (.t 20) (.t 22)),oM 4 8 23]
@[go_sem] theorem qpI:OE qBI.eq_1:=OEM qBI.eq_1
def qBJ:List qB:=[oU 0 24 4,oX 1 25 4 3,oW 2 26 25,oC 3 27 0]
@[go_sem] theorem qpJ:OE qBJ.eq_1:=OEM qBJ.eq_1
def qBK:List qB:=[oM 0 29 27,oA 1 30 4 25 27,oP 2 31 (.load (some 4) (.t 30)),oZ 3 10,oM 4 9 29,oS 5 10 0 4 31]
@[go_sem] theorem qpK:OE qBK.eq_1:=OEM qBK.eq_1
def qBL:List qB:=[oY 0 32 10 0 4,oM 1 33 1,oY 2 34 4 0 4,oM 3 35 9,oM 6 38 2,oU 7 39 4,oX 8 40 4 0,oE 9 41 .eql 40 6,oM 12 44 3,oD2 4 36 1193 34 35,oB 5 37 .add 33 36,oD1 10 42 566 41,oB 11 43 .add 38 42,oP 13 45 (.call 1194 [.t 32,.t 37,.t 43,.t 44]),oM 14 3 45]
@[go_sem] theorem qpL:OE qBL.eq_1:=OEM qBL.eq_1
def qBG:qI:=.loop (sr [oB 0 28 .lss 27 26] (.seq (.cond (.t 28) .skip (.exit 0)) (.seq (.blk 1 (sr qBK (.reg true qBL))) (.reg true [oE 0 46 .add 27 1,oM 1 27 46]))))
@[go_sem] theorem qpG:CE qBG.eq_1:=CEM qBG.eq_1
def XS:qJ:=⟨4,48,[.t 8],sr [oP 0 4 (.lbox 4 (.t 0)),oP 1 8 (.mov (.c (.nils)))] (.seq (sr qBH (.cond (.t 19) (sr qBI .ret) .skip)) (.seq (sr qBJ (.blk 0 qBG)) (sr [oM 0 47 3,oM 1 8 47] .ret)))⟩
def qBM:List qB:=[oY 0 5 3 0 4,oL 1 6 1,oF 2 7 0 2,oL 3 8 7,oE 4 9 .eql 8 6,⟨5,some 10,none,.call 566 [.t 9],[⟨1,some 6,none,.load none (.t 1),[]⟩]⟩,oB 6 11 .add 6 10,oD2 7 12 881 5 11,oJ 8 13 12,oM 9 4 13]
@[go_sem] theorem qpM:OE qBM.eq_1:=OEM qBM.eq_1
def XT:qJ:=⟨3,14,[.t 4],sr [oP 0 3 (.lbox 4 (.t 0)),oQ 1 4 false] (sr qBM .ret)⟩
def qOK:List qB:=[oF 0 13 3 2,oL 1 14 13,oP 2 15 (.iaddr 4 (.t 14) (.c (.int .i64 0))),oP 3 16 (.load (some 4) (.t 15)),oL 4 17 3,oP 5 18 (.call 1194 [.t 16,.c (.int .i64 0),.t 17,.c (.nils)]),oM 6 5 18]
@[go_sem] theorem zCK:OE qOK.eq_1:=OEM qOK.eq_1
def qOL:List qB:=[oM 0 19 5,oW 1 20 19,oE 2 21 .gtr 20 1,oM 3 22 21,oH 4 23 22 false 5,oG 5 24 22 false (.len (.t 23)),oG 6 25 22 false (.bin .eql (.t 24) (.c (.int .i64 1))),oH 7 26 22 false 25,oH 8 27 26 true 5,oG 9 28 26 true (.iaddr 1 (.t 27) (.c (.int .i64 0))),oG 10 29 26 true (.load none (.t 28)),oG 11 30 26 true (.load none (.t 3)),oG 12 31 26 true (.bin .neq (.t 29) (.t 30)),oG 13 32 22 false (.pick (.t 26) (.t 31) (.c (.bool false))),oPt 14 33 22 32]
@[go_sem] theorem zCL:OE qOL.eq_1:=OEM qOL.eq_1
def qOM:List qB:=[oF 0 36 3 2,oL 1 37 36,oP 2 38 (.iaddr 4 (.t 37) (.c (.int .i64 1))),oP 3 39 (.load (some 4) (.t 38)),oL 4 40 3,oP 5 41 (.call 1194 [.t 39,.c (.int .i64 0),.t 40,.c (.nils)]),oM 6 6 41]
@[go_sem] theorem zCM:OE qOM.eq_1:=OEM qOM.eq_1
def qON:List qB:=[oM 0 42 6,oD1 1 43 1042 42,oW 2 44 43,oE 3 45 .gtr 44 1,oM 4 46 45,oH 5 47 46 false 6,oG 6 48 46 false (.len (.t 47)),oG 7 49 46 false (.bin .gtr (.t 48) (.c (.int .i64 0))),oH 8 50 46 false 49,oH 9 51 50 true 6,oG 10 52 50 true (.iaddr 1 (.t 51) (.c (.int .i64 0))),oG 11 53 50 true (.load none (.t 52)),oG 12 54 50 true (.load none (.t 3)),oG 13 55 50 true (.bin .neq (.t 53) (.t 54)),oG 14 56 46 false (.pick (.t 50) (.t 55) (.c (.bool false))),oH 15 57 46 false 56,oH 16 58 57 true 6,oG 17 59 57 true (.iaddr 1 (.t 58) (.c (.int .i64 0))),oG 18 60 57 true (.load none (.t 59)),oG 19 61 57 true (.load none (.t 3)),oG 20 62 57 true (.bin .add (.t 61) (.c (.int .i64 1))),oG 21 63 57 true (.bin .neq (.t 60) (.t 62)),oG 22 64 46 false (.pick (.t 57) (.t 63) (.c (.bool false))),oPt 23 65 46 64]
@[go_sem] theorem zCN:OE qON.eq_1:=OEM qON.eq_1
def qOI:qI:=.cond (.t 11) (sr qOK (sr qOL (.cond (.t 33) (sr [oQ 0 4 false] .ret) .skip))) (sr [oE 0 35 .eql 10 7,oM 1 34 35] (.cond (.t 34) (sr qOM (sr qON (.cond (.t 65) (sr [oQ 0 4 false] .ret) .skip))) .skip))
@[go_sem] theorem zCI:CE qOI.eq_1:=CEM qOI.eq_1
def qOO:List qB:=[oF 0 66 3 2,oL 1 67 66,oP 2 68 (.mkfn 1195 [.t 3,.t 2]),oD2 3 69 581 67 68,oJ 4 70 69,oM 5 4 70]
@[go_sem] theorem zCO:OE qOO.eq_1:=OEM qOO.eq_1
def qOJ:qI:=.seq (sr [oL 0 7 3,oE 1 8 .gtr 7 8] (.cond (.t 8) (sr [oQ 0 4 false] .ret) .skip)) (.seq (sr [oF 0 9 0 2,oL 1 10 9] (.blk 0 (sr [oE 0 12 .eql 10 4,oM 1 11 12] qOI))) (sr qOO .ret))
@[go_sem] theorem zCJ:CE qOJ.eq_1:=CEM qOJ.eq_1
def Yr:qJ:=⟨2,71,[.t 4],sr [oP 0 2 (.hbox 4 (.t 0)),oP 1 3 (.hbox 1 (.t 1)),oQ 2 4 false] qOJ⟩
def qI6:List qB:=[oY 0 3 1 0 4,oD1 1 4 521 3,oM 2 5 4,oG 3 6 5 true (.lload 1 0 (some 4)),oG 4 7 5 true (.call 881 [.t 6,.c (.int .i64 0)]),oPf 5 8 5 7,oM 6 2 8]
@[go_sem] theorem qw6:OE qI6.eq_1:=OEM qI6.eq_1
def YJ:qJ:=⟨1,9,[.t 2],sr [oP 0 1 (.lbox 4 (.t 0)),oQ 1 2 false] (sr qI6 .ret)⟩
def qAX:List qB:=[oY 0 3 1 0 4,oD1 1 4 522 3,oJ 2 5 4,oM 3 2 5]
@[go_sem] theorem qoX:OE qAX.eq_1:=OEM qAX.eq_1
def XO:qJ:=⟨1,6,[.t 2],sr [oP 0 1 (.lbox 4 (.t 0)),oQ 1 2 false] (sr qAX .ret)⟩
def qNJ:List qB:=[oU 0 3 1,oX 1 4 1 0,oP 2 5 (.call 581 [.t 4,.f 1170]),oJ 3 6 5,oM 4 2 6]
@[go_sem] theorem zBJ:OE qNJ.eq_1:=OEM qNJ.eq_1
def Yk:qJ:=⟨1,7,[.t 2],sr [oP 0 1 (.lbox 1 (.t 0)),oQ 1 2 false] (sr qNJ .ret)⟩
def qMQ:List qB:=[oM 0 11 1,oM 1 12 0,oM 2 13 5,oA 3 14 1 12 13,oL 4 15 14,oB 5 16 .eql 11 15]
@[go_sem] theorem zAQ:OE qMQ.eq_1:=OEM qMQ.eq_1
def qMO:qI:=.seq (.blk 1 (sr [oM 0 10 8,oM 1 5 10] (sr qMQ (.cond (.t 16) (sr [oM 0 17 5,oM 1 4 17] .ret) .skip)))) (.reg true [oE 0 18 .add 8 1,oM 1 8 18])
@[go_sem] theorem zAO:CE qMO.eq_1:=CEM qMO.eq_1
def qMP:qI:=.seq (sr [oM 0 6 0,oW 1 7 6,oC 2 8 0] (.blk 0 (.loop (sr [oB 0 9 .lss 8 7] (.seq (.cond (.t 9) .skip (.exit 0)) qMO))))) (sr [oP 0 4 (.mov (.c (.int .i64 (-1))))] .ret)
@[go_sem] theorem zAP:CE qMP.eq_1:=CEM qMP.eq_1
def Yh:qJ:=⟨2,19,[.t 4],sr [oC 0 4 0] qMP⟩
def YQ:qJ:=Qz 834
def qAU:List qB:=[oM 0 3 0,oM 1 4 0,oB 2 5 .neq 3 4,oM 3 2 5]
@[go_sem] theorem qoU:OE qAU.eq_1:=OEM qAU.eq_1
def XL:qJ:=⟨1,6,[.t 2],sr [oQ 0 2 false] (sr qAU .ret)⟩
def qDE:List qB:=[oM 0 5 0,oD1 1 6 1167 5,oM 2 7 6,oH 3 8 7 true 1,oG 4 9 7 true (.call 1167 [.t 8]),oG 5 10 7 true (.not (.t 9)),oPf 6 11 7 10,oM 7 12 11,oH 8 13 12 false 0,oH 9 14 12 false 1,oG 10 15 12 false (.bin .lss (.t 13) (.t 14)),oPt 11 16 12 15,oM 12 4 16]
@[go_sem] theorem qrE:OE qDE.eq_1:=OEM qDE.eq_1
def Xd:qJ:=⟨2,17,[.t 4],sr [oQ 0 4 false] (sr qDE .ret)⟩
def qB2:List qB:=[oM 0 16 7,oM 1 17 1,oB 2 18 .gtr 16 17,oM 3 19 18,oH 4 20 19 true 0,oH 5 21 19 true 7,oG 6 22 19 true (.iaddr 1 (.t 20) (.t 21)),oG 7 23 19 true (.load none (.t 22)),oH 8 24 19 true 0,oH 9 25 19 true 7,oG 10 26 19 true (.bin .sub (.t 25) (.c (.int .i64 1))),oG 11 27 19 true (.iaddr 1 (.t 24) (.t 26)),oG 12 28 19 true (.load none (.t 27)),oG 13 29 19 true (.call 1345 [.t 23,.t 28]),oPf 14 30 19 29]
@[go_sem] theorem qp2:OE qB2.eq_1:=OEM qB2.eq_1
def qB3:List qB:=[oM 0 33 0,oM 1 34 7,oM 2 35 0,oM 3 36 7,oE 4 37 .sub 36 1,oM 5 38 0,oM 6 39 7,oE 7 40 .sub 39 1,oA 8 41 1 38 40,oL 9 42 41,oM 10 43 0,oM 11 44 7,oA 12 45 1 43 44,oL 13 46 45,oA 14 47 1 33 34,oT 15 1 47 42,oA 16 48 1 35 37,oT 17 1 48 46]
@[go_sem] theorem qp3:OE qB3.eq_1:=OEM qB3.eq_1
def qB0:qI:=sr [oM 0 15 6,oM 1 7 15] (.blk 2 (.loop (.seq (sr qB2 (.cond (.t 30) .skip (.exit 2))) (.seq (.blk 3 (.reg true qB3)) (.reg true [oM 0 31 7,oE 1 32 .sub 31 1,oM 2 7 32])))))
@[go_sem] theorem qp0:CE qB0.eq_1:=CEM qB0.eq_1
def qB1:qI:=.loop (.seq (sr [oM 0 10 6,oM 1 11 2,oB 2 12 .lss 10 11] (.cond (.t 12) .skip (.exit 0))) (.seq (.blk 1 qB0) (.reg true [oM 0 13 6,oE 1 14 .add 13 1,oM 2 6 14])))
@[go_sem] theorem qp1:CE qB1.eq_1:=CEM qB1.eq_1
def XX:qJ:=⟨3,49,[],sr [oM 0 8 1,oE 1 9 .add 8 1,oM 2 6 9] (.blk 0 qB1)⟩
def qE4:List qB:=[oM 0 11 8,oP 1 12 (.bin .mul (.c (.int .i64 2)) (.t 11)),oE 2 13 .add 12 1,oM 3 9 13]
@[go_sem] theorem qs4:OE qE4.eq_1:=OEM qE4.eq_1
def qE5:List qB:=[oM 0 17 9,oE 1 18 .add 17 1,oM 2 19 2,oB 3 20 .lss 18 19,oM 4 21 20,oH 5 22 21 true 0,oH 6 23 21 true 3,oH 7 24 21 true 9,oG 8 25 21 true (.bin .add (.t 23) (.t 24)),oG 9 26 21 true (.iaddr 1 (.t 22) (.t 25)),oG 10 27 21 true (.load none (.t 26)),oH 11 28 21 true 0,oH 12 29 21 true 3,oH 13 30 21 true 9,oG 14 31 21 true (.bin .add (.t 29) (.t 30)),oG 15 32 21 true (.bin .add (.t 31) (.c (.int .i64 1))),oG 16 33 21 true (.iaddr 1 (.t 28) (.t 32)),oG 17 34 21 true (.load none (.t 33)),oG 18 35 21 true (.call 1345 [.t 27,.t 34]),oPf 19 36 21 35]
@[go_sem] theorem qs5:OE qE5.eq_1:=OEM qE5.eq_1
def qE6:List qB:=[oM 0 39 0,oM 1 40 3,oM 2 41 8,oB 3 42 .add 40 41,oA 4 43 1 39 42,oL 5 44 43,oM 6 45 0,oM 7 46 3,oM 8 47 9,oB 9 48 .add 46 47,oA 10 49 1 45 48,oL 11 50 49,oD2 12 51 1345 44 50,oJ 13 52 51]
@[go_sem] theorem qs6:OE qE6.eq_1:=OEM qE6.eq_1
def qE7:List qB:=[oM 0 53 0,oM 1 54 3,oM 2 55 8,oB 3 56 .add 54 55,oM 4 57 0,oM 5 58 3,oM 6 59 9,oB 7 60 .add 58 59,oM 8 61 0,oM 9 62 3,oM 10 63 9,oB 11 64 .add 62 63,oA 12 65 1 61 64,oL 13 66 65,oM 14 67 0,oM 15 68 3,oM 16 69 8,oB 17 70 .add 68 69,oA 18 71 1 67 70,oL 19 72 71,oA 20 73 1 53 56,oT 21 1 73 66,oA 22 74 1 57 60,oT 23 1 74 72]
@[go_sem] theorem qs7:OE qE7.eq_1:=OEM qE7.eq_1
def qE3:qI:=.seq (sr qE5 (.cond (.t 36) (.reg true [oM 0 37 9,oE 1 38 .add 37 1,oM 2 9 38]) .skip)) (.seq (sr qE6 (.cond (.t 52) .ret .skip)) (sr qE7 (.reg true [oM 0 75 9,oM 1 8 75])))
@[go_sem] theorem qs3:CE qE3.eq_1:=CEM qE3.eq_1
def Xn:qJ:=⟨4,76,[],sr [oM 0 10 1,oM 1 8 10] (.blk 0 (.loop (.blk 1 (sr qE4 (.seq (sr [oM 0 14 9,oM 1 15 2,oB 2 16 .geq 14 15] (.cond (.t 16) (.exit 0) .skip)) qE3)))))⟩
def qB7:List qB:=[oM 0 12 2,oM 1 13 1,oB 2 14 .sub 12 13,oM 3 8 14]
@[go_sem] theorem qp7:OE qB7.eq_1:=OEM qB7.eq_1
def qB8:List qB:=[oM 0 15 8,oE 1 16 .sub 15 1,oE 2 17 .quo 16 2,oM 3 9 17]
@[go_sem] theorem qp8:OE qB8.eq_1:=OEM qB8.eq_1
def qB9:List qB:=[oM 0 22 0,oM 1 23 9,oM 2 24 8,oM 3 25 6,oP 4 26 (.call 1476 [.t 22,.t 23,.t 24,.t 25])]
@[go_sem] theorem qp9:OE qB9.eq_1:=OEM qB9.eq_1
def qB4:qI:=.loop (.seq (sr [oM 0 18 9,oE 1 19 .geq 18 0] (.cond (.t 19) .skip (.exit 0))) (.seq (.blk 1 (.reg true qB9)) (.reg true [oM 0 20 9,oE 1 21 .sub 20 1,oM 2 9 21])))
@[go_sem] theorem qp4:CE qB4.eq_1:=CEM qB4.eq_1
def qCA:List qB:=[oM 0 33 0,oM 1 34 6,oM 2 35 0,oM 3 36 6,oM 4 37 10,oB 5 38 .add 36 37,oM 6 39 0,oM 7 40 6,oM 8 41 10,oB 9 42 .add 40 41,oA 10 43 1 39 42,oL 11 44 43,oM 12 45 0,oM 13 46 6,oA 14 47 1 45 46,oL 15 48 47,oA 16 49 1 33 34,oT 17 1 49 44,oA 18 50 1 35 38,oT 19 1 50 48]
@[go_sem] theorem qqA:OE qCA.eq_1:=OEM qCA.eq_1
def qCB:List qB:=[oM 0 51 0,oM 1 52 7,oM 2 53 10,oM 3 54 6,oP 4 55 (.call 1476 [.t 51,.t 52,.t 53,.t 54])]
@[go_sem] theorem qqB:OE qCB.eq_1:=OEM qCB.eq_1
def qB5:qI:=.seq (sr [oM 0 29 10,oE 1 30 .geq 29 0] (.cond (.t 30) .skip (.exit 2))) (.seq (.blk 3 (sr qCA (.reg true qCB))) (.reg true [oM 0 31 10,oE 1 32 .sub 31 1,oM 2 10 32]))
@[go_sem] theorem qp5:CE qB5.eq_1:=CEM qB5.eq_1
def qB6:qI:=sr [oC 0 7 0] (sr qB7 (.seq (sr qB8 (.blk 0 qB4)) (sr [oM 0 27 8,oE 1 28 .sub 27 1,oM 2 10 28] (.blk 2 (.loop qB5)))))
@[go_sem] theorem qp6:CE qB6.eq_1:=CEM qB6.eq_1
def XY:qJ:=⟨3,56,[],sr [oM 0 11 1,oM 1 6 11] qB6⟩
def qD4:qI:=sr [oM 0 3 0,oP 1 4 (.bin .geq (.t 3) (.c (.int .u32 65536)))] (.cond (.t 4) (sr [oM 0 5 0,oP 1 6 (.shft .shr (.t 5) (.c (.int .u64 16))),oM 2 0 6] (.reg true [oC 0 2 16])) .skip)
@[go_sem] theorem qr4:CE qD4.eq_1:=CEM qD4.eq_1
def qD5:qI:=sr [oM 0 7 0,oP 1 8 (.bin .geq (.t 7) (.c (.int .u32 256)))] (.cond (.t 8) (sr [oM 0 9 0,oP 1 10 (.shft .shr (.t 9) (.c (.int .u64 8))),oM 2 0 10] (.reg true [oM 0 11 2,oE 1 12 .add 11 8,oM 2 2 12])) .skip)
@[go_sem] theorem qr5:CE qD5.eq_1:=CEM qD5.eq_1
def qD6:List qB:=[oM 0 13 2,oM 1 14 0,oP 2 15 (.conv .u8 (.t 14)),oP 3 16 (.sidx (.c (.str [0,1,2,2,3,3,3,3,4,4,4,4,4,4,4,4,5,5,5,5,5,5,5,5,5,5,5,5,5,5,5,5,6,6,6,6,6,6,6,6,6,6,6,6,6,6,6,6,6,6,6,6,6,6,6,6,6,6,6,6,6,6,6,6,7,7,7,7,7,7,7,7,7,7,7,7,7,7,7,7,7,7,7,7,7,7,7,7,7,7,7,7,7,7,7,7,7,7,7,7,7,7,7,7,7,7,7,7,7,7,7,7,7,7,7,7,7,7,7,7,7,7,7,7,7,7,7,7,8,8,8,8,8,8,8,8,8,8,8,8,8,8,8,8,8,8,8,8,8,8,8,8,8,8,8,8,8,8,8,8,8,8,8,8,8,8,8,8,8,8,8,8,8,8,8,8,8,8,8,8,8,8,8,8,8,8,8,8,8,8,8,8,8,8,8,8,8,8,8,8,8,8,8,8,8,8,8,8,8,8,8,8,8,8,8,8,8,8,8,8,8,8,8,8,8,8,8,8,8,8,8,8,8,8,8,8,8,8,8,8,8,8,8,8,8,8,8,8,8,8,8,8,8,8,8,8])) (.t 15)),oP 4 17 (.conv .i64 (.t 16)),oB 5 18 .add 13 17,oM 6 2 18]
@[go_sem] theorem qr6:OE qD6.eq_1:=OEM qD6.eq_1
def qSA:qJ:=⟨1,19,[.t 2],sr [oC 0 2 0] (.seq qD4 (.seq qD5 (sr qD6 .ret)))⟩
def qD7:qI:=sr [oM 0 3 0,oP 1 4 (.bin .geq (.t 3) (.c (.int .u64 4294967296)))] (.cond (.t 4) (sr [oM 0 5 0,oP 1 6 (.shft .shr (.t 5) (.c (.int .u64 32))),oM 2 0 6] (.reg true [oC 0 2 32])) .skip)
@[go_sem] theorem qr7:CE qD7.eq_1:=CEM qD7.eq_1
def qD8:qI:=sr [oM 0 7 0,oP 1 8 (.bin .geq (.t 7) (.c (.int .u64 65536)))] (.cond (.t 8) (sr [oM 0 9 0,oP 1 10 (.shft .shr (.t 9) (.c (.int .u64 16))),oM 2 0 10] (.reg true [oM 0 11 2,oE 1 12 .add 11 16,oM 2 2 12])) .skip)
@[go_sem] theorem qr8:CE qD8.eq_1:=CEM qD8.eq_1
def qD9:qI:=sr [oM 0 13 0,oP 1 14 (.bin .geq (.t 13) (.c (.int .u64 256)))] (.cond (.t 14) (sr [oM 0 15 0,oP 1 16 (.shft .shr (.t 15) (.c (.int .u64 8))),oM 2 0 16] (.reg true [oM 0 17 2,oE 1 18 .add 17 8,oM 2 2 18])) .skip)
@[go_sem] theorem qr9:CE qD9.eq_1:=CEM qD9.eq_1
def qEA:List qB:=[oM 0 19 2,oM 1 20 0,oP 2 21 (.conv .u8 (.t 20)),oP 3 22 (.sidx (.c (.str [0,1,2,2,3,3,3,3,4,4,4,4,4,4,4,4,5,5,5,5,5,5,5,5,5,5,5,5,5,5,5,5,6,6,6,6,6,6,6,6,6,6,6,6,6,6,6,6,6,6,6,6,6,6,6,6,6,6,6,6,6,6,6,6,7,7,7,7,7,7,7,7,7,7,7,7,7,7,7,7,7,7,7,7,7,7,7,7,7,7,7,7,7,7,7,7,7,7,7,7,7,7,7,7,7,7,7,7,7,7,7,7,7,7,7,7,7,7,7,7,7,7,7,7,7,7,7,7,8,8,8,8,8,8,8,8,8,8,8,8,8,8,8,8,8,8,8,8,8,8,8,8,8,8,8,8,8,8,8,8,8,8,8,8,8,8,8,8,8,8,8,8,8,8,8,8,8,8,8,8,8,8,8,8,8,8,8,8,8,8,8,8,8,8,8,8,8,8,8,8,8,8,8,8,8,8,8,8,8,8,8,8,8,8,8,8,8,8,8,8,8,8,8,8,8,8,8,8,8,8,8,8,8,8,8,8,8,8,8,8,8,8,8,8,8,8,8,8,8,8,8,8,8,8,8,8])) (.t 21)),oP 4 23 (.conv .i64 (.t 22)),oB 5 24 .add 19 23,oM 6 2 24]
@[go_sem] theorem qsA:OE qEA.eq_1:=OEM qEA.eq_1
def Xg:qJ:=⟨1,25,[.t 2],sr [oC 0 2 0] (.seq qD7 (.seq qD8 (.seq qD9 (sr qEA .ret))))⟩
def Kq:List qB:=[oM 0 3 0,oP 1 4 (.conv .u32 (.t 3)),oD1 2 5 1348 4,oM 3 2 5]
@[go_sem] theorem qmK:OE Kq.eq_1:=OEM Kq.eq_1
def W5:qJ:=⟨1,8,[.t 2],sr [oC 0 2 0] (.seq (.cond (.c (.bool false)) (sr Kq .ret) .skip) (sr [oM 0 6 0,oD1 1 7 1349 6,oM 2 2 7] .ret))⟩
def qE8:List qB:=[oM 0 3 0,oP 1 4 (.conv .u64 (.t 3)),oD1 2 5 1054 4,oP 3 6 (.shft .shl (.c (.int .u64 1)) (.t 5)),oM 4 2 6]
@[go_sem] theorem qs8:OE qE8.eq_1:=OEM qE8.eq_1
def Xo:qJ:=⟨1,7,[.t 2],sr [oP 0 2 (.mov (.c (.int .u64 0)))] (sr qE8 .ret)⟩
def qE9:List qB:=[oM 0 3 0,oK 1 4 3,oL 2 5 4,oM 3 6 0,oK 4 7 6,oL 5 8 7,oP 6 9 (.shft .shl (.t 8) (.c (.int .u64 13))),oB 7 10 .xor 5 9,oK 8 11 3,oT 9 1 11 10]
@[go_sem] theorem qs9:OE qE9.eq_1:=OEM qE9.eq_1
def qFA:List qB:=[oM 0 12 0,oK 1 13 12,oL 2 14 13,oM 3 15 0,oK 4 16 15,oL 5 17 16,oP 6 18 (.shft .shr (.t 17) (.c (.int .u64 7))),oB 7 19 .xor 14 18,oK 8 20 12,oT 9 1 20 19]
@[go_sem] theorem qtA:OE qFA.eq_1:=OEM qFA.eq_1
def qFB:List qB:=[oM 0 21 0,oK 1 22 21,oL 2 23 22,oM 3 24 0,oK 4 25 24,oL 5 26 25,oP 6 27 (.shft .shl (.t 26) (.c (.int .u64 17))),oB 7 28 .xor 23 27,oK 8 29 21,oT 9 1 29 28]
@[go_sem] theorem qtB:OE qFB.eq_1:=OEM qFB.eq_1
def qFC:List qB:=[oM 0 30 0,oK 1 31 30,oL 2 32 31,oM 3 2 32]
@[go_sem] theorem qtC:OE qFC.eq_1:=OEM qFC.eq_1
def Xp:qJ:=⟨1,33,[.t 2],sr [oP 0 2 (.mov (.c (.int .u64 0)))] (sr qE9 (sr qFA (sr qFB (sr qFC .ret))))⟩
def qCE:List qB:=[oM 0 11 2,oM 1 12 1,oB 2 13 .sub 11 12,oM 3 6 13]
@[go_sem] theorem qqE:OE qCE.eq_1:=OEM qCE.eq_1
def qCF:List qB:=[oM 0 16 6,oP 1 17 (.conv .u64 (.t 16)),oP 2 7 (.halloc 1 (.int .u64 0)),oT 3 1 7 17]
@[go_sem] theorem qqF:OE qCF.eq_1:=OEM qCF.eq_1
def qCG:List qB:=[oM 0 20 1,oM 1 21 6,oE 2 22 .quo 21 4,oE 3 23 .mul 22 2,oB 4 24 .add 20 23,oE 5 25 .sub 24 1,oM 6 9 25]
@[go_sem] theorem qqG:OE qCG.eq_1:=OEM qCG.eq_1
def qCH:List qB:=[oM 0 26 9,oM 1 27 1,oM 2 28 6,oE 3 29 .quo 28 4,oE 4 30 .mul 29 2,oB 5 31 .add 27 30,oE 6 32 .add 31 1,oB 7 33 .leq 26 32]
@[go_sem] theorem qqH:OE qCH.eq_1:=OEM qCH.eq_1
def qCI:List qB:=[oD1 0 36 1478 7,oM 1 37 8,oP 2 38 (.bin .sub (.t 37) (.c (.int .u64 1))),oB 3 39 .and 36 38,oP 4 40 (.conv .i64 (.t 39)),oM 5 10 40]
@[go_sem] theorem qqI:OE qCI.eq_1:=OEM qCI.eq_1
def qCJ:List qB:=[oM 0 44 10,oM 1 45 6,oB 2 46 .sub 44 45,oM 3 10 46]
@[go_sem] theorem qqJ:OE qCJ.eq_1:=OEM qCJ.eq_1
def qCK:List qB:=[oM 0 47 0,oM 1 48 9,oM 2 49 0,oM 3 50 1,oM 4 51 10,oB 5 52 .add 50 51,oM 6 53 0,oM 7 54 1,oM 8 55 10,oB 9 56 .add 54 55,oA 10 57 1 53 56,oL 11 58 57,oM 12 59 0,oM 13 60 9,oA 14 61 1 59 60,oL 15 62 61,oA 16 63 1 47 48,oT 17 1 63 58,oA 18 64 1 49 52,oT 19 1 64 62]
@[go_sem] theorem qqK:OE qCK.eq_1:=OEM qCK.eq_1
def qCC:qI:=.seq (.blk 1 (sr qCI (.seq (sr [oM 0 41 10,oM 1 42 6,oB 2 43 .geq 41 42] (.cond (.t 43) (.reg true qCJ) .skip)) (.reg true qCK)))) (.reg true [oM 0 34 9,oE 1 35 .add 34 1,oM 2 9 35])
@[go_sem] theorem qqC:CE qCC.eq_1:=CEM qCC.eq_1
def qCD:qI:=sr qCF (sr [oM 0 18 6,oD1 1 19 1477 18,oM 2 8 19] (sr qCG (.blk 0 (.loop (.seq (sr qCH (.cond (.t 33) .skip (.exit 0))) qCC)))))
@[go_sem] theorem qqD:CE qCD.eq_1:=CEM qCD.eq_1
def XZ:qJ:=⟨3,65,[],sr qCE (sr [oM 0 14 6,oE 1 15 .geq 14 8] (.cond (.t 15) qCD .skip))⟩
def qFP:List qB:=[oM 0 10 0,oM 1 11 2,oA 2 12 1 10 11,oL 3 13 12,oM 4 14 0,oM 5 15 1,oA 6 16 1 14 15,oL 7 17 16,oD2 8 18 1345 13 17]
@[go_sem] theorem qtP:OE qFP.eq_1:=OEM qFP.eq_1
def qFQ:List qB:=[oM 0 19 3,oK 1 20 19,oL 2 21 20,oE 3 22 .add 21 1,oK 4 23 19,oT 5 1 23 22]
@[go_sem] theorem qtQ:OE qFQ.eq_1:=OEM qFQ.eq_1
def qFR:List qB:=[oM 0 24 2,oM 1 25 1,oM 2 8 24,oM 3 9 25]
@[go_sem] theorem qtR:OE qFR.eq_1:=OEM qFR.eq_1
def qFS:List qB:=[oM 0 26 1,oM 1 27 2,oM 2 8 26,oM 3 9 27]
@[go_sem] theorem qtS:OE qFS.eq_1:=OEM qFS.eq_1
def Xu:qJ:=⟨4,28,[.t 8,.t 9],sr [oC 0 8 0,oC 1 9 0] (.seq (sr qFP (.cond (.t 18) (sr qFQ (sr qFR .ret)) .skip)) (sr qFS .ret))⟩
def qFE:List qB:=[oM 0 12 0,oM 1 13 1,oM 2 14 2,oM 3 15 4,oP 4 16 (.call 1529 [.t 12,.t 13,.t 14,.t 15]),oM 5 11 16,oV 6 17 11 0,oV 7 18 11 1,oM 8 1 17,oM 9 2 18]
@[go_sem] theorem qtE:OE qFE.eq_1:=OEM qFE.eq_1
def qFF:List qB:=[oM 0 20 0,oM 1 21 2,oM 2 22 3,oM 3 23 4,oP 4 24 (.call 1529 [.t 20,.t 21,.t 22,.t 23]),oM 5 19 24,oV 6 25 19 0,oV 7 26 19 1,oM 8 2 25,oM 9 3 26]
@[go_sem] theorem qtF:OE qFF.eq_1:=OEM qFF.eq_1
def qFG:List qB:=[oM 0 28 0,oM 1 29 1,oM 2 30 2,oM 3 31 4,oP 4 32 (.call 1529 [.t 28,.t 29,.t 30,.t 31]),oM 5 27 32,oV 6 33 27 0,oV 7 34 27 1,oM 8 1 33,oM 9 2 34]
@[go_sem] theorem qtG:OE qFG.eq_1:=OEM qFG.eq_1
def Xr:qJ:=⟨5,36,[.t 10],sr [oC 0 10 0] (sr qFE (sr qFF (sr qFG (sr [oM 0 35 2,oM 1 10 35] .ret))))⟩
def qFD:List qB:=[oM 0 7 0,oM 1 8 1,oE 2 9 .sub 8 1,oM 3 10 1,oM 4 11 1,oE 5 12 .add 11 1,oM 6 13 2,oP 7 14 (.call 1480 [.t 7,.t 9,.t 10,.t 12,.t 13]),oM 8 6 14]
@[go_sem] theorem qtD:OE qFD.eq_1:=OEM qFD.eq_1
def Xq:qJ:=⟨3,15,[.t 6],sr [oC 0 6 0] (sr qFD .ret)⟩
def qCO:List qB:=[oM 0 13 2,oM 1 14 1,oB 2 15 .sub 13 14,oM 3 8 15]
@[go_sem] theorem qqO:OE qCO.eq_1:=OEM qCO.eq_1
def qCP:List qB:=[oM 0 16 1,oM 1 17 8,oE 2 18 .quo 17 4,oE 3 19 .mul 18 1,oB 4 20 .add 16 19,oM 5 10 20]
@[go_sem] theorem qqP:OE qCP.eq_1:=OEM qCP.eq_1
def qCQ:List qB:=[oM 0 21 1,oM 1 22 8,oE 2 23 .quo 22 4,oE 3 24 .mul 23 2,oB 4 25 .add 21 24,oM 5 11 25]
@[go_sem] theorem qqQ:OE qCQ.eq_1:=OEM qCQ.eq_1
def qCR:List qB:=[oM 0 26 1,oM 1 27 8,oE 2 28 .quo 27 4,oE 3 29 .mul 28 3,oB 4 30 .add 26 29,oM 5 12 30]
@[go_sem] theorem qqR:OE qCR.eq_1:=OEM qCR.eq_1
def qCS:List qB:=[oM 0 35 0,oM 1 36 10,oP 2 37 (.call 1479 [.t 35,.t 36,.t 9]),oM 3 10 37]
@[go_sem] theorem qqS:OE qCS.eq_1:=OEM qCS.eq_1
def qCT:List qB:=[oM 0 38 0,oM 1 39 11,oP 2 40 (.call 1479 [.t 38,.t 39,.t 9]),oM 3 11 40]
@[go_sem] theorem qqT:OE qCT.eq_1:=OEM qCT.eq_1
def qCU:List qB:=[oM 0 41 0,oM 1 42 12,oP 2 43 (.call 1479 [.t 41,.t 42,.t 9]),oM 3 12 43]
@[go_sem] theorem qqU:OE qCU.eq_1:=OEM qCU.eq_1
def qCV:List qB:=[oM 0 44 0,oM 1 45 10,oM 2 46 11,oM 3 47 12,oP 4 48 (.call 1480 [.t 44,.t 45,.t 46,.t 47,.t 9]),oM 5 11 48]
@[go_sem] theorem qqV:OE qCV.eq_1:=OEM qCV.eq_1
def qCM:qI:=sr [oM 0 31 8,oE 1 32 .geq 31 8] (.cond (.t 32) (.seq (sr [oM 0 33 8,oE 1 34 .geq 33 50] (.cond (.t 34) (sr qCS (sr qCT (.reg true qCU))) .skip)) (.reg true qCV)) .skip)
@[go_sem] theorem qqM:CE qCM.eq_1:=CEM qCM.eq_1
def qCN:qI:=sr [oE 0 55 .eql 49 12,oM 1 54 55] (.cond (.t 54) (sr [oM 0 56 11,oM 1 6 56,oC 2 7 2] .ret) (sr [oM 0 50 11,oM 1 6 50,oC 2 7 0] .ret))
@[go_sem] theorem qqN:CE qCN.eq_1:=CEM qCN.eq_1
def qCL:qI:=sr [oL 0 49 9] (.blk 0 (sr [oE 0 52 .eql 49 0,oM 1 51 52] (.cond (.t 51) (sr [oM 0 53 11,oM 1 6 53,oC 2 7 1] .ret) qCN)))
@[go_sem] theorem qqL:CE qCL.eq_1:=CEM qCL.eq_1
def Xa:qJ:=⟨3,57,[.t 6,.t 7],sr [oC 0 6 0,oC 1 7 0] (sr qCO (sr [oP 0 9 (.halloc 1 (.int .i64 0))] (sr qCP (sr qCQ (sr qCR (.seq qCM qCL))))))⟩
def qCY:List qB:=[oM 0 14 0,oM 1 15 6,oM 2 16 0,oM 3 17 7,oM 4 18 0,oM 5 19 7,oA 6 20 1 18 19,oL 7 21 20,oM 8 22 0,oM 9 23 6,oA 10 24 1 22 23,oL 11 25 24,oA 12 26 1 14 15,oT 13 1 26 21,oA 14 27 1 16 17,oT 15 1 27 25]
@[go_sem] theorem qqY:OE qCY.eq_1:=OEM qCY.eq_1
def qCW:qI:=sr qCY (sr [oM 0 28 6,oE 1 29 .add 28 1,oM 2 6 29] (.reg true [oM 0 30 7,oE 1 31 .sub 30 1,oM 2 7 31]))
@[go_sem] theorem qqW:CE qCW.eq_1:=CEM qCW.eq_1
def qCX:qI:=sr [oM 0 9 2,oE 1 10 .sub 9 1,oM 2 7 10] (.blk 0 (.loop (.seq (sr [oM 0 11 6,oM 1 12 7,oB 2 13 .lss 11 12] (.cond (.t 13) .skip (.exit 0))) (.blk 1 qCW))))
@[go_sem] theorem qqX:CE qCX.eq_1:=CEM qCX.eq_1
def Xb:qJ:=⟨3,32,[],sr [oM 0 8 1,oM 1 6 8] qCX⟩
def qC5:List qB:=[oM 0 17 7,oM 1 18 2,oB 2 19 .lss 17 18,oM 3 20 19,oH 4 21 20 true 0,oH 5 22 20 true 7,oG 6 23 20 true (.iaddr 1 (.t 21) (.t 22)),oG 7 24 20 true (.load none (.t 23)),oH 8 25 20 true 0,oH 9 26 20 true 7,oG 10 27 20 true (.bin .sub (.t 26) (.c (.int .i64 1))),oG 11 28 20 true (.iaddr 1 (.t 25) (.t 27)),oG 12 29 20 true (.load none (.t 28)),oG 13 30 20 true (.call 1345 [.t 24,.t 29]),oG 14 31 20 true (.not (.t 30)),oPf 15 32 20 31]
@[go_sem] theorem qq5:OE qC5.eq_1:=OEM qC5.eq_1
def qC6:List qB:=[oM 0 38 2,oM 1 39 1,oB 2 40 .sub 38 39,oE 3 41 .lss 40 50]
@[go_sem] theorem qq6:OE qC6.eq_1:=OEM qC6.eq_1
def qC7:List qB:=[oM 0 42 0,oM 1 43 7,oM 2 44 0,oM 3 45 7,oE 4 46 .sub 45 1,oM 5 47 0,oM 6 48 7,oE 7 49 .sub 48 1,oA 8 50 1 47 49,oL 9 51 50,oM 10 52 0,oM 11 53 7,oA 12 54 1 52 53,oL 13 55 54,oA 14 56 1 42 43,oT 15 1 56 51,oA 16 57 1 44 46,oT 17 1 57 55]
@[go_sem] theorem qq7:OE qC7.eq_1:=OEM qC7.eq_1
def qC8:List qB:=[oM 0 58 7,oM 1 59 1,oB 2 60 .sub 58 59,oE 3 61 .geq 60 2]
@[go_sem] theorem qq8:OE qC8.eq_1:=OEM qC8.eq_1
def qC9:List qB:=[oM 0 68 0,oM 1 69 9,oA 2 70 1 68 69,oL 3 71 70,oM 4 72 0,oM 5 73 9,oE 6 74 .sub 73 1,oA 7 75 1 72 74,oL 8 76 75,oD2 9 77 1345 71 76,oJ 10 78 77]
@[go_sem] theorem qq9:OE qC9.eq_1:=OEM qC9.eq_1
def qDA:List qB:=[oM 0 79 0,oM 1 80 9,oM 2 81 0,oM 3 82 9,oE 4 83 .sub 82 1,oM 5 84 0,oM 6 85 9,oE 7 86 .sub 85 1,oA 8 87 1 84 86,oL 9 88 87,oM 10 89 0,oM 11 90 9,oA 12 91 1 89 90,oL 13 92 91,oA 14 93 1 79 80,oT 15 1 93 88,oA 16 94 1 81 83,oT 17 1 94 92]
@[go_sem] theorem qrA:OE qDA.eq_1:=OEM qDA.eq_1
def qC4:qI:=.seq (sr [oM 0 64 9,oE 1 65 .geq 64 1] (.cond (.t 65) .skip (.exit 4))) (.seq (.blk 5 (.seq (sr qC9 (.cond (.t 78) (.exit 4) .skip)) (.reg true qDA))) (.reg true [oM 0 66 9,oE 1 67 .sub 66 1,oM 2 9 67]))
@[go_sem] theorem qq4:CE qC4.eq_1:=CEM qC4.eq_1
def qDB:List qB:=[oM 0 95 2,oM 1 96 7,oB 2 97 .sub 95 96,oE 3 98 .geq 97 2]
@[go_sem] theorem qrB:OE qDB.eq_1:=OEM qDB.eq_1
def qDC:List qB:=[oM 0 106 0,oM 1 107 10,oA 2 108 1 106 107,oL 3 109 108,oM 4 110 0,oM 5 111 10,oE 6 112 .sub 111 1,oA 7 113 1 110 112,oL 8 114 113,oD2 9 115 1345 109 114,oJ 10 116 115]
@[go_sem] theorem qrC:OE qDC.eq_1:=OEM qDC.eq_1
def qDD:List qB:=[oM 0 117 0,oM 1 118 10,oM 2 119 0,oM 3 120 10,oE 4 121 .sub 120 1,oM 5 122 0,oM 6 123 10,oE 7 124 .sub 123 1,oA 8 125 1 122 124,oL 9 126 125,oM 10 127 0,oM 11 128 10,oA 12 129 1 127 128,oL 13 130 129,oA 14 131 1 117 118,oT 15 1 131 126,oA 16 132 1 119 121,oT 17 1 132 130]
@[go_sem] theorem qrD:OE qDD.eq_1:=OEM qDD.eq_1
def qCZ:qI:=.seq (sr [oM 0 101 10,oM 1 102 2,oB 2 103 .lss 101 102] (.cond (.t 103) .skip (.exit 6))) (.seq (.blk 7 (.seq (sr qDC (.cond (.t 116) (.exit 6) .skip)) (.reg true qDD))) (.reg true [oM 0 104 10,oE 1 105 .add 104 1,oM 2 10 105]))
@[go_sem] theorem qqZ:CE qCZ.eq_1:=CEM qCZ.eq_1
def qC0:qI:=.seq (sr qC8 (.cond (.t 61) (sr [oM 0 62 7,oE 1 63 .sub 62 1,oM 2 9 63] (.blk 4 (.loop qC4))) .skip)) (sr qDB (.cond (.t 98) (sr [oM 0 99 7,oE 1 100 .add 99 1,oM 2 10 100] (.blk 6 (.loop qCZ))) .skip))
@[go_sem] theorem qq0:CE qC0.eq_1:=CEM qC0.eq_1
def qC1:qI:=.seq (sr [oM 0 35 7,oM 1 36 2,oB 2 37 .eql 35 36] (.cond (.t 37) (sr [oQ 0 6 true] .ret) .skip)) (.seq (sr qC6 (.cond (.t 41) (sr [oQ 0 6 false] .ret) .skip)) (sr qC7 qC0))
@[go_sem] theorem qq1:CE qC1.eq_1:=CEM qC1.eq_1
def qC2:qI:=.seq (.blk 1 (.seq (.blk 2 (.loop (.seq (sr qC5 (.cond (.t 32) .skip (.exit 2))) (.blk 3 (.reg true [oM 0 33 7,oE 1 34 .add 33 1,oM 2 7 34]))))) qC1)) (.reg true [oM 0 15 8,oE 1 16 .add 15 1,oM 2 8 16])
@[go_sem] theorem qq2:CE qC2.eq_1:=CEM qC2.eq_1
def qC3:qI:=.seq (sr [oC 0 8 0] (.blk 0 (.loop (.seq (sr [oM 0 13 8,oE 1 14 .lss 13 5] (.cond (.t 14) .skip (.exit 0))) qC2)))) (sr [oQ 0 6 false] .ret)
@[go_sem] theorem qq3:CE qC3.eq_1:=CEM qC3.eq_1
def Xc:qJ:=⟨3,133,[.t 6],sr [oQ 0 6 false] (sr [oM 0 11 1,oE 1 12 .add 11 1,oM 2 7 12] qC3)⟩
def qDI:List qB:=[oM 0 11 0,oM 1 12 1,oM 2 13 0,oM 3 14 3,oM 4 15 0,oM 5 16 3,oA 6 17 1 15 16,oL 7 18 17,oM 8 19 0,oM 9 20 1,oA 10 21 1 19 20,oL 11 22 21,oA 12 23 1 11 12,oT 13 1 23 18,oA 14 24 1 13 14,oT 15 1 24 22]
@[go_sem] theorem qrI:OE qDI.eq_1:=OEM qDI.eq_1
def qDJ:List qB:=[oM 0 25 1,oE 1 26 .add 25 1,oM 2 27 2,oE 3 28 .sub 27 1,oM 4 9 26,oM 5 10 28]
@[go_sem] theorem qrJ:OE qDJ.eq_1:=OEM qDJ.eq_1
def qDK:List qB:=[oM 0 29 9,oM 1 30 10,oB 2 31 .leq 29 30,oM 3 32 31,oH 4 33 32 true 0,oH 5 34 32 true 1,oG 6 35 32 true (.iaddr 1 (.t 33) (.t 34)),oG 7 36 32 true (.load none (.t 35)),oH 8 37 32 true 0,oH 9 38 32 true 9,oG 10 39 32 true (.iaddr 1 (.t 37) (.t 38)),oG 11 40 32 true (.load none (.t 39)),oG 12 41 32 true (.call 1345 [.t 36,.t 40]),oG 13 42 32 true (.not (.t 41)),oPf 14 43 32 42]
@[go_sem] theorem qrK:OE qDK.eq_1:=OEM qDK.eq_1
def qDL:List qB:=[oM 0 46 9,oM 1 47 10,oB 2 48 .leq 46 47,oM 3 49 48,oH 4 50 49 true 0,oH 5 51 49 true 1,oG 6 52 49 true (.iaddr 1 (.t 50) (.t 51)),oG 7 53 49 true (.load none (.t 52)),oH 8 54 49 true 0,oH 9 55 49 true 10,oG 10 56 49 true (.iaddr 1 (.t 54) (.t 55)),oG 11 57 49 true (.load none (.t 56)),oG 12 58 49 true (.call 1345 [.t 53,.t 57]),oPf 13 59 49 58]
@[go_sem] theorem qrL:OE qDL.eq_1:=OEM qDL.eq_1
def qDM:List qB:=[oM 0 65 0,oM 1 66 9,oM 2 67 0,oM 3 68 10,oM 4 69 0,oM 5 70 10,oA 6 71 1 69 70,oL 7 72 71,oM 8 73 0,oM 9 74 9,oA 10 75 1 73 74,oL 11 76 75,oA 12 77 1 65 66,oT 13 1 77 72,oA 14 78 1 67 68,oT 15 1 78 76]
@[go_sem] theorem qrM:OE qDM.eq_1:=OEM qDM.eq_1
def qDF:qI:=sr qDM (sr [oM 0 79 9,oE 1 80 .add 79 1,oM 2 9 80] (.reg true [oM 0 81 10,oE 1 82 .sub 81 1,oM 2 10 82]))
@[go_sem] theorem qrF:CE qDF.eq_1:=CEM qDF.eq_1
def qDG:qI:=.seq (.blk 4 (.loop (.seq (sr qDL (.cond (.t 59) .skip (.exit 4))) (.blk 5 (.reg true [oM 0 60 10,oE 1 61 .sub 60 1,oM 2 10 61]))))) (.seq (sr [oM 0 62 9,oM 1 63 10,oB 2 64 .gtr 62 63] (.cond (.t 64) (.exit 0) .skip)) qDF)
@[go_sem] theorem qrG:CE qDG.eq_1:=CEM qDG.eq_1
def qDH:qI:=.loop (.blk 1 (.seq (.blk 2 (.loop (.seq (sr qDK (.cond (.t 43) .skip (.exit 2))) (.blk 3 (.reg true [oM 0 44 9,oE 1 45 .add 44 1,oM 2 9 45]))))) qDG))
@[go_sem] theorem qrH:CE qDH.eq_1:=CEM qDH.eq_1
def Xe:qJ:=⟨4,84,[.t 8],sr [oC 0 8 0] (sr qDI (sr qDJ (.seq (.blk 0 qDH) (sr [oM 0 83 9,oM 1 8 83] .ret))))⟩
def qDU:List qB:=[oM 0 12 0,oM 1 13 1,oM 2 14 0,oM 3 15 3,oM 4 16 0,oM 5 17 3,oA 6 18 1 16 17,oL 7 19 18,oM 8 20 0,oM 9 21 1,oA 10 22 1 20 21,oL 11 23 22,oA 12 24 1 12 13,oT 13 1 24 19,oA 14 25 1 14 15,oT 15 1 25 23]
@[go_sem] theorem qrU:OE qDU.eq_1:=OEM qDU.eq_1
def qDV:List qB:=[oM 0 26 1,oE 1 27 .add 26 1,oM 2 28 2,oE 3 29 .sub 28 1,oM 4 10 27,oM 5 11 29]
@[go_sem] theorem qrW:OE qDV.eq_1:=OEM qDV.eq_1
def qDX:List qB:=[oM 0 30 10,oM 1 31 11,oB 2 32 .leq 30 31,oM 3 33 32,oH 4 34 33 true 0,oH 5 35 33 true 10,oG 6 36 33 true (.iaddr 1 (.t 34) (.t 35)),oG 7 37 33 true (.load none (.t 36)),oH 8 38 33 true 0,oH 9 39 33 true 1,oG 10 40 33 true (.iaddr 1 (.t 38) (.t 39)),oG 11 41 33 true (.load none (.t 40)),oG 12 42 33 true (.call 1345 [.t 37,.t 41]),oPf 13 43 33 42]
@[go_sem] theorem qrX:OE qDX.eq_1:=OEM qDX.eq_1
def qDY:List qB:=[oM 0 46 10,oM 1 47 11,oB 2 48 .leq 46 47,oM 3 49 48,oH 4 50 49 true 0,oH 5 51 49 true 11,oG 6 52 49 true (.iaddr 1 (.t 50) (.t 51)),oG 7 53 49 true (.load none (.t 52)),oH 8 54 49 true 0,oH 9 55 49 true 1,oG 10 56 49 true (.iaddr 1 (.t 54) (.t 55)),oG 11 57 49 true (.load none (.t 56)),oG 12 58 49 true (.call 1345 [.t 53,.t 57]),oG 13 59 49 true (.not (.t 58)),oPf 14 60 49 59]
@[go_sem] theorem qrY:OE qDY.eq_1:=OEM qDY.eq_1
def qDZ:List qB:=[oM 0 66 0,oM 1 67 11,oM 2 68 0,oM 3 69 1,oM 4 70 0,oM 5 71 1,oA 6 72 1 70 71,oL 7 73 72,oM 8 74 0,oM 9 75 11,oA 10 76 1 74 75,oL 11 77 76,oA 12 78 1 66 67,oT 13 1 78 73,oA 14 79 1 68 69,oT 15 1 79 77]
@[go_sem] theorem qrZ:OE qDZ.eq_1:=OEM qDZ.eq_1
def qDT:qI:=sr [oM 0 63 10,oM 1 64 11,oB 2 65 .gtr 63 64] (.cond (.t 65) (sr qDZ (sr [oM 0 80 11,oM 1 8 80,oQ 2 9 true] .ret)) .skip)
@[go_sem] theorem qrT:CE qDT.eq_1:=CEM qDT.eq_1
def qD0:List qB:=[oM 0 81 0,oM 1 82 10,oM 2 83 0,oM 3 84 11,oM 4 85 0,oM 5 86 11,oA 6 87 1 85 86,oL 7 88 87,oM 8 89 0,oM 9 90 10,oA 10 91 1 89 90,oL 11 92 91,oA 12 93 1 81 82,oT 13 1 93 88,oA 14 94 1 83 84,oT 15 1 94 92]
@[go_sem] theorem qr0:OE qD0.eq_1:=OEM qD0.eq_1
def qD1:List qB:=[oM 0 99 10,oM 1 100 11,oB 2 101 .leq 99 100,oM 3 102 101,oH 4 103 102 true 0,oH 5 104 102 true 10,oG 6 105 102 true (.iaddr 1 (.t 103) (.t 104)),oG 7 106 102 true (.load none (.t 105)),oH 8 107 102 true 0,oH 9 108 102 true 1,oG 10 109 102 true (.iaddr 1 (.t 107) (.t 108)),oG 11 110 102 true (.load none (.t 109)),oG 12 111 102 true (.call 1345 [.t 106,.t 110]),oPf 13 112 102 111]
@[go_sem] theorem qr1:OE qD1.eq_1:=OEM qD1.eq_1
def qD2:List qB:=[oM 0 115 10,oM 1 116 11,oB 2 117 .leq 115 116,oM 3 118 117,oH 4 119 118 true 0,oH 5 120 118 true 11,oG 6 121 118 true (.iaddr 1 (.t 119) (.t 120)),oG 7 122 118 true (.load none (.t 121)),oH 8 123 118 true 0,oH 9 124 118 true 1,oG 10 125 118 true (.iaddr 1 (.t 123) (.t 124)),oG 11 126 118 true (.load none (.t 125)),oG 12 127 118 true (.call 1345 [.t 122,.t 126]),oG 13 128 118 true (.not (.t 127)),oPf 14 129 118 128]
@[go_sem] theorem qr2:OE qD2.eq_1:=OEM qD2.eq_1
def qD3:List qB:=[oM 0 135 0,oM 1 136 10,oM 2 137 0,oM 3 138 11,oM 4 139 0,oM 5 140 11,oA 6 141 1 139 140,oL 7 142 141,oM 8 143 0,oM 9 144 10,oA 10 145 1 143 144,oL 11 146 145,oA 12 147 1 135 136,oT 13 1 147 142,oA 14 148 1 137 138,oT 15 1 148 146]
@[go_sem] theorem qr3:OE qD3.eq_1:=OEM qD3.eq_1
def qDN:qI:=sr qD3 (sr [oM 0 149 10,oE 1 150 .add 149 1,oM 2 10 150] (.reg true [oM 0 151 11,oE 1 152 .sub 151 1,oM 2 11 152]))
@[go_sem] theorem qrN:CE qDN.eq_1:=CEM qDN.eq_1
def qDO:qI:=.seq (.blk 8 (.loop (.seq (sr qD2 (.cond (.t 129) .skip (.exit 8))) (.blk 9 (.reg true [oM 0 130 11,oE 1 131 .sub 130 1,oM 2 11 131]))))) (.seq (sr [oM 0 132 10,oM 1 133 11,oB 2 134 .gtr 132 133] (.cond (.t 134) (.exit 4) .skip)) qDN)
@[go_sem] theorem qrO:CE qDO.eq_1:=CEM qDO.eq_1
def qDP:qI:=.loop (.blk 5 (.seq (.blk 6 (.loop (.seq (sr qD1 (.cond (.t 112) .skip (.exit 6))) (.blk 7 (.reg true [oM 0 113 10,oE 1 114 .add 113 1,oM 2 10 114]))))) qDO))
@[go_sem] theorem qrP:CE qDP.eq_1:=CEM qDP.eq_1
def qDW:List qB:=[oM 0 153 0,oM 1 154 11,oM 2 155 0,oM 3 156 1,oM 4 157 0,oM 5 158 1,oA 6 159 1 157 158,oL 7 160 159,oM 8 161 0,oM 9 162 11,oA 10 163 1 161 162,oL 11 164 163,oA 12 165 1 153 154,oT 13 1 165 160,oA 14 166 1 155 156,oT 15 1 166 164]
@[go_sem] theorem qrV:OE qDW.eq_1:=OEM qDW.eq_1
def qDQ:qI:=sr [oM 0 97 11,oE 1 98 .sub 97 1,oM 2 11 98] (.seq (.blk 4 qDP) (sr qDW (sr [oM 0 167 11,oM 1 8 167,oQ 2 9 false] .ret)))
@[go_sem] theorem qrQ:CE qDQ.eq_1:=CEM qDQ.eq_1
def qDR:qI:=.seq (.blk 2 (.loop (.seq (sr qDY (.cond (.t 60) .skip (.exit 2))) (.blk 3 (.reg true [oM 0 61 11,oE 1 62 .sub 61 1,oM 2 11 62]))))) (.seq qDT (sr qD0 (sr [oM 0 95 10,oE 1 96 .add 95 1,oM 2 10 96] qDQ)))
@[go_sem] theorem qrR:CE qDR.eq_1:=CEM qDR.eq_1
def qDS:qI:=sr qDU (sr qDV (.seq (.blk 0 (.loop (.seq (sr qDX (.cond (.t 43) .skip (.exit 0))) (.blk 1 (.reg true [oM 0 44 10,oE 1 45 .add 44 1,oM 2 10 45]))))) qDR))
@[go_sem] theorem qrS:CE qDS.eq_1:=CEM qDS.eq_1
def Xf:qJ:=⟨4,168,[.t 8,.t 9],sr [oC 0 8 0,oQ 1 9 false] qDS⟩
def Kd:List qB:=[oM 0 19 2,oM 1 20 1,oB 2 21 .sub 19 20,oM 3 10 21]
@[go_sem] theorem ql6:OE Kd.eq_1:=OEM Kd.eq_1
def Ke:List qB:=[oM 0 24 0,oM 1 25 1,oM 2 26 2,oP 3 27 (.call 1339 [.t 24,.t 25,.t 26])]
@[go_sem] theorem qmD:OE Ke.eq_1:=OEM Ke.eq_1
def Kl:List qB:=[oM 0 30 0,oM 1 31 1,oM 2 32 2,oP 3 33 (.call 1340 [.t 30,.t 31,.t 32])]
@[go_sem] theorem qmE:OE Kl.eq_1:=OEM Kl.eq_1
def Km:List qB:=[oM 0 36 0,oM 1 37 1,oM 2 38 2,oP 3 39 (.call 1341 [.t 36,.t 37,.t 38])]
@[go_sem] theorem qmF:OE Km.eq_1:=OEM Km.eq_1
def Zk:List qB:=[oM 0 43 0,oM 1 44 1,oM 2 45 2,oP 3 46 (.call 1342 [.t 43,.t 44,.t 45]),oM 4 42 46,oV 5 47 42 0,oV 6 48 42 1,oM 7 11 47,oM 8 12 48]
@[go_sem] theorem qYF:OE Zk.eq_1:=OEM Zk.eq_1
def Kn:List qB:=[oM 0 51 0,oM 1 52 1,oM 2 53 2,oP 3 54 (.call 1343 [.t 51,.t 52,.t 53])]
@[go_sem] theorem qmG:OE Kn.eq_1:=OEM Kn.eq_1
def Ko:List qB:=[oM 0 55 2,oE 1 56 .sub 55 1,oM 2 57 11,oM 3 58 1,oB 4 59 .sub 57 58,oB 5 60 .sub 56 59,oM 6 11 60]
@[go_sem] theorem qmH:OE Ko.eq_1:=OEM Ko.eq_1
def Zl:List qB:=[oM 0 61 8,oM 1 62 61,oH 2 63 62 true 9,oPf 3 64 62 63,oM 4 65 64,oH 5 66 65 true 12,oG 6 67 65 true (.bin .eql (.t 66) (.c (.int .i64 1))),oPf 7 68 65 67]
@[go_sem] theorem qYG:OE Zl.eq_1:=OEM Zl.eq_1
def W4:List qB:=[oM 0 69 0,oM 1 70 1,oM 2 71 2,oP 3 72 (.call 1344 [.t 69,.t 70,.t 71])]
@[go_sem] theorem qmI:OE W4.eq_1:=OEM W4.eq_1
def Kp:List qB:=[oM 0 73 1,oE 1 74 .gtr 73 0,oM 2 75 74,oH 3 76 75 true 0,oH 4 77 75 true 1,oG 5 78 75 true (.bin .sub (.t 77) (.c (.int .i64 1))),oG 6 79 75 true (.iaddr 1 (.t 76) (.t 78)),oG 7 80 75 true (.load none (.t 79)),oH 8 81 75 true 0,oH 9 82 75 true 11,oG 10 83 75 true (.iaddr 1 (.t 81) (.t 82)),oG 11 84 75 true (.load none (.t 83)),oG 12 85 75 true (.call 1345 [.t 80,.t 84]),oG 13 86 75 true (.not (.t 85)),oPf 14 87 75 86]
@[go_sem] theorem qmJ:OE Kp.eq_1:=OEM Kp.eq_1
def Kf:List qB:=[oM 0 88 0,oM 1 89 1,oM 2 90 2,oM 3 91 11,oP 4 92 (.call 1346 [.t 88,.t 89,.t 90,.t 91]),oM 5 13 92]
@[go_sem] theorem ql7:OE Kf.eq_1:=OEM Kf.eq_1
def Zj:List qB:=[oM 0 95 0,oM 1 96 1,oM 2 97 2,oM 3 98 11,oP 4 99 (.call 1347 [.t 95,.t 96,.t 97,.t 98]),oM 5 94 99,oV 6 100 94 0,oV 7 101 94 1,oM 8 14 100,oM 9 15 101]
@[go_sem] theorem qYE:OE Zj.eq_1:=OEM Zj.eq_1
def Kg:List qB:=[oM 0 103 14,oM 1 104 1,oB 2 105 .sub 103 104,oM 3 106 2,oM 4 107 14,oB 5 108 .sub 106 107,oM 6 16 105,oM 7 17 108]
@[go_sem] theorem ql8:OE Kg.eq_1:=OEM Kg.eq_1
def Kh:List qB:=[oM 0 114 16,oM 1 115 18,oB 2 116 .geq 114 115,oM 3 8 116]
@[go_sem] theorem ql9:OE Kh.eq_1:=OEM Kh.eq_1
def Ki:List qB:=[oM 0 117 0,oM 1 118 1,oM 2 119 14,oM 3 120 3,oP 4 121 (.call 1053 [.t 117,.t 118,.t 119,.t 120])]
@[go_sem] theorem qmA:OE Ki.eq_1:=OEM Ki.eq_1
def Kj:List qB:=[oM 0 124 17,oM 1 125 18,oB 2 126 .geq 124 125,oM 3 8 126]
@[go_sem] theorem qmB:OE Kj.eq_1:=OEM Kj.eq_1
def Kk:List qB:=[oM 0 127 0,oM 1 128 14,oE 2 129 .add 128 1,oM 3 130 2,oM 4 131 3,oP 5 132 (.call 1053 [.t 127,.t 129,.t 130,.t 131])]
@[go_sem] theorem qmC:OE Kk.eq_1:=OEM Kk.eq_1
def Ka:qI:=.cond (.t 113) (sr Kh (sr Ki (.reg true [oM 0 122 14,oE 1 123 .add 122 1,oM 2 1 123]))) (sr Kj (sr Kk (.reg true [oM 0 133 14,oM 1 2 133])))
@[go_sem] theorem ql2:CE Ka.eq_1:=CEM Ka.eq_1
def Qf:qI:=sr Kg (sr [oM 0 109 10,oE 1 110 .quo 109 8,oM 2 18 110] (sr [oM 0 111 16,oM 1 112 17,oB 2 113 .lss 111 112] Ka))
@[go_sem] theorem ql3:CE Qf.eq_1:=CEM Qf.eq_1
def Qg:qI:=.seq (sr Kp (.cond (.t 87) (sr Kf (sr [oM 0 93 13,oM 1 1 93] (.exit 1))) .skip)) (sr Zj (sr [oM 0 102 15,oM 1 9 102] Qf))
@[go_sem] theorem qYC:CE Qg.eq_1:=CEM Qg.eq_1
def QA:qI:=.seq (sr [oM 0 49 12,oE 1 50 .eql 49 2] (.cond (.t 50) (sr Kn (sr Ko (.reg true [oC 0 12 1]))) .skip)) (.seq (sr Zl (.cond (.t 68) (sr W4 (.cond (.t 72) .ret .skip)) .skip)) Qg)
@[go_sem] theorem qYD:CE QA.eq_1:=CEM QA.eq_1
def Kb:qI:=.seq (sr [oM 0 34 8,oJ 1 35 34] (.cond (.t 35) (sr Km (.reg true [oM 0 40 3,oE 1 41 .sub 40 1,oM 2 3 41])) .skip)) (sr Zk QA)
@[go_sem] theorem ql4:CE Kb.eq_1:=CEM Kb.eq_1
def Kc:qI:=sr Kd (.seq (sr [oM 0 22 10,oE 1 23 .leq 22 12] (.cond (.t 23) (sr Ke .ret) .skip)) (.seq (sr [oM 0 28 3,oE 1 29 .eql 28 0] (.cond (.t 29) (sr Kl .ret) .skip)) Kb))
@[go_sem] theorem ql5:CE Kc.eq_1:=CEM Kc.eq_1
def W3:qJ:=⟨4,134,[],sr [oQ 0 8 true] (sr [oQ 0 9 true] (.blk 0 (.loop (.blk 1 Kc))))⟩
def qJ7:List qB:=[oM 0 5 0,oM 1 6 2,oM 2 7 2,oP 3 8 (.conv .u64 (.t 7)),oD1 4 9 1054 8,oP 5 10 (.call 1053 [.t 5,.c (.int .i64 0),.t 6,.t 9])]
@[go_sem] theorem qx7:OE qJ7.eq_1:=OEM qJ7.eq_1
def YU:qJ:=⟨1,11,[],sr [oM 0 3 0,oW 1 4 3,oM 2 2 4] (.reg true qJ7)⟩
def KF:List qB:=[oM 0 10 1,oU 1 11 2,oX 2 12 2 1,oP 3 13 (.bslice 1 (.int .i64 0) 1 [(0,.t 12)]),oP 4 14 (.app 1 (.t 10) (.t 13)),oM 5 1 14]
@[go_sem] theorem qlJ:OE KF.eq_1:=OEM KF.eq_1
def KG:List qB:=[oM 0 15 1,oU 1 16 2,oX 2 17 2 2,oP 3 18 (.app 1 (.t 15) (.t 17)),oM 4 1 18]
@[go_sem] theorem qlK:OE KG.eq_1:=OEM KG.eq_1
def KH:List qB:=[oU 0 19 2,oX 1 20 2 3,oW 2 21 20,oC 3 22 0]
@[go_sem] theorem qlL:OE KH.eq_1:=OEM KH.eq_1
def KI:List qB:=[oA 0 24 4 20 22,oP 1 25 (.load (some 4) (.t 24)),oZ 2 6,oS 3 6 0 4 25]
@[go_sem] theorem qlM:OE KI.eq_1:=OEM KI.eq_1
def KJ:List qB:=[oY 0 26 6 0 4,oM 1 27 1,oD2 2 28 1041 26 27,oM 3 1 28]
@[go_sem] theorem qlN:OE KJ.eq_1:=OEM KJ.eq_1
def KD:qI:=.loop (sr [oB 0 23 .lss 22 21] (.seq (.cond (.t 23) .skip (.exit 0)) (.seq (.blk 1 (sr KI (.reg true KJ))) (.reg true [oE 0 29 .add 22 1,oM 1 22 29]))))
@[go_sem] theorem qlH:CE KD.eq_1:=CEM KD.eq_1
def KE:qI:=.seq (sr [oU 0 7 2,oX 1 8 2 0,oE 2 9 .eql 8 11] (.cond (.t 9) (.reg true KF) .skip)) (sr KG (.seq (sr KH (.blk 0 KD)) (sr [oM 0 30 1,oM 1 4 30] .ret)))
@[go_sem] theorem qlI:CE KE.eq_1:=CEM KE.eq_1
def Wz:qJ:=⟨2,31,[.t 4],sr [oP 0 2 (.lbox 4 (.t 0)),oP 1 4 (.mov (.c (.nils)))] KE⟩
def qJ0:List qB:=[oU 0 6 2,oX 1 7 2 0,oM 2 8 1,oA 3 9 4 7 8,oP 4 10 (.load (some 4) (.t 9)),oP 5 11 (.call 1041 [.t 10,.c (.nils)]),oM 6 5 11]
@[go_sem] theorem qx0:OE qJ0.eq_1:=OEM qJ0.eq_1
def YS:qJ:=⟨2,16,[.t 4],sr [oP 0 2 (.lbox 1 (.t 0)),oP 1 4 (.mov (.c (.nils)))] (sr qJ0 (sr [oM 0 12 5,oD1 1 13 678 12] (sr [oM 0 14 5,oD1 1 15 1042 14,oM 2 4 15] .ret)))⟩
def U8:List qB:=[oM 0 11 6,oM 1 12 5,oW 2 13 12,oB 3 14 .lss 11 13]
@[go_sem] theorem qlC:OE U8.eq_1:=OEM U8.eq_1
def U9:List qB:=[oY 0 17 2 0 1,oM 1 18 5,oM 2 19 6,oA 3 20 1 18 19,oL 4 21 20,oC 7 24 0,oD2 5 22 664 17 21,oW 6 23 22]
@[go_sem] theorem qlD:OE U9.eq_1:=OEM U9.eq_1
def KA:List qB:=[oM 0 28 5,oM 1 29 8,oD2 2 30 647 28 29,oJ 3 31 30]
@[go_sem] theorem qlE:OE KA.eq_1:=OEM KA.eq_1
def KB:List qB:=[oM 0 32 5,oM 1 33 8,oP 2 34 (.bslice 1 (.int .i64 0) 1 [(0,.t 33)]),oP 3 35 (.app 1 (.t 32) (.t 34)),oM 4 5 35]
@[go_sem] theorem qlF:OE KB.eq_1:=OEM KB.eq_1
def U5:qI:=.seq (.blk 3 (sr [oA 0 26 1 22 24,oL 1 27 26,oM 2 8 27] (sr KA (.cond (.t 31) (.reg true KB) .skip)))) (.reg true [oE 0 36 .add 24 1,oM 1 24 36])
@[go_sem] theorem qk9:CE U5.eq_1:=CEM U5.eq_1
def U6:qI:=.seq (.blk 1 (sr U9 (.blk 2 (.loop (sr [oB 0 25 .lss 24 23] (.seq (.cond (.t 25) .skip (.exit 2)) U5)))))) (.reg true [oM 0 15 6,oE 1 16 .add 15 1,oM 2 6 16])
@[go_sem] theorem qlA:CE U6.eq_1:=CEM U6.eq_1
def U7:qI:=.seq (sr [oC 0 6 0] (.blk 0 (.loop (.seq (sr U8 (.cond (.t 14) .skip (.exit 0))) U6)))) (sr [oM 0 37 5,oD1 1 38 678 37] (sr [oM 0 39 5,oD1 1 40 1042 39,oM 2 4 40] .ret))
@[go_sem] theorem qlB:CE U7.eq_1:=CEM U7.eq_1
def Wx:qJ:=⟨2,41,[.t 4],sr [oP 0 2 (.lbox 1 (.t 0)),oP 1 4 (.mov (.c (.nils)))] (sr [oM 0 9 1,oD1 1 10 401 9,oM 2 5 10] U7)⟩
def KC:List qB:=[oP 0 5 (.load (some 1) (.t 1)),oM 1 6 0,oL 3 8 2,⟨2,some 7,none,.call 664 [.t 5,.t 6],[⟨3,some 8,none,.load none (.t 2),[]⟩]⟩,oD2 4 9 647 7 8,oM 5 4 9]
@[go_sem] theorem qlG:OE KC.eq_1:=OEM KC.eq_1
def Wy:qJ:=⟨3,10,[.t 4],sr [oQ 0 4 false] (sr KC .ret)⟩
def qJZ:List qB:=[oP 0 5 (.load (some 1) (.t 2)),oL 1 6 3,oP 2 7 (.bslice 1 (.int .i64 0) 1 [(0,.t 6)]),oD2 3 8 1039 5 7,oP 4 9 (.mkfn 1040 [.t 2,.t 3]),oD2 5 10 397 8 9,oM 6 4 10]
@[go_sem] theorem qxZ:OE qJZ.eq_1:=OEM qJZ.eq_1
def YR:qJ:=⟨2,11,[.t 4],sr [oP 0 2 (.hbox 1 (.t 0)),oP 1 3 (.hbox 1 (.t 1)),oQ 2 4 false] (sr qJZ .ret)⟩
def qNL:List qB:=[oY 0 10 2 0 1,oM 1 11 1,oP 2 12 (.build (.agg [.nils,.int .i64 0,.nils]) [(0,1,.t 10),(1,1,.t 11)]),oP 3 13 (.hbox 3 (.t 12)),oM 4 5 13]
@[go_sem] theorem zBL:OE qNL.eq_1:=OEM qNL.eq_1
def qNM:List qB:=[oU 0 14 2,oX 1 15 2 0,oW 2 16 15,oC 3 17 0]
@[go_sem] theorem zBM:OE qNM.eq_1:=OEM qNM.eq_1
def qNN:List qB:=[oM 0 19 17,oA 1 20 4 15 17,oP 2 21 (.load (some 4) (.t 20)),oZ 3 7,oM 4 6 19,oS 5 7 0 4 21]
@[go_sem] theorem zBN:OE qNN.eq_1:=OEM qNN.eq_1
def qNO:List qB:=[oY 0 23 7 0 4,oD1 1 24 665 23,oM 2 22 24,oV 3 25 22 0,oV 4 26 22 1,oM 5 8 25,oM 6 9 26]
@[go_sem] theorem zBO:OE qNO.eq_1:=OEM qNO.eq_1
def qNP:List qB:=[oM 0 27 5,oM 1 28 5,oK 2 29 28,oF 3 30 2 29,oL 4 31 30,oU 5 32 7,oX 6 33 7 0,oE 7 34 .eql 33 4,oM 8 35 34,oH 9 36 35 true 9,oH 10 37 35 true 1,oG 11 38 35 true (.bin .leq (.t 36) (.t 37)),oPf 12 39 35 38,oM 13 40 39,oG 14 41 40 true (.lload 2 0 (some 1)),oH 15 42 40 true 6,⟨16,some 43,(some (40,true)),.call 663 [.t 41,.t 42],[⟨4,some 31,none,.load none (.t 30),[]⟩]⟩,oG 17 44 40 true (.not (.t 43)),oPf 18 45 40 44,oP 19 46 (.bslice 1 (.bool false) 1 [(0,.t 45)]),oP 20 47 (.app 1 (.t 31) (.t 46)),oK 21 48 27,oF 22 49 2 48,oT 23 1 49 47]
@[go_sem] theorem zBP:OE qNP.eq_1:=OEM qNP.eq_1
def qNK:qI:=.loop (sr [oB 0 18 .lss 17 16] (.seq (.cond (.t 18) .skip (.exit 0)) (.seq (.blk 1 (sr qNN (sr qNO (.reg true qNP)))) (.reg true [oE 0 50 .add 17 1,oM 1 17 50]))))
@[go_sem] theorem zBK:CE qNK.eq_1:=CEM qNK.eq_1
def Yl:qJ:=⟨2,52,[.t 4],sr [oP 0 2 (.lbox 1 (.t 0)),oP 1 4 (.mov (.c (.nilp)))] (sr qNL (.seq (sr qNM (.blk 0 qNK)) (sr [oM 0 51 5,oM 1 4 51] .ret)))⟩
def qHX:List qB:=[oP 0 4 (.lbox 1 (.t 0)),oP 1 5 (.lbox 4 (.t 1)),oP 2 8 (.mov (.c (.nilp))),oC 3 9 0]
@[go_sem] theorem qvX:OE qHX.eq_1:=OEM qHX.eq_1
def qHY:List qB:=[oY 0 11 4 0 1,oD1 1 12 498 11,oJ 2 13 12,oM 3 14 13,oG 4 15 14 false (.lload 5 0 (some 4)),oG 5 16 14 false (.call 521 [.t 15]),oG 6 17 14 false (.not (.t 16)),oPt 7 18 14 17,oM 8 19 18,oG 9 20 19 false (.lload 5 0 (some 4)),oG 10 21 19 false (.nop 4),oG 11 22 19 false (.lload 4 0 none),oG 12 23 19 false (.len (.t 22)),oG 13 24 19 false (.call 847 [.t 20,.t 23]),oG 14 25 19 false (.not (.t 24)),oPt 15 26 19 25,oM 16 10 26]
@[go_sem] theorem qvY:OE qHY.eq_1:=OEM qHY.eq_1
def qHZ:List qB:=[oY 0 28 5 0 4,oD1 1 29 522 28,oJ 2 30 29,oM 3 31 30,oG 4 32 31 false (.lload 4 0 (some 1)),oG 5 33 31 false (.call 848 [.t 32]),oG 6 34 31 false (.not (.t 33)),oPt 7 35 31 34,oM 8 27 35]
@[go_sem] theorem qvZ:OE qHZ.eq_1:=OEM qHZ.eq_1
def qH0:List qB:=[oM 0 37 2,oP 1 38 (.bslice 1 (.int .i64 0) 1 [(0,.t 37)]),oP 2 39 (.call 436 [.c (.int .i64 40),.t 38]),oJ 3 40 39,oM 4 41 40,oH 5 42 41 false 3,oG 6 43 41 false (.bslice 1 (.int .i64 0) 1 [(0,.t 42)]),oG 7 44 41 false (.call 436 [.c (.int .i64 2000),.t 43]),oG 8 45 41 false (.not (.t 44)),oPt 9 46 41 45,oM 10 36 46]
@[go_sem] theorem qv0:OE qH0.eq_1:=OEM qH0.eq_1
def qHW:qI:=.cond (.t 10) (sr [oP 0 8 (.mov (.c (.nilp))),oC 1 9 1] .ret) (sr qHZ (.cond (.t 27) (sr [oP 0 8 (.mov (.c (.nilp))),oC 1 9 9] .ret) (sr qH0 (.cond (.t 36) (sr [oP 0 8 (.mov (.c (.nilp))),oC 1 9 2] .ret) .skip))))
@[go_sem] theorem qvW:CE qHW.eq_1:=CEM qHW.eq_1
def qH1:List qB:=[oY 0 47 4 0 1,oM 1 48 2,oD2 2 49 849 47 48,oM 3 8 49,oC 4 9 0]
@[go_sem] theorem qv1:OE qH1.eq_1:=OEM qH1.eq_1
def X9:qJ:=⟨4,50,[.t 8,.t 9],sr qHX (.seq (.blk 0 (sr qHY qHW)) (sr qH1 .ret))⟩
def qL6:List qB:=[oP 0 5 (.mov (.c (.lst 4 [] true))),oM 1 6 0,oP 2 7 (.app 4 (.t 5) (.t 6)),oM 3 2 7]
@[go_sem] theorem qz6:OE qL6.eq_1:=OEM qL6.eq_1
def Yd:qJ:=⟨1,8,[.t 2],sr [oP 0 2 (.mov (.c (.nils)))] (.seq (sr [oM 0 3 0,oP 1 4 (.isnil 1 false (.t 3))] (.cond (.t 4) (sr [oP 0 2 (.mov (.c (.nils)))] .ret) .skip)) (sr qL6 .ret))⟩
def qKK:List qB:=[oU 0 5 1,oX 1 6 1 3,oW 2 7 6,oE 3 8 .eql 7 0]
@[go_sem] theorem qyK:OE qKK.eq_1:=OEM qKK.eq_1
def qKL:List qB:=[oU 0 9 1,oX 1 10 1 3,oP 2 11 (.iaddr 4 (.t 10) (.c (.int .i64 0))),oP 3 12 (.load (some 4) (.t 11)),oZ 4 3,oS 5 3 0 4 12]
@[go_sem] theorem qyL:OE qKL.eq_1:=OEM qKL.eq_1
def qKI:qI:=sr [oE 0 20 .eql 18 4,oM 1 19 20] (.cond (.t 19) (sr [oC 0 2 1] .ret) (sr [oE 0 22 .eql 18 11,oM 1 21 22] (.cond (.t 21) (sr [oC 0 2 4] .ret) .skip)))
@[go_sem] theorem qyI:CE qKI.eq_1:=CEM qKI.eq_1
def qKM:List qB:=[oU 0 25 1,oX 1 26 1 3,oP 2 27 (.iaddr 4 (.t 26) (.c (.int .i64 1))),oP 3 28 (.load (some 4) (.t 27)),oZ 4 4,oS 5 4 0 4 28]
@[go_sem] theorem qyM:OE qKM.eq_1:=OEM qKM.eq_1
def qKN:List qB:=[oU 0 30 3,oX 1 31 3 0,oE 2 32 .eql 31 2,oM 3 33 32,oG 4 34 33 true (.nop 4),oG 5 35 33 true (.lload 4 0 none),oG 6 36 33 true (.bin .eql (.t 35) (.c (.int .i64 2))),oPf 7 37 33 36,oM 8 29 37]
@[go_sem] theorem qyN:OE qKN.eq_1:=OEM qKN.eq_1
def qKO:List qB:=[oU 0 39 3,oX 1 40 3 0,oE 2 41 .eql 40 11,oM 3 42 41,oG 4 43 42 false (.nop 3),oG 5 44 42 false (.lload 3 0 none),oG 6 45 42 false (.bin .eql (.t 44) (.c (.int .i64 2))),oH 7 46 42 false 45,oG 8 47 46 true (.nop 4),oG 9 48 46 true (.lload 4 0 none),oG 10 49 46 true (.bin .eql (.t 48) (.c (.int .i64 11))),oG 11 50 42 false (.pick (.t 46) (.t 49) (.c (.bool false))),oPt 12 51 42 50,oM 13 38 51]
@[go_sem] theorem qyO:OE qKO.eq_1:=OEM qKO.eq_1
def qKP:List qB:=[oU 0 56 3,oX 1 57 3 0,oE 2 58 .eql 57 11,oM 3 55 58]
@[go_sem] theorem qyP:OE qKP.eq_1:=OEM qKP.eq_1
def qKQ:List qB:=[oU 0 60 1,oX 1 61 1 0,oE 2 62 .eql 61 9,oM 3 63 62,oG 4 64 63 true (.nop 3),oG 5 65 63 true (.lload 3 0 none),oG 6 66 63 true (.bin .eql (.t 65) (.c (.int .i64 8))),oPf 7 67 63 66,oM 8 68 67,oG 9 69 68 true (.nop 3),oG 10 70 68 true (.lload 3 1 none),oG 11 71 68 true (.nop 1),oG 12 72 68 true (.lload 1 2 none),oG 13 73 68 true (.len (.t 72)),oG 14 74 68 true (.bin .lss (.t 70) (.t 73)),oPf 15 75 68 74,oM 16 59 75]
@[go_sem] theorem qyQ:OE qKQ.eq_1:=OEM qKQ.eq_1
def qKR:List qB:=[oU 0 76 1,oX 1 77 1 0,oE 2 78 .eql 77 10,oM 3 79 78,oG 4 80 79 true (.nop 3),oG 5 81 79 true (.lload 3 0 none),oG 6 82 79 true (.bin .eql (.t 81) (.c (.int .i64 2))),oPf 7 83 79 82,oM 8 59 83]
@[go_sem] theorem qyR:OE qKR.eq_1:=OEM qKR.eq_1
def qKJ:qI:=.seq (sr [oE 0 53 .eql 14 9,oM 1 52 53] (.cond (.t 52) .skip (.reg true [oE 0 54 .eql 14 10,oM 1 52 54]))) (.cond (.t 52) (.blk 3 (sr qKP (.cond (.t 55) (sr [oC 0 2 4] .ret) (.seq (sr qKQ (.cond (.t 59) .skip (.reg true qKR))) (.cond (.t 59) (sr [oC 0 2 3] .ret) .skip))))) .skip)
@[go_sem] theorem qyJ:CE qKJ.eq_1:=CEM qKJ.eq_1
def qKG:qI:=sr [oE 0 24 .eql 14 3,oM 1 23 24] (.cond (.t 23) (sr qKM (.blk 2 (sr qKN (.cond (.t 29) (sr [oC 0 2 2] .ret) (sr qKO (.cond (.t 38) (sr [oC 0 2 4] .ret) .skip)))))) qKJ)
@[go_sem] theorem qyG:CE qKG.eq_1:=CEM qKG.eq_1
def qKH:qI:=sr [oU 0 13 1,oX 1 14 1 0] (.blk 0 (sr [oE 0 16 .eql 14 5,oM 1 15 16] (.cond (.t 15) (sr [oU 0 17 3,oX 1 18 3 0] (.blk 1 qKI)) qKG)))
@[go_sem] theorem qyH:CE qKH.eq_1:=CEM qKH.eq_1
def YX:qJ:=⟨1,84,[.t 2],sr [oP 0 1 (.lbox 4 (.t 0)),oC 1 2 0] (.seq (sr qKK (.cond (.t 8) (sr [oC 0 2 0] .ret) .skip)) (sr qKL (.seq qKH (sr [oC 0 2 0] .ret))))⟩
def YW:qJ:=⟨1,5,[.l 2 (some 4)],sr [oZ 0 2] (sr [oM 0 3 0,oP 1 4 (.build (.agg [.int .i64 0,.int .i64 0,.nils,.nils]) [(0,1,.c (.int .i64 2)),(1,1,.t 3)]),oS 2 2 0 4 4] .ret)⟩
def qBP:List qB:=[oM 0 13 2,oY 1 14 3 0 4,oM 2 15 1,oP 3 16 (.callv (.t 13) [.t 14,.t 15]),oS 4 6 0 4 16]
@[go_sem] theorem qpP:OE qBP.eq_1:=OEM qBP.eq_1
def qBQ:List qB:=[oU 0 17 3,oX 1 18 3 0,oU 2 19 3,oX 3 20 3 1,oU 4 21 3,oX 5 22 3 2,oZ 8 7,oD1 6 23 401 22,oP 7 24 (.build (.agg [.int .i64 0,.int .i64 0,.nils,.nils]) [(0,1,.t 18),(1,1,.t 20),(2,1,.t 23)]),oS 9 7 0 4 24]
@[go_sem] theorem qpQ:OE qBQ.eq_1:=OEM qBQ.eq_1
def qBR:List qB:=[oU 0 25 3,oX 1 26 3 3,oW 2 27 26,oC 3 28 0]
@[go_sem] theorem qpR:OE qBR.eq_1:=OEM qBR.eq_1
def qBS:List qB:=[oM 0 30 28,oA 1 31 4 26 28,oP 2 32 (.load (some 4) (.t 31)),oZ 3 9,oM 4 8 30,oS 5 9 0 4 32]
@[go_sem] theorem qpS:OE qBS.eq_1:=OEM qBS.eq_1
def qBT:List qB:=[oU 0 33 7,oX 1 34 7 3,oY 2 35 9 0 4,oM 3 36 1,oY 4 37 3 0 4,oM 5 38 8,oM 8 41 2,oD2 6 39 1193 37 38,oB 7 40 .add 36 39,oP 9 42 (.call 1316 [.t 35,.t 40,.t 41]),oP 10 43 (.bslice 4 (.agg [.int .i64 0,.int .i64 0,.nils,.nils]) 1 [(0,.t 42)]),oP 11 44 (.app 4 (.t 34) (.t 43)),oU 12 45 7,oS 13 7 3 1 44]
@[go_sem] theorem qpT:OE qBT.eq_1:=OEM qBT.eq_1
def qBN:qI:=.loop (sr [oB 0 29 .lss 28 27] (.seq (.cond (.t 29) .skip (.exit 0)) (.seq (.blk 1 (sr qBS (.reg true qBT))) (.reg true [oE 0 46 .add 28 1,oM 1 28 46]))))
@[go_sem] theorem qpN:CE qBN.eq_1:=CEM qBN.eq_1
def qBO:qI:=.seq (sr [oU 0 10 3,oX 1 11 3 0,oE 2 12 .eql 11 1] (.cond (.t 12) (sr qBP .ret) .skip)) (sr qBQ (.seq (sr qBR (.blk 0 qBN)) (sr [oY 0 47 7 0 4,oS 1 6 0 4 47] .ret)))
@[go_sem] theorem qpO:CE qBO.eq_1:=CEM qBO.eq_1
def XU:qJ:=⟨3,48,[.l 6 (some 4)],sr [oP 0 3 (.lbox 4 (.t 0)),oZ 1 6] qBO⟩
def qE1:List qB:=[oU 0 7 4,oX 1 8 4 1,oM 2 9 1,oL 3 10 2,oB 4 11 .add 9 10,oB 5 12 .geq 8 11]
@[go_sem] theorem qs1:OE qE1.eq_1:=OEM qE1.eq_1
def qE2:List qB:=[oU 0 13 4,oX 1 14 4 1,oL 2 15 3,oB 3 16 .add 14 15,oU 4 17 4,oS 5 4 1 1 16]
@[go_sem] theorem qs2:OE qE2.eq_1:=OEM qE2.eq_1
def Xm:qJ:=⟨4,19,[.l 6 (some 4)],sr [oP 0 4 (.lbox 4 (.t 0)),oZ 1 6] (.seq (sr qE1 (.cond (.t 12) (.reg true qE2) .skip)) (sr [oY 0 18 4 0 4,oS 1 6 0 4 18] .ret))⟩
def qBY:List qB:=[oP 0 3 (.lbox 4 (.t 0)),oP 1 4 (.hbox 1 (.t 1)),oP 2 5 (.hbox 1 (.t 2)),oZ 3 6]
@[go_sem] theorem qpY:OE qBY.eq_1:=OEM qBY.eq_1
def qBZ:List qB:=[oY 0 7 3 0 4,oP 1 8 (.mkfn 1462 [.t 5,.t 4]),oP 2 9 (.call 1316 [.t 7,.c (.int .i64 0),.t 8]),oS 3 6 0 4 9]
@[go_sem] theorem qpZ:OE qBZ.eq_1:=OEM qBZ.eq_1
def XW:qJ:=⟨3,10,[.l 6 (some 4)],sr qBY (sr qBZ .ret)⟩
def qBU:List qB:=[oU 0 7 3,oX 1 8 3 1,oM 2 9 1,oB 3 10 .eql 8 9,oM 4 6 10]
@[go_sem] theorem qpU:OE qBU.eq_1:=OEM qBU.eq_1
def qBV:List qB:=[oP 0 11 (.load (some 4) (.t 2)),oM 1 12 1,oP 2 13 (.call 1318 [.t 11,.t 12,.c (.int .i64 0)]),oS 3 5 0 4 13]
@[go_sem] theorem qpV:OE qBV.eq_1:=OEM qBV.eq_1
def qBW:List qB:=[oU 0 15 3,oX 1 16 3 1,oM 2 17 1,oB 3 18 .gtr 16 17,oM 4 14 18]
@[go_sem] theorem qpW:OE qBW.eq_1:=OEM qBW.eq_1
def qBX:List qB:=[oU 0 19 3,oX 1 20 3 1,oE 2 21 .sub 20 1,oU 3 22 3,oS 4 3 1 1 21]
@[go_sem] theorem qpX:OE qBX.eq_1:=OEM qBX.eq_1
def XV:qJ:=⟨3,24,[.l 5 (some 4)],sr [oP 0 3 (.lbox 4 (.t 0)),oZ 1 5] (.seq (.blk 0 (sr qBU (.cond (.t 6) (sr qBV .ret) (sr qBW (.cond (.t 14) (.reg true qBX) .skip))))) (sr [oY 0 23 3 0 4,oS 1 5 0 4 23] .ret))⟩
def qPF:List qB:=[oY 0 5 2 0 4,oP 1 6 (.mkfn 1317 [.t 3]),oP 2 7 (.call 1316 [.t 5,.c (.int .i64 0),.t 6]),oS 3 4 0 4 7]
@[go_sem] theorem zDF:OE qPF.eq_1:=OEM qPF.eq_1
def Yv:qJ:=⟨2,8,[.l 4 (some 4)],sr [oP 0 2 (.lbox 4 (.t 0)),oP 1 3 (.hbox 4 (.t 1)),oZ 2 4] (sr qPF .ret)⟩
def qEB:List qB:=[oM 0 3 0,oP 1 4 (.conv .i32 (.t 3)),oP 2 5 (.conv .i64 (.t 4)),oM 3 2 5]
@[go_sem] theorem qsB:OE qEB.eq_1:=OEM qEB.eq_1
def Xh:qJ:=⟨1,6,[.t 2],sr [oC 0 2 0] (sr qEB .ret)⟩
def Kv:List qB:=[oM 0 9 1,oD1 1 10 1400 9,oM 2 11 2,oD1 3 12 1400 11,oM 4 7 10,oM 5 8 12]
@[go_sem] theorem qmP:OE Kv.eq_1:=OEM Kv.eq_1
def Kw:List qB:=[oM 0 16 7,oM 1 17 8,oB 2 18 .add 16 17,oD1 3 19 1400 18,oM 4 6 19]
@[go_sem] theorem qmQ:OE Kw.eq_1:=OEM Kw.eq_1
def Kx:List qB:=[oM 0 22 7,oM 1 23 8,oB 2 24 .sub 22 23,oD1 3 25 1400 24,oM 4 6 25]
@[go_sem] theorem qmR:OE Kx.eq_1:=OEM Kx.eq_1
def Ky:List qB:=[oM 0 28 7,oM 1 29 8,oB 2 30 .mul 28 29,oD1 3 31 1400 30,oM 4 6 31]
@[go_sem] theorem qmS:OE Ky.eq_1:=OEM Ky.eq_1
def Kz:List qB:=[oM 0 36 7,oM 1 37 8,oB 2 38 .quo 36 37,oD1 3 39 1400 38,oM 4 6 39]
@[go_sem] theorem qmT:OE Kz.eq_1:=OEM Kz.eq_1
def K0:List qB:=[oM 0 42 7,oM 1 43 8,oB 2 44 .lss 42 43,oD1 3 45 566 44,oM 4 6 45]
@[go_sem] theorem qmU:OE K0.eq_1:=OEM K0.eq_1
def K1:List qB:=[oM 0 48 7,oM 1 49 8,oB 2 50 .eql 48 49,oD1 3 51 566 50,oM 4 6 51]
@[go_sem] theorem qmV:OE K1.eq_1:=OEM K1.eq_1
def Ks:qI:=.cond (.t 32) (.seq (sr [oM 0 34 8,oE 1 35 .eql 34 0] (.cond (.t 35) (sr [oC 0 6 0] .ret) .skip)) (sr Kz .ret)) (sr [oE 0 41 .eql 13 5,oM 1 40 41] (.cond (.t 40) (sr K0 .ret) (sr [oE 0 47 .eql 13 6,oM 1 46 47] (.cond (.t 46) (sr K1 .ret) .skip))))
@[go_sem] theorem qmM:CE Ks.eq_1:=CEM Ks.eq_1
def Kt:qI:=sr [oE 0 21 .eql 13 2,oM 1 20 21] (.cond (.t 20) (sr Kx .ret) (sr [oE 0 27 .eql 13 3,oM 1 26 27] (.cond (.t 26) (sr Ky .ret) (sr [oE 0 33 .eql 13 4,oM 1 32 33] Ks))))
@[go_sem] theorem qmN:CE Kt.eq_1:=CEM Kt.eq_1
def Ku:qI:=sr Kv (.seq (sr [oM 0 13 0] (.blk 0 (sr [oE 0 15 .eql 13 1,oM 1 14 15] (.cond (.t 14) (sr Kw .ret) Kt)))) (sr [oC 0 6 0] .ret))
@[go_sem] theorem qmO:CE Ku.eq_1:=CEM Ku.eq_1
def W7:qJ:=⟨3,52,[.t 6],sr [oC 0 6 0] Ku⟩
def W9:qJ:=⟨1,5,[.l 2 (some 4)],sr [oZ 0 2] (sr [oM 0 3 0,oP 1 4 (.build (.agg [.int .i64 0,.int .i64 0,.nils,.nils]) [(0,1,.c (.int .i64 11)),(1,1,.t 3)]),oS 2 2 0 4 4] .ret)⟩
def qEC:List qB:=[oY 0 5 2 0 4,oY 1 6 3 0 4,oP 2 7 (.bslice 4 (.agg [.int .i64 0,.int .i64 0,.nils,.nils]) 2 [(0,.t 5),(1,.t 6)]),oP 3 8 (.build (.agg [.int .i64 0,.int .i64 0,.nils,.nils]) [(0,1,.c (.int .i64 5)),(3,1,.t 7)]),oS 4 4 0 4 8]
@[go_sem] theorem qsC:OE qEC.eq_1:=OEM qEC.eq_1
def Xi:qJ:=⟨2,9,[.l 4 (some 4)],sr [oP 0 2 (.lbox 4 (.t 0)),oP 1 3 (.lbox 4 (.t 1)),oZ 2 4] (sr qEC .ret)⟩
def K3:List qB:=[oM 0 8 0,oD1 1 9 1120 8,oZ 2 5,oS 3 5 0 4 9]
@[go_sem] theorem qmX:OE K3.eq_1:=OEM K3.eq_1
def K4:List qB:=[oA 0 14 4 10 12,oP 1 15 (.load (some 4) (.t 14)),oZ 2 7,oS 3 7 0 4 15]
@[go_sem] theorem qmY:OE K4.eq_1:=OEM K4.eq_1
def K5:List qB:=[oY 0 16 5 0 4,oY 1 17 7 0 4,oD2 2 18 1401 16 17,oS 3 5 0 4 18]
@[go_sem] theorem qmZ:OE K5.eq_1:=OEM K5.eq_1
def K2:qI:=.loop (sr [oB 0 13 .lss 12 11] (.seq (.cond (.t 13) .skip (.exit 0)) (.seq (.blk 1 (sr K4 (.reg true K5))) (.reg true [oE 0 19 .add 12 1,oM 1 12 19]))))
@[go_sem] theorem qmW:CE K2.eq_1:=CEM K2.eq_1
def W8:qJ:=⟨2,21,[.l 4 (some 4)],sr [oZ 0 4] (sr K3 (.seq (sr [oM 0 10 1,oW 1 11 10,oC 2 12 0] (.blk 0 K2)) (sr [oY 0 20 5 0 4,oS 1 4 0 4 20] .ret)))⟩
def qKU:List qB:=[oU 0 12 5,oX 1 13 5 3,oP 2 14 (.iaddr 4 (.t 13) (.c (.int .i64 0))),oF 3 15 3 14,oL 4 16 15,oP 5 17 (.iaddr 4 (.t 16) (.c (.int .i64 0))),oP 6 18 (.load (some 4) (.t 17)),oU 7 19 5,oX 8 20 5 3,oP 9 21 (.iaddr 4 (.t 20) (.c (.int .i64 1))),oP 10 22 (.load (some 4) (.t 21)),oD2 11 23 992 18 22,oS 12 6 0 4 23]
@[go_sem] theorem qyU:OE qKU.eq_1:=OEM qKU.eq_1
def qKV:List qB:=[oU 0 26 5,oX 1 27 5 1,oU 2 28 5,oX 3 29 5 3,oP 4 30 (.iaddr 4 (.t 29) (.c (.int .i64 0))),oF 5 31 1 30,oL 6 32 31,oU 7 33 5,oX 8 34 5 3,oP 9 35 (.iaddr 4 (.t 34) (.c (.int .i64 1))),oF 10 36 1 35,oL 11 37 36,oP 12 38 (.call 1118 [.t 27,.t 32,.t 37]),oD1 13 39 726 38,oS 14 6 0 4 39]
@[go_sem] theorem qyV:OE qKV.eq_1:=OEM qKV.eq_1
def qKW:List qB:=[oU 0 45 5,oX 1 46 5 2,oU 2 47 5,oX 3 48 5 3,oP 4 49 (.iaddr 4 (.t 48) (.c (.int .i64 0))),oF 5 50 1 49,oL 6 51 50,oA 7 52 1 46 51,oL 8 53 52,oU 9 54 5,oX 10 55 5 3,oP 11 56 (.iaddr 4 (.t 55) (.c (.int .i64 0))),oF 12 57 3 56,oL 13 58 57,oD2 14 59 1119 53 58,oS 15 6 0 4 59]
@[go_sem] theorem qyW:OE qKW.eq_1:=OEM qKW.eq_1
def qKX:List qB:=[oU 0 60 5,oX 1 61 5 2,oU 2 62 5,oX 3 63 5 3,oP 4 64 (.iaddr 4 (.t 63) (.c (.int .i64 0))),oF 5 65 1 64,oL 6 66 65,oE 7 67 .eql 66 0,oD1 8 68 566 67,oA 9 69 1 61 68,oL 10 70 69,oD1 11 71 1120 70,oS 12 6 0 4 71]
@[go_sem] theorem qyX:OE qKX.eq_1:=OEM qKX.eq_1
def qKS:qI:=sr [oE 0 41 .eql 9 3,oM 1 40 41] (.cond (.t 40) (.seq (sr [oU 0 42 5,oX 1 43 5 0,oE 2 44 .eql 43 9] (.cond (.t 44) (sr qKW .ret) .skip)) (sr qKX .ret)) .skip)
@[go_sem] theorem qyS:CE qKS.eq_1:=CEM qKS.eq_1
def qKT:qI:=sr [oM 0 9 1] (.blk 0 (sr [oE 0 11 .eql 9 1,oM 1 10 11] (.cond (.t 10) (sr qKU .ret) (sr [oE 0 25 .eql 9 2,oM 1 24 25] (.cond (.t 24) (sr qKV .ret) qKS)))))
@[go_sem] theorem qyT:CE qKT.eq_1:=CEM qKT.eq_1
def qKY:List qB:=[oU 0 72 5,oX 1 73 5 0,oU 2 74 5,oX 3 75 5 1,oU 4 76 5,oX 5 77 5 2,oU 6 78 5,oX 7 79 5 3,oZ 10 7,oD1 8 80 769 79,oP 9 81 (.build (.agg [.int .i64 0,.int .i64 0,.nils,.nils]) [(0,1,.t 73),(1,1,.t 75),(2,1,.t 77),(3,1,.t 80)]),oS 11 7 0 4 81]
@[go_sem] theorem qyY:OE qKY.eq_1:=OEM qKY.eq_1
def qKZ:List qB:=[oU 0 82 5,oX 1 83 5 3,oP 2 84 (.iaddr 4 (.t 83) (.c (.int .i64 0))),oF 3 85 0 84,oL 4 86 85,oE 5 87 .neq 86 11,oD1 6 88 566 87,oM 7 8 88]
@[go_sem] theorem qyZ:OE qKZ.eq_1:=OEM qKZ.eq_1
def qK0:List qB:=[oU 0 89 7,oX 1 90 7 3,oM 2 91 8,oU 3 92 3,oX 4 93 3 0,oU 5 94 5,oX 6 95 5 3,oM 7 96 8,oA 8 97 4 95 96,oF 9 98 1 97,oL 10 99 98,oA 11 100 4 93 99,oP 12 101 (.load (some 4) (.t 100)),oA 13 102 4 90 91,oT 14 4 102 101]
@[go_sem] theorem qy0:OE qK0.eq_1:=OEM qK0.eq_1
def QB:qJ:=⟨3,104,[.l 6 (some 4)],sr [oP 0 3 (.lbox 1 (.t 0)),oP 1 5 (.lbox 4 (.t 2)),oZ 2 6] (.seq qKT (sr qKY (sr qKZ (sr qK0 (sr [oY 0 103 7 0 4,oS 1 6 0 4 103] .ret)))))⟩
def qAZ:List qB:=[oU 0 6 1,oX 1 7 1 3,oW 2 8 7,oC 3 9 0]
@[go_sem] theorem qoZ:OE qAZ.eq_1:=OEM qAZ.eq_1
def qA0:List qB:=[oA 0 11 4 7 9,oP 1 12 (.load (some 4) (.t 11)),oZ 2 5,oS 3 5 0 4 12]
@[go_sem] theorem qo0:OE qA0.eq_1:=OEM qA0.eq_1
def qA1:List qB:=[oM 0 13 3,oY 1 14 5 0 4,oU 3 16 1,oX 4 17 1 0,oE 5 18 .eql 17 6,oD1 2 15 1171 14,oD1 6 19 566 18,oB 7 20 .add 15 19,oP 8 21 (.max (.t 13) (.t 20)),oM 9 3 21]
@[go_sem] theorem qo1:OE qA1.eq_1:=OEM qA1.eq_1
def qAY:qI:=.loop (sr [oB 0 10 .lss 9 8] (.seq (.cond (.t 10) .skip (.exit 0)) (.seq (.blk 1 (sr qA0 (.reg true qA1))) (.reg true [oE 0 22 .add 9 1,oM 1 9 22]))))
@[go_sem] theorem qoY:CE qAY.eq_1:=CEM qAY.eq_1
def XP:qJ:=⟨1,24,[.t 2],sr [oP 0 1 (.lbox 4 (.t 0)),oC 1 2 0] (sr [oC 0 3 0] (.seq (sr qAZ (.blk 0 qAY)) (sr [oM 0 23 3,oM 1 2 23] .ret)))⟩
def qA4:List qB:=[oU 0 12 4,oX 1 13 4 3,oP 2 14 (.iaddr 4 (.t 13) (.c (.int .i64 0))),oP 3 15 (.load (some 4) (.t 14)),oU 4 16 4,oX 5 17 4 3,oP 6 18 (.iaddr 4 (.t 17) (.c (.int .i64 1))),oP 7 19 (.load (some 4) (.t 18)),oZ 8 8,oZ 9 9,oS 10 8 0 4 15,oS 11 9 0 4 19]
@[go_sem] theorem qo4:OE qA4.eq_1:=OEM qA4.eq_1
def qA5:List qB:=[oU 0 24 8,oX 1 25 8 3,oP 2 26 (.iaddr 4 (.t 25) (.c (.int .i64 0))),oP 3 27 (.load (some 4) (.t 26)),oS 4 10 0 4 27]
@[go_sem] theorem qo6:OE qA5.eq_1:=OEM qA5.eq_1
def qA7:List qB:=[oY 0 28 9 0 4,oM 1 29 2,oP 2 30 (.call 1194 [.t 28,.c (.int .i64 0),.t 29,.c (.nils)]),oM 3 11 30]
@[go_sem] theorem qo7:OE qA7.eq_1:=OEM qA7.eq_1
def qA8:List qB:=[oM 0 32 11,oW 1 33 32,oE 2 34 .eql 33 0,oM 3 31 34]
@[go_sem] theorem qo8:OE qA8.eq_1:=OEM qA8.eq_1
def qA9:List qB:=[oY 0 35 9 0 4,oY 1 36 8 0 4,oD2 2 37 992 35 36,oS 3 6 0 4 37,oQ 4 7 true]
@[go_sem] theorem qo9:OE qA9.eq_1:=OEM qA9.eq_1
def qBA:List qB:=[oU 0 39 10,oX 1 40 10 0,oE 2 41 .eql 40 2,oM 3 38 41]
@[go_sem] theorem qpA:OE qBA.eq_1:=OEM qBA.eq_1
def qBB:List qB:=[oY 0 42 9 0 4,oY 1 43 10 0 4,oD2 2 44 992 42 43,oS 3 6 0 4 44,oQ 4 7 true]
@[go_sem] theorem qpB:OE qBB.eq_1:=OEM qBB.eq_1
def qBC:List qB:=[oM 0 46 11,oW 1 47 46,oE 2 48 .eql 47 1,oM 3 49 48,oH 4 50 49 true 11,oG 5 51 49 true (.iaddr 1 (.t 50) (.c (.int .i64 0))),oG 6 52 49 true (.load none (.t 51)),oH 7 53 49 true 2,oG 8 54 49 true (.bin .eql (.t 52) (.t 53)),oPf 9 55 49 54,oM 10 45 55]
@[go_sem] theorem qpC:OE qBC.eq_1:=OEM qBC.eq_1
def qBD:List qB:=[oY 0 56 9 0 4,oY 1 57 8 0 4,oD2 2 58 992 56 57,oS 3 6 0 4 58,oQ 4 7 true]
@[go_sem] theorem qpD:OE qBD.eq_1:=OEM qBD.eq_1
def qBE:List qB:=[oM 0 60 11,oW 1 61 60,oE 2 62 .eql 61 1,oM 3 63 62,oH 4 64 63 true 11,oG 5 65 63 true (.iaddr 1 (.t 64) (.c (.int .i64 0))),oG 6 66 63 true (.load none (.t 65)),oH 7 67 63 true 2,oG 8 68 63 true (.bin .add (.t 67) (.c (.int .i64 1))),oG 9 69 63 true (.bin .eql (.t 66) (.t 68)),oPf 10 70 63 69,oM 11 71 70,oG 12 72 71 true (.nop 8),oG 13 73 71 true (.lload 8 0 none),oG 14 74 71 true (.bin .eql (.t 73) (.c (.int .i64 6))),oPf 15 75 71 74,oM 16 59 75]
@[go_sem] theorem qpE:OE qBE.eq_1:=OEM qBE.eq_1
def qA6:List qB:=[oY 0 76 9 0 4,oY 1 77 10 0 4,oD2 2 78 992 76 77,oS 3 6 0 4 78,oQ 4 7 true]
@[go_sem] theorem qo5:OE qA6.eq_1:=OEM qA6.eq_1
def qA2:qI:=.seq (.blk 0 (sr qA8 (.cond (.t 31) (sr qA9 .ret) (sr qBA (.cond (.t 38) (sr qBB .ret) (sr qBC (.cond (.t 45) (sr qBD .ret) (sr qBE (.cond (.t 59) (sr qA6 .ret) .skip))))))))) (sr [oP 0 79 (.build (.agg [.int .i64 0,.int .i64 0,.nils,.nils]) []),oS 1 6 0 4 79,oQ 2 7 false] .ret)
@[go_sem] theorem qo2:CE qA2.eq_1:=CEM qA2.eq_1
def qA3:qI:=sr [oY 0 20 8 0 4,oZ 1 10,oS 2 10 0 4 20] (.seq (sr [oU 0 21 8,oX 1 22 8 0,oE 2 23 .eql 22 6] (.cond (.t 23) (.reg true qA5) .skip)) (sr qA7 qA2))
@[go_sem] theorem qo3:CE qA3.eq_1:=CEM qA3.eq_1
def XQ:qJ:=⟨3,80,[.l 6 (some 4),.t 7],sr [oP 0 4 (.lbox 4 (.t 1)),oZ 1 6,oQ 2 7 false] (sr qA4 qA3)⟩
def qNT:List qB:=[oM 0 17 0,oK 1 18 17,oF 2 19 0 18,oP 3 20 (.load (some 1) (.t 19)),oM 4 21 8,oY 5 22 4 0 4,oP 6 23 (.call 759 [.t 20,.t 21,.t 22]),oS 7 6 0 4 23,oC 8 7 1]
@[go_sem] theorem zBT:OE qNT.eq_1:=OEM qNT.eq_1
def qNU:List qB:=[oM 0 26 0,oK 1 27 26,oF 2 28 0 27,oP 3 29 (.load (some 1) (.t 28)),oM 4 30 8,oY 5 31 4 0 4,oP 6 32 (.call 759 [.t 29,.t 30,.t 31]),oS 7 6 0 4 32,oC 8 7 2]
@[go_sem] theorem zBU:OE qNU.eq_1:=OEM qNU.eq_1
def qNV:List qB:=[oM 0 35 0,oK 1 36 35,oF 2 37 0 36,oP 3 38 (.load (some 1) (.t 37)),oM 4 39 8,oY 5 40 4 0 4,oP 6 41 (.call 759 [.t 38,.t 39,.t 40]),oS 7 6 0 4 41,oC 8 7 3]
@[go_sem] theorem zBV:OE qNV.eq_1:=OEM qNV.eq_1
def qNW:List qB:=[oU 0 44 4,oX 1 45 4 3,oP 2 46 (.iaddr 4 (.t 45) (.c (.int .i64 0))),oF 3 47 1 46,oL 4 48 47,oM 5 9 48]
@[go_sem] theorem zBW:OE qNW.eq_1:=OEM qNW.eq_1
def qNX:List qB:=[oU 0 49 4,oX 1 50 4 0,oE 2 51 .eql 50 5,oM 3 52 51,oH 4 53 52 true 0,oG 5 54 52 true (.nilchk (.t 53)),oG 6 55 52 true (.faddr 2 (.t 54)),oG 7 56 52 true (.load none (.t 55)),oH 8 57 52 true 9,oG 9 58 52 true (.iaddr 1 (.t 56) (.t 57)),oG 10 59 52 true (.load none (.t 58)),oPf 11 60 52 59,oM 12 61 60,oH 13 62 61 true 2,oH 14 63 61 true 0,oG 15 64 61 true (.nilchk (.t 63)),oG 16 65 61 true (.faddr 0 (.t 64)),oG 17 66 61 true (.faddr 0 (.t 65)),oG 18 67 61 true (.load none (.t 66)),oH 19 68 61 true 9,oG 20 69 61 true (.iaddr 4 (.t 67) (.t 68)),oG 21 70 61 true (.load (some 4) (.t 69)),oG 22 71 61 true (.call 1171 [.t 70]),oG 23 72 61 true (.bin .add (.t 62) (.t 71)),oG 24 73 61 true (.bin .leq (.t 72) (.c (.int .i64 8))),oPf 25 74 61 73]
@[go_sem] theorem zBX:OE qNX.eq_1:=OEM qNX.eq_1
def qNY:List qB:=[oM 0 75 0,oK 1 76 75,oF 2 77 0 76,oP 3 78 (.load (some 1) (.t 77)),oM 4 79 8,oY 5 80 4 0 4,oP 6 81 (.call 759 [.t 78,.t 79,.t 80]),oS 7 6 0 4 81,oC 8 7 5]
@[go_sem] theorem zBY:OE qNY.eq_1:=OEM qNY.eq_1
def qNQ:qI:=sr [oE 0 34 .eql 14 1,oM 1 33 34] (.cond (.t 33) (sr qNV .ret) (sr [oE 0 43 .eql 14 4,oM 1 42 43] (.cond (.t 42) (sr qNW (sr qNX (.cond (.t 74) (sr qNY .ret) .skip))) .skip)))
@[go_sem] theorem zBQ:CE qNQ.eq_1:=CEM qNQ.eq_1
def qNR:qI:=sr [oM 0 14 8] (.blk 0 (sr [oE 0 16 .eql 14 2,oM 1 15 16] (.cond (.t 15) (sr qNT .ret) (sr [oE 0 25 .eql 14 3,oM 1 24 25] (.cond (.t 24) (sr qNU .ret) qNQ)))))
@[go_sem] theorem zBR:CE qNR.eq_1:=CEM qNR.eq_1
def qNZ:List qB:=[oM 0 86 0,oY 1 87 4 0 4,oM 2 88 2,oP 3 89 (.call 1172 [.t 86,.t 87,.t 88]),oM 4 85 89,oV 5 90 85 0,oV 6 91 85 1,oZ 7 10,oS 8 10 0 4 90,oM 9 11 91]
@[go_sem] theorem zBZ:OE qNZ.eq_1:=OEM qNZ.eq_1
def qNS:qI:=sr [oU 0 82 4,oX 1 83 4 0,oE 2 84 .eql 83 7] (.cond (.t 84) (sr qNZ (sr [oM 0 92 11] (.cond (.t 92) (sr [oY 0 93 10 0 4,oS 1 6 0 4 93,oC 2 7 4] .ret) .skip))) .skip)
@[go_sem] theorem zBS:CE qNS.eq_1:=CEM qNS.eq_1
def Ym:qJ:=⟨3,95,[.l 6 (some 4),.t 7],sr [oP 0 4 (.lbox 4 (.t 1)),oZ 1 6,oC 2 7 0] (.seq (sr [oY 0 12 4 0 4,oD1 1 13 758 12,oM 2 8 13] qNR) (.seq qNS (sr [oP 0 94 (.build (.agg [.int .i64 0,.int .i64 0,.nils,.nils]) []),oS 1 6 0 4 94,oC 2 7 0] .ret)))⟩
def qH4:List qB:=[oM 0 16 0,oY 1 17 4 0 4,oM 2 18 2,oP 3 19 (.call 850 [.t 16,.t 17,.t 18]),oM 4 15 19,oV 5 20 15 0,oV 6 21 15 1,oZ 7 8,oS 8 8 0 4 20,oM 9 9 21]
@[go_sem] theorem qv4:OE qH4.eq_1:=OEM qH4.eq_1
def qH5:List qB:=[oY 0 24 8 0 4,oM 1 25 9,oS 2 6 0 4 24,oM 3 7 25]
@[go_sem] theorem qv5:OE qH5.eq_1:=OEM qH5.eq_1
def qH6:List qB:=[oU 0 26 4,oX 1 27 4 3,oW 2 28 27,oC 3 29 0]
@[go_sem] theorem qv6:OE qH6.eq_1:=OEM qH6.eq_1
def qH7:List qB:=[oM 0 31 29,oA 1 32 4 27 29,oP 2 33 (.load (some 4) (.t 32)),oZ 3 11,oM 4 10 31,oS 5 11 0 4 33]
@[go_sem] theorem qv7:OE qH7.eq_1:=OEM qH7.eq_1
def qH8:List qB:=[oM 0 35 0,oY 1 36 11 0 4,oM 2 37 2,oU 3 38 4,oX 4 39 4 0,oE 5 40 .eql 39 6,oZ 12 12,oD1 6 41 566 40,oB 7 42 .add 37 41,oP 8 43 (.call 494 [.t 35,.t 36,.t 42]),oM 9 34 43,oV 10 44 34 0,oV 11 45 34 1,oS 13 12 0 4 44,oM 14 13 45]
@[go_sem] theorem qv8:OE qH8.eq_1:=OEM qH8.eq_1
def qH9:List qB:=[oU 0 48 4,oX 1 49 4 0,oU 2 50 4,oX 3 51 4 1,oU 4 52 4,oX 5 53 4 2,oU 6 54 4,oX 7 55 4 3,oZ 10 14,oD1 8 56 769 55,oP 9 57 (.build (.agg [.int .i64 0,.int .i64 0,.nils,.nils]) [(0,1,.t 49),(1,1,.t 51),(2,1,.t 53),(3,1,.t 56)]),oS 11 14 0 4 57]
@[go_sem] theorem qv9:OE qH9.eq_1:=OEM qH9.eq_1
def qIA:List qB:=[oU 0 58 14,oX 1 59 14 3,oM 2 60 10,oY 3 61 12 0 4,oA 4 62 4 59 60,oT 5 4 62 61]
@[go_sem] theorem qwA:OE qIA.eq_1:=OEM qIA.eq_1
def qIB:List qB:=[oY 0 63 14 0 4,oM 1 64 13,oS 2 6 0 4 63,oM 3 7 64]
@[go_sem] theorem qwB:OE qIB.eq_1:=OEM qIB.eq_1
def qH2:qI:=.seq (.blk 1 (sr qH7 (sr qH8 (sr [oM 0 46 13,oE 1 47 .neq 46 0] (.cond (.t 47) (sr qH9 (sr qIA (sr qIB .ret))) .skip))))) (.reg true [oE 0 65 .add 29 1,oM 1 29 65])
@[go_sem] theorem qv2:CE qH2.eq_1:=CEM qH2.eq_1
def qH3:qI:=.seq (sr qH6 (.blk 0 (.loop (sr [oB 0 30 .lss 29 28] (.seq (.cond (.t 30) .skip (.exit 0)) qH2))))) (sr [oP 0 66 (.build (.agg [.int .i64 0,.int .i64 0,.nils,.nils]) []),oS 1 6 0 4 66,oC 2 7 0] .ret)
@[go_sem] theorem qv3:CE qH3.eq_1:=CEM qH3.eq_1
def YA:qJ:=⟨3,67,[.l 6 (some 4),.t 7],sr [oP 0 4 (.lbox 4 (.t 1)),oZ 1 6,oC 2 7 0] (.seq (sr qH4 (sr [oM 0 22 9,oE 1 23 .neq 22 0] (.cond (.t 23) (sr qH5 .ret) .skip))) qH3)⟩
def qOR:List qB:=[oM 0 6 5,oM 1 7 0,oW 2 8 7,oB 3 9 .lss 6 8]
@[go_sem] theorem zCR:OE qOR.eq_1:=OEM qOR.eq_1
def qOS:List qB:=[oM 0 12 0,oM 1 13 5,oM 2 14 1,oA 3 15 1 12 13,oT 4 1 15 14]
@[go_sem] theorem zCS:OE qOS.eq_1:=OEM qOS.eq_1
def qOQ:qI:=.seq (.blk 1 (sr qOS (.reg true [oM 0 16 1,oE 1 17 .add 16 1,oM 2 1 17]))) (.reg true [oM 0 10 5,oE 1 11 .add 10 1,oM 2 5 11])
@[go_sem] theorem zCQ:CE qOQ.eq_1:=CEM qOQ.eq_1
def F90:qJ:=⟨2,19,[.t 4],sr [oC 0 4 0] (.seq (sr [oC 0 5 0] (.blk 0 (.loop (.seq (sr qOR (.cond (.t 9) .skip (.exit 0))) qOQ)))) (sr [oM 0 18 1,oM 1 4 18] .ret))⟩
def qG4:List qB:=[oM 0 6 5,oM 1 7 0,oW 2 8 7,oB 3 9 .lss 6 8]
@[go_sem] theorem qu4:OE qG4.eq_1:=OEM qG4.eq_1
def qG5:List qB:=[oM 0 12 0,oM 1 13 5,oM 2 14 1,oA 3 15 4 12 13,oF 4 16 0 15,oT 5 1 16 14]
@[go_sem] theorem qu5:OE qG5.eq_1:=OEM qG5.eq_1
def qG6:List qB:=[oM 0 19 0,oM 1 20 5,oM 2 21 1,oA 3 22 4 19 20,oF 4 23 1 22,oT 5 1 23 21]
@[go_sem] theorem qu6:OE qG6.eq_1:=OEM qG6.eq_1
def qG7:List qB:=[oM 0 26 0,oM 1 27 5,oA 2 28 4 26 27,oF 3 29 2 28,oL 4 30 29,oM 5 31 1,oD2 6 32 90 30 31,oM 7 1 32]
@[go_sem] theorem qu7:OE qG7.eq_1:=OEM qG7.eq_1
def qG8:List qB:=[oM 0 33 0,oM 1 34 5,oA 2 35 4 33 34,oF 3 36 3 35,oL 4 37 36,oM 5 38 1,oD2 6 39 347 37 38,oM 7 1 39]
@[go_sem] theorem qu8:OE qG8.eq_1:=OEM qG8.eq_1
def qG2:qI:=sr [oM 0 17 1,oE 1 18 .add 17 1,oM 2 1 18] (sr qG6 (sr [oM 0 24 1,oE 1 25 .add 24 1,oM 2 1 25] (sr qG7 (.reg true qG8))))
@[go_sem] theorem qu2:CE qG2.eq_1:=CEM qG2.eq_1
def qG3:qI:=sr [oC 0 5 0] (.blk 0 (.loop (.seq (sr qG4 (.cond (.t 9) .skip (.exit 0))) (.seq (.blk 1 (sr qG5 qG2)) (.reg true [oM 0 10 5,oE 1 11 .add 10 1,oM 2 5 11])))))
@[go_sem] theorem qu3:CE qG3.eq_1:=CEM qG3.eq_1
def Xz:qJ:=⟨2,41,[.t 4],sr [oC 0 4 0] (.seq qG3 (sr [oM 0 40 1,oM 1 4 40] .ret))⟩
def qOP:List qB:=[oU 0 5 2,oX 1 6 2 0,oM 2 7 1,oD2 3 8 347 6 7,oM 4 1 8]
@[go_sem] theorem zCP:OE qOP.eq_1:=OEM qOP.eq_1
def F88:qJ:=⟨2,10,[.t 4],sr [oP 0 2 (.lbox 1 (.t 0)),oC 1 4 0] (sr qOP (sr [oM 0 9 1,oM 1 4 9] .ret))⟩
def qO2:List qB:=[oM 0 6 5,oM 1 7 0,oW 2 8 7,oB 3 9 .lss 6 8]
@[go_sem] theorem zC2:OE qO2.eq_1:=OEM qO2.eq_1
def qO3:List qB:=[oM 0 12 0,oM 1 13 5,oA 2 14 1 12 13,oL 3 15 14,oM 4 16 1,oB 5 17 .neq 15 16]
@[go_sem] theorem zC3:OE qO3.eq_1:=OEM qO3.eq_1
def qO1:qI:=.seq (.blk 1 (.seq (sr qO3 (.cond (.t 17) (sr [oP 0 4 (.mov (.c (.int .i64 (-1))))] .ret) .skip)) (.reg true [oM 0 18 1,oE 1 19 .add 18 1,oM 2 1 19]))) (.reg true [oM 0 10 5,oE 1 11 .add 10 1,oM 2 5 11])
@[go_sem] theorem zC1:CE qO1.eq_1:=CEM qO1.eq_1
def F92:qJ:=⟨2,21,[.t 4],sr [oC 0 4 0] (.seq (sr [oC 0 5 0] (.blk 0 (.loop (.seq (sr qO2 (.cond (.t 9) .skip (.exit 0))) qO1)))) (sr [oM 0 20 1,oM 1 4 20] .ret))⟩
def qHC:List qB:=[oM 0 6 5,oM 1 7 0,oW 2 8 7,oB 3 9 .lss 6 8]
@[go_sem] theorem qvC:OE qHC.eq_1:=OEM qHC.eq_1
def qHD:List qB:=[oM 0 12 0,oM 1 13 5,oA 2 14 4 12 13,oF 3 15 0 14,oL 4 16 15,oM 5 17 1,oB 6 18 .neq 16 17]
@[go_sem] theorem qvD:OE qHD.eq_1:=OEM qHD.eq_1
def qHE:List qB:=[oM 0 21 0,oM 1 22 5,oA 2 23 4 21 22,oF 3 24 1 23,oL 4 25 24,oM 5 26 1,oB 6 27 .neq 25 26]
@[go_sem] theorem qvE:OE qHE.eq_1:=OEM qHE.eq_1
def qHF:List qB:=[oM 0 30 0,oM 1 31 5,oA 2 32 4 30 31,oF 3 33 2 32,oL 4 34 33,oM 5 35 1,oD2 6 36 92 34 35,oM 7 1 36]
@[go_sem] theorem qvF:OE qHF.eq_1:=OEM qHF.eq_1
def qHG:List qB:=[oM 0 39 0,oM 1 40 5,oA 2 41 4 39 40,oF 3 42 3 41,oL 4 43 42,oM 5 44 1,oD2 6 45 348 43 44,oM 7 1 45]
@[go_sem] theorem qvG:OE qHG.eq_1:=OEM qHG.eq_1
def qG9:qI:=.seq (sr [oM 0 37 1,oE 1 38 .lss 37 0] (.cond (.t 38) (sr [oP 0 4 (.mov (.c (.int .i64 (-1))))] .ret) .skip)) (sr qHG (sr [oM 0 46 1,oE 1 47 .lss 46 0] (.cond (.t 47) (sr [oP 0 4 (.mov (.c (.int .i64 (-1))))] .ret) .skip)))
@[go_sem] theorem qu9:CE qG9.eq_1:=CEM qG9.eq_1
def qHA:qI:=sr [oM 0 19 1,oE 1 20 .add 19 1,oM 2 1 20] (.seq (sr qHE (.cond (.t 27) (sr [oP 0 4 (.mov (.c (.int .i64 (-1))))] .ret) .skip)) (sr [oM 0 28 1,oE 1 29 .add 28 1,oM 2 1 29] (sr qHF qG9)))
@[go_sem] theorem qvA:CE qHA.eq_1:=CEM qHA.eq_1
def qHB:qI:=.loop (.seq (sr qHC (.cond (.t 9) .skip (.exit 0))) (.seq (.blk 1 (.seq (sr qHD (.cond (.t 18) (sr [oP 0 4 (.mov (.c (.int .i64 (-1))))] .ret) .skip)) qHA)) (.reg true [oM 0 10 5,oE 1 11 .add 10 1,oM 2 5 11])))
@[go_sem] theorem qvB:CE qHB.eq_1:=CEM qHB.eq_1
def X0:qJ:=⟨2,49,[.t 4],sr [oC 0 4 0] (.seq (sr [oC 0 5 0] (.blk 0 qHB)) (sr [oM 0 48 1,oM 1 4 48] .ret))⟩
def X4:qJ:=⟨1,5,[.l 2 (some 4)],sr [oZ 0 2] (sr [oM 0 3 0,oP 1 4 (.call 766 [.t 3,.c (.int .i64 0),.c (.int .i64 0)]),oS 2 2 0 4 4] .ret)⟩
def qI0:List qB:=[oM 0 15 1,oK 1 16 15,oP 2 17 (.load (some 4) (.t 16)),oP 3 10 (.halloc 4 (.agg [.int .i64 0,.int .i64 0,.nils,.nils])),oT 4 4 10 17]
@[go_sem] theorem qw0:OE qI0.eq_1:=OEM qI0.eq_1
def qI1:List qB:=[oM 0 24 0,oD2 1 25 481 24 10,oM 2 23 25,oV 3 26 23 0,oV 4 27 23 1,oV 5 28 23 2,oZ 6 12,oS 7 12 0 4 26,oM 8 13 27,oM 9 14 28]
@[go_sem] theorem qw1:OE qI1.eq_1:=OEM qI1.eq_1
def qI2:List qB:=[oP 0 31 (.build (.agg [.int .i64 0,.int .i64 0,.nils,.nils]) []),oM 1 32 14,oS 2 8 0 4 31,oM 3 9 32]
@[go_sem] theorem qw2:OE qI2.eq_1:=OEM qI2.eq_1
def qI3:List qB:=[oM 0 35 3,oM 1 36 13,oE 2 37 .sub 36 1,oA 3 38 1 35 37,oL 4 39 38,oE 5 40 .add 39 1,oA 6 41 1 35 37,oT 7 1 41 40]
@[go_sem] theorem qw3:OE qI3.eq_1:=OEM qI3.eq_1
def qIX:qI:=.seq (sr [oM 0 29 14,oE 1 30 .neq 29 0] (.cond (.t 30) (sr qI2 .ret) .skip)) (.seq (sr [oM 0 33 13,oE 1 34 .eql 33 0] (.cond (.t 34) (.exit 0) .skip)) (sr qI3 (.reg true [oY 0 42 12 0 4,oT 1 4 10 42])))
@[go_sem] theorem qwX:CE qIX.eq_1:=CEM qIX.eq_1
def qIY:qI:=.seq (sr [oM 0 18 11,oM 1 19 2,oB 2 20 .lss 18 19] (.cond (.t 20) .skip (.exit 0))) (.seq (.blk 1 (sr qI1 qIX)) (.reg true [oM 0 21 11,oE 1 22 .add 21 1,oM 2 11 22]))
@[go_sem] theorem qwY:CE qIY.eq_1:=CEM qIY.eq_1
def qIZ:qI:=sr qI0 (.seq (sr [oC 0 11 0] (.blk 0 (.loop qIY))) (sr [oD1 0 43 387 10,oS 1 8 0 4 43,oC 2 9 0] .ret))
@[go_sem] theorem qwZ:CE qIZ.eq_1:=CEM qIZ.eq_1
def YG:qJ:=⟨4,44,[.l 8 (some 4),.t 9],sr [oZ 0 8,oC 1 9 0] qIZ⟩
def qIU:List qB:=[oM 0 16 0,oY 1 17 5 0 4,oP 2 18 (.call 494 [.t 16,.t 17,.c (.int .i64 0)]),oM 3 15 18,oV 4 19 15 0,oV 5 20 15 1,oZ 6 10,oS 7 10 0 4 19,oM 8 11 20]
@[go_sem] theorem qwU:OE qIU.eq_1:=OEM qIU.eq_1
def qIV:List qB:=[oM 0 27 3,oM 1 28 11,oE 2 29 .sub 28 1,oA 3 30 1 27 29,oL 4 31 30,oE 5 32 .add 31 1,oA 6 33 1 27 29,oT 7 1 33 32]
@[go_sem] theorem qwV:OE qIV.eq_1:=OEM qIV.eq_1
def qIS:qI:=.seq (sr [oY 0 23 10 0 4,oD1 1 24 495 23,oJ 2 25 24] (.cond (.t 25) (sr [oP 0 26 (.build (.agg [.int .i64 0,.int .i64 0,.nils,.nils]) []),oS 1 8 0 4 26,oC 2 9 4] .ret) .skip)) (sr qIV (.reg true [oY 0 34 10 0 4,oS 1 5 0 4 34]))
@[go_sem] theorem qwS:CE qIS.eq_1:=CEM qIS.eq_1
def qIT:qI:=sr [oB 0 14 .lss 13 12] (.seq (.cond (.t 14) .skip (.exit 0)) (.seq (.blk 1 (sr qIU (.seq (sr [oM 0 21 11,oE 1 22 .eql 21 0] (.cond (.t 22) (.exit 0) .skip)) qIS))) (.reg true [oE 0 35 .add 13 1,oM 1 13 35])))
@[go_sem] theorem qwT:CE qIT.eq_1:=CEM qIT.eq_1
def qIW:List qB:=[oY 0 36 5 0 4,oD1 1 37 385 36,oS 2 8 0 4 37,oC 3 9 0]
@[go_sem] theorem qwW:OE qIW.eq_1:=OEM qIW.eq_1
def YF:qJ:=⟨4,38,[.l 8 (some 4),.t 9],sr [oP 0 5 (.lbox 4 (.t 1)),oZ 1 8,oC 2 9 0] (.seq (sr [oM 0 12 2,oC 1 13 0] (.blk 0 (.loop qIT))) (sr qIW .ret))⟩
def qIK:List qB:=[oM 0 15 0,oM 1 16 1,oD2 2 17 480 15 16,oM 3 9 17]
@[go_sem] theorem qwK:OE qIK.eq_1:=OEM qIK.eq_1
def qIL:List qB:=[oM 0 20 12,oM 1 21 0,oK 2 22 21,oF 3 23 0 22,oL 4 24 23,oW 5 25 24,oB 6 26 .lss 20 25]
@[go_sem] theorem qwL:OE qIL.eq_1:=OEM qIL.eq_1
def qIM:List qB:=[oM 0 30 9,oM 1 31 0,oK 2 32 31,oF 3 33 0 32,oL 4 34 33,oM 5 35 12,oA 6 36 4 34 35,oM 7 37 2,oM 8 38 10,oP 9 39 (.call 500 [.t 30,.t 36,.t 37,.t 38]),oM 10 29 39,oV 11 40 29 0,oV 12 41 29 1,oZ 13 13,oS 14 13 0 4 40,oM 15 14 41]
@[go_sem] theorem qwM:OE qIM.eq_1:=OEM qIM.eq_1
def qIN:List qB:=[oP 0 44 (.build (.agg [.nils]) []),oP 1 45 (.mov (.c (.lst 1 [] true))),oM 2 46 14,oS 3 6 0 1 44,oM 4 7 45,oM 5 8 46]
@[go_sem] theorem qwN:OE qIN.eq_1:=OEM qIN.eq_1
def qIO:List qB:=[oU 0 47 11,oX 1 48 11 0,oY 2 49 13 0 4,oP 3 50 (.bslice 4 (.agg [.int .i64 0,.int .i64 0,.nils,.nils]) 1 [(0,.t 49)]),oP 4 51 (.app 4 (.t 48) (.t 50)),oU 5 52 11,oS 6 11 0 1 51]
@[go_sem] theorem qwO:OE qIO.eq_1:=OEM qIO.eq_1
def qII:qI:=.seq (.blk 1 (sr qIM (.seq (sr [oM 0 42 14,oE 1 43 .neq 42 0] (.cond (.t 43) (sr qIN .ret) .skip)) (.reg true qIO)))) (.reg true [oM 0 27 12,oE 1 28 .add 27 1,oM 2 12 28])
@[go_sem] theorem qwI:CE qII.eq_1:=CEM qII.eq_1
def qIP:List qB:=[oY 0 53 11 0 1,oM 1 54 10,oS 2 6 0 1 53,oM 3 7 54,oC 4 8 0]
@[go_sem] theorem qwP:OE qIP.eq_1:=OEM qIP.eq_1
def qIJ:qI:=sr [oP 0 19 (.build (.agg [.nils]) []),oP 1 11 (.lalloc (.agg [.nils])),oS 2 11 0 1 19] (.seq (sr [oC 0 12 0] (.blk 0 (.loop (.seq (sr qIL (.cond (.t 26) .skip (.exit 0))) qII)))) (sr qIP .ret))
@[go_sem] theorem qwJ:CE qIJ.eq_1:=CEM qIJ.eq_1
def YD:qJ:=⟨3,55,[.l 6 (some 1),.t 7,.t 8],sr [oP 0 6 (.lalloc (.agg [.nils])),oP 1 7 (.mov (.c (.nils))),oC 2 8 0] (sr qIK (sr [oP 0 18 (.mksl 1 (.int .i64 0) (.c (.int .i64 5)) (.c (.int .i64 5))),oM 1 10 18] qIJ))⟩
def qFU:List qB:=[oP 0 3 (.hbox 1 (.t 0)),oP 1 6 (.lalloc (.agg [.nils])),oP 2 7 (.mov (.c (.nils))),oC 3 8 0]
@[go_sem] theorem qtU:OE qFU.eq_1:=OEM qFU.eq_1
def qFV:List qB:=[oP 0 13 (.build (.agg [.nils]) []),oP 1 14 (.mov (.c (.lst 1 [] true))),oM 2 15 9,oS 3 6 0 1 13,oM 4 7 14,oM 5 8 15]
@[go_sem] theorem qtV:OE qFV.eq_1:=OEM qFV.eq_1
def qFW:List qB:=[oM 0 16 1,oP 1 17 (.call 340 [.t 16,.c (.int .i64 0),.c (.int .i64 40)]),oJ 2 18 17,oM 3 19 18,oH 4 20 19 false 2,oG 5 21 19 false (.call 340 [.t 20,.c (.int .i64 0),.c (.int .i64 2000)]),oG 6 22 19 false (.not (.t 21)),oPt 7 23 19 22]
@[go_sem] theorem qtW:OE qFW.eq_1:=OEM qFW.eq_1
def qFX:List qB:=[oP 0 24 (.build (.agg [.nils]) []),oP 1 25 (.mov (.c (.lst 1 [] true))),oS 2 6 0 1 24,oM 3 7 25,oC 4 8 2]
@[go_sem] theorem qtX:OE qFX.eq_1:=OEM qFX.eq_1
def qFY:List qB:=[oM 0 26 1,oM 1 27 2,oP 2 28 (.call 497 [.t 3,.t 26,.t 27]),oV 3 29 28 0,oV 4 30 28 1,oV 5 31 28 2,oS 6 6 0 1 29,oM 7 7 30,oM 8 8 31]
@[go_sem] theorem qtY:OE qFY.eq_1:=OEM qFY.eq_1
def qFT:qI:=.seq (sr [oD1 0 10 496 3,oM 1 9 10] (sr [oM 0 11 9,oE 1 12 .neq 11 0] (.cond (.t 12) (sr qFV .ret) .skip))) (.seq (sr qFW (.cond (.t 23) (sr qFX .ret) .skip)) (sr qFY .ret))
@[go_sem] theorem qtT:CE qFT.eq_1:=CEM qFT.eq_1
def Xv:qJ:=⟨3,32,[.l 6 (some 1),.t 7,.t 8],sr qFU qFT⟩
def qF2:List qB:=[oP 0 3 (.lbox 1 (.t 0)),oP 1 6 (.lalloc (.agg [.nils])),oP 2 7 (.mov (.c (.nils))),oC 3 8 0]
@[go_sem] theorem qt2:OE qF2.eq_1:=OEM qF2.eq_1
def qF3:List qB:=[oP 0 20 (.build (.agg [.nils]) []),oS 1 6 0 1 20,oP 2 7 (.mov (.c (.nils))),oC 3 8 1]
@[go_sem] theorem qt4:OE qF3.eq_1:=OEM qF3.eq_1
def qF5:List qB:=[oY 0 22 3 0 1,oU 1 23 3,oX 2 24 3 0,oP 3 25 (.iaddr 4 (.t 24) (.c (.int .i64 0))),oP 4 26 (.load (some 4) (.t 25)),oM 5 27 1,oM 6 28 2,oP 7 29 (.call 493 [.t 22,.t 26,.t 27,.t 28]),oM 8 21 29,oV 9 30 21 0,oV 10 31 21 1,oM 11 9 30,oM 12 10 31]
@[go_sem] theorem qt5:OE qF5.eq_1:=OEM qF5.eq_1
def qF6:List qB:=[oP 0 34 (.build (.agg [.nils]) []),oM 1 35 10,oS 2 6 0 1 34,oP 3 7 (.mov (.c (.nils))),oM 4 8 35]
@[go_sem] theorem qt6:OE qF6.eq_1:=OEM qF6.eq_1
def qF7:List qB:=[oU 0 37 3,oX 1 38 3 0,oW 2 39 38,oC 3 40 0]
@[go_sem] theorem qt7:OE qF7.eq_1:=OEM qF7.eq_1
def qF8:List qB:=[oA 0 42 4 38 40,oP 1 43 (.load (some 4) (.t 42)),oZ 2 14,oS 3 14 0 4 43]
@[go_sem] theorem qt8:OE qF8.eq_1:=OEM qF8.eq_1
def qF9:List qB:=[oM 0 45 9,oY 1 46 14 0 4,oM 2 47 2,oM 3 48 11,oP 4 49 (.call 499 [.t 45,.t 46,.t 47,.t 48]),oM 5 44 49,oV 6 50 44 0,oV 7 51 44 1,oZ 8 15,oS 9 15 0 4 50,oM 10 16 51]
@[go_sem] theorem qt9:OE qF9.eq_1:=OEM qF9.eq_1
def qGA:List qB:=[oP 0 54 (.build (.agg [.nils]) []),oM 1 55 16,oS 2 6 0 1 54,oP 3 7 (.mov (.c (.nils))),oM 4 8 55]
@[go_sem] theorem quA:OE qGA.eq_1:=OEM qGA.eq_1
def qGB:List qB:=[oU 0 56 12,oX 1 57 12 0,oY 2 58 15 0 4,oP 3 59 (.bslice 4 (.agg [.int .i64 0,.int .i64 0,.nils,.nils]) 1 [(0,.t 58)]),oP 4 60 (.app 4 (.t 57) (.t 59)),oU 5 61 12,oS 6 12 0 1 60]
@[go_sem] theorem quB:OE qGB.eq_1:=OEM qGB.eq_1
def qF1:qI:=.seq (.blk 1 (sr qF8 (sr qF9 (.seq (sr [oM 0 52 16,oE 1 53 .neq 52 0] (.cond (.t 53) (sr qGA .ret) .skip)) (.reg true qGB))))) (.reg true [oE 0 62 .add 40 1,oM 1 40 62])
@[go_sem] theorem qt1:CE qF1.eq_1:=CEM qF1.eq_1
def qF4:List qB:=[oY 0 63 12 0 1,oM 1 64 11,oS 2 6 0 1 63,oM 3 7 64,oC 4 8 0]
@[go_sem] theorem qt3:OE qF4.eq_1:=OEM qF4.eq_1
def qFZ:qI:=sr [oP 0 36 (.mksl 1 (.int .i64 0) (.c (.int .i64 5)) (.c (.int .i64 5))),oM 1 11 36] (sr [oP 0 12 (.lalloc (.agg [.nils]))] (.seq (sr qF7 (.blk 0 (.loop (sr [oB 0 41 .lss 40 39] (.seq (.cond (.t 41) .skip (.exit 0)) qF1))))) (sr qF4 .ret)))
@[go_sem] theorem qtZ:CE qFZ.eq_1:=CEM qFZ.eq_1
def qF0:qI:=.seq (sr [oY 0 17 3 0 1,oD1 1 18 498 17,oJ 2 19 18] (.cond (.t 19) (sr qF3 .ret) .skip)) (sr qF5 (.seq (sr [oM 0 32 10,oE 1 33 .neq 32 0] (.cond (.t 33) (sr qF6 .ret) .skip)) qFZ))
@[go_sem] theorem qt0:CE qF0.eq_1:=CEM qF0.eq_1
def Xw:qJ:=⟨3,65,[.l 6 (some 1),.t 7,.t 8],sr qF2 qF0⟩
def qGD:List qB:=[oU 0 5 2,oX 1 6 2 0,oM 2 7 1,oD2 3 8 348 6 7,oM 4 1 8]
@[go_sem] theorem quD:OE qGD.eq_1:=OEM qGD.eq_1
def qGC:qI:=sr qGD (.seq (sr [oM 0 9 1,oE 1 10 .lss 9 0] (.cond (.t 10) (sr [oP 0 4 (.mov (.c (.int .i64 (-1))))] .ret) .skip)) (sr [oM 0 11 1,oM 1 4 11] .ret))
@[go_sem] theorem quC:CE qGC.eq_1:=CEM qGC.eq_1
def Xx:qJ:=⟨2,12,[.t 4],sr [oP 0 2 (.lbox 1 (.t 0)),oC 1 4 0] qGC⟩
def qGL:List qB:=[oY 0 21 3 0 1,oM 1 22 7,oD2 2 23 79 21 22,oM 3 7 23]
@[go_sem] theorem quL:OE qGL.eq_1:=OEM qGL.eq_1
def qGM:List qB:=[oY 0 27 3 0 1,oD1 1 28 82 27,oM 2 29 1,oM 3 30 2,oP 4 31 (.call 176 [.t 28,.t 29,.t 30]),oM 5 26 31,oV 6 32 26 0,oV 7 33 26 1,oV 8 34 26 2,oP 9 8 (.lalloc (.agg [.nils])),oS 10 8 0 1 32,oM 11 9 33,oM 12 10 34]
@[go_sem] theorem quS:OE qGM.eq_1:=OEM qGM.eq_1
def qGT:List qB:=[oY 0 35 3 0 1,oD1 1 36 82 35,oP 2 11 (.lalloc (.agg [.nils])),oS 3 11 0 1 36]
@[go_sem] theorem quT:OE qGT.eq_1:=OEM qGT.eq_1
def qGU:List qB:=[oY 0 38 11 0 1,oM 1 39 1,oM 2 40 2,oP 3 41 (.call 177 [.t 38,.t 39,.t 40]),oM 4 37 41,oV 5 42 37 0,oV 6 43 37 1,oV 7 44 37 2,oP 8 12 (.lalloc (.agg [.nils])),oS 9 12 0 1 42,oM 10 13 43,oM 11 14 44]
@[go_sem] theorem quU:OE qGU.eq_1:=OEM qGU.eq_1
def qGV:List qB:=[oY 0 45 12 0 1,oY 1 46 8 0 1,oD2 2 47 87 45 46,oJ 3 48 47,oM 4 49 48,oH 5 50 49 false 13,oH 6 51 49 false 9,oG 7 52 49 false (.call 86 [.t 50,.t 51]),oG 8 53 49 false (.not (.t 52)),oPt 9 54 49 53,oM 10 55 54,oH 11 56 55 false 14,oH 12 57 55 false 10,oG 13 58 55 false (.bin .neq (.t 56) (.t 57)),oPt 14 59 55 58]
@[go_sem] theorem quV:OE qGV.eq_1:=OEM qGV.eq_1
def qGW:List qB:=[oY 0 60 11 0 1,oY 1 61 3 0 1,oD1 2 62 82 61,oD2 3 63 87 60 62,oJ 4 64 63]
@[go_sem] theorem quW:OE qGW.eq_1:=OEM qGW.eq_1
def qGX:List qB:=[oY 0 65 11 0 1,oM 1 66 15,oD2 2 67 88 65 66,oM 3 15 67]
@[go_sem] theorem quX:OE qGX.eq_1:=OEM qGX.eq_1
def qGY:List qB:=[oM 0 68 15,oE 1 69 .lss 68 0,oM 2 70 69,oG 3 71 70 false (.lload 12 0 (some 1)),oG 4 72 70 false (.lload 8 0 (some 1)),oG 5 73 70 false (.call 87 [.t 71,.t 72]),oG 6 74 70 false (.not (.t 73)),oPt 7 75 70 74,oM 8 76 75,oH 9 77 76 false 13,oH 10 78 76 false 9,oG 11 79 76 false (.call 86 [.t 77,.t 78]),oG 12 80 76 false (.not (.t 79)),oPt 13 81 76 80,oM 14 82 81,oH 15 83 82 false 14,oH 16 84 82 false 10,oG 17 85 82 false (.bin .neq (.t 83) (.t 84)),oPt 18 86 82 85]
@[go_sem] theorem quY:OE qGY.eq_1:=OEM qGY.eq_1
def qGZ:List qB:=[oY 0 87 12 0 1,oM 1 88 16,oD2 2 89 88 87 88,oM 3 16 89]
@[go_sem] theorem quZ:OE qGZ.eq_1:=OEM qGZ.eq_1
def qG0:List qB:=[oM 0 90 13,oM 1 91 16,oD2 2 92 90 90 91,oM 3 16 92]
@[go_sem] theorem qu0:OE qG0.eq_1:=OEM qG0.eq_1
def qGN:List qB:=[oY 0 93 12 0 1,oM 1 94 17,oD2 2 95 178 93 94,oM 3 17 95]
@[go_sem] theorem quM:OE qGN.eq_1:=OEM qGN.eq_1
def qGO:List qB:=[oM 0 98 13,oM 1 99 17,oD2 2 100 92 98 99,oM 3 17 100]
@[go_sem] theorem quN:OE qGO.eq_1:=OEM qGO.eq_1
def qGP:List qB:=[oY 0 107 3 0 1,oD1 1 108 82 107,oM 2 109 1,oM 3 110 2,oP 4 111 (.call 177 [.t 108,.t 109,.t 110]),oM 5 106 111,oV 6 112 106 0,oV 7 113 106 1,oV 8 114 106 2,oP 9 18 (.lalloc (.agg [.nils])),oS 10 18 0 1 112,oM 11 19 113,oM 12 20 114]
@[go_sem] theorem quO:OE qGP.eq_1:=OEM qGP.eq_1
def qGQ:List qB:=[oY 0 115 18 0 1,oY 1 116 8 0 1,oD2 2 117 87 115 116,oJ 3 118 117,oM 4 119 118,oH 5 120 119 false 19,oH 6 121 119 false 9,oG 7 122 119 false (.call 86 [.t 120,.t 121]),oG 8 123 119 false (.not (.t 122)),oPt 9 124 119 123,oM 10 125 124,oH 11 126 125 false 20,oH 12 127 125 false 10,oG 13 128 125 false (.bin .neq (.t 126) (.t 127)),oPt 14 129 125 128]
@[go_sem] theorem quP:OE qGQ.eq_1:=OEM qGQ.eq_1
def qGR:List qB:=[oY 0 130 12 0 1,oM 1 131 17,oD2 2 132 178 130 131,oM 3 17 132]
@[go_sem] theorem quQ:OE qGR.eq_1:=OEM qGR.eq_1
def qGS:List qB:=[oM 0 135 13,oM 1 136 17,oD2 2 137 92 135 136,oM 3 17 137]
@[go_sem] theorem quR:OE qGS.eq_1:=OEM qGS.eq_1
def qGE:qI:=.seq (sr [oM 0 138 17,oE 1 139 .lss 138 0] (.cond (.t 139) (sr [oQ 0 6 false] .ret) .skip)) (.seq (sr [oM 0 140 17,oM 1 141 16,oB 2 142 .neq 140 141] (.cond (.t 142) (sr [oQ 0 6 false] .ret) .skip)) (sr [oQ 0 6 true] .ret))
@[go_sem] theorem quE:CE qGE.eq_1:=CEM qGE.eq_1
def qGF:qI:=sr [oC 0 17 1] (sr qGR (.seq (sr [oM 0 133 17,oE 1 134 .lss 133 0] (.cond (.t 134) (sr [oQ 0 6 false] .ret) .skip)) (sr qGS qGE)))
@[go_sem] theorem quF:CE qGF.eq_1:=CEM qGF.eq_1
def qGG:qI:=.seq (sr [oM 0 103 17,oM 1 104 16,oB 2 105 .neq 103 104] (.cond (.t 105) (sr [oQ 0 6 false] .ret) .skip)) (sr qGP (.seq (sr qGQ (.cond (.t 129) (sr [oQ 0 6 false] .ret) .skip)) qGF))
@[go_sem] theorem quG:CE qGG.eq_1:=CEM qGG.eq_1
def qGH:qI:=.seq (sr [oM 0 96 17,oE 1 97 .lss 96 0] (.cond (.t 97) (sr [oQ 0 6 false] .ret) .skip)) (sr qGO (.seq (sr [oM 0 101 17,oE 1 102 .lss 101 0] (.cond (.t 102) (sr [oQ 0 6 false] .ret) .skip)) qGG))
@[go_sem] theorem quH:CE qGH.eq_1:=CEM qGH.eq_1
def qGI:qI:=.seq (sr qGY (.cond (.t 86) (sr [oQ 0 6 false] .ret) .skip)) (sr [oC 0 16 1] (sr qGZ (sr qG0 (sr [oC 0 17 1] (sr qGN qGH)))))
@[go_sem] theorem quI:CE qGI.eq_1:=CEM qGI.eq_1
def qGJ:qI:=.seq (sr qGV (.cond (.t 59) (sr [oQ 0 6 false] .ret) .skip)) (.seq (sr qGW (.cond (.t 64) (sr [oQ 0 6 false] .ret) .skip)) (sr [oC 0 15 1] (sr qGX qGI)))
@[go_sem] theorem quJ:CE qGJ.eq_1:=CEM qGJ.eq_1
def qGK:qI:=sr qGL (.seq (sr [oM 0 24 7,oE 1 25 .lss 24 0] (.cond (.t 25) (sr [oQ 0 6 true] .ret) .skip)) (sr qGM (sr qGT (sr qGU qGJ))))
@[go_sem] theorem quK:CE qGK.eq_1:=CEM qGK.eq_1
def F23:qJ:=⟨3,143,[.t 6],sr [oP 0 3 (.lbox 1 (.t 0)),oQ 1 6 false] (sr [oC 0 7 1048576] qGK)⟩
def tabm:List (Nat×qJ):=[(338,F338),(80,F80),(337,F337),(79,F79),(147,F147),(83,F83),(342,F342),(82,F82),(86,F86),(346,F346),(85,F85),(87,F87),(340,Xy),(1023,Wu),(1024,Wv),(643,YP),(642,YO),(1129,XI),(878,Yp),(519,YH),(725,YV),(579,YL),(990,Yt),(991,Yu),(610,YM),(496,YC),(402,Zo),(1026,Ww),(920,Ys),(1407,Xk),(1162,XK),(835,Yi),(480,X7),(856,Yo),(1123,XC),(1128,XH),(765,Yb),(381,X1),(760,YY),(1121,XA),(766,Yc),(1122,XB),(1124,XD),(761,YZ),(1125,XE),(1126,XF),(762,Ya),(382,X2),(1117,W6),(1127,XG),(763,Zp),(1504,Xs),(1505,Xt),(1408,Xl),(1409,Zn),(1163,Zm),(836,Zq),(481,X8),(401,F401),(385,X3),(774,F774),(397,F397),(801,Yg),(436,X6),(958,F958),(581,F581),(665,YT),(495,YB),(796,Yf),(1050,W1),(1051,W2),(1402,Xj),(1130,XJ),(770,Ye),(391,X5),(566,YK),(1193,XR),(880,Yq),(521,YI),(993,Yw),(615,YN),(1169,XN),(1168,XM),(847,Yj),(851,Yn),(498,YE),(1042,W0),(1194,XS),(1195,XT),(881,Yr),(522,YJ),(1170,XO),(848,Yk),(834,Yh),(647,YQ),(1167,XL),(1345,Xd),(1339,XX),(1476,Xn),(1340,XY),(1348,qSA),(1349,Xg),(1054,W5),(1477,Xo),(1478,Xp),(1341,XZ),(1529,Xu),(1480,Xr),(1479,Xq),(1342,Xa),(1343,Xb),(1344,Xc),(1346,Xe),(1347,Xf),(1053,W3),(678,YU),(1041,Wz),(664,YS),(1039,Wx),(1040,Wy),(663,YR),(849,Yl),(493,X9),(769,Yd),(758,YX),(726,YW),(1316,XU),(1462,Xm),(1318,XW),(1317,XV),(992,Yv),(1400,Xh),(1118,W7),(1120,W9),(1401,Xi),(1119,W8),(759,QB),(1171,XP),(1172,XQ),(850,Ym),(494,YA),(90,F90),(347,Xz),(88,F88),(92,F92),(348,X0),(387,X4),(500,YG),(499,YF),(497,YD),(176,Xv),(177,Xw),(178,Xx),(23,F23)]
def Gm (g:Nat):Option AFn:=Jp g tabm
theorem g338:Gm 338=some (.fn F338):=by kernel_rfl
theorem g80:Gm 80=some (.fn F80):=by kernel_rfl
theorem g337:Gm 337=some (.fn F337):=by kernel_rfl
theorem g79:Gm 79=some (.fn F79):=by kernel_rfl
theorem g147:Gm 147=some (.fn F147):=by kernel_rfl
theorem g83:Gm 83=some (.fn F83):=by kernel_rfl
theorem Vi:Gm 342=some (.fn F342):=by kernel_rfl
theorem g82:Gm 82=some (.fn F82):=by kernel_rfl
theorem g86:Gm 86=some (.fn F86):=by kernel_rfl
theorem g346:Gm 346=some (.fn F346):=by kernel_rfl
theorem g85:Gm 85=some (.fn F85):=by kernel_rfl
theorem g87:Gm 87=some (.fn F87):=by kernel_rfl
theorem g340:Gm 340=some (.fn Xy):=by kernel_rfl
theorem qbX:Gm 1023=some (.fn Wu):=by kernel_rfl
theorem qbY:Gm 1024=some (.fn Wv):=by kernel_rfl
theorem g643:Gm 643=some (.fn YP):=by kernel_rfl
theorem g642:Gm 642=some (.fn YO):=by kernel_rfl
theorem qcK:Gm 1129=some (.fn XI):=by kernel_rfl
theorem g878:Gm 878=some (.fn Yp):=by kernel_rfl
theorem g519:Gm 519=some (.fn YH):=by kernel_rfl
theorem g725:Gm 725=some (.fn YV):=by kernel_rfl
theorem g579:Gm 579=some (.fn YL):=by kernel_rfl
theorem g990:Gm 990=some (.fn Yt):=by kernel_rfl
theorem g991:Gm 991=some (.fn Yu):=by kernel_rfl
theorem g610:Gm 610=some (.fn YM):=by kernel_rfl
theorem g496:Gm 496=some (.fn YC):=by kernel_rfl
theorem g402:Gm 402=some (.fn Zo):=by kernel_rfl
theorem qbZ:Gm 1026=some (.fn Ww):=by kernel_rfl
theorem g920:Gm 920=some (.fn Ys):=by kernel_rfl
theorem qdC:Gm 1407=some (.fn Xk):=by kernel_rfl
theorem qcM:Gm 1162=some (.fn XK):=by kernel_rfl
theorem g835:Gm 835=some (.fn Yi):=by kernel_rfl
theorem g480:Gm 480=some (.fn X7):=by kernel_rfl
theorem g856:Gm 856=some (.fn Yo):=by kernel_rfl
theorem qcE:Gm 1123=some (.fn XC):=by kernel_rfl
theorem qcJ:Gm 1128=some (.fn XH):=by kernel_rfl
theorem g765:Gm 765=some (.fn Yb):=by kernel_rfl
theorem g381:Gm 381=some (.fn X1):=by kernel_rfl
theorem g760:Gm 760=some (.fn YY):=by kernel_rfl
theorem qcC:Gm 1121=some (.fn XA):=by kernel_rfl
theorem g766:Gm 766=some (.fn Yc):=by kernel_rfl
theorem qcD:Gm 1122=some (.fn XB):=by kernel_rfl
theorem qcF:Gm 1124=some (.fn XD):=by kernel_rfl
theorem g761:Gm 761=some (.fn YZ):=by kernel_rfl
theorem qcG:Gm 1125=some (.fn XE):=by kernel_rfl
theorem qcH:Gm 1126=some (.fn XF):=by kernel_rfl
theorem g762:Gm 762=some (.fn Ya):=by kernel_rfl
theorem g382:Gm 382=some (.fn X2):=by kernel_rfl
theorem qb8:Gm 1117=some (.fn W6):=by kernel_rfl
theorem qcI:Gm 1127=some (.fn XG):=by kernel_rfl
theorem g763:Gm 763=some (.fn Zp):=by kernel_rfl
theorem qdK:Gm 1504=some (.fn Xs):=by kernel_rfl
theorem qdL:Gm 1505=some (.fn Xt):=by kernel_rfl
theorem qdD:Gm 1408=some (.fn Xl):=by kernel_rfl
theorem qUJ:Gm 1409=some (.fn Zn):=by kernel_rfl
theorem qUI:Gm 1163=some (.fn Zm):=by kernel_rfl
theorem g836:Gm 836=some (.fn Zq):=by kernel_rfl
theorem g481:Gm 481=some (.fn X8):=by kernel_rfl
theorem g401:Gm 401=some (.fn F401):=by kernel_rfl
theorem g385:Gm 385=some (.fn X3):=by kernel_rfl
theorem g774:Gm 774=some (.fn F774):=by kernel_rfl
theorem g397:Gm 397=some (.fn F397):=by kernel_rfl
theorem g801:Gm 801=some (.fn Yg):=by kernel_rfl
theorem g436:Gm 436=some (.fn X6):=by kernel_rfl
theorem g958:Gm 958=some (.fn F958):=by kernel_rfl
theorem g581:Gm 581=some (.fn F581):=by kernel_rfl
theorem g665:Gm 665=some (.fn YT):=by kernel_rfl
theorem g495:Gm 495=some (.fn YB):=by kernel_rfl
theorem g796:Gm 796=some (.fn Yf):=by kernel_rfl
theorem qb4:Gm 1050=some (.fn W1):=by kernel_rfl
theorem qb5:Gm 1051=some (.fn W2):=by kernel_rfl
theorem qdB:Gm 1402=some (.fn Xj):=by kernel_rfl
theorem qcL:Gm 1130=some (.fn XJ):=by kernel_rfl
theorem g770:Gm 770=some (.fn Ye):=by kernel_rfl
theorem g391:Gm 391=some (.fn X5):=by kernel_rfl
theorem g566:Gm 566=some (.fn YK):=by kernel_rfl
theorem qcT:Gm 1193=some (.fn XR):=by kernel_rfl
theorem g880:Gm 880=some (.fn Yq):=by kernel_rfl
theorem g521:Gm 521=some (.fn YI):=by kernel_rfl
theorem g993:Gm 993=some (.fn Yw):=by kernel_rfl
theorem g615:Gm 615=some (.fn YN):=by kernel_rfl
theorem qcP:Gm 1169=some (.fn XN):=by kernel_rfl
theorem qcO:Gm 1168=some (.fn XM):=by kernel_rfl
theorem g847:Gm 847=some (.fn Yj):=by kernel_rfl
theorem g851:Gm 851=some (.fn Yn):=by kernel_rfl
theorem g498:Gm 498=some (.fn YE):=by kernel_rfl
theorem qb3:Gm 1042=some (.fn W0):=by kernel_rfl
theorem qcU:Gm 1194=some (.fn XS):=by kernel_rfl
theorem qcV:Gm 1195=some (.fn XT):=by kernel_rfl
theorem g881:Gm 881=some (.fn Yr):=by kernel_rfl
theorem g522:Gm 522=some (.fn YJ):=by kernel_rfl
theorem qcQ:Gm 1170=some (.fn XO):=by kernel_rfl
theorem g848:Gm 848=some (.fn Yk):=by kernel_rfl
theorem g834:Gm 834=some (.fn Yh):=by kernel_rfl
theorem g647:Gm 647=some (.fn YQ):=by kernel_rfl
theorem qcN:Gm 1167=some (.fn XL):=by kernel_rfl
theorem qc5:Gm 1345=some (.fn Xd):=by kernel_rfl
theorem qcZ:Gm 1339=some (.fn XX):=by kernel_rfl
theorem qdF:Gm 1476=some (.fn Xn):=by kernel_rfl
theorem qc0:Gm 1340=some (.fn XY):=by kernel_rfl
theorem qc8:Gm 1349=some (.fn Xg):=by kernel_rfl
theorem qb7:Gm 1054=some (.fn W5):=by kernel_rfl
theorem qdG:Gm 1477=some (.fn Xo):=by kernel_rfl
theorem qdH:Gm 1478=some (.fn Xp):=by kernel_rfl
theorem qc1:Gm 1341=some (.fn XZ):=by kernel_rfl
theorem qdM:Gm 1529=some (.fn Xu):=by kernel_rfl
theorem qdJ:Gm 1480=some (.fn Xr):=by kernel_rfl
theorem qdI:Gm 1479=some (.fn Xq):=by kernel_rfl
theorem qc2:Gm 1342=some (.fn Xa):=by kernel_rfl
theorem qc3:Gm 1343=some (.fn Xb):=by kernel_rfl
theorem qc4:Gm 1344=some (.fn Xc):=by kernel_rfl
theorem qc6:Gm 1346=some (.fn Xe):=by kernel_rfl
theorem qc7:Gm 1347=some (.fn Xf):=by kernel_rfl
theorem qb6:Gm 1053=some (.fn W3):=by kernel_rfl
theorem g678:Gm 678=some (.fn YU):=by kernel_rfl
theorem qb2:Gm 1041=some (.fn Wz):=by kernel_rfl
theorem g664:Gm 664=some (.fn YS):=by kernel_rfl
theorem qb0:Gm 1039=some (.fn Wx):=by kernel_rfl
theorem qb1:Gm 1040=some (.fn Wy):=by kernel_rfl
theorem g663:Gm 663=some (.fn YR):=by kernel_rfl
theorem g849:Gm 849=some (.fn Yl):=by kernel_rfl
theorem g493:Gm 493=some (.fn X9):=by kernel_rfl
theorem g769:Gm 769=some (.fn Yd):=by kernel_rfl
theorem g758:Gm 758=some (.fn YX):=by kernel_rfl
theorem g726:Gm 726=some (.fn YW):=by kernel_rfl
theorem qcW:Gm 1316=some (.fn XU):=by kernel_rfl
theorem qdE:Gm 1462=some (.fn Xm):=by kernel_rfl
theorem qcY:Gm 1318=some (.fn XW):=by kernel_rfl
theorem qcX:Gm 1317=some (.fn XV):=by kernel_rfl
theorem g992:Gm 992=some (.fn Yv):=by kernel_rfl
theorem qc9:Gm 1400=some (.fn Xh):=by kernel_rfl
theorem qb9:Gm 1118=some (.fn W7):=by kernel_rfl
theorem qcB:Gm 1120=some (.fn W9):=by kernel_rfl
theorem qdA:Gm 1401=some (.fn Xi):=by kernel_rfl
theorem qcA:Gm 1119=some (.fn W8):=by kernel_rfl
theorem Vj:Gm 759=some (.fn QB):=by kernel_rfl
theorem qcR:Gm 1171=some (.fn XP):=by kernel_rfl
theorem qcS:Gm 1172=some (.fn XQ):=by kernel_rfl
theorem g850:Gm 850=some (.fn Ym):=by kernel_rfl
theorem g494:Gm 494=some (.fn YA):=by kernel_rfl
theorem g90:Gm 90=some (.fn F90):=by kernel_rfl
theorem g347:Gm 347=some (.fn Xz):=by kernel_rfl
theorem g88:Gm 88=some (.fn F88):=by kernel_rfl
theorem g92:Gm 92=some (.fn F92):=by kernel_rfl
theorem g348:Gm 348=some (.fn X0):=by kernel_rfl
theorem g387:Gm 387=some (.fn X4):=by kernel_rfl
theorem g500:Gm 500=some (.fn YG):=by kernel_rfl
theorem g499:Gm 499=some (.fn YF):=by kernel_rfl
theorem g497:Gm 497=some (.fn YD):=by kernel_rfl
theorem g176:Gm 176=some (.fn Xv):=by kernel_rfl
theorem g177:Gm 177=some (.fn Xw):=by kernel_rfl
theorem g178:Gm 178=some (.fn Xx):=by kernel_rfl
theorem g23:Gm 23=some (.fn F23):=by kernel_rfl
end Go.Ab
namespace Go.Ab
open Go
set_option maxRecDepth 10000
theorem c338 (xs:List Int) (hx:xs.length≤140737488355328) (left:Nat) (hl:left≤1048576):Pure Gm 338 [.lst 1 (xs.map qE) false,.int .i64 left] (.int .i64 (wN xs.length left)):=
  qj0 g338 shI.tree xs left hl hx
theorem c80 (x:qA):∀(_:x.bd) (left:Nat) (_:left≤1048576),Pure Gm 80 [x.enc,.int .i64 left] (.int .i64 (wN x.sz left)):=by
  induction x using qA.ind with
  | _ x ih=>
  intro hb left hl;refine Pure.intro [] [] g80 (by kernel_rfl) rfl (by simp [AV.trees,AV.tree,qA.tr]) rfl ?_;simp only [F80,qL,go_sem];refine qc qA.ln ?_;simp only [go_sem];rw [qA.bd_eq] at hb;refine qH (c338 _ hb.1 _ (by omega)) ?_;simp only [go_sem];refine qD ?_ ?_<;>intro hc<;>simp only [hc,go_sem]
  · have hq:=odT hc;rw [JV] at hq;exact qM rfl (by rw [JW (by rw [qA.sz_eq];omega)])
  have hq:=odF hc;rw [JV] at hq;rw [wx (by omega)];clear hc;refine qH (qXV qA.isSh g337 qA.sz x.Kids (fun y hm lf hlf=>ih y hm (hb.2.2 y hm) lf hlf) _ (by omega) hb.2.1) ?_;simp only [go_sem];refine qD ?_ ?_<;>intro hc<;>simp only [hc,go_sem]
  · have hq:=odT hc;rw [JV] at hq;exact qM rfl (by rw [JW (by rw [qA.sz_eq];omega)])
  have hq:=odF hc;rw [JV] at hq;rw [wx (by omega)];clear hc;exact qM rfl (by rw [wx (by rw [qA.sz_eq];omega)];rw [qA.sz_eq];first | rfl | (congr 2;omega))
theorem c337 (xs:List qA) (hx:xs.length≤140737488355328∧(∀y∈xs,qA.bd y)) (left:Nat) (hl:left≤1048576):Pure Gm 337 [.lst 4 (xs.map qA.enc) false,.int .i64 left] (.int .i64 (wN (xs.length+qG qA.sz xs) left)):=
  qXV qA.isSh g337 qA.sz xs (fun x hm lf hlf=>c80 x (hx.2 x hm) lf hlf) left hl hx.1
theorem c79 (x:qF) (hb:x.bd) (left:Nat) (hl:left≤1048576):Pure Gm 79 [x.enc,.int .i64 left] (.int .i64 (wN x.sz left)):=by
  refine Pure.intro [] [] g79 (by kernel_rfl) rfl (by simp [AV.trees,AV.tree,qF.tr]) rfl ?_;simp only [F79,qL,go_sem];refine qc rfl ?_;simp only [go_sem];unfold qF.bd at hb;refine qH (c337 _ ⟨hb.1,hb.2⟩ _ (by omega)) ?_;simp only [go_sem];refine qD ?_ ?_<;>intro hc<;>simp only [hc,go_sem]
  · have hq:=odT hc;rw [JV] at hq;exact qM rfl (by rw [JW (by unfold qF.sz;omega)])
  have hq:=odF hc;rw [JV] at hq;rw [wx (by omega)];clear hc;exact qM rfl (by rw [wx (by unfold qF.sz;omega)];unfold qF.sz;first | rfl | (congr 2;omega))
theorem c147 (xs:List Int) (hl:xs.length≤1048576):Pure Gm 147 [.lst 1 (xs.map qE) false] (.lst 1 (xs.map qE) false):=qj6 g147 xs hl
theorem c83 (x:qA):∀(_:x.sz≤1048576),Pure Gm 83 [x.enc] (x.enc):=by
  induction x using qA.ind with
  | _ x ih=>
  intro hz;refine Pure.intro [] [] g83 (by kernel_rfl) rfl (by simp [AV.trees,AV.tree,qA.tr]) qA.tr ?_;simp only [F83,qL,go_sem];refine qc qA.ln ?_;simp only [go_sem];rw [qA.sz_eq] at hz;refine qH (c147 _ (by omega)) ?_;simp only [go_sem];refine qH (qXZ qA.isSh rfl rfl (by simp) Vi x.Kids (fun y hm=>ih y hm (by have:=zV (f:=qA.sz) hm;omega)) (by omega)) ?_;simp only [go_sem];refine qK rfl rfl ⟨_,rfl⟩ (by decide) ?_;simp only [go_sem];exact qM qA.tr (by rw [qA.enc_eq])
theorem c342 (xs:List qA) (hl:xs.length+qG qA.sz xs≤1048576):Pure Gm 342 [.lst 4 (xs.map qA.enc) false] (.lst 4 (xs.map qA.enc) false):=
  qXZ qA.isSh rfl rfl (by simp) Vi xs (fun x hm=>c83 x (by have:=zV (f:=qA.sz) hm;omega)) (by omega)
theorem c82 (x:qF) (hz:x.sz≤1048576):Pure Gm 82 [x.enc] x.enc:=by
  refine Pure.intro [] [] g82 (by kernel_rfl) rfl (by simp [AV.trees,AV.tree,qF.tr]) qF.tr ?_;simp only [F82,qL,go_sem];refine qc rfl ?_;simp only [go_sem];unfold qF.sz at hz;refine qH (c342 _ (by omega)) ?_;simp only [go_sem];exact qM qF.tr rfl
theorem c86 (xs:List Int) (hl:xs.length≤2097152):Pure Gm 86 [.lst 1 (xs.map qE) false,.lst 1 (xs.map qE) false] (.bool true):=qbI g86 xs hl
theorem c85 (x:qA):∀(_:x.sz≤2097152),Pure Gm 85 [x.enc,x.enc] (.bool true):=by
  induction x using qA.ind with
  | _ x ih=>
  intro hz;refine Pure.intro [] [] g85 (by kernel_rfl) rfl (by simp [AV.trees,AV.tree,qA.tr]) rfl ?_;simp only [F85,qL,go_sem];refine qc qA.ln ?_;simp only [go_sem];refine qc qA.ln ?_;simp only [go_sem];rw [qA.sz_eq] at hz;refine qH (c86 _ (by omega)) ?_;simp only [go_sem];refine qH (qTS qA.isSh g346 x.Kids (fun y hm=>ih y hm (by have:=zV (f:=qA.sz) hm;omega)) (by omega)) ?_;simp only [go_sem];exact qM rfl rfl
theorem c346 (xs:List qA) (hl:xs.length+qG qA.sz xs≤2097152):Pure Gm 346 [.lst 4 (xs.map qA.enc) false,.lst 4 (xs.map qA.enc) false] (.bool true):=
  qTS qA.isSh g346 xs (fun x hm=>c85 x (by have:=zV (f:=qA.sz) hm;omega)) (by omega)
theorem c87 (x:qF) (hz:x.sz≤2097152):Pure Gm 87 [x.enc,x.enc] (.bool true):=by
  refine Pure.intro [] [] g87 (by kernel_rfl) rfl (by simp [AV.trees,AV.tree,qF.tr]) rfl ?_;simp only [F87,qL,go_sem];refine qc rfl ?_;simp only [go_sem];refine qc rfl ?_;simp only [go_sem];unfold qF.sz at hz;refine qH (c346 _ (by omega)) ?_;simp only [go_sem];exact qM rfl rfl
end Go.Ab
namespace Go.Ab
open Go
set_option maxRecDepth 10000
set_option maxHeartbeats 2000000
def inI (n lo hi:Int):Bool:=decide (lo≤n)&&decide (n≤hi)
theorem dlt (a b:Int):decide (a<b)= !decide (b≤a):=by rw [Bool.eq_iff_iff];simp
theorem nt {b:Bool} (h:(!b)=true):b=false:=by cases b<;>simp_all
theorem nf {b:Bool} (h:(!b)=false):b=true:=by cases b<;>simp_all
theorem j7 {α:Type} {xs:List α} {i:Nat} (h:i<xs.length):xs.drop i=xs[i]::xs.drop (i+1):=by simp
def shp (k:Int):(Int×Int)×Int×Int:=
  if k=1∨k=2∨k=11 then ((0,0),0,0) else if k=3∨k=5∨k=7 then ((2,2),0,0) else if k=4∨k=6 then ((1,1),0,0)
  else if k=8 then ((0,3),0,0) else if k=9 then ((1,1),1,4) else if k=10 then ((1,1),2,2) else ((0,-1),0,0)
def jj (k v:Int):Bool:=
  if k=1 then inI v 0 255 else if k=2 then inI v (-2147483648) 2147483647 else if k=3 then inI v 1 6 else if k=8 then inI v 0 3 else if k=11 then inI v 0 23 else decide (v=0)
def jo (n:Int):Bool:=inI n 0 23
def zo (x:qA):Bool:=inI x.Kids.length (shp x.Kind).1.1 (shp x.Kind).1.2&&inI x.Data.length (shp x.Kind).2.1 (shp x.Kind).2.2&&jj x.Kind x.Value&&x.Data.all jo
def qA.fold {β:Type} (f:qA→List β→β) (x:qA):β:=f x (x.Kids.attach.map fun y=>qA.fold f y.1)
termination_by SizeOf.sizeOf x
decreasing_by exact qA.lt_of_mem y.2
theorem qA.fold_eq {β:Type} (f:qA→List β→β) (x:qA):qA.fold f x=f x (x.Kids.map (qA.fold f)):=by
  rw [qA.fold];congr 1;rw [List.attach_map_val (l:=x.Kids) (f:=qA.fold f)]
@[go_sem] theorem zK2 {α:Type} (f:α→Nat):qG f []=0:=rfl
theorem Zd {α:Type} {f:α→Nat} {xs:List α} {i:Nat} (h:i<xs.length):qG f (xs.take (i+1))=qG f (xs.take i)+f xs[i]:=by
  induction xs generalizing i with
  | nil=>simp at h
  | cons a xs ih=>
    cases i with
    | zero=>simp [qG]
    | succ i=>simp only [List.take_succ_cons,qG,List.getElem_cons_succ,ih (by simpa using h)];omega
def zL {α:Type} (f:α→Nat):List α→Nat
  |[]=>0
  | x::xs=>Nat.max (f x) (zL f xs)
def qA.ok:qA→Bool:=qA.fold fun x rs=>zo x&&rs.all id
theorem qA.ok_eq (x:qA):x.ok=(zo x&&x.Kids.all qA.ok):=by
  unfold qA.ok;rw [qA.fold_eq];simp
def qA.size:qA→Nat:=qA.fold fun _ rs=>1+qG id rs
theorem qXT {α β:Type} (f:β→Nat) (g:α→β):∀xs:List α,qG f (xs.map g)=qG (fun x=>f (g x)) xs
  |[]=>rfl
  | x::xs=>by simp [qG,qXT f g xs]
theorem qA.size_eq (x:qA):x.size=1+qG qA.size x.Kids:=by
  unfold qA.size;rw [qA.fold_eq,qXT];rfl
theorem qQ8 {α β:Type} (f:β→Nat) (g:α→β):∀xs:List α,zL f (xs.map g)=zL (fun x=>f (g x)) xs
  |[]=>rfl
  | x::xs=>by simp [zL,qQ8 f g xs]
def qA.dep:qA→Nat:=qA.fold fun _ rs=>1+zL id rs
theorem qA.dep_eq (x:qA):x.dep=1+zL qA.dep x.Kids:=by
  unfold qA.dep;rw [qA.fold_eq,qQ8];rfl
theorem qA.kid_sz {x y:qA} (h:y∈x.Kids):y.sz≤x.sz:=by
  have:=zV (f:=qA.sz) h;rw [qA.sz_eq x];omega
theorem qA.len_sz (x:qA):x.Kids.length≤x.sz∧x.Data.length≤x.sz:=by rw [qA.sz_eq x];omega
def w9 (d:Int):List qA→Int→Option Int
  |[],n=>some n
  | x::xs,n=>if x.ok∧(x.dep:Int)≤d∧(x.size:Int)≤n then w9 d xs (n-x.size) else none
def wB (x:qA) (d left:Int):Int:=if x.ok∧(x.dep:Int)≤d∧(x.size:Int)≤left then x.size else-1
theorem Qu {n lo hi:Int}:Pure Gm 340 [.int .i64 n,.int .i64 lo,.int .i64 hi] (.bool (inI n lo hi)):=by
  refine Pure.intro [] [] g340 (by kernel_rfl) rfl (by simp [AV.trees,AV.tree,go_sem]) rfl ?_;simp only [Xy,qL,go_sem]
  repeat' (first | (refine qc rfl ?_;simp only [go_sem]) | (first | (refine qY ?_ ?_<;>intro hc<;>simp only [hc,go_sem]) | (refine qD ?_ ?_<;>intro hc<;>simp only [hc,go_sem])) | refine qM rfl ?_ | refine je (by rfl) ?_)
  all_goals (simp_all [inI]<;>omega)
theorem qZA {k:Int}:Pure Gm 1023 [.int .i64 k] (.tup [.int .i64 (shp k).1.1,.int .i64 (shp k).1.2,.int .i64 (shp k).2.1,.int .i64 (shp k).2.2]):=by
  refine Pure.intro [] [] qbX (by kernel_rfl) rfl (by simp [AV.trees,AV.tree,go_sem]) rfl ?_;simp only [Wu,qL,go_sem]
  repeat' (first | (refine qc rfl ?_;simp only [go_sem]) | (first | (refine qY ?_ ?_<;>intro hc<;>simp only [hc,go_sem]) | (refine qD ?_ ?_<;>intro hc<;>simp only [hc,go_sem])) | refine qM rfl ?_ | refine je (by rfl) ?_)
  all_goals (simp_all [shp,zO])
theorem qZB {x:qA}:Pure Gm 1024 [.ept x.enc 0] (.bool (jj x.Kind x.Value)):=by
  refine Pure.intro [] [] qbY (by kernel_rfl) rfl (by simp [AV.trees,AV.tree,go_sem]) rfl ?_;simp only [Wv,qL,go_sem]
  repeat' (first | (refine qc rfl ?_;simp only [go_sem]) | (first | (refine qY ?_ ?_<;>intro hc<;>simp only [hc,go_sem]) | (refine qD ?_ ?_<;>intro hc<;>simp only [hc,go_sem])) | (refine qH (Qu) ?_;simp only [go_sem]) | refine qM rfl ?_ | refine je (by rfl) ?_)
  all_goals (simp_all [jj])
theorem qA.size_pos (x:qA):1≤x.size:=by rw [qA.size_eq];omega
theorem qA.dep_pos (x:qA):1≤x.dep:=by rw [qA.dep_eq];omega
theorem qUU (d:Int):∀(xs:List qA) (n:Int),0≤n→w9 d xs n=if xs.all qA.ok∧(∀y∈xs,(y.dep:Int)≤d)∧(qG qA.size xs:Int)≤n then some (n-qG qA.size xs) else none
  |[],n,hn=>by simp [w9,qG,hn]
  | x::xs,n,hn=>by
    unfold w9;have hp:=x.size_pos;by_cases h:x.ok∧(x.dep:Int)≤d∧(x.size:Int)≤n
    · rw [if_pos h,qUU d xs _ (by omega)];simp only [qG,List.all_cons,h.1,Bool.true_and,List.forall_mem_cons,h.2.1,true_and];by_cases h2:xs.all qA.ok∧(∀y∈xs,(y.dep:Int)≤d)∧(qG qA.size xs:Int)≤n-x.size
      · rw [if_pos h2,if_pos ⟨h2.1,h2.2.1,by omega⟩];congr 1;omega
      · rw [if_neg h2,if_neg (fun q=>h2 ⟨q.1,q.2.1,by omega⟩)]
    · rw [if_neg h,if_neg];simp only [qG,List.all_cons,bAt,List.forall_mem_cons];rintro ⟨⟨a,_⟩,⟨b,_⟩,c⟩;exact h ⟨a,b,by omega⟩
theorem ZK {α:Type} (f:α→Nat) (n:Nat):∀xs:List α,zL f xs≤n↔∀y∈xs,f y≤n
  |[]=>by simp [zL]
  | x::xs=>by
    simp only [zL,List.forall_mem_cons,←ZK f n xs];exact Nat.max_le
theorem qgR (x:qA) (d left:Int) (hd:1≤d) (hl:1≤left) (hn:zo x=true):wB x d left=match w9 (d-1) x.Kids (left-1) with | some r=>left-r | none=> -1:=by
  unfold wB;rw [qUU _ _ _ (by omega),x.ok_eq,hn,x.size_eq,x.dep_eq,Bool.true_and];have hm:((1+zL qA.dep x.Kids:Nat):Int)≤d↔∀y∈x.Kids,(y.dep:Int)≤d-1:=by
    have:=ZK qA.dep (d-1).toNat x.Kids;constructor
    · intro h y hy;have:=this.1 (by omega) y hy;omega
    · intro h;have:=this.2 (fun y hy=>by have:=h y hy;omega);omega
  by_cases h:x.Kids.all qA.ok∧(∀y∈x.Kids,(y.dep:Int)≤d-1)∧(qG qA.size x.Kids:Int)≤left-1
  · rw [if_pos h,if_pos ⟨h.1,hm.2 h.2.1,by omega⟩];simp only [];omega
  · rw [if_neg h,if_neg (fun q=>h ⟨q.1,hm.1 q.2.1,by omega⟩)]
theorem qgQ {x:qA} {d left:Int} (h:d<1∨left<1∨zo x=false):wB x d left= -1:=by
  unfold wB;rw [if_neg];rintro ⟨h1,h2,h3⟩;have:=x.size_pos;have:=x.dep_pos;rcases h with h | h | h
  · omega
  · omega
  · rw [x.ok_eq,h] at h1;cases h1
theorem c643 (x:qA):∀(d left:Int) (hz:x.sz≤1048576) (hd:0≤d∧d≤1048576) (hl:0≤left∧left≤1048576),Pure Gm 643 [.ept x.enc 0,.int .i64 d,.int .i64 left] (.int .i64 (wB x d left)):=by
  induction x using qA.ind with
  | _ x ih=>
  intro d left hz hd hl;refine Pure.intro [] [] g643 (by kernel_rfl) rfl (by simp [AV.trees,AV.tree,go_sem]) rfl ?_;simp only [YP,qL,go_sem];have hL:=x.len_sz;refine qH qZA ?_;simp only [go_sem];have bad:∀{h:List qC},d<1∨left<1∨zo x=false→Fin (some [.int .i64 (-1)]) h (.int .i64 (wB x d left)):=fun h=>qM rfl (by rw [qgQ h])
  repeat' (first
    | (first | (refine qY ?_ ?_<;>intro hc<;>simp only [hc,go_sem]) | (refine qD ?_ ?_<;>intro hc<;>simp only [hc,go_sem]))
    | (refine qH Qu ?_;simp only [go_sem])
    | (refine qH qZB ?_;simp only [go_sem])
    | refine bad ?_)
  all_goals try (first
    | (refine .inl ?_;simp_all;done)
    | (refine .inr (.inl ?_);simp_all;done)
    | (refine .inr (.inr ?_);simp_all [zo];done))
  rename_i h1 h2 h3 h4;have hn0:x.Data.all jo=true→zo x=true:=by intro h;simp_all [zo]
  have hn1:x.Data.all jo=false→zo x=false:=by intro h;simp_all [zo]
  have d1:1≤d:=by have:=odF h1;omega
  have l1:1≤left:=by have:=odF h2;omega
  refine Sem.loop (fun i:Nat=>i≤x.Data.length∧x.Data.all jo=(x.Data.drop i).all jo) (fun i=>(⟨[(0,.ept x.enc 0),(1,.int .i64 d),(2,.int .i64 left),(11,.int .i64 (i:Nat))],[],[]⟩:VSt)) (fun i=>x.Data.length-i) 0 (by kernel_rfl) ⟨Nat.zero_le _,by simp⟩ (Can.sub (by simp [go_sem]) (by simp [go_sem])) ?_;rintro i ⟨hi,hI⟩;simp only [go_sem];refine qD ?_ ?_<;>intro hc<;>simp only [hc,go_sem]
  · have hlt:i<x.Data.length:=by have:=odT hc;omega
    simp only [List.getElem?_map,gEg hlt,Option.map_some,go_sem];simp only [qE];simp only [go_sem];refine qH Qu ?_;simp only [go_sem];refine qD ?_ ?_<;>intro hc<;>simp only [hc,go_sem]
    · refine bad (.inr (.inr (hn1 ?_)));rw [hI,j7 hlt,List.all_cons];simp_all [jo]
    · simp only [qe (show i<4611686018427387904 by omega)];refine qZ (i+1) ⟨by omega, ?_⟩ (by omega) (Can.sub (by simp [go_sem]) (by simp [go_sem]));rw [hI,j7 hlt,List.all_cons];simp_all [jo]
  · obtain rfl:i=x.Data.length:=by have:=odF hc;omega
    have hn:=hn0 (by rw [hI];simp);rw [qgR x d left d1 l1 hn];refine Sem.loop (fun i:Nat=>i≤x.Kids.length∧w9 (d-1) x.Kids (left-1)=w9 (d-1) (x.Kids.drop i) (left-((1+qG qA.size (x.Kids.take i):Nat):Int))∧((1+qG qA.size (x.Kids.take i):Nat):Int)≤left) (fun i=>(⟨[(0,.ept x.enc 0),(1,.int .i64 d),(2,.int .i64 left),(12,.int .i64 ((1+qG qA.size (x.Kids.take i):Nat):Int)),(13,.int .i64 (i:Nat))],[],[]⟩:VSt)) (fun i=>x.Kids.length-i) 0 (by kernel_rfl) ⟨Nat.zero_le _,by simp [qG];omega⟩ (Can.sub (by simp [go_sem]) (by simp [go_sem])) ?_;rintro i ⟨hi,hI⟩;simp only [go_sem];refine qD ?_ ?_<;>intro hc<;>simp only [hc,go_sem]
    · have hlt:i<x.Kids.length:=by have:=odT hc;omega
      simp only [List.getElem?_map,gEg hlt,Option.map_some,go_sem];have hm:=gMm hlt;have hk:=qA.kid_sz hm;have hp:=x.Kids[i].size_pos;have ht:=Zd (f:=qA.size) hlt;rw [qj (by omega) (by omega),qj (by omega) (by omega)];refine qH (ih _ hm (d-1) (left-((1+qG qA.size (x.Kids.take i):Nat):Int)) (by omega) (by omega) (by omega)) ?_;simp only [go_sem];rw [j7 hlt] at hI;refine qD ?_ ?_<;>intro hc<;>simp only [hc,go_sem]
      · have hb:¬(x.Kids[i].ok∧(x.Kids[i].dep:Int)≤d-1∧(x.Kids[i].size:Int)≤left-((1+qG qA.size (x.Kids.take i):Nat):Int)):=by
          intro q;have:=odT hc;unfold wB at this;rw [if_pos q] at this;omega
        refine qM rfl ?_;rw [hI.1,w9,if_neg hb]
      · have hb:x.Kids[i].ok∧(x.Kids[i].dep:Int)≤d-1∧(x.Kids[i].size:Int)≤left-((1+qG qA.size (x.Kids.take i):Nat):Int):=by
          by_cases q:x.Kids[i].ok∧(x.Kids[i].dep:Int)≤d-1∧(x.Kids[i].size:Int)≤left-((1+qG qA.size (x.Kids.take i):Nat):Int)
          · exact q
          · have:=odF hc;unfold wB at this;rw [if_neg q] at this;omega
        have hv:wB x.Kids[i] (d-1) (left-((1+qG qA.size (x.Kids.take i):Nat):Int))=x.Kids[i].size:=by unfold wB;rw [if_pos hb]
        have e1:((1+qG qA.size (x.Kids.take i):Nat):Int)+x.Kids[i].size=((1+qG qA.size (x.Kids.take (i+1)):Nat):Int):=by omega
        rw [hv,qj (n:=((1+qG qA.size (x.Kids.take i):Nat):Int)+x.Kids[i].size) (by omega) (by omega),e1];simp only [qe (show i<4611686018427387904 by omega)];refine qZ (i+1) ⟨by omega, ?_⟩ (by omega) (Can.sub (by simp [go_sem]) (by simp [go_sem]));rw [w9,if_pos hb] at hI;refine ⟨?_,by omega⟩;rw [hI.1];congr 1;omega
    · obtain rfl:i=x.Kids.length:=by have:=odF hc;omega
      refine qM rfl ?_;rw [hI.1];simp only [List.drop_length,w9,AV.int.injEq,true_and];exact (Int.sub_sub_self _ _).symm
theorem c642 {x:qA} (hz:x.sz≤1048576):Pure Gm 642 [.ept x.enc 0] (.bool (decide (0<wB x 80 400))):=by
  refine Pure.intro [] [] g642 (by kernel_rfl) rfl (by simp [AV.trees,AV.tree,go_sem]) rfl ?_;simp only [YO,qL,go_sem];refine qH (c643 x 80 400 hz (by omega) (by omega)) ?_;simp only [go_sem];exact qM rfl rfl
def qA.valid (x:qA):Bool:=x.ok&&decide (x.dep≤80)&&decide (x.size≤400)
theorem qgS (x:qA):decide (0<wB x 80 400)=x.valid:=by
  unfold wB qA.valid;have:=x.size_pos;by_cases h:x.ok∧(x.dep:Int)≤80∧(x.size:Int)≤400
  · rw [if_pos h];have h2:x.dep≤80:=by omega
    have h3:x.size≤400:=by omega
    simp [h.1,h2,h3];omega
  · rw [if_neg h];cases hv:(x.ok&&decide (x.dep≤80)&&decide (x.size≤400)) with
    | false=>rfl
    | true=>
      simp only [bAt,decide_eq_true_eq] at hv;exact absurd ⟨hv.1.1,by omega,by omega⟩ h
def qR (k:Int) (i:Nat):Int:=if k=4∨k=7∧i=1 then 1 else 0
theorem jI (k:Int) (i:Nat):0≤qR k i∧qR k i≤1:=by unfold qR;split<;>omega
def jH {α:Type} (p:Nat→α→Bool):List α→Nat→Bool
  |[],_=>false
  | x::xs,i=>p i x || jH p xs (i+1)
theorem qSI {α β:Type} (p:Nat→β→Bool) (f:α→β):∀(xs:List α) (i:Nat),jH p (xs.map f) i=jH (fun k x=>p k (f x)) xs i
  |[],_=>rfl
  | x::xs,i=>by simp [jH,qSI p f xs]
def qA.above:qA→Int→Bool:=qA.fold fun x rs d=>if x.Kind=1 then decide (d≤x.Value) else jH (fun i (r:Int→Bool)=>r (d+qR x.Kind i)) rs 0
theorem qA.above_eq (x:qA) (d:Int):x.above d=if x.Kind=1 then decide (d≤x.Value) else jH (fun i y=>y.above (d+qR x.Kind i)) x.Kids 0:=by
  unfold qA.above;rw [qA.fold_eq,qSI]
theorem qA.dep_kid {x y:qA} (h:y∈x.Kids):y.dep+1≤x.dep:=by
  rw [x.dep_eq];have:=(ZK qA.dep (zL qA.dep x.Kids) x.Kids).1 (Nat.le_refl _) y h;omega
theorem Z0 {x:qA} {i:Nat}:Pure Gm 1129 [.ept x.enc 0,.int .i64 (i:Int)] (.int .i64 (qR x.Kind i)):=by
  refine Pure.intro [] [] qcK (by kernel_rfl) rfl (by simp [AV.trees,AV.tree,go_sem]) rfl ?_;simp only [XI,qL,go_sem]
  repeat' (first | (refine qc rfl ?_;simp only [go_sem]) | (first | (refine qY ?_ ?_<;>intro hc<;>simp only [hc,go_sem]) | (refine qD ?_ ?_<;>intro hc<;>simp only [hc,go_sem])) | refine qM rfl ?_ | refine je (by rfl) ?_)
  all_goals (simp_all [qR]<;>omega)
theorem c878 (x:qA):∀(d:Int) (hz:x.sz≤1048576) (hd:0≤d∧d+x.dep≤4194304),Pure Gm 878 [.ept x.enc 0,.int .i64 d] (.bool (x.above d)):=by
  induction x using qA.ind with
  | _ x ih=>
  intro d hz hd;refine Pure.intro [] [] g878 (by kernel_rfl) rfl (by simp [AV.trees,AV.tree,go_sem]) rfl ?_;simp only [Yp,qL,go_sem];have hL:=x.len_sz;refine qD ?_ ?_<;>intro hc<;>simp only [hc,go_sem]
  · refine qM rfl ?_;rw [x.above_eq];simp_all
  have hk1:x.above d=jH (fun i y=>y.above (d+qR x.Kind i)) x.Kids 0:=by rw [x.above_eq,if_neg (odF hc)]
  refine Sem.loop (fun i:Nat=>i≤x.Kids.length∧x.above d=jH (fun i y=>y.above (d+qR x.Kind i)) (x.Kids.drop i) i) (fun i=>(⟨[(0,.ept x.enc 0),(1,.int .i64 d),(5,.int .i64 (i:Nat))],[],[]⟩:VSt)) (fun i=>x.Kids.length-i) 0 (by kernel_rfl) ⟨Nat.zero_le _,by simp [hk1]⟩ (Can.sub (by simp [go_sem]) (by simp [go_sem])) ?_;rintro i ⟨hi,hI⟩;simp only [go_sem];refine qD ?_ ?_<;>intro hc<;>simp only [hc,go_sem]
  · have hlt:i<x.Kids.length:=by have:=odT hc;omega
    simp only [List.getElem?_map,gEg hlt,Option.map_some,go_sem];refine qH Z0 ?_;simp only [go_sem];have hm:=gMm hlt;have hk:=qA.kid_sz hm;have hp:=qA.dep_kid hm;have hb:=jI x.Kind i;rw [qj (by omega) (by omega)];refine qH (ih _ hm _ (by omega) (by omega)) ?_;simp only [go_sem];rw [j7 hlt,jH] at hI;refine qD ?_ ?_<;>intro hc<;>simp only [hc,go_sem]
    · refine qM rfl ?_;rw [hI,hc];rfl
    · simp only [qe (show i<4611686018427387904 by omega)];refine qZ (i+1) ⟨by omega, ?_⟩ (by omega) (Can.sub (by simp [go_sem]) (by simp [go_sem]));rw [hI,hc];rfl
  · obtain rfl:i=x.Kids.length:=by have:=odF hc;omega
    refine qM rfl ?_;rw [hI];simp [jH]
def qA.closed (x:qA):Bool:=x.valid&& !x.above 0
def qA.refs (n:Int):qA→Bool:=qA.fold fun x rs=> !(decide (x.Kind=11)&&decide (n≤x.Value))&&x.Data.all (fun k=>decide (k<n))&&rs.all id
theorem qA.refs_eq (n:Int) (x:qA):x.refs n=(!(decide (x.Kind=11)&&decide (n≤x.Value))&&x.Data.all (fun k=>decide (k<n))&&x.Kids.all (qA.refs n)):=by
  unfold qA.refs;rw [qA.fold_eq];simp
def qF.ok (b:qF):Bool:=inI b.Defs.length 1 24&&b.Defs.all fun c=>c.closed&&c.refs b.Defs.length
theorem c519 {x:qA} (hz:x.sz≤1048576):Pure Gm 519 [.ept x.enc 0] (.bool x.closed):=by
  refine Pure.intro [] [] g519 (by kernel_rfl) rfl (by simp [AV.trees,AV.tree,go_sem]) rfl ?_;simp only [YH,qL,go_sem];refine qH (c642 hz) ?_;simp only [go_sem];rw [qgS];refine qY ?_ ?_<;>intro hc<;>simp only [hc,go_sem]
  · have hd:x.dep≤80:=by unfold qA.valid at hc;simp only [bAt,decide_eq_true_eq] at hc;omega
    refine qH (c878 x 0 hz (by omega)) ?_;simp only [go_sem];exact qM rfl (by simp [qA.closed,hc])
  · exact qM rfl (by simp [qA.closed,hc])
theorem c725 (x:qA):∀(n:Int) (hz:x.sz≤1048576),Pure Gm 725 [.ept x.enc 0,.int .i64 n] (.bool (x.refs n)):=by
  induction x using qA.ind with
  | _ x ih=>
  intro n hz;refine Pure.intro [] [] g725 (by kernel_rfl) rfl (by simp [AV.trees,AV.tree,go_sem]) rfl ?_;simp only [YV,qL,go_sem];have hL:=x.len_sz;have bad:∀{h:List qC},x.refs n=false→Fin (some [.bool false]) h (.bool (x.refs n)):=fun h=>qM rfl (by rw [h])
  repeat' (first
    | (first | (refine qY ?_ ?_<;>intro hc<;>simp only [hc,go_sem]) | (refine qD ?_ ?_<;>intro hc<;>simp only [hc,go_sem]))
    | refine bad ?_)
  all_goals try (rw [x.refs_eq];simp_all;done)
  all_goals
    have hk1:x.refs n=(x.Data.all (fun k=>decide (k<n))&&x.Kids.all (qA.refs n)):=by rw [x.refs_eq];simp [*]
    refine Sem.loop (fun i:Nat=>i≤x.Data.length∧x.refs n=((x.Data.drop i).all (fun k=>decide (k<n))&&x.Kids.all (qA.refs n))) (fun i=>(⟨[(0,.ept x.enc 0),(1,.int .i64 n),(5,.int .i64 (i:Nat))],[],[]⟩:VSt)) (fun i=>x.Data.length-i) 0 (by kernel_rfl) ⟨Nat.zero_le _,by simp [hk1]⟩ (Can.sub (by simp [go_sem]) (by simp [go_sem])) ?_;rintro i ⟨hi,hI⟩;simp only [go_sem];refine qD ?_ ?_<;>intro hc<;>simp only [hc,go_sem]
    · have hlt:i<x.Data.length:=by have:=odT hc;omega
      simp only [List.getElem?_map,gEg hlt,Option.map_some,go_sem];simp only [qE];simp only [go_sem];rw [j7 hlt,List.all_cons] at hI;refine qD ?_ ?_<;>intro hc<;>simp only [hc,go_sem]
      · exact bad (by rw [hI,dlt,hc];rfl)
      · simp only [qe (show i<4611686018427387904 by omega)];refine qZ (i+1) ⟨by omega, ?_⟩ (by omega) (Can.sub (by simp [go_sem]) (by simp [go_sem]));rw [hI,dlt,hc];rfl
    · obtain rfl:i=x.Data.length:=by have:=odF hc;omega
      simp only [List.drop_length,List.all_nil,Bool.true_and] at hI;have hk2:=hI;clear hI hi;refine Sem.loop (fun i:Nat=>i≤x.Kids.length∧x.refs n=(x.Kids.drop i).all (qA.refs n)) (fun i=>(⟨[(0,.ept x.enc 0),(1,.int .i64 n),(6,.int .i64 (i:Nat))],[],[]⟩:VSt)) (fun i=>x.Kids.length-i) 0 (by kernel_rfl) ⟨Nat.zero_le _,by simp [hk2]⟩ (Can.sub (by simp [go_sem]) (by simp [go_sem])) ?_;rintro i ⟨hi,hI⟩;simp only [go_sem];refine qD ?_ ?_<;>intro hc<;>simp only [hc,go_sem]
      · have hlt:i<x.Kids.length:=by have:=odT hc;omega
        simp only [List.getElem?_map,gEg hlt,Option.map_some,go_sem];have hm:=gMm hlt;have hk:=qA.kid_sz hm;refine qH (ih _ hm _ (by omega)) ?_;simp only [go_sem];rw [j7 hlt,List.all_cons] at hI;refine qD ?_ ?_<;>intro hc<;>simp only [hc,go_sem]
        · exact bad (by rw [hI,nt hc];rfl)
        · simp only [qe (show i<4611686018427387904 by omega)];refine qZ (i+1) ⟨by omega, ?_⟩ (by omega) (Can.sub (by simp [go_sem]) (by simp [go_sem]));rw [hI,nf hc];rfl
      · obtain rfl:i=x.Kids.length:=by have:=odF hc;omega
        exact qM rfl (by rw [hI];simp)
end Go.Ab
namespace Go.Ab
open Go
set_option maxRecDepth 10000
set_option maxHeartbeats 2000000
theorem c579 {b:qF} (hz:b.sz≤1048576):Pure Gm 579 [.ept b.enc 0] (.bool b.ok):=by
  refine Pure.intro [] [] g579 (by kernel_rfl) rfl (by simp [AV.trees,AV.tree,go_sem]) rfl ?_;simp only [YL,qL,go_sem];have hz':b.Defs.length+qG qA.sz b.Defs≤1048576:=hz;refine qH Qu ?_;simp only [go_sem];refine qD ?_ ?_<;>intro hc<;>simp only [hc,go_sem]
  · exact qM rfl (by simp_all [qF.ok])
  have hk1:b.ok=b.Defs.all (fun c=>c.closed&&c.refs b.Defs.length):=by simp_all [qF.ok]
  refine Sem.loop (fun i:Nat=>i≤b.Defs.length∧b.ok=(b.Defs.drop i).all (fun c=>c.closed&&c.refs b.Defs.length)) (fun i=>(⟨[(0,.ept b.enc 0),(3,.int .i64 (i:Nat))],[],[]⟩:VSt)) (fun i=>b.Defs.length-i) 0 (by kernel_rfl) ⟨Nat.zero_le _,by simp [hk1]⟩ (Can.sub (by simp [go_sem]) (by simp [go_sem])) ?_;rintro i ⟨hi,hI⟩;simp only [go_sem];refine qD ?_ ?_<;>intro hc<;>simp only [hc,go_sem]
  · have hlt:i<b.Defs.length:=by have:=odT hc;omega
    simp only [List.getElem?_map,gEg hlt,Option.map_some,go_sem];have hm:=gMm hlt;have hk:=zV (f:=qA.sz) hm;rw [j7 hlt,List.all_cons] at hI;refine qH (c519 (x:=b.Defs[i]) (by omega)) ?_;simp only [go_sem]
    repeat' (first
      | (first | (refine qY ?_ ?_<;>intro hc<;>simp only [hc,go_sem]) | (refine qD ?_ ?_<;>intro hc<;>simp only [hc,go_sem]))
      | (refine qH (c725 b.Defs[i] _ (by omega)) ?_;simp only [go_sem])
      | (simp only [List.getElem?_map,gEg hlt,Option.map_some,go_sem]))
    · rename_i h0;exact qM rfl (by rw [hI,nf h0,nt hc];rfl)
    · rename_i h0;simp only [qe (show i<4611686018427387904 by omega)];refine qZ (i+1) ⟨by omega, ?_⟩ (by omega) (Can.sub (by simp [go_sem]) (by simp [go_sem]));rw [hI,nf h0,nf hc];rfl
    · exact qM rfl (by rw [hI,nt hc];rfl)
  · obtain rfl:i=b.Defs.length:=by have:=odF hc;omega
    exact qM rfl (by rw [hI];simp)
def qi {α:Type} (f:Nat→α→List Int):List α→Nat→List Int
  |[],_=>[]
  | x::xs,i=>f i x++qi f xs (i+1)
theorem qT9 {α β:Type} (f:Nat→β→List Int) (g:α→β):∀(xs:List α) (i:Nat),qi f (xs.map g) i=qi (fun k x=>f k (g x)) xs i
  |[],_=>rfl
  | x::xs,i=>by simp [qi,qT9 f g xs]
def qW (k:Int):Int:=if k=6 then 1 else 0
def qA.levels:qA→Int→Int→List Int:=qA.fold fun x rs v l=>if x.Kind=1 then (if x.Value=v then [l] else []) else qi (fun i (r:Int→Int→List Int)=>r (v+qR x.Kind i) (l+qW x.Kind)) rs 0
theorem qA.levels_eq (x:qA) (v l:Int):x.levels v l=if x.Kind=1 then (if x.Value=v then [l] else []) else qi (fun i y=>y.levels (v+qR x.Kind i) (l+qW x.Kind)) x.Kids 0:=by
  unfold qA.levels;rw [qA.fold_eq,qT9]
theorem Vd {α:Type} {f:Nat→α→List Int} {n:α→Nat}:∀{xs:List α} {i:Nat},(∀x∈xs,∀k,(f k x).length≤n x)→(qi f xs i).length≤qG n xs
  |[],_,_=>by simp [qi,qG]
  | x::xs,i,h=>by
    simp only [qi,lAp,qG];have:=h x (by simp) i;have:=Vd (f:=f) (n:=n) (xs:=xs) (i:=i+1) (fun y hy=>h y (by simp [hy]));omega
theorem qA.levels_len:∀(x:qA) (v l:Int),(x.levels v l).length≤x.size:=qA.ind fun x ih v l=>by
  rw [x.levels_eq,x.size_eq];split
  · split<;>simp
  · have:=Vd (f:=fun i y=>y.levels (v+qR x.Kind i) (l+qW x.Kind)) (n:=qA.size) (xs:=x.Kids) (i:=0) (fun y hy k=>ih y hy _ _);omega
end Go.Ab
namespace Go.Ab
open Go
set_option maxRecDepth 10000
set_option maxHeartbeats 2000000
def fil (e:Env) (w:Nat) (el:List AV) (i:Nat) (v:Option AV) (r:List (Nat×Ao)):Option (List AV):=match v with
  | some v=>if v.cells.length=w∧i<el.length then zn e w (el.set i v) r else none
  | none=>none
section
variable {e:Env} {w i:Nat} {el:List AV} {v:AV} {x:Ao} {r:List (Nat×Ao)}
@[go_sem] theorem qbM:zn e w el []=some el:=nr (by unfold zn;rfl)
@[go_sem] theorem zEK:zn e w el ((i,x)::r)=fil e w el i (ev e x) r:=nr (by unfold zn;rfl)
@[go_sem] theorem qbN {el0:AV} (h:v.cells.length=w):fil e w [el0] 0 (some v) r=zn e w [v] r:=by
  show (if v.cells.length=w∧0<1 then _ else _)=_;rw [if_pos ⟨h,by omega⟩];rfl
@[go_sem] theorem rep0 {v:AV}:List.replicate 0 v=[]:=nr rfl
@[go_sem] theorem rep1 {v:AV}:List.replicate 1 v=[v]:=nr rfl
end
theorem zJ.ofApp {h X h':List qC} {id id' w:Nat} {ys:List AV} (g:zJ (h++X) id w ys h' id') (hid:id<h.length):zJ h id w ys h' id':=by
  have hl:=g.len;simp only [lAp] at hl;refine ⟨g.at',by omega, ?_,fun j hj hne=> ?_⟩
  · rcases g.pos with e | e
    · exact .inl e
    · simp only [lAp] at e;right;omega
  · rw [g.keep j (by simp;omega) hne,List.getElem?_append_left hj]
theorem Vf {α:Type} {f:Nat→α→List Int}:∀{xs:List α} {i k:Nat} (h:i<xs.length),qi f (xs.take (i+1)) k=qi f (xs.take i) k++f (k+i) xs[i]
  |[],i,k,h=>by simp at h
  | x::xs,0,k,h=>by simp [qi]
  | x::xs,i+1,k,h=>by
    simp only [List.take_succ_cons,qi,List.getElem_cons_succ];rw [Vf (i:=i) (k:=k+1) (by simpa using h),List.append_assoc];congr 2;congr 1;omega
theorem qA.size_sz:∀x:qA,x.size≤x.sz+1:=qA.ind fun x ih=>by
  rw [x.size_eq,x.sz_eq];have:∀xs:List qA,(∀y∈xs,y.size≤y.sz+1)→qG qA.size xs≤xs.length+qG qA.sz xs:=by
    intro xs
    induction xs with
    | nil=>intro _;simp [qG]
    | cons a xs ihx=>intro h;simp only [qG,List.length_cons];have:=h a (by simp);have:=ihx (fun y hy=>h y (by simp [hy]));omega
  have:=this _ ih;omega
theorem Q8 (x:qA) (v l:Int) (i:Nat):(qi (fun i y=>qA.levels y (v+qR x.Kind i) (l+qW x.Kind)) (x.Kids.take i) 0).length+1≤x.size:=by
  rw [x.size_eq];have h1:=Vd (f:=fun i y=>qA.levels y (v+qR x.Kind i) (l+qW x.Kind)) (n:=qA.size) (xs:=x.Kids.take i) (i:=0) (fun y hy k=>qA.levels_len _ _ _);have h2:∀(xs:List qA) (i:Nat),qG qA.size (xs.take i)≤qG qA.size xs:=by
    intro xs
    induction xs with
    | nil=>intro i;simp
    | cons a xs ih=>intro i;cases i with
      | zero=>simp [qG]
      | succ i=>simp only [List.take_succ_cons,qG];have:=ih i;omega
  have:=h2 x.Kids i;omega
theorem qA.size_kid {x:qA} {i:Nat} (h:i<x.Kids.length) (v l:Int):(qi (fun i y=>qA.levels y (v+qR x.Kind i) (l+qW x.Kind)) (x.Kids.take i) 0).length+x.Kids[i].size+1≤x.size:=by
  rw [x.size_eq];have h1:=Vd (f:=fun i y=>qA.levels y (v+qR x.Kind i) (l+qW x.Kind)) (n:=qA.size) (xs:=x.Kids.take i) (i:=0) (fun y hy k=>qA.levels_len _ _ _);have h2:=Zd (f:=qA.size) h;have h3:∀(xs:List qA) (i:Nat),qG qA.size (xs.take i)≤qG qA.size xs:=by
    intro xs
    induction xs with
    | nil=>intro i;simp
    | cons a xs ih=>intro i;cases i with
      | zero=>simp [qG]
      | succ i=>simp only [List.take_succ_cons,qG];have:=ih i;omega
  have:=h3 x.Kids (i+1);omega
theorem Y4 (x:qA):∀(v l:Int) (xs:List Int) (_:x.sz≤1048576) (_:0≤v∧v+x.dep≤4194304) (_:0≤l∧l+x.dep≤4194304) (_:xs.length+x.size≤4194304),
    Acc Gm 990 [.ept x.enc 0,.int .i64 v,.int .i64 l] 1 (xs.map qE) ((xs++x.levels v l).map qE):=by
  induction x using qA.ind with
  | _ x ih=>
  intro v l xs hz hv hl hx h id K ho hK;have hL:=x.len_sz;have hid:id<h.length:=(List.getElem?_eq_some_iff.1 ho).1;refine SCall.run [] [] g990 (by kernel_rfl) rfl ?_;simp only [List.cons_append,List.nil_append,Yt,qL,go_sem];refine qD ?_ ?_<;>intro hc<;>simp only [hc,go_sem]
  · refine qD ?_ ?_<;>intro hc<;>simp only [hc,go_sem]
    · refine jM (el:=xs.map qE) ja (by rw [List.getElem?_append_left hid];exact ho) (by simp) (by omega) ?_;simp only [go_sem];have e:x.levels v l=[l]:=by rw [x.levels_eq];simp_all
      rw [e] at hK;have:=hK _ _ (zJ.ofApp (X:=[.row 1 [.int .i64 l] true]) (zJ.app (by rw [List.getElem?_append_left hid];exact ho)) hid);simpa [qE] using this
    · have e:x.levels v l=[]:=by rw [x.levels_eq];simp_all
      rw [e,List.append_nil] at hK;have:=hK _ _ (zJ.refl ho);simpa using this
  have hk1:x.levels v l=qi (fun i y=>qA.levels y (v+qR x.Kind i) (l+qW x.Kind)) x.Kids 0:=by rw [x.levels_eq,if_neg (odF hc)]
  clear hc;have cont:∀(b:Int),b=qW x.Kind→∀s:qg,get s 0=some (.ept x.enc 0)→get s 1=some (.int .i64 v)→get s 2=some (.int .i64 (l+b))→get s 3=some (.slice 1 id 0 xs.length false)→get s 9=some (.int .i64 0)→
      J2 s [(0,.ept x.enc 0),(1,.int .i64 v),(2,.int .i64 (l+qW x.Kind)),(3,.slice 1 id 0 (xs.length+0) false),(9,.int .i64 ((0:Nat):Int))]:=by
    intro b hb s h0 h1 h2 h3 h4;subst hb;exact ⟨h0,h1,h2,h3,h4,trivial⟩
  have hb0:0≤qW x.Kind∧qW x.Kind≤1:=by unfold qW;split<;>omega
  refine qD ?_ ?_<;>intro hc<;>simp only [hc,go_sem]
  all_goals
    (try rw [qj (n:=l+1) (by omega) (by omega)])
    refine Sem.loop (fun a:Nat×List qC×Nat=>a.1≤x.Kids.length∧zJ h id 1 ((xs++qi (fun i y=>qA.levels y (v+qR x.Kind i) (l+qW x.Kind)) (x.Kids.take a.1) 0).map qE) a.2.1 a.2.2)
      (fun a=>(⟨[(0,.ept x.enc 0),(1,.int .i64 v),(2,.int .i64 (l+qW x.Kind)),(3,.slice 1 a.2.2 0 (xs.length+(qi (fun i y=>qA.levels y (v+qR x.Kind i) (l+qW x.Kind)) (x.Kids.take a.1) 0).length) false),(9,.int .i64 (a.1:Nat))],[],a.2.1⟩:VSt)) (fun a=>x.Kids.length-a.1) (0,h,id) (by kernel_rfl) ⟨Nat.zero_le _,by simpa [qi] using zJ.refl ho⟩
      (Can.sub (by first | exact cont 1 (by simp_all [qW]) _ rfl rfl rfl rfl rfl | exact cont 0 (by simp_all [qW]) _ rfl rfl (by simp [go_sem]) rfl rfl) (by simp [go_sem])) ?_
    rintro ⟨i,h',id'⟩ ⟨hi,hG⟩;simp only at hi hG;simp only [go_sem];have hfl:=Q8 x v l i;refine qD ?_ ?_<;>intro hc<;>simp only [hc,go_sem]
    · have hlt:i<x.Kids.length:=by have:=odT hc;omega
      simp only [List.getElem?_map,gEg hlt,Option.map_some,go_sem];have hm:=gMm hlt;have hk:=qA.kid_sz hm;have hp:=qA.dep_kid hm;have hb:=jI x.Kind i;have hft:=Vf (f:=fun i y=>qA.levels y (v+qR x.Kind i) (l+qW x.Kind)) (k:=0) hlt;have hfl2:=Q8 x v l (i+1);rw [hft,Nat.zero_add,lAp] at hfl2;refine qH Z0 ?_;simp only [go_sem];rw [qj (n:=v+qR x.Kind i) (by omega) (by omega)];have hsz:=qA.size_kid hlt v l;refine Z3 (ih _ hm (v+qR x.Kind i) (l+qW x.Kind) (xs++qi (fun i y=>qA.levels y (v+qR x.Kind i) (l+qW x.Kind)) (x.Kids.take i) 0) (by omega) (by omega) (by omega) (by rw [lAp];omega)) hG.at' (by simp) rfl ?_;intro h2 id2 hG2;simp only [go_sem];simp only [qe (show i<4611686018427387904 by omega)];refine qZ (i+1,h2,id2) ⟨by omega, ?_⟩ (by simp only;omega) (Can.sub ?_ (by simp [go_sem]))
      · rw [hft,Nat.zero_add,←List.append_assoc];exact hG.trans hG2
      · simp only [hft,Nat.zero_add];simp [go_sem,Nat.add_assoc]
    · have e:i=x.Kids.length:=by have:=odF hc;omega
      subst e;rw [List.take_length] at hG⊢;rw [hk1] at hK;have:=hK _ _ hG;simpa using this
end Go.Ab
namespace Go.Ab
open Go
set_option maxRecDepth 10000
set_option maxHeartbeats 2000000
def zM (x:qA) (l:Int):Bool:=
  if x.Kind=4 then (match x.Kids[0]? with
    | some y=>decide ((y.levels 0 l).length≤1)&&(y.levels 0 l).all (fun n=>decide (n=l))
    | none=>true)
  else if x.Kind=7 then (match x.Kids[1]? with
    | some y=>(y.levels 0 l).all (fun n=>decide (n=l)) || (y.levels 0 l).all (fun n=>decide (n=l+1))
    | none=>true)
  else true
def qA.strat:qA→Int→Bool:=qA.fold fun x rs l=>decide (l≤8)&&zM x l&&rs.all fun r=>r (l+qW x.Kind)
theorem qA.strat_eq (x:qA) (l:Int):x.strat l=(decide (l≤8)&&zM x l&&x.Kids.all fun y=>y.strat (l+qW x.Kind)):=by
  unfold qA.strat;rw [qA.fold_eq];simp [Function.comp_def]
theorem qv {x y:qA} (h:x.ok=true) (hy:y∈x.Kids):y.ok=true:=by
  rw [x.ok_eq,bAt,List.all_eq_true] at h;exact h.2 y hy
theorem w3 {x:qA} (h:x.ok=true):zo x=true:=by rw [x.ok_eq,bAt] at h;exact h.1
theorem qu {x:qA} (h:x.ok=true):((x.Kind=3∨x.Kind=5∨x.Kind=7)→x.Kids.length=2)∧((x.Kind=4∨x.Kind=6∨x.Kind=9∨x.Kind=10)→x.Kids.length=1):=by
  have h:=w3 h;unfold zo inI at h;simp only [bAt,decide_eq_true_eq] at h;obtain ⟨⟨⟨⟨h1,h2⟩,_⟩,_⟩,_⟩:=h;constructor
  · rintro (hk | hk | hk)<;>simp [shp,hk] at h1 h2<;>omega
  · rintro (hk | hk | hk | hk)<;>simp [shp,hk] at h1 h2<;>omega
theorem c991 {xs:List Int} {n:Int} (hl:xs.length≤4194304):Pure Gm 991 [.lst 1 (xs.map qE) false,.int .i64 n] (.bool (xs.all fun k=>decide (k=n))):=by
  refine Pure.intro [] [] g991 (by kernel_rfl) rfl (by simp [AV.trees,AV.tree,zq shI.tree]) rfl ?_;simp only [Yu,qL,go_sem];refine Sem.loop (fun i:Nat=>i≤xs.length∧(xs.all fun k=>decide (k=n))=(xs.drop i).all fun k=>decide (k=n)) (fun i=>(⟨[(0,.lst 1 (xs.map qE) false),(1,.int .i64 n),(5,.int .i64 (i:Nat))],[],[]⟩:VSt)) (fun i=>xs.length-i) 0 (by kernel_rfl) ⟨Nat.zero_le _,by simp⟩ (Can.sub (by simp [go_sem]) (by simp [go_sem])) ?_;rintro i ⟨hi,hI⟩;simp only [go_sem];refine qD ?_ ?_<;>intro hc<;>simp only [hc,go_sem]
  · have hlt:i<xs.length:=by have:=odT hc;omega
    simp only [List.getElem?_map,gEg hlt,Option.map_some,go_sem];simp only [qE];simp only [go_sem];rw [j7 hlt,List.all_cons] at hI;refine qD ?_ ?_<;>intro hc<;>simp only [hc,go_sem]
    · exact qM rfl (by rw [hI];simp_all)
    · simp only [qe (show i<4611686018427387904 by omega)];refine qZ (i+1) ⟨by omega, ?_⟩ (by omega) (Can.sub (by simp [go_sem]) (by simp [go_sem]));rw [hI];simp_all
  · obtain rfl:i=xs.length:=by have:=odF hc;omega
    exact qM rfl (by rw [hI];simp)
theorem c610 (x:qA):∀(l:Int) (hz:x.sz≤1048576) (hk:x.ok=true) (hl:0≤l∧l≤9) (hd:x.dep≤1000) (hq:x.size≤2097152),Pure Gm 610 [.ept x.enc 0,.int .i64 l] (.bool (x.strat l)):=by
  induction x using qA.ind with
  | _ x ih=>
  intro l hz hk hl hd hq;refine Pure.intro [] [] g610 (by kernel_rfl) rfl (by simp [AV.trees,AV.tree,go_sem]) rfl ?_;simp only [YM,qL,go_sem];have hL:=x.len_sz;have bad:∀{h:List qC},x.strat l=false→Fin (some [.bool false]) h (.bool (x.strat l)):=fun h=>qM rfl (by rw [h]);have hsz:=x.size_sz;have lvb:∀{h:List qC},decide (8<l)=false→zM x l=false→Fin (some [.bool false]) h (.bool (x.strat l)):=fun h1 h=>bad (by rw [x.strat_eq,h];simp);have h01:∀{y:qA},y∈x.Kids→y.sz≤1048576∧y.dep≤1000∧y.size≤2097152:=fun hy=>by
    have:=qA.kid_sz hy;have:=qA.dep_kid hy;have:=zV (f:=qA.size) hy;have:=x.size_eq;omega
  refine qD ?_ ?_<;>intro hc<;>simp only [hc,go_sem]
  · exact bad (by rw [x.strat_eq,show decide (l≤8)=false by have:=odT hc;exact decide_eq_false (by omega)];rfl)
  have hc8:=hc;refine qD ?_ ?_<;>intro hc<;>simp only [hc,go_sem];have h1:=(qu hk).2 (.inl (odT hc));have hlt:0<x.Kids.length:=by omega
  simp only [List.getElem?_map,gEg hlt,Option.map_some,go_sem];have hm:=gMm hlt;have ha:=Y4 x.Kids[0] 0 l [] (h01 hm).1 (by have:=(h01 hm).2.1;omega) (by have:=(h01 hm).2.1;omega) (by simp;have:=(h01 hm).2.2;omega);have hll:=qA.levels_len x.Kids[0] 0 l;have hq0:=(h01 hm).2.2;have hlv:zM x l=(decide ((x.Kids[0].levels 0 l).length≤1)&&(x.Kids[0].levels 0 l).all (fun n=>decide (n=l))):=by
    unfold zM;rw [if_pos (odT hc),gEg hlt]
  rw [List.nil_append] at ha;refine JM ha rfl ?_;intro h' id' hG;simp only [go_sem];refine qY ?_ ?_<;>intro hc<;>simp only [hc,go_sem];rotate_left;exact lvb hc8 (by rw [hlv,show decide ((x.Kids[0].levels 0 l).length≤1)=false by have:=odT hc;exact decide_eq_false (by omega)];rfl)
  rotate_right
  have hc1:=hc;refine z4 (vs':=[.lst 1 ((x.Kids[0].levels 0 l).map qE) false,.int .i64 l]) (Cvs.cons (Cv.row hG.at' (by simp) (zq shI.tree _) (by decide)) (Cvs.cons (.refl rfl) Cvs.nil)) (c991 (by omega)) rfl ?_;simp only [go_sem];refine qD ?_ ?_<;>intro hc<;>simp only [hc,go_sem];exact lvb hc8 (by rw [hlv,nt hc,Bool.and_false]);have hT:zM x l=true:=by rw [hlv,nf hc,Bool.and_true];have:=odF hc1;exact decide_eq_true (by omega)
  rotate_left;refine qD ?_ ?_<;>intro hc<;>simp only [hc,go_sem];have h1:=(qu hk).1 (.inr (.inr (odT hc)));have hlt:1<x.Kids.length:=by omega
  simp only [List.getElem?_map,gEg hlt,Option.map_some,go_sem];have hm:=gMm hlt;have ha:=Y4 x.Kids[1] 0 l [] (h01 hm).1 (by have:=(h01 hm).2.1;omega) (by have:=(h01 hm).2.1;omega) (by simp;have:=(h01 hm).2.2;omega);have hll:=qA.levels_len x.Kids[1] 0 l;have hq0:=(h01 hm).2.2;have hlv:zM x l=((x.Kids[1].levels 0 l).all (fun n=>decide (n=l)) || (x.Kids[1].levels 0 l).all (fun n=>decide (n=l+1))):=by
    have hk7:=odT hc;unfold zM;rw [if_neg (by omega),if_pos hk7,gEg hlt]
  rw [List.nil_append] at ha;refine JM ha rfl ?_;intro h' id' hG;simp only [go_sem];refine z4 (vs':=[.lst 1 ((x.Kids[1].levels 0 l).map qE) false,.int .i64 l]) (Cvs.cons (Cv.row hG.at' (by simp) (zq shI.tree _) (by decide)) (Cvs.cons (.refl rfl) Cvs.nil)) (c991 (by omega)) rfl ?_;simp only [go_sem];refine qY ?_ ?_<;>intro hc<;>simp only [hc,go_sem];have hc1:=hc;rw [qj (n:=l+1) (by omega) (by omega)];refine z4 (vs':=[.lst 1 ((x.Kids[1].levels 0 l).map qE) false,.int .i64 (l+1)]) (Cvs.cons (Cv.row hG.at' (by simp) (zq shI.tree _) (by decide)) (Cvs.cons (.refl rfl) Cvs.nil)) (c991 (by omega)) rfl ?_;simp only [go_sem];refine qD ?_ ?_<;>intro hc<;>simp only [hc,go_sem];exact lvb hc8 (by rw [hlv,nt hc,nt hc1];rfl);have hT:zM x l=true:=by rw [hlv,nf hc,Bool.or_true]
  rotate_left;have hT:zM x l=true:=by rw [hlv,show (x.Kids[1].levels 0 l).all (fun n=>decide (n=l))=true by revert hc;cases (x.Kids[1].levels 0 l).all (fun n=>decide (n=l))<;>simp];rfl
  rotate_left;have hT:zM x l=true:=by unfold zM;rename_i h4;rw [if_neg (odF h4),if_neg (odF hc)]
  all_goals
    have hk1:x.strat l=x.Kids.all fun y=>y.strat (l+qW x.Kind):=by
      rw [x.strat_eq,hT,show decide (l≤8)=true by have:=odF hc8;exact decide_eq_true (by omega)];rfl
    have hl8:l≤8:=by have:=odF hc8;omega
    refine Sem.loop (fun i:Nat=>i≤x.Kids.length∧x.strat l=(x.Kids.drop i).all fun y=>y.strat (l+qW x.Kind)) (fun i=>(⟨[(0,.ept x.enc 0),(1,.int .i64 l),(7,.int .i64 (i:Nat))],[],[]⟩:VSt)) (fun i=>x.Kids.length-i) 0 (by kernel_rfl) ⟨Nat.zero_le _,by simp [hk1]⟩ (Can.renum [] rfl trivial ⟨⟨_,rfl,.tree (by simp [go_sem,AV.tree])⟩,⟨_,rfl,.tree rfl⟩,⟨_,rfl,.tree rfl⟩,trivial⟩ trivial) ?_;rintro i ⟨hi,hI⟩;simp only [go_sem];refine qD ?_ ?_<;>intro hc<;>simp only [hc,go_sem]
    · have hlt:i<x.Kids.length:=by have:=odT hc;omega
      have hm:=gMm hlt;have hb0:qW x.Kind=if x.Kind=6 then 1 else 0:=rfl;rw [j7 hlt,List.all_cons] at hI;refine qD ?_ ?_<;>intro hc<;>simp only [hc,go_sem]
      · have hb1:qW x.Kind=1:=by rw [hb0,if_pos (odT hc)]
        simp only [List.getElem?_map,gEg hlt,Option.map_some,go_sem];rw [qj (n:=l+1) (by omega) (by omega)];rw [hb1] at hI;refine qH (ih _ hm (l+1) (h01 hm).1 (qv hk hm) (by omega) (h01 hm).2.1 (h01 hm).2.2) ?_;simp only [go_sem];refine qD ?_ ?_<;>intro hc<;>simp only [hc,go_sem]
        · exact bad (by rw [hI,nt hc];rfl)
        · simp only [qe (show i<4611686018427387904 by omega)];refine qZ (i+1) ⟨by omega, ?_⟩ (by omega) (Can.sub (by simp [go_sem]) (by simp [go_sem]));rw [hI,nf hc,hb1];rfl
      · have hb1:qW x.Kind=0:=by rw [hb0,if_neg (odF hc)]
        simp only [List.getElem?_map,gEg hlt,Option.map_some,go_sem];rw [hb1,Int.add_zero] at hI;refine qH (ih _ hm l (h01 hm).1 (qv hk hm) (by omega) (h01 hm).2.1 (h01 hm).2.2) ?_;simp only [go_sem];refine qD ?_ ?_<;>intro hc<;>simp only [hc,go_sem]
        · exact bad (by rw [hI,nt hc];rfl)
        · simp only [qe (show i<4611686018427387904 by omega)];refine qZ (i+1) ⟨by omega, ?_⟩ (by omega) (Can.sub (by simp [go_sem]) (by simp [go_sem]));rw [hI,nf hc,hb1,Int.add_zero];rfl
    · obtain rfl:i=x.Kids.length:=by have:=odF hc;omega
      exact qM rfl (by rw [hI];simp)
end Go.Ab
namespace Go.Ab
open Go
set_option maxRecDepth 10000
set_option maxHeartbeats 2000000
def zr (b:qF):Int:=if b.ok then (if b.Defs.all (fun c=>c.strat 0) then 0 else 9) else 1
def jF (b:qF) (c:qA) (limit budget:Int):Int:=
  if b.ok&&c.closed&&c.refs b.Defs.length then (if c.strat 0 then (if zr b=0 then (if inI limit 0 40&&inI budget 0 2000 then 0 else 2) else zr b) else 9) else 1
theorem Qw {x:qA} (h:x.closed=true):x.ok=true∧x.dep≤80∧x.size≤400:=by
  unfold qA.closed qA.valid at h;simp only [bAt,decide_eq_true_eq] at h;exact ⟨h.1.1.1,h.1.1.2,h.1.2⟩
theorem Jj {b:qF} (h:b.ok=true) {c:qA} (hc:c∈b.Defs):c.closed=true∧c.refs b.Defs.length=true:=by
  unfold qF.ok at h;simp only [bAt,List.all_eq_true] at h;exact h.2 c hc
theorem QD {b:qF} (h:b.ok=true):1≤b.Defs.length∧b.Defs.length≤24:=by
  unfold qF.ok inI at h;simp only [bAt,decide_eq_true_eq] at h;omega
theorem c496 {b:qF} (hz:b.sz≤1048576):Pure Gm 496 [.ept b.enc 0] (.int .i64 (zr b)):=by
  refine Pure.intro [] [] g496 (by kernel_rfl) rfl (by simp [AV.trees,AV.tree,go_sem]) rfl ?_;simp only [YC,qL,go_sem];have hz':b.Defs.length+qG qA.sz b.Defs≤1048576:=hz;refine qH (c579 hz) ?_;simp only [go_sem];refine qD ?_ ?_<;>intro hc<;>simp only [hc,go_sem]
  · exact qM rfl (by simp_all [zr])
  have hk:=nf hc;have hk1:zr b=if b.Defs.all (fun c=>c.strat 0) then 0 else 9:=by unfold zr;rw [if_pos hk]
  refine Sem.loop (fun i:Nat=>i≤b.Defs.length∧zr b=(if (b.Defs.drop i).all (fun c=>c.strat 0) then 0 else 9)) (fun i=>(⟨[(0,.ept b.enc 0),(3,.int .i64 (i:Nat))],[],[]⟩:VSt)) (fun i=>b.Defs.length-i) 0 (by kernel_rfl) ⟨Nat.zero_le _,by simpa using hk1⟩ (Can.sub (by simp [go_sem]) (by simp [go_sem])) ?_;rintro i ⟨hi,hI⟩;simp only [go_sem];refine qD ?_ ?_<;>intro hc<;>simp only [hc,go_sem]
  · have hlt:i<b.Defs.length:=by have:=odT hc;omega
    simp only [List.getElem?_map,gEg hlt,Option.map_some,go_sem];have hm:=gMm hlt;have hs:=zV (f:=qA.sz) hm;have hv:=Qw (Jj hk hm).1;rw [j7 hlt,List.all_cons] at hI;refine qH (c610 b.Defs[i] 0 (by omega) hv.1 (by omega) (by omega) (by omega)) ?_;simp only [go_sem];refine qD ?_ ?_<;>intro hc<;>simp only [hc,go_sem]
    · exact qM rfl (by rw [hI,nt hc];rfl)
    · simp only [qe (show i<4611686018427387904 by omega)];refine qZ (i+1) ⟨by omega, ?_⟩ (by omega) (Can.sub (by simp [go_sem]) (by simp [go_sem]));rw [hI,nf hc,Bool.true_and]
  · obtain rfl:i=b.Defs.length:=by have:=odF hc;omega
    exact qM rfl (by rw [hI];simp)
end Go.Ab
namespace Go.Ab
open Go
set_option maxRecDepth 10000
set_option maxHeartbeats 2000000
theorem n402 (xs:List Int) (hz:xs.length≤4194304):Fresh Gm 402 [.lst 1 (xs.map qE) false] (.lst 1 (xs.map qE) false):=by
  refine Fresh.intro [] [] g402 (by kernel_rfl) rfl (by simp [AV.trees,AV.tree,zq shI.tree]) (jL (fun _=>rfl) xs) ?_;simp only [Zo,qL,go_sem];refine Zx Els.lst (by simp;omega) ?_;simp only [go_sem];exact QF (t:=.lst 1 (xs.map qE) false) (pre:=[]) (post:=[]) (jL (fun _=>rfl) xs) (by simp [zO,lay]) (by simp [lay,lI])
theorem VR2s.of_eq {μ:List (Option Nat)} {a b:List AV} (h:a=b) (ht:AV.trees b=true):VR2s μ a b:=by subst h;exact VR2s.trees ht
theorem qa (xs:List Int):AV.trees (xs.map qE)=true:=zq shI.tree xs
def zN:List Int→Int→List Int
  |[],n=>[n]
  | x::xs,n=>if x<n then x::zN xs n else if x=n then x::xs else n::x::xs
theorem UL:∀(xs:List Int) (n:Int),(zN xs n).length≤xs.length+1
  |[],n=>by simp [zN]
  | x::xs,n=>by
    unfold zN;split
    · have:=UL xs n;simp;omega
    · split<;>simp
theorem qRH:∀(xs:List Int) (n k:Int),k∈zN xs n↔k=n∨k∈xs
  |[],n,k=>by simp [zN]
  | x::xs,n,k=>by
    unfold zN;split
    · simp only [List.mem_cons,qRH xs n k];constructor
      · rintro (h | h | h)<;>simp_all
      · rintro (h | h | h)<;>simp_all
    · split
      · rename_i h;subst h;simp
      · simp
theorem c402 (xs:List Int) (hz:xs.length≤4194304):Pure Gm 402 [.lst 1 (xs.map qE) false] (.lst 1 (xs.map qE) false):=by
  refine Pure.intro [] [] g402 (by kernel_rfl) rfl (by simp [AV.trees,AV.tree,qa]) (by simp [AV.tree,qa]) ?_;simp only [Zo,qL,go_sem];refine Zx Els.lst (by simp;omega) ?_;simp only [go_sem];exact zH (Cv.row rfl (by simp) (qa xs) (by decide))
theorem qPW {xs:List Int} {n:Int} (hl:xs.length≤4194304):Pure Gm 1026 [.lst 1 (xs.map qE) false,.int .i64 n] (.bool (xs.any fun k=>decide (k=n))):=by
  refine Pure.intro [] [] qbZ (by kernel_rfl) rfl (by simp [AV.trees,AV.tree,qa]) rfl ?_;simp only [Ww,qL,go_sem];refine Sem.loop (fun i:Nat=>i≤xs.length∧(xs.any fun k=>decide (k=n))=(xs.drop i).any fun k=>decide (k=n)) (fun i=>(⟨[(0,.lst 1 (xs.map qE) false),(1,.int .i64 n),(5,.int .i64 (i:Nat))],[],[]⟩:VSt)) (fun i=>xs.length-i) 0 (by kernel_rfl) ⟨Nat.zero_le _,by simp⟩ (Can.sub (by simp [go_sem]) (by simp [go_sem])) ?_;rintro i ⟨hi,hI⟩;simp only [go_sem];refine qD ?_ ?_<;>intro hc<;>simp only [hc,go_sem]
  · have hlt:i<xs.length:=by have:=odT hc;omega
    simp only [List.getElem?_map,gEg hlt,Option.map_some,go_sem];simp only [qE];simp only [go_sem];rw [j7 hlt,List.any_cons] at hI;refine qD ?_ ?_<;>intro hc<;>simp only [hc,go_sem]
    · exact qM rfl (by rw [hI,hc];rfl)
    · simp only [qe (show i<4611686018427387904 by omega)];refine qZ (i+1) ⟨by omega, ?_⟩ (by omega) (Can.sub (by simp [go_sem]) (by simp [go_sem]));rw [hI,hc];rfl
  · obtain rfl:i=xs.length:=by have:=odF hc;omega
    exact qM rfl (by rw [hI];simp)
theorem c920 {xs:List Int} {n:Int} (hl:xs.length≤2097152):Pure Gm 920 [.lst 1 (xs.map qE) false,.int .i64 n] (.lst 1 ((zN xs n).map qE) false):=by
  refine Pure.intro [] [] g920 (by kernel_rfl) rfl (by simp [AV.trees,AV.tree,qa]) (by simp [AV.tree,qa]) ?_;simp only [Ys,qL,go_sem];refine Sem.loop (fun a:Nat×List Int×Bool=>a.1≤xs.length∧a.2.1.length≤a.1+a.2.2.toNat∧(if a.2.2 then a.2.1++xs.drop a.1 else a.2.1++zN (xs.drop a.1) n)=zN xs n)
    (fun a=>(⟨[(0,.lst 1 (xs.map qE) false),(1,.int .i64 n),(5,.slice 1 0 0 a.2.1.length false),(6,.bool a.2.2),(7,.int .i64 (a.1:Nat))],[],[.row 1 (a.2.1.map qE) true]⟩:VSt)) (fun a=>xs.length-a.1) (0,[],false) (by kernel_rfl) ⟨Nat.zero_le _,Nat.zero_le _,by simp⟩
    (Can.renum [none] rfl ⟨.ph,trivial⟩ ⟨⟨_,rfl,.tree (by simp [AV.tree,qa])⟩,⟨_,rfl,.tree rfl⟩,⟨_,rfl,.ph2 rfl⟩,⟨_,rfl,.tree rfl⟩,⟨_,rfl,.tree rfl⟩,trivial⟩ trivial) ?_
  rintro ⟨i,out,done⟩ ⟨hi,ho,hI⟩;simp only at hi ho hI;simp only [go_sem];refine qD ?_ ?_<;>intro hc<;>simp only [hc,go_sem]
  · have hlt:i<xs.length:=by have:=odT hc;omega
    rw [j7 hlt] at hI;cases done with
    | true=>
      simp only [if_true] at hI;have ho:out.length≤i+1:=ho;simp only [go_sem];simp only [List.getElem?_map,gEg hlt,Option.map_some,go_sem];simp only [qE];simp only [go_sem];refine jM (el:=out.map qE) rfl rfl (by simp) (by omega) ?_;simp only [go_sem];simp only [qe (show i<4611686018427387904 by omega)];refine qZ (i+1,out++[xs[i]],true) ⟨by omega,by simp;omega,by simpa using hI⟩ (by simp only;omega) ?_;simp only [lAp,List.length_cons,List.length_nil,Nat.zero_add];refine Can.renum [some 2] rfl ⟨.row rfl (VR2s.of_eq (by simp [qE]) (qa _)),trivial⟩ ⟨⟨_,rfl,.tree (by simp [AV.tree,qa])⟩,⟨_,rfl,.tree rfl⟩,⟨_,rfl,.slice rfl⟩,⟨_,rfl,.tree rfl⟩,⟨_,rfl,.tree rfl⟩,trivial⟩ trivial
    | false=>
      simp only [bFt,if_false,zN] at hI;have ho:out.length≤i:=ho;simp only [go_sem];simp only [List.getElem?_map,gEg hlt,Option.map_some,go_sem];simp only [qE];simp only [go_sem];refine qD ?_ ?_<;>intro hc<;>simp only [hc,go_sem]
      · simp only [List.getElem?_map,gEg hlt,Option.map_some,go_sem];simp only [qE];simp only [go_sem];have h1:=odT hc;rw [if_neg (by omega)] at hI;refine qD ?_ ?_<;>intro hc<;>simp only [hc,go_sem]
        · have h2:=odT hc;rw [if_neg (by omega)] at hI;refine jM (el:=out.map qE) rfl rfl (by simp) (by omega) ?_;simp only [go_sem];simp only [List.getElem?_map,gEg hlt,Option.map_some,go_sem];simp only [qE];simp only [go_sem];refine jM (el:=out.map qE++[.int .i64 n]) rfl rfl (by simp) (by omega) ?_;simp only [go_sem];simp only [qe (show i<4611686018427387904 by omega)];refine qZ (i+1,out++[n,xs[i]],true) ⟨by omega,by simp;omega,by simpa using hI⟩ (by simp only;omega) ?_;simp only [lAp,List.length_cons,List.length_nil,Nat.zero_add];refine Can.renum [some 4] rfl ⟨.row rfl (VR2s.of_eq (by simp [qE]) (qa _)),trivial⟩ ⟨⟨_,rfl,.tree (by simp [AV.tree,qa])⟩,⟨_,rfl,.tree rfl⟩,⟨_,rfl,.slice rfl⟩,⟨_,rfl,.tree rfl⟩,⟨_,rfl,.tree rfl⟩,trivial⟩ trivial
        · have h2:=odF hc;rw [if_pos (by omega)] at hI;simp only [List.getElem?_map,gEg hlt,Option.map_some,go_sem];simp only [qE];simp only [go_sem];refine jM (el:=out.map qE) rfl rfl (by simp) (by omega) ?_;simp only [go_sem];simp only [qe (show i<4611686018427387904 by omega)];refine qZ (i+1,out++[xs[i]],true) ⟨by omega,by simp;omega,by simpa using hI⟩ (by simp only;omega) ?_;simp only [lAp,List.length_cons,List.length_nil,Nat.zero_add];refine Can.renum [some 2] rfl ⟨.row rfl (VR2s.of_eq (by simp [qE]) (qa _)),trivial⟩ ⟨⟨_,rfl,.tree (by simp [AV.tree,qa])⟩,⟨_,rfl,.tree rfl⟩,⟨_,rfl,.slice rfl⟩,⟨_,rfl,.tree rfl⟩,⟨_,rfl,.tree rfl⟩,trivial⟩ trivial
      · have h1:=odF hc;rw [if_pos (by omega)] at hI;simp only [List.getElem?_map,gEg hlt,Option.map_some,go_sem];simp only [qE];simp only [go_sem];refine jM (el:=out.map qE) rfl rfl (by simp) (by omega) ?_;simp only [go_sem];simp only [qe (show i<4611686018427387904 by omega)];refine qZ (i+1,out++[xs[i]],false) ⟨by omega,by simp;omega,by simpa using hI⟩ (by simp only;omega) ?_;simp only [lAp,List.length_cons,List.length_nil,Nat.zero_add];refine Can.renum [some 2] rfl ⟨.row rfl (VR2s.of_eq (by simp [qE]) (qa _)),trivial⟩ ⟨⟨_,rfl,.tree (by simp [AV.tree,qa])⟩,⟨_,rfl,.tree rfl⟩,⟨_,rfl,.slice rfl⟩,⟨_,rfl,.tree rfl⟩,⟨_,rfl,.tree rfl⟩,trivial⟩ trivial
  · have e:i=xs.length:=by have:=odF hc;omega
    subst e;simp only [List.drop_length,zN,List.append_nil] at hI;cases done with
    | true=>
      simp only [if_true] at hI;subst hI;simp only [go_sem];exact zH (Cv.row rfl (by simp) (qa _) (by decide))
    | false=>
      simp only [bFt,if_false] at hI;have ho:out.length≤xs.length:=ho;simp only [go_sem];refine jM (el:=out.map qE) rfl rfl (by simp) (by omega) ?_;simp only [go_sem];rw [←hI];have e:out.map qE++[.int .i64 n]=(out++[n]).map qE:=by simp [qE]
      rw [e];exact zH (Cv.row rfl (by simp) (qa _) (by decide))
end Go.Ab
namespace Go.Ab
open Go
set_option maxRecDepth 10000
set_option maxHeartbeats 2000000
def qA.names:qA→List Int→List Int:=qA.fold fun x rs out=>rs.foldl (fun o r=>r o) (x.Data.foldl zN (if x.Kind=11 then zN out x.Value else out))
theorem Vg {α β γ:Type} (f:γ→β→γ) (g:α→β):∀(xs:List α) (c:γ),(xs.map g).foldl f c=xs.foldl (fun c x=>f c (g x)) c
  |[],_=>rfl
  | x::xs,c=>by simp [Vg f g xs]
theorem qA.names_eq (x:qA) (out:List Int):x.names out=x.Kids.foldl (fun o y=>y.names o) (x.Data.foldl zN (if x.Kind=11 then zN out x.Value else out)):=by
  unfold qA.names;rw [qA.fold_eq,Vg]
theorem Vh {α β:Type} (f:β→α→β) {xs:List α} {i:Nat} (h:i<xs.length) (c:β):(xs.take (i+1)).foldl f c=f ((xs.take i).foldl f c) xs[i]:=by
  rw [List.take_add_one,gEg h,List.foldl_append];rfl
theorem UM:∀(ds out:List Int),(ds.foldl zN out).length≤out.length+ds.length
  |[],out=>by simp
  | d::ds,out=>by
    simp only [List.foldl_cons,List.length_cons];have:=UM ds (zN out d);have:=UL out d;omega
theorem qA.names_len:∀(x:qA) (out:List Int),(x.names out).length≤out.length+x.sz+1:=qA.ind fun x ih out=>by
  rw [x.names_eq,x.sz_eq];have h:∀(ks:List qA),(∀y∈ks,∀o:List Int,(y.names o).length≤o.length+y.sz+1)→∀o:List Int,(ks.foldl (fun o y=>y.names o) o).length≤o.length+ks.length+qG qA.sz ks:=by
    intro ks
    induction ks with
    | nil=>intro _ o;simp [qG]
    | cons a ks ihk=>
      intro h o;simp only [List.foldl_cons,List.length_cons,qG];have:=h a (by simp) o;have:=ihk (fun y hy=>h y (by simp [hy])) (a.names o);omega
  have h1:=h x.Kids ih (x.Data.foldl zN (if x.Kind=11 then zN out x.Value else out));have h2:=UM x.Data (if x.Kind=11 then zN out x.Value else out);have h3:(if x.Kind=11 then zN out x.Value else out).length≤out.length+1:=by
    split
    · exact UL _ _
    · omega
  omega
theorem qgH (x:qA) (o:List Int) (i:Nat):((x.Kids.take i).foldl (fun o y=>y.names o) o).length+(qG qA.sz (x.Kids.drop i)+(x.Kids.drop i).length)≤o.length+(x.Kids.length+qG qA.sz x.Kids):=by
  have h:∀(ks:List qA) (i:Nat) (o:List Int),((ks.take i).foldl (fun o y=>y.names o) o).length+(qG qA.sz (ks.drop i)+(ks.drop i).length)≤o.length+(ks.length+qG qA.sz ks):=by
    intro ks
    induction ks with
    | nil=>intro i o;simp [qG]
    | cons a ks ih=>
      intro i o;cases i with
      | zero=>simp [qG];omega
      | succ i=>
        simp only [List.take_succ_cons,List.foldl_cons,List.drop_succ_cons,List.length_cons,qG];have:=ih i (a.names o);have:=a.names_len o;omega
  exact h _ _ _
theorem qZZ (x:qA):∀(out:List Int) (hz:x.sz≤1048576) (ho:out.length+x.sz≤2000000),Pure Gm 1407 [.ept x.enc 0,.lst 1 (out.map qE) false] (.lst 1 ((x.names out).map qE) false):=by
  induction x using qA.ind with
  | _ x ih=>
  intro out hz ho;refine Pure.intro [] [] qdC (by kernel_rfl) rfl (by simp [AV.trees,AV.tree,qa,qA.tr]) (by simp [AV.tree,qa]) ?_;simp only [Xk,qL,go_sem];have hL:=x.len_sz;have hse:=x.sz_eq;obtain ⟨o0,ho0⟩:∃o0,o0=(if x.Kind=11 then zN out x.Value else out):=⟨_,rfl⟩;have hnm:x.names out=x.Kids.foldl (fun o y=>y.names o) (x.Data.foldl zN o0):=by rw [x.names_eq,ho0]
  have hl0:o0.length≤out.length+1:=by rw [ho0];split;exact UL _ _;omega
  refine qD ?_ ?_<;>intro hc<;>simp only [hc,go_sem];refine qH (c920 (by omega)) ?_;simp only [go_sem];have h0:o0=zN out x.Value:=by rw [ho0,if_pos (odT hc)]
  rotate_left;have h0:o0=out:=by rw [ho0,if_neg (odF hc)]
  all_goals
    refine Sem.loop (fun i:Nat=>i≤x.Data.length∧True) (fun i=>(⟨[(0,.ept x.enc 0),(1,.lst 1 (((x.Data.take i).foldl zN o0).map qE) false),(5,.int .i64 (i:Nat))],[],[]⟩:VSt)) (fun i=>x.Data.length-i) 0 (by kernel_rfl) ⟨Nat.zero_le _,by trivial⟩ (Can.sub (by simp [go_sem,h0]) (by simp [go_sem])) ?_;rintro i ⟨hi,hI⟩;simp only [go_sem];refine qD ?_ ?_<;>intro hc<;>simp only [hc,go_sem]
    · have hlt:i<x.Data.length:=by have:=odT hc;omega
      simp only [List.getElem?_map,gEg hlt,Option.map_some,go_sem];simp only [qE];simp only [go_sem];have:=UM (x.Data.take i) o0;rw [List.length_take] at this;refine qH (c920 (by omega)) ?_;simp only [go_sem];simp only [qe (show i<4611686018427387904 by omega)];refine qZ (i+1) ⟨by omega,trivial⟩ (by omega) (Can.sub ?_ (by simp [go_sem]));rw [Vh zN hlt];simp [go_sem]
    · obtain rfl:i=x.Data.length:=by have:=odF hc;omega
      rw [List.take_length];have hd:=UM x.Data o0;obtain ⟨o1,h1⟩:∃o1,o1=x.Data.foldl zN o0:=⟨_,rfl⟩;rw [←h1] at hnm hd⊢;refine Sem.loop (fun i:Nat=>i≤x.Kids.length∧True) (fun i=>(⟨[(0,.ept x.enc 0),(1,.lst 1 (((x.Kids.take i).foldl (fun o y=>qA.names y o) o1).map qE) false),(6,.int .i64 (i:Nat))],[],[]⟩:VSt)) (fun i=>x.Kids.length-i) 0 (by kernel_rfl) ⟨Nat.zero_le _,by trivial⟩ (Can.sub (by simp [go_sem]) (by simp [go_sem])) ?_;rintro i ⟨hi,hI⟩;simp only [go_sem];refine qD ?_ ?_<;>intro hc<;>simp only [hc,go_sem]
      · have hlt:i<x.Kids.length:=by have:=odT hc;omega
        simp only [List.getElem?_map,gEg hlt,Option.map_some,go_sem];have hm:=gMm hlt;have hk:=qA.kid_sz hm;have hb:=qgH x o1 i;rw [j7 hlt] at hb;simp only [qG,List.length_cons] at hb;refine qH (ih _ hm _ (by omega) (by omega)) ?_;simp only [go_sem];simp only [qe (show i<4611686018427387904 by omega)];refine qZ (i+1) ⟨by omega,trivial⟩ (by omega) (Can.sub ?_ (by simp [go_sem]));rw [Vh (fun (o:List Int) (y:qA)=>y.names o) hlt];simp [go_sem]
      · obtain rfl:i=x.Kids.length:=by have:=odF hc;omega
        rw [List.take_length];exact qM (by simp [AV.tree,qa]) (by rw [hnm])
end Go.Ab
namespace Go.Ab
open Go
set_option maxRecDepth 10000
set_option maxHeartbeats 2000000
def zD (b:qF):List (List Int):=b.Defs.map fun c=>c.names []
def Ed (U:List (List Int)) (a b:Int):Prop:=b∈U.getD a.toNat []
open Classical in
noncomputable def wj (U:List (List Int)) (d:Int):Bool:=decide (Relation.TransGen (Ed U) d d)
def Zu (U:List (List Int)):Prop:=∀ys∈U,∀k∈ys,0≤k∧k<U.length
theorem V8:∀(n:Nat) (xs:List Int),xs.Nodup→(∀x∈xs,0≤x∧x<n)→xs.length≤n
  | 0,[],_,_=>Nat.le_refl _
  | 0,x::xs,_,h=>by have:=h x (by simp);omega
  | n+1,xs,hd,h=>by
    by_cases hm:(n:Int)∈xs
    · have h1:=V8 n (xs.erase n) (hd.erase _) (fun x hx=>by
        have h2:=h x (List.mem_of_mem_erase hx);have h3:x≠n:=by rintro rfl;exact (hd.not_mem_erase) hx
        omega)
      rw [List.length_erase_of_mem hm] at h1;omega
    · have:=V8 n xs hd (fun x hx=>by
        have h2:=h x hx;have h3:x≠n:=by rintro rfl;exact hm hx
        omega)
      omega
structure jl (U:List (List Int)) (d:Int) (i:Nat) (seen:List Int):Prop where
  nd:seen.Nodup
  rng:∀s∈seen,0≤s∧s<U.length
  rch:∀s∈seen,Relation.TransGen (Ed U) d s
  beg:∀s,Ed U d s→s∈seen
  cls:∀j,j<i→∀s,seen[j]?=some s→∀k,Ed U s k→k∈seen
theorem jl.len {U:List (List Int)} {d:Int} {i:Nat} {seen:List Int} (h:jl U d i seen):seen.length≤U.length:=V8 _ _ h.nd h.rng
theorem jl.done {U:List (List Int)} {d:Int} {seen:List Int} (h:jl U d seen.length seen):(seen.any fun k=>decide (k=d))=wj U d:=by
  unfold wj;rw [Bool.eq_iff_iff];simp only [List.any_eq_true,decide_eq_true_eq];constructor
  · rintro ⟨k,hk,rfl⟩;exact h.rch _ hk
  · intro hr;refine ⟨d, ?_,rfl⟩;have key:∀{b:Int},Relation.TransGen (Ed U) d b→b∈seen:=by
      intro b hb
      induction hb with
      | single h1=>exact h.beg _ h1
      | tail _ h2 ih=>
        obtain ⟨j,hj,e⟩:=List.getElem_of_mem ih;exact h.cls j hj _ (by rw [gEg hj,e]) _ h2
    exact key hr
theorem jl.next {U:List (List Int)} {d:Int} {i:Nat} {seen':List Int} {e:Int} (h:jl U d i seen') (hp:seen'[i]?=some e) (he:∀k,Ed U e k→k∈seen'):jl U d (i+1) seen':=
  ⟨h.nd,h.rng,h.rch,h.beg,fun j hj s hs k hk=>by
    rcases Nat.lt_succ_iff_lt_or_eq.1 hj with hj | rfl
    · exact h.cls j hj s hs k hk
    · rw [hp] at hs;cases hs;exact he k hk⟩
theorem jl.push {U:List (List Int)} (hU:Zu U) {d:Int} {i:Nat} {seen:List Int} {e k:Int} (h:jl U d i seen) (hi:i≤seen.length) (he:e∈seen) (hk:Ed U e k) (hn:k∉seen):jl U d i (seen++[k]) where
  nd:=by
    rw [List.nodup_append];refine ⟨h.nd,by simp, ?_⟩;intro a ha b hb;simp at hb;rintro rfl;rw [hb] at ha;exact hn ha
  rng:=fun s hs=>by
    rcases List.mem_append.1 hs with hs | hs
    · exact h.rng s hs
    · simp at hs;subst hs;unfold Ed at hk;rw [List.getD_eq_getElem?_getD] at hk;cases hq:U[e.toNat]? with
      | none=>rw [hq] at hk;simp at hk
      | some ys=>rw [hq] at hk;exact hU ys (List.mem_of_getElem? hq) _ hk
  rch:=fun s hs=>by
    rcases List.mem_append.1 hs with hs | hs
    · exact h.rch s hs
    · simp at hs;subst hs;exact .tail (h.rch e he) hk
  beg:=fun s hs=>List.mem_append.2 (.inl (h.beg s hs))
  cls:=fun j hj s hs k' hk'=>by
    rw [List.getElem?_append_left (by omega)] at hs;exact List.mem_append.2 (.inl (h.cls j hj s hs k' hk'))
theorem Qb (U:List (List Int)):AV.trees (U.map (j8 1 qE))=true:=zq (shL shI).tree U
noncomputable def jE (U:List (List Int)) (n:Nat):List Int:=((List.range n).map fun (k:Nat)=>(k:Int)).filter (wj U)
theorem qWL (U:List (List Int)) (n:Nat):jE U (n+1)=if wj U n then jE U n++[(n:Int)] else jE U n:=by
  unfold jE;rw [List.range_succ,List.map_append,List.filter_append];simp only [List.map_cons,List.map_nil,List.filter_cons,List.filter_nil];split<;>simp
theorem qWK (U:List (List Int)) (n:Nat):(jE U n).length≤n:=by
  unfold jE;refine Nat.le_trans (List.length_filter_le _ _) (by simp)
theorem qZM {b:qF} (hz:b.sz≤1048576):Pure Gm 1162 [.ept b.enc 0] (.lst 1 ((zD b).map (j8 1 qE)) false):=by
  refine Pure.intro [] [] qcM (by kernel_rfl) rfl (by simp [AV.trees,AV.tree,go_sem]) (by simp [AV.tree,Qb]) ?_;simp only [XK,qL,go_sem];have hz':b.Defs.length+qG qA.sz b.Defs≤1048576:=hz;have hul:(zD b).length=b.Defs.length:=by simp [zD]
  refine Sem.loop (fun i:Nat=>i≤b.Defs.length) (fun i=>(⟨[(0,.ept b.enc 0),(3,.slice 1 0 0 i false),(4,.int .i64 (i:Nat))],[],[.row 1 (((zD b).take i).map (j8 1 qE)) true]⟩:VSt)) (fun i=>b.Defs.length-i) 0 (by kernel_rfl) (Nat.zero_le _)
    (Can.renum [none] rfl ⟨.ph,trivial⟩ ⟨⟨_,rfl,.tree (by simp [AV.tree,go_sem])⟩,⟨_,rfl,.ph2 rfl⟩,⟨_,rfl,.tree rfl⟩,trivial⟩ trivial) ?_
  intro i hi;simp only [go_sem];refine qD ?_ ?_<;>intro hc<;>simp only [hc,go_sem]
  · have hlt:i<b.Defs.length:=by have:=odT hc;omega
    simp only [List.getElem?_map,gEg hlt,Option.map_some,go_sem];have hm:=gMm hlt;have hs:=zV (f:=qA.sz) hm;refine qaF (.same (.clip .nil)) ?_;refine qH (qZZ b.Defs[i] [] (by omega) (by simp;omega)) ?_;simp only [go_sem];refine jM (el:=((zD b).take i).map (j8 1 qE)) rfl rfl (by simp;omega) (by omega) ?_;simp only [go_sem];simp only [qe (show i<4611686018427387904 by omega)];refine qZ (i+1) (by omega) (by omega) ?_;refine Can.renum [some 2] rfl ⟨.row rfl (VR2s.of_eq ?_ (Qb _)),trivial⟩ ⟨⟨_,rfl,.tree (by simp [AV.tree,go_sem])⟩,⟨_,rfl,.slice rfl⟩,⟨_,rfl,.tree rfl⟩,trivial⟩ trivial;rw [List.take_add_one,gEg (by omega)];simp [zD,j8]
  · obtain rfl:i=b.Defs.length:=by have:=odF hc;omega
    rw [List.take_of_length_le (by omega)];exact zH (Cv.row rfl (by simp [hul]) (Qb _) (by decide))
end Go.Ab
