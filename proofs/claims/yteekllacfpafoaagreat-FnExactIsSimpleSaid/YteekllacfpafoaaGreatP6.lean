/- Texts Cor0 .. Cor10: the abstract machine, its laws and contracts of functions: lemmas for the statement. No condition. -/
import Derived.Test.YteekllacfpafoaaGreatP4
set_option linter.unusedSimpArgs false
set_option linter.unusedVariables false
namespace Go.Ab
open Go
inductive GCore where
  | mk (Kind Value:Int) (Data:List Int) (Kids:List GCore)
def GCore.Kind:GCore→Int |.mk a _ _ _=>a
def GCore.Value:GCore→Int |.mk _ a _ _=>a
def GCore.Data:GCore→List Int |.mk _ _ a _=>a
def GCore.Kids:GCore→List GCore |.mk _ _ _ a=>a
theorem GCore.ext {x y:GCore} (h1:x.Kind=y.Kind) (h2:x.Value=y.Value) (h3:x.Data=y.Data) (h4:x.Kids=y.Kids):x=y:=by
  cases x;cases y;simp_all [GCore.Kind,GCore.Value,GCore.Data,GCore.Kids]
theorem GCore.eta (x:GCore):GCore.mk x.Kind x.Value x.Data x.Kids=x:=by cases x;rfl
theorem GCore.lt_of_mem {x:GCore} {y:GCore} (h:y∈x.Kids):SizeOf.sizeOf y<SizeOf.sizeOf x:=by
  cases x with
  | mk a b c d=>
    have:=List.sizeOf_lt_of_mem (show y∈d from h)
    simp only [GCore.mk.sizeOf_spec];omega
theorem GCore.ind {P:GCore→Prop} (h:∀x,(∀y,y∈x.Kids→P y)→P x) (x:GCore):P x:=
  h x fun y hy=>GCore.ind h y
termination_by SizeOf.sizeOf x
decreasing_by exact GCore.lt_of_mem hy
mutual
def GCore.enc:GCore→AV
  |.mk k v d ks=>.agg [.int .i64 k,.int .i64 v,.lst 1 (d.map encI) false,.lst 4 (GCore.encs ks) false]
def GCore.encs:List GCore→List AV
  |[]=>[]
  | x::xs=>x.enc::GCore.encs xs
end
theorem GCore.encs_eq:∀xs,GCore.encs xs=xs.map GCore.enc
  |[]=>by simp [GCore.encs]
  | x::xs=>by simp [GCore.encs,GCore.encs_eq xs]
theorem GCore.enc_eq (x:GCore):x.enc=.agg [.int .i64 x.Kind,.int .i64 x.Value,.lst 1 (x.Data.map encI) false,.lst 4 (x.Kids.map GCore.enc) false]:=by
  cases x;simp [GCore.enc,GCore.encs_eq,GCore.Kind,GCore.Value,GCore.Data,GCore.Kids]
theorem GCore.trx:∀x:GCore,x.enc.tree=true:=GCore.ind fun x ih=>by
  rw [GCore.enc_eq]
  have h:∀xs:List GCore,(∀y∈xs,y.enc.tree=true)→AV.trees (xs.map GCore.enc)=true:=by
    intro xs
    induction xs with
    | nil=>intro _;rfl
    | cons a xs ihx=>intro h;simp only [List.map_cons,AV.trees,Bool.and_eq_true];exact ⟨h a (by simp),ihx fun y hy=>h y (by simp [hy])⟩
  simp [AV.tree,AV.trees,qA0 shI.tree,h _ ih]
theorem GCore.isSh:Sh GCore.enc 4 (some 4):=⟨GCore.trx,fun x=>by rw [GCore.enc_eq];rfl,fun x=>by rw [GCore.enc_eq];rfl,by decide,fun x=>by rw [GCore.enc_eq];simp⟩
section
variable {x:GCore}
@[go_sem] theorem GCore.tr:x.enc.tree=true:=GCore.trx x
@[go_sem] theorem GCore.ln:x.enc.cells.length=4:=by rw [GCore.enc_eq];rfl
@[go_sem] theorem GCore.all:x.enc.part 0 (some 4)=some x.enc:=by rw [GCore.enc_eq];rfl
@[go_sem] theorem GCore.cs:x.enc.cells=[.int .i64 x.Kind,.int .i64 x.Value,.lst 1 (x.Data.map encI) false,.lst 4 (x.Kids.map GCore.enc) false]:=by rw [GCore.enc_eq];rfl
@[go_sem] theorem GCore.p0:x.enc.part 0 none=some (.int .i64 x.Kind):=by rw [GCore.enc_eq];rfl
@[go_sem] theorem GCore.p1:x.enc.part 1 none=some (.int .i64 x.Value):=by rw [GCore.enc_eq];rfl
@[go_sem] theorem GCore.p2:x.enc.part 2 none=some (.lst 1 (x.Data.map encI) false):=by rw [GCore.enc_eq];rfl
@[go_sem] theorem GCore.p3:x.enc.part 3 none=some (.lst 4 (x.Kids.map GCore.enc) false):=by rw [GCore.enc_eq];rfl
end
mutual
def GCore.sz:GCore→Nat
  |.mk _ _ d ks=>d.length+(ks.length+GCore.szs ks)
def GCore.szs:List GCore→Nat
  |[]=>0
  | x::xs=>x.sz+GCore.szs xs
end
theorem GCore.szs_eq:∀xs,GCore.szs xs=sumN GCore.sz xs
  |[]=>by simp [GCore.szs,sumN]
  | x::xs=>by simp [GCore.szs,sumN,GCore.szs_eq xs]
theorem GCore.sz_eq (x:GCore):x.sz=x.Data.length+(x.Kids.length+sumN GCore.sz x.Kids):=by
  cases x;simp [GCore.sz,GCore.szs_eq,GCore.Data,GCore.Kids]
mutual
def GCore.bd:GCore→Prop
  |.mk _ _ d ks=>d.length≤140737488355328∧ks.length≤140737488355328∧GCore.bds ks
def GCore.bds:List GCore→Prop
  |[]=>True
  | x::xs=>x.bd∧GCore.bds xs
end
theorem GCore.bds_eq:∀xs,GCore.bds xs↔∀y∈xs,GCore.bd y
  |[]=>by simp [GCore.bds]
  | x::xs=>by simp [GCore.bds,GCore.bds_eq xs]
theorem GCore.bd_eq (x:GCore):x.bd↔x.Data.length≤140737488355328∧x.Kids.length≤140737488355328∧∀y∈x.Kids,y.bd:=by
  cases x;simp [GCore.bd,GCore.bds_eq,GCore.Data,GCore.Kids]
structure GBook where
  Defs:List GCore
def GBook.enc (x:GBook):AV:=.agg [.lst 4 (x.Defs.map GCore.enc) false]
theorem GBook.isSh:Sh GBook.enc 1 (some 1):=⟨fun x=>by simp [GBook.enc,AV.tree,AV.trees,qA0 GCore.isSh.tree],fun _=>rfl,fun _=>rfl,by decide,fun x=>by simp [GBook.enc]⟩
section
variable {x:GBook}
@[go_sem] theorem GBook.tr:x.enc.tree=true:=GBook.isSh.tree x
@[go_sem] theorem GBook.ln:x.enc.cells.length=1:=nr rfl
@[go_sem] theorem GBook.all:x.enc.part 0 (some 1)=some x.enc:=nr rfl
@[go_sem] theorem GBook.cs:x.enc.cells=[.lst 4 (x.Defs.map GCore.enc) false]:=nr rfl
@[go_sem] theorem GBook.p0:x.enc.part 0 none=some (.lst 4 (x.Defs.map GCore.enc) false):=nr rfl
@[go_sem] theorem GBook.lst1 {E:Ev} {t off:Nat} {cs:List AV} {l:List AOper} {ks:List Fr1} {s m:LEnv} {h:List AObj} {Q:AExit→VSt→Prop}:Lst E t off 1 (some (.agg cs)) (some x.enc) l ks ⟨s,m,h⟩ Q=LstP E t (setc cs off (.lst 4 (x.Defs.map GCore.enc) false)) l ks ⟨s,m,h⟩ Q:=qCR rfl
end
def GBook.sz (x:GBook):Nat:=(x.Defs.length+sumN GCore.sz x.Defs)
def GBook.bd (x:GBook):Prop:=x.Defs.length≤140737488355328∧(∀y∈x.Defs,GCore.bd y)
end Go.Ab
namespace Go.Ab
open Go
set_option maxRecDepth 10000
def oL (i d t:Nat):AOper:=.mk i (some d) none (.load none (.t t)) []
@[go_sem] theorem zTR {i d t:Nat}:oL i d t=.mk i (some d) none (.load none (.t t)) []:=nr rfl
def oC (i d:Nat) (n:Int):AOper:=.mk i (some d) none (.mov (.c (.int .i64 n))) []
@[go_sem] theorem zTK {i d:Nat} {n:Int}:oC i d n=.mk i (some d) none (.mov (.c (.int .i64 n))) []:=nr rfl
def oQ (i d:Nat) (b:Bool):AOper:=.mk i (some d) none (.mov (.c (.bool b))) []
@[go_sem] theorem zTV {i d:Nat} {b:Bool}:oQ i d b=.mk i (some d) none (.mov (.c (.bool b))) []:=nr rfl
def oE (i d:Nat) (op:BinOp) (a:Nat) (n:Int):AOper:=.mk i (some d) none (.bin op (.t a) (.c (.int .i64 n))) []
@[go_sem] theorem zTL {i d:Nat} {op:BinOp} {a:Nat} {n:Int}:oE i d op a n=.mk i (some d) none (.bin op (.t a) (.c (.int .i64 n))) []:=nr rfl
def oB (i d:Nat) (op:BinOp) (a b:Nat):AOper:=.mk i (some d) none (.bin op (.t a) (.t b)) []
@[go_sem] theorem zTJ {i d:Nat} {op:BinOp} {a b:Nat}:oB i d op a b=.mk i (some d) none (.bin op (.t a) (.t b)) []:=nr rfl
def oA (i d w a b:Nat):AOper:=.mk i (some d) none (.iaddr w (.t a) (.t b)) []
@[go_sem] theorem zTI {i d w a b:Nat}:oA i d w a b=.mk i (some d) none (.iaddr w (.t a) (.t b)) []:=nr rfl
def oX (i d t k:Nat):AOper:=.mk i (some d) none (.lload t k none) []
@[go_sem] theorem zT1 {i d t k:Nat}:oX i d t k=.mk i (some d) none (.lload t k none) []:=nr rfl
def oY (i d t k w:Nat):AOper:=.mk i (some d) none (.lload t k (some w)) []
@[go_sem] theorem zT2 {i d t k w:Nat}:oY i d t k w=.mk i (some d) none (.lload t k (some w)) []:=nr rfl
def oS (i t k w x:Nat):AOper:=.mk i none none (.lstore t k w (.t x)) []
@[go_sem] theorem zTW {i t k w x:Nat}:oS i t k w x=.mk i none none (.lstore t k w (.t x)) []:=nr rfl
def oT (i w a b:Nat):AOper:=.mk i none none (.store w (.t a) (.t b)) []
@[go_sem] theorem zTX {i w a b:Nat}:oT i w a b=.mk i none none (.store w (.t a) (.t b)) []:=nr rfl
def oF (i d k a:Nat):AOper:=.mk i (some d) none (.faddr k (.t a)) []
@[go_sem] theorem zTM {i d k a:Nat}:oF i d k a=.mk i (some d) none (.faddr k (.t a)) []:=nr rfl
def oK (i d a:Nat):AOper:=.mk i (some d) none (.nilchk (.t a)) []
@[go_sem] theorem zTQ {i d a:Nat}:oK i d a=.mk i (some d) none (.nilchk (.t a)) []:=nr rfl
def oV (i d a k:Nat):AOper:=.mk i (some d) none (.ext (.t a) k) []
@[go_sem] theorem zTZ {i d a k:Nat}:oV i d a k=.mk i (some d) none (.ext (.t a) k) []:=nr rfl
def oU (i d a:Nat):AOper:=.mk i (some d) none (.nop a) []
@[go_sem] theorem zTY {i d a:Nat}:oU i d a=.mk i (some d) none (.nop a) []:=nr rfl
def oJ (i d a:Nat):AOper:=.mk i (some d) none (.not (.t a)) []
@[go_sem] theorem zTP {i d a:Nat}:oJ i d a=.mk i (some d) none (.not (.t a)) []:=nr rfl
def oW (i d a:Nat):AOper:=.mk i (some d) none (.len (.t a)) []
@[go_sem] theorem zT0 {i d a:Nat}:oW i d a=.mk i (some d) none (.len (.t a)) []:=nr rfl
def oH (i d k:Nat) (b:Bool) (a:Nat):AOper:=.mk i (some d) (some (k,b)) (.mov (.t a)) []
@[go_sem] theorem zTO {i d k:Nat} {b:Bool} {a:Nat}:oH i d k b a=.mk i (some d) (some (k,b)) (.mov (.t a)) []:=nr rfl
def oZ (i d:Nat):AOper:=.mk i (some d) none (.lalloc (.agg [.int .i64 0,.int .i64 0,.nils,.nils])) []
@[go_sem] theorem zT3 {i d:Nat}:oZ i d=.mk i (some d) none (.lalloc (.agg [.int .i64 0,.int .i64 0,.nils,.nils])) []:=nr rfl
def oD1 (i d g a:Nat):AOper:=.mk i (some d) none (.call g [.t a]) []
@[go_sem] theorem zSA {i d g a:Nat}:oD1 i d g a=.mk i (some d) none (.call g [.t a]) []:=nr rfl
def oD2 (i d g a b:Nat):AOper:=.mk i (some d) none (.call g [.t a,.t b]) []
@[go_sem] theorem zSB {i d g a b:Nat}:oD2 i d g a b=.mk i (some d) none (.call g [.t a,.t b]) []:=nr rfl
def oPf (i d a b:Nat):AOper:=.mk i (some d) none (.pick (.t a) (.t b) (.c (.bool false))) []
@[go_sem] theorem zSC {i d a b:Nat}:oPf i d a b=.mk i (some d) none (.pick (.t a) (.t b) (.c (.bool false))) []:=nr rfl
def oPt (i d a b:Nat):AOper:=.mk i (some d) none (.pick (.t a) (.c (.bool true)) (.t b)) []
@[go_sem] theorem zSD {i d a b:Nat}:oPt i d a b=.mk i (some d) none (.pick (.t a) (.c (.bool true)) (.t b)) []:=nr rfl
def F338:AFun:=szS0
def qg7:List AOper:=[oU 0 5 2,oX 1 6 2 2,oM 2 7 1,oD2 3 8 338 6 7,oM 4 1 8]
@[go_sem] theorem zHZ:OE qg7.eq_1:=OEM qg7.eq_1
def qg8:List AOper:=[oU 0 11 2,oX 1 12 2 3,oM 2 13 1,oD2 3 14 337 12 13,oM 4 1 14]
@[go_sem] theorem zH0:OE qg8.eq_1:=OEM qg8.eq_1
def qg6:ACode:=.seq (.reg true qg8) (.seq (.seq (.reg true [oM 0 15 1,oE 1 16 .lss 15 0]) (.cond (.t 16) (.seq (.reg true [oP 0 4 (.mov (.c (.int .i64 (-1))))]) (.ret)) (.skip))) (.seq (.reg true [oM 0 17 1,oM 1 4 17]) (.ret)))
@[go_sem] theorem zHY:CE qg6.eq_1:=CEM qg6.eq_1
def F80:AFun:=⟨2,18,[.t 4],.seq (.reg true [oP 0 2 (.lbox 4 (.t 0)),oC 1 4 0]) (.seq (.reg true qg7) (.seq (.seq (.reg true [oM 0 9 1,oE 1 10 .lss 9 0]) (.cond (.t 10) (.seq (.reg true [oP 0 4 (.mov (.c (.int .i64 (-1))))]) (.ret)) (.skip))) qg6))⟩
def F337:AFun:=szS 4 (some 4) 80
def qg5:List AOper:=[oU 0 5 2,oX 1 6 2 0,oM 2 7 1,oD2 3 8 337 6 7,oM 4 1 8]
@[go_sem] theorem zHX:OE qg5.eq_1:=OEM qg5.eq_1
def qg4:ACode:=.seq (.reg true qg5) (.seq (.seq (.reg true [oM 0 9 1,oE 1 10 .lss 9 0]) (.cond (.t 10) (.seq (.reg true [oP 0 4 (.mov (.c (.int .i64 (-1))))]) (.ret)) (.skip))) (.seq (.reg true [oM 0 11 1,oM 1 4 11]) (.ret)))
@[go_sem] theorem zHW:CE qg4.eq_1:=CEM qg4.eq_1
def F79:AFun:=⟨2,12,[.t 4],.seq (.reg true [oP 0 2 (.lbox 1 (.t 0)),oC 1 4 0]) qg4⟩
def F147:AFun:=toS0
def qhB:List AOper:=[oU 0 4 1,oX 1 5 1 0,oU 2 6 3,oS 3 3 0 1 5]
@[go_sem] theorem zH3:OE qhB.eq_1:=OEM qhB.eq_1
def qhC:List AOper:=[oU 0 7 1,oX 1 8 1 1,oU 2 9 3,oS 3 3 1 1 8]
@[go_sem] theorem zH4:OE qhC.eq_1:=OEM qhC.eq_1
def qhD:List AOper:=[oU 0 10 1,oX 1 11 1 2,oD1 2 12 147 11,oU 3 13 3,oS 4 3 2 1 12]
@[go_sem] theorem zH5:OE qhD.eq_1:=OEM qhD.eq_1
def qhE:List AOper:=[oU 0 14 1,oX 1 15 1 3,oD1 2 16 342 15,oU 3 17 3,oS 4 3 3 1 16]
@[go_sem] theorem zH6:OE qhE.eq_1:=OEM qhE.eq_1
def qhA:ACode:=.seq (.reg true [oZ 0 3]) (.seq (.reg true qhB) (.seq (.reg true qhC) (.seq (.reg true qhD) (.seq (.reg true qhE) (.seq (.reg true [oY 0 18 3 0 4,oS 1 2 0 4 18]) (.ret))))))
@[go_sem] theorem zH2:CE qhA.eq_1:=CEM qhA.eq_1
def F83:AFun:=⟨1,19,[.l 2 (some 4)],.seq (.reg true [oP 0 1 (.lbox 4 (.t 0)),oZ 1 2]) qhA⟩
def F342:AFun:=toS 4 (some 4) (.agg [.int .i64 0,.int .i64 0,.nils,.nils]) 83
def qg9:List AOper:=[oU 0 4 1,oX 1 5 1 0,oD1 2 6 342 5,oU 3 7 3,oS 4 3 0 1 6]
@[go_sem] theorem zH1:OE qg9.eq_1:=OEM qg9.eq_1
def F82:AFun:=⟨1,9,[.l 2 (some 1)],.seq (.reg true [oP 0 1 (.lbox 1 (.t 0)),oP 1 2 (.lalloc (.agg [.nils]))]) (.seq (.reg true [oP 0 3 (.lalloc (.agg [.nils]))]) (.seq (.reg true qg9) (.seq (.reg true [oY 0 8 3 0 1,oS 1 2 0 1 8]) (.ret))))⟩
def F86:AFun:=eqS0
def F346:AFun:=eqS 4 (some 4) 85
def qhG:List AOper:=[oU 0 5 2,oX 1 6 2 0,oU 2 7 3,oX 3 8 3 0,oB 4 9 .neq 6 8]
@[go_sem] theorem zH8:OE qhG.eq_1:=OEM qhG.eq_1
def qhH:List AOper:=[oU 0 10 2,oX 1 11 2 1,oU 2 12 3,oX 3 13 3 1,oB 4 14 .neq 11 13]
@[go_sem] theorem zH9:OE qhH.eq_1:=OEM qhH.eq_1
def qhI:List AOper:=[oU 0 15 2,oX 1 16 2 2,oU 2 17 3,oX 3 18 3 2,oD2 4 19 86 16 18,oJ 5 20 19]
@[go_sem] theorem zIA:OE qhI.eq_1:=OEM qhI.eq_1
def qhJ:List AOper:=[oU 0 21 2,oX 1 22 2 3,oU 2 23 3,oX 3 24 3 3,oD2 4 25 346 22 24,oJ 5 26 25]
@[go_sem] theorem zIB:OE qhJ.eq_1:=OEM qhJ.eq_1
def qhF:ACode:=.seq (.seq (.reg true qhH) (.cond (.t 14) (.seq (.reg true [oQ 0 4 false]) (.ret)) (.skip))) (.seq (.seq (.reg true qhI) (.cond (.t 20) (.seq (.reg true [oQ 0 4 false]) (.ret)) (.skip))) (.seq (.seq (.reg true qhJ) (.cond (.t 26) (.seq (.reg true [oQ 0 4 false]) (.ret)) (.skip))) (.seq (.reg true [oQ 0 4 true]) (.ret))))
@[go_sem] theorem zH7:CE qhF.eq_1:=CEM qhF.eq_1
def F85:AFun:=⟨2,27,[.t 4],.seq (.reg true [oP 0 2 (.lbox 4 (.t 0)),oP 1 3 (.lbox 4 (.t 1)),oQ 2 4 false]) (.seq (.seq (.reg true qhG) (.cond (.t 9) (.seq (.reg true [oQ 0 4 false]) (.ret)) (.skip))) qhF)⟩
def qhK:List AOper:=[oU 0 5 2,oX 1 6 2 0,oU 2 7 3,oX 3 8 3 0,oD2 4 9 346 6 8,oJ 5 10 9]
@[go_sem] theorem zIC:OE qhK.eq_1:=OEM qhK.eq_1
def F87:AFun:=⟨2,11,[.t 4],.seq (.reg true [oP 0 2 (.lbox 1 (.t 0)),oP 1 3 (.lbox 1 (.t 1)),oQ 2 4 false]) (.seq (.seq (.reg true qhK) (.cond (.t 10) (.seq (.reg true [oQ 0 4 false]) (.ret)) (.skip))) (.seq (.reg true [oQ 0 4 true]) (.ret)))⟩
def qWF:List AOper:=[oM 0 7 0,oM 1 8 1,oB 2 9 .geq 7 8,oM 3 10 9,oH 4 11 10 true 0,oH 5 12 10 true 2,oG 6 13 10 true (.bin .leq (.t 11) (.t 12)),oPf 7 14 10 13,oM 8 6 14]
@[go_sem] theorem qy0:OE qWF.eq_1:=OEM qWF.eq_1
def F340:AFun:=⟨3,15,[.t 6],.seq (.reg true [oQ 0 6 false]) (.seq (.reg true qWF) (.ret))⟩
def qK1:List AOper:=[oC 0 2 0,oC 1 3 0,oC 2 4 0,oC 3 5 0]
@[go_sem] theorem qqA:OE qK1.eq_1:=OEM qK1.eq_1
def qKY:ACode:=.seq (.reg true [oE 0 8 .eql 6 1,oM 1 7 8]) (.cond (.t 7) (.skip) (.seq (.reg true [oE 0 9 .eql 6 2,oM 1 7 9]) (.cond (.t 7) (.skip) (.reg true [oE 0 10 .eql 6 11,oM 1 7 10]))))
@[go_sem] theorem qp7:CE qKY.eq_1:=CEM qKY.eq_1
def qK2:List AOper:=[oC 0 2 0,oC 1 3 0,oC 2 4 0,oC 3 5 0]
@[go_sem] theorem qqB:OE qK2.eq_1:=OEM qK2.eq_1
def qKZ:ACode:=.seq (.reg true [oE 0 12 .eql 6 3,oM 1 11 12]) (.cond (.t 11) (.skip) (.seq (.reg true [oE 0 13 .eql 6 5,oM 1 11 13]) (.cond (.t 11) (.skip) (.reg true [oE 0 14 .eql 6 7,oM 1 11 14]))))
@[go_sem] theorem qp8:CE qKZ.eq_1:=CEM qKZ.eq_1
def qK3:List AOper:=[oC 0 2 2,oC 1 3 2,oC 2 4 0,oC 3 5 0]
@[go_sem] theorem qqC:OE qK3.eq_1:=OEM qK3.eq_1
def qK4:List AOper:=[oC 0 2 1,oC 1 3 1,oC 2 4 0,oC 3 5 0]
@[go_sem] theorem qqD:OE qK4.eq_1:=OEM qK4.eq_1
def qK5:List AOper:=[oC 0 2 0,oC 1 3 3,oC 2 4 0,oC 3 5 0]
@[go_sem] theorem qqE:OE qK5.eq_1:=OEM qK5.eq_1
def qK6:List AOper:=[oC 0 2 1,oC 1 3 1,oC 2 4 1,oC 3 5 4]
@[go_sem] theorem qqF:OE qK6.eq_1:=OEM qK6.eq_1
def qK7:List AOper:=[oC 0 2 1,oC 1 3 1,oC 2 4 2,oC 3 5 2]
@[go_sem] theorem qqG:OE qK7.eq_1:=OEM qK7.eq_1
def qK0:ACode:=.cond (.t 18) (.seq (.reg true qK5) (.ret)) (.seq (.reg true [oE 0 21 .eql 6 9,oM 1 20 21]) (.cond (.t 20) (.seq (.reg true qK6) (.ret)) (.seq (.reg true [oE 0 23 .eql 6 10,oM 1 22 23]) (.cond (.t 22) (.seq (.reg true qK7) (.ret)) (.skip)))))
@[go_sem] theorem qp9:CE qK0.eq_1:=CEM qK0.eq_1
def qHS:ACode:=.seq (.seq (.reg true [oE 0 16 .eql 6 4,oM 1 15 16]) (.cond (.t 15) (.skip) (.reg true [oE 0 17 .eql 6 6,oM 1 15 17]))) (.cond (.t 15) (.seq (.reg true qK4) (.ret)) (.seq (.reg true [oE 0 19 .eql 6 8,oM 1 18 19]) qK0))
@[go_sem] theorem qnI:CE qHS.eq_1:=CEM qHS.eq_1
def qHT:List AOper:=[oC 0 2 0,oP 1 3 (.mov (.c (.int .i64 (-1)))),oC 2 4 0,oC 3 5 0]
@[go_sem] theorem qnJ:OE qHT.eq_1:=OEM qHT.eq_1
def qjT:AFun:=⟨1,24,[.t 2,.t 3,.t 4,.t 5],.seq (.reg true qK1) (.seq (.seq (.reg true [oM 0 6 0]) (.blk 0 (.seq qKY (.cond (.t 7) (.seq (.reg true qK2) (.ret)) (.seq qKZ (.cond (.t 11) (.seq (.reg true qK3) (.ret)) qHS)))))) (.seq (.reg true qHT) (.ret)))⟩
def qLA:List AOper:=[oM 0 3 0,oK 1 4 3,oF 2 5 0 4,oL 3 6 5]
@[go_sem] theorem qqJ:OE qLA.eq_1:=OEM qLA.eq_1
def qLB:List AOper:=[oM 0 9 0,oK 1 10 9,oF 2 11 1 10,oL 3 12 11,oP 4 13 (.call 340 [.t 12,.c (.int .i64 0),.c (.int .i64 255)]),oM 5 2 13]
@[go_sem] theorem qqK:OE qLB.eq_1:=OEM qLB.eq_1
def qLC:List AOper:=[oM 0 16 0,oK 1 17 16,oF 2 18 1 17,oL 3 19 18,oP 4 20 (.call 340 [.t 19,.c (.int .i64 (-2147483648)),.c (.int .i64 2147483647)]),oM 5 2 20]
@[go_sem] theorem qqL:OE qLC.eq_1:=OEM qLC.eq_1
def qLD:List AOper:=[oM 0 23 0,oK 1 24 23,oF 2 25 1 24,oL 3 26 25,oP 4 27 (.call 340 [.t 26,.c (.int .i64 1),.c (.int .i64 6)]),oM 5 2 27]
@[go_sem] theorem qqM:OE qLD.eq_1:=OEM qLD.eq_1
def qLE:List AOper:=[oM 0 30 0,oK 1 31 30,oF 2 32 1 31,oL 3 33 32,oP 4 34 (.call 340 [.t 33,.c (.int .i64 0),.c (.int .i64 3)]),oM 5 2 34]
@[go_sem] theorem qqN:OE qLE.eq_1:=OEM qLE.eq_1
def qLF:List AOper:=[oM 0 37 0,oK 1 38 37,oF 2 39 1 38,oL 3 40 39,oP 4 41 (.call 340 [.t 40,.c (.int .i64 0),.c (.int .i64 23)]),oM 5 2 41]
@[go_sem] theorem qqO:OE qLF.eq_1:=OEM qLF.eq_1
def qK8:ACode:=.cond (.t 21) (.seq (.reg true qLD) (.ret)) (.seq (.reg true [oE 0 29 .eql 6 8,oM 1 28 29]) (.cond (.t 28) (.seq (.reg true qLE) (.ret)) (.seq (.reg true [oE 0 36 .eql 6 11,oM 1 35 36]) (.cond (.t 35) (.seq (.reg true qLF) (.ret)) (.skip)))))
@[go_sem] theorem qqH:CE qK8.eq_1:=CEM qK8.eq_1
def qK9:ACode:=.seq (.reg true [oE 0 8 .eql 6 1,oM 1 7 8]) (.cond (.t 7) (.seq (.reg true qLB) (.ret)) (.seq (.reg true [oE 0 15 .eql 6 2,oM 1 14 15]) (.cond (.t 14) (.seq (.reg true qLC) (.ret)) (.seq (.reg true [oE 0 22 .eql 6 3,oM 1 21 22]) qK8))))
@[go_sem] theorem qqI:CE qK9.eq_1:=CEM qK9.eq_1
def qLG:List AOper:=[oM 0 42 0,oK 1 43 42,oF 2 44 1 43,oL 3 45 44,oE 4 46 .eql 45 0,oM 5 2 46]
@[go_sem] theorem qqP:OE qLG.eq_1:=OEM qLG.eq_1
def qjU:AFun:=⟨1,47,[.t 2],.seq (.reg true [oQ 0 2 false]) (.seq (.seq (.reg true qLA) (.blk 0 qK9)) (.seq (.reg true qLG) (.ret)))⟩
def qX9:List AOper:=[oM 0 16 0,oK 1 17 16,oF 2 18 0 17,oL 3 19 18,oD1 4 20 1023 19,oM 5 15 20,oV 6 21 15 0,oV 7 22 15 1,oV 8 23 15 2,oV 9 24 15 3,oM 10 7 21,oM 11 8 22,oM 12 9 23,oM 13 10 24]
@[go_sem] theorem zAU:OE qX9.eq_1:=OEM qX9.eq_1
def qYA:List AOper:=[oM 0 25 1,oE 1 26 .lss 25 1,oM 2 27 26,oH 3 28 27 false 2,oG 4 29 27 false (.bin .lss (.t 28) (.c (.int .i64 1))),oPt 5 30 27 29,oM 6 31 30,oH 7 32 31 false 0,oG 8 33 31 false (.nilchk (.t 32)),oG 9 34 31 false (.faddr 3 (.t 33)),oG 10 35 31 false (.load none (.t 34)),oG 11 36 31 false (.len (.t 35)),oH 12 37 31 false 7,oH 13 38 31 false 8,oG 14 39 31 false (.call 340 [.t 36,.t 37,.t 38]),oG 15 40 31 false (.not (.t 39)),oPt 16 41 31 40,oM 17 42 41,oH 18 43 42 false 0,oG 19 44 42 false (.nilchk (.t 43)),oG 20 45 42 false (.faddr 2 (.t 44)),oG 21 46 42 false (.load none (.t 45)),oG 22 47 42 false (.len (.t 46)),oH 23 48 42 false 9,oH 24 49 42 false 10,oG 25 50 42 false (.call 340 [.t 47,.t 48,.t 49]),oG 26 51 42 false (.not (.t 50)),oPt 27 52 42 51,oM 28 53 52,oH 29 54 53 false 0,oG 30 55 53 false (.call 1024 [.t 54]),oG 31 56 53 false (.not (.t 55)),oPt 32 57 53 56]
@[go_sem] theorem zAV:OE qYA.eq_1:=OEM qYA.eq_1
def qYB:List AOper:=[oM 0 58 11,oM 1 59 0,oK 2 60 59,oF 3 61 2 60,oL 4 62 61,oW 5 63 62,oB 6 64 .lss 58 63]
@[go_sem] theorem zAW:OE qYB.eq_1:=OEM qYB.eq_1
def qYC:List AOper:=[oM 0 67 0,oK 1 68 67,oF 2 69 2 68,oL 3 70 69,oM 4 71 11,oA 5 72 1 70 71,oL 6 73 72,oP 7 74 (.call 340 [.t 73,.c (.int .i64 0),.c (.int .i64 23)]),oJ 8 75 74]
@[go_sem] theorem zAX:OE qYC.eq_1:=OEM qYC.eq_1
def qX6:ACode:=.loop (.seq (.seq (.reg true qYB) (.cond (.t 64) (.skip) (.exit 0))) (.seq (.blk 1 (.seq (.reg true qYC) (.cond (.t 75) (.seq (.reg true [oP 0 6 (.mov (.c (.int .i64 (-1))))]) (.ret)) (.skip)))) (.reg true [oM 0 65 11,oE 1 66 .add 65 1,oM 2 11 66])))
@[go_sem] theorem zAR:CE qX6.eq_1:=CEM qX6.eq_1
def qYD:List AOper:=[oM 0 76 13,oM 1 77 0,oK 2 78 77,oF 3 79 3 78,oL 4 80 79,oW 5 81 80,oB 6 82 .lss 76 81]
@[go_sem] theorem zAY:OE qYD.eq_1:=OEM qYD.eq_1
def qYE:List AOper:=[oM 0 85 0,oK 1 86 85,oF 2 87 3 86,oL 3 88 87,oM 4 89 13,oA 5 90 4 88 89,oM 6 91 1,oE 7 92 .sub 91 1,oM 8 93 2,oM 9 94 12,oB 10 95 .sub 93 94,oP 11 96 (.call 643 [.t 90,.t 92,.t 95]),oM 12 14 96]
@[go_sem] theorem zAZ:OE qYE.eq_1:=OEM qYE.eq_1
def qYF:List AOper:=[oM 0 99 12,oM 1 100 14,oB 2 101 .add 99 100,oM 3 12 101]
@[go_sem] theorem zA0:OE qYF.eq_1:=OEM qYF.eq_1
def qX7:ACode:=.seq (.blk 3 (.seq (.reg true qYE) (.seq (.seq (.reg true [oM 0 97 14,oE 1 98 .lss 97 0]) (.cond (.t 98) (.seq (.reg true [oP 0 6 (.mov (.c (.int .i64 (-1))))]) (.ret)) (.skip))) (.reg true qYF)))) (.reg true [oM 0 83 13,oE 1 84 .add 83 1,oM 2 13 84])
@[go_sem] theorem zAS:CE qX7.eq_1:=CEM qX7.eq_1
def qX8:ACode:=.seq (.reg true [oC 0 12 1]) (.seq (.seq (.reg true [oC 0 13 0]) (.blk 2 (.loop (.seq (.seq (.reg true qYD) (.cond (.t 82) (.skip) (.exit 2))) qX7)))) (.seq (.reg true [oM 0 102 12,oM 1 6 102]) (.ret)))
@[go_sem] theorem zAT:CE qX8.eq_1:=CEM qX8.eq_1
def F643:AFun:=⟨3,103,[.t 6],.seq (.reg true [oC 0 6 0]) (.seq (.reg true qX9) (.seq (.seq (.reg true qYA) (.cond (.t 57) (.seq (.reg true [oP 0 6 (.mov (.c (.int .i64 (-1))))]) (.ret)) (.skip))) (.seq (.seq (.reg true [oC 0 11 0]) (.blk 0 qX6)) qX8)))⟩
def qX5:List AOper:=[oM 0 3 0,oP 1 4 (.call 643 [.t 3,.c (.int .i64 80),.c (.int .i64 400)]),oE 2 5 .gtr 4 0,oM 3 2 5]
@[go_sem] theorem zAQ:OE qX5.eq_1:=OEM qX5.eq_1
def F642:AFun:=⟨1,6,[.t 2],.seq (.reg true [oQ 0 2 false]) (.seq (.reg true qX5) (.ret))⟩
def qNQ:List AOper:=[oM 0 5 0,oK 1 6 5,oF 2 7 0 6,oL 3 8 7,oE 4 9 .eql 8 4,oM 5 10 9,oH 6 11 10 false 0,oG 7 12 10 false (.nilchk (.t 11)),oG 8 13 10 false (.faddr 0 (.t 12)),oG 9 14 10 false (.load none (.t 13)),oG 10 15 10 false (.bin .eql (.t 14) (.c (.int .i64 7))),oH 11 16 10 false 15,oH 12 17 16 true 1,oG 13 18 16 true (.bin .eql (.t 17) (.c (.int .i64 1))),oG 14 19 10 false (.pick (.t 16) (.t 18) (.c (.bool false))),oPt 15 20 10 19]
@[go_sem] theorem qs0:OE qNQ.eq_1:=OEM qNQ.eq_1
def qkG:AFun:=⟨2,21,[.t 4],.seq (.reg true [oC 0 4 0]) (.seq (.seq (.reg true qNQ) (.cond (.t 20) (.seq (.reg true [oC 0 4 1]) (.ret)) (.skip))) (.seq (.reg true [oC 0 4 0]) (.ret)))⟩
def qb2:List AOper:=[oM 0 6 0,oK 1 7 6,oF 2 8 0 7,oL 3 9 8,oE 4 10 .eql 9 1]
@[go_sem] theorem zEN:OE qb2.eq_1:=OEM qb2.eq_1
def qb3:List AOper:=[oM 0 11 0,oK 1 12 11,oF 2 13 1 12,oL 3 14 13,oM 4 15 1,oB 5 16 .geq 14 15,oM 6 4 16]
@[go_sem] theorem zEO:OE qb3.eq_1:=OEM qb3.eq_1
def qb4:List AOper:=[oM 0 17 5,oM 1 18 0,oK 2 19 18,oF 3 20 3 19,oL 4 21 20,oW 5 22 21,oB 6 23 .lss 17 22]
@[go_sem] theorem zEP:OE qb4.eq_1:=OEM qb4.eq_1
def qb5:List AOper:=[oM 0 26 0,oK 1 27 26,oF 2 28 3 27,oL 3 29 28,oM 4 30 5,oA 5 31 4 29 30,oM 6 32 1,oM 7 33 0,oM 8 34 5,⟨9,some 35,none,.call 1129 [.t 33,.t 34],[⟨3,some 29,none,.load none (.t 28),[]⟩]⟩,oB 10 36 .add 32 35,oD2 11 37 878 31 36]
@[go_sem] theorem zEQ:OE qb5.eq_1:=OEM qb5.eq_1
def qb1:ACode:=.loop (.seq (.seq (.reg true qb4) (.cond (.t 23) (.skip) (.exit 0))) (.seq (.blk 1 (.seq (.reg true qb5) (.cond (.t 37) (.seq (.reg true [oQ 0 4 true]) (.ret)) (.skip)))) (.reg true [oM 0 24 5,oE 1 25 .add 24 1,oM 2 5 25])))
@[go_sem] theorem zEM:CE qb1.eq_1:=CEM qb1.eq_1
def F878:AFun:=⟨2,38,[.t 4],.seq (.reg true [oQ 0 4 false]) (.seq (.seq (.reg true qb2) (.cond (.t 10) (.seq (.reg true qb3) (.ret)) (.skip))) (.seq (.seq (.reg true [oC 0 5 0]) (.blk 0 qb1)) (.seq (.reg true [oQ 0 4 false]) (.ret))))⟩
def qXN:List AOper:=[oM 0 3 0,oD1 1 4 642 3,oM 2 5 4,oH 3 6 5 true 0,oG 4 7 5 true (.call 878 [.t 6,.c (.int .i64 0)]),oG 5 8 5 true (.not (.t 7)),oPf 6 9 5 8,oM 7 2 9]
@[go_sem] theorem qz8:OE qXN.eq_1:=OEM qXN.eq_1
def F519:AFun:=⟨1,10,[.t 2],.seq (.reg true [oQ 0 2 false]) (.seq (.reg true qXN) (.ret))⟩
def qYS:List AOper:=[oM 0 7 0,oK 1 8 7,oF 2 9 0 8,oL 3 10 9,oE 4 11 .eql 10 11,oM 5 12 11,oH 6 13 12 true 0,oG 7 14 12 true (.nilchk (.t 13)),oG 8 15 12 true (.faddr 1 (.t 14)),oG 9 16 12 true (.load none (.t 15)),oH 10 17 12 true 1,oG 11 18 12 true (.bin .geq (.t 16) (.t 17)),oPf 12 19 12 18]
@[go_sem] theorem zBD:OE qYS.eq_1:=OEM qYS.eq_1
def qYT:List AOper:=[oM 0 20 5,oM 1 21 0,oK 2 22 21,oF 3 23 2 22,oL 4 24 23,oW 5 25 24,oB 6 26 .lss 20 25]
@[go_sem] theorem zBE:OE qYT.eq_1:=OEM qYT.eq_1
def qYU:List AOper:=[oM 0 29 0,oK 1 30 29,oF 2 31 2 30,oL 3 32 31,oM 4 33 5,oA 5 34 1 32 33,oL 6 35 34,oM 7 36 1,oB 8 37 .geq 35 36]
@[go_sem] theorem zBF:OE qYU.eq_1:=OEM qYU.eq_1
def qYP:ACode:=.loop (.seq (.seq (.reg true qYT) (.cond (.t 26) (.skip) (.exit 0))) (.seq (.blk 1 (.seq (.reg true qYU) (.cond (.t 37) (.seq (.reg true [oQ 0 4 false]) (.ret)) (.skip)))) (.reg true [oM 0 27 5,oE 1 28 .add 27 1,oM 2 5 28])))
@[go_sem] theorem zBA:CE qYP.eq_1:=CEM qYP.eq_1
def qYV:List AOper:=[oM 0 38 6,oM 1 39 0,oK 2 40 39,oF 3 41 3 40,oL 4 42 41,oW 5 43 42,oB 6 44 .lss 38 43]
@[go_sem] theorem zBG:OE qYV.eq_1:=OEM qYV.eq_1
def qYW:List AOper:=[oM 0 47 0,oK 1 48 47,oF 2 49 3 48,oL 3 50 49,oM 4 51 6,oA 5 52 4 50 51,oM 6 53 1,oD2 7 54 725 52 53,oJ 8 55 54]
@[go_sem] theorem zBH:OE qYW.eq_1:=OEM qYW.eq_1
def qYQ:ACode:=.loop (.seq (.seq (.reg true qYV) (.cond (.t 44) (.skip) (.exit 2))) (.seq (.blk 3 (.seq (.reg true qYW) (.cond (.t 55) (.seq (.reg true [oQ 0 4 false]) (.ret)) (.skip)))) (.reg true [oM 0 45 6,oE 1 46 .add 45 1,oM 2 6 46])))
@[go_sem] theorem zBB:CE qYQ.eq_1:=CEM qYQ.eq_1
def qYR:ACode:=.seq (.seq (.reg true qYS) (.cond (.t 19) (.seq (.reg true [oQ 0 4 false]) (.ret)) (.skip))) (.seq (.seq (.reg true [oC 0 5 0]) (.blk 0 qYP)) (.seq (.seq (.reg true [oC 0 6 0]) (.blk 2 qYQ)) (.seq (.reg true [oQ 0 4 true]) (.ret))))
@[go_sem] theorem zBC:CE qYR.eq_1:=CEM qYR.eq_1
def F725:AFun:=⟨2,56,[.t 4],.seq (.reg true [oQ 0 4 false]) qYR⟩
def qXR:List AOper:=[oM 0 4 0,oK 1 5 4,oF 2 6 0 5,oL 3 7 6,oW 4 8 7,oP 5 9 (.call 340 [.t 8,.c (.int .i64 1),.c (.int .i64 24)]),oJ 6 10 9]
@[go_sem] theorem zAC:OE qXR.eq_1:=OEM qXR.eq_1
def qXS:List AOper:=[oM 0 11 3,oM 1 12 0,oK 2 13 12,oF 3 14 0 13,oL 4 15 14,oW 5 16 15,oB 6 17 .lss 11 16]
@[go_sem] theorem zAD:OE qXS.eq_1:=OEM qXS.eq_1
def qXT:List AOper:=[oM 0 20 0,oK 1 21 20,oF 2 22 0 21,oL 3 23 22,oM 4 24 3,oA 5 25 4 23 24,oD1 6 26 519 25,oJ 7 27 26,oM 8 28 27,oH 9 29 28 false 0,oG 10 30 28 false (.nilchk (.t 29)),oG 11 31 28 false (.faddr 0 (.t 30)),oG 12 32 28 false (.load none (.t 31)),oH 13 33 28 false 3,oG 14 34 28 false (.iaddr 4 (.t 32) (.t 33)),oH 15 35 28 false 0,oG 16 36 28 false (.nilchk (.t 35)),oG 17 37 28 false (.faddr 0 (.t 36)),oG 18 38 28 false (.load none (.t 37)),oG 19 39 28 false (.len (.t 38)),oG 20 40 28 false (.call 725 [.t 34,.t 39]),oG 21 41 28 false (.not (.t 40)),oPt 22 42 28 41]
@[go_sem] theorem zAE:OE qXT.eq_1:=OEM qXT.eq_1
def qXQ:ACode:=.loop (.seq (.seq (.reg true qXS) (.cond (.t 17) (.skip) (.exit 0))) (.seq (.blk 1 (.seq (.reg true qXT) (.cond (.t 42) (.seq (.reg true [oQ 0 2 false]) (.ret)) (.skip)))) (.reg true [oM 0 18 3,oE 1 19 .add 18 1,oM 2 3 19])))
@[go_sem] theorem zAB:CE qXQ.eq_1:=CEM qXQ.eq_1
def F579:AFun:=⟨1,43,[.t 2],.seq (.reg true [oQ 0 2 false]) (.seq (.seq (.reg true qXR) (.cond (.t 10) (.seq (.reg true [oQ 0 2 false]) (.ret)) (.skip))) (.seq (.seq (.reg true [oC 0 3 0]) (.blk 0 qXQ)) (.seq (.reg true [oQ 0 2 true]) (.ret))))⟩
def qcS:List AOper:=[oM 0 10 0,oK 1 11 10,oF 2 12 0 11,oL 3 13 12,oE 4 14 .eql 13 1]
@[go_sem] theorem zFD:OE qcS.eq_1:=OEM qcS.eq_1
def qcT:List AOper:=[oM 0 15 0,oK 1 16 15,oF 2 17 1 16,oL 3 18 17,oM 4 19 1,oB 5 20 .eql 18 19]
@[go_sem] theorem zFE:OE qcT.eq_1:=OEM qcT.eq_1
def qcU:List AOper:=[oM 0 21 3,oM 1 22 2,oP 2 23 (.bslice 1 (.int .i64 0) 1 [(0,.t 22)]),oP 3 24 (.app 1 (.t 21) (.t 23)),oM 4 3 24]
@[go_sem] theorem zFF:OE qcU.eq_1:=OEM qcU.eq_1
def qcV:List AOper:=[oM 0 26 0,oK 1 27 26,oF 2 28 0 27,oL 3 29 28,oE 4 30 .eql 29 6]
@[go_sem] theorem zFG:OE qcV.eq_1:=OEM qcV.eq_1
def qcW:List AOper:=[oM 0 33 9,oM 1 34 0,oK 2 35 34,oF 3 36 3 35,oL 4 37 36,oW 5 38 37,oB 6 39 .lss 33 38]
@[go_sem] theorem zFH:OE qcW.eq_1:=OEM qcW.eq_1
def qcX:List AOper:=[oM 0 42 0,oK 1 43 42,oF 2 44 3 43,oL 3 45 44,oM 4 46 9,oA 5 47 4 45 46,oM 6 48 1,oM 7 49 0,oM 8 50 9,oM 11 53 2,oM 12 54 3,⟨9,some 51,none,.call 1129 [.t 49,.t 50],[⟨3,some 45,none,.load none (.t 44),[]⟩]⟩,oB 10 52 .add 48 51,oP 13 55 (.call 990 [.t 47,.t 52,.t 53,.t 54]),oM 14 3 55]
@[go_sem] theorem zFI:OE qcX.eq_1:=OEM qcX.eq_1
def qcQ:ACode:=.seq (.reg true [oC 0 9 0]) (.blk 0 (.loop (.seq (.seq (.reg true qcW) (.cond (.t 39) (.skip) (.exit 0))) (.seq (.blk 1 (.reg true qcX)) (.reg true [oM 0 40 9,oE 1 41 .add 40 1,oM 2 9 41])))))
@[go_sem] theorem zFB:CE qcQ.eq_1:=CEM qcQ.eq_1
def qcR:ACode:=.seq (.seq (.reg true qcS) (.cond (.t 14) (.seq (.seq (.reg true qcT) (.cond (.t 20) (.reg true qcU) (.skip))) (.seq (.reg true [oM 0 25 3,oM 1 8 25]) (.ret))) (.skip))) (.seq (.seq (.reg true qcV) (.cond (.t 30) (.reg true [oM 0 31 2,oE 1 32 .add 31 1,oM 2 2 32]) (.skip))) (.seq qcQ (.seq (.reg true [oM 0 56 3,oM 1 8 56]) (.ret))))
@[go_sem] theorem zFC:CE qcR.eq_1:=CEM qcR.eq_1
def F990:AFun:=⟨4,57,[.t 8],.seq (.reg true [oP 0 8 (.mov (.c (.nils)))]) qcR⟩
def qcZ:List AOper:=[oM 0 6 5,oM 1 7 0,oW 2 8 7,oB 3 9 .lss 6 8]
@[go_sem] theorem zFK:OE qcZ.eq_1:=OEM qcZ.eq_1
def qc0:List AOper:=[oM 0 12 0,oM 1 13 5,oA 2 14 1 12 13,oL 3 15 14,oM 4 16 1,oB 5 17 .neq 15 16]
@[go_sem] theorem zFL:OE qc0.eq_1:=OEM qc0.eq_1
def qcY:ACode:=.loop (.seq (.seq (.reg true qcZ) (.cond (.t 9) (.skip) (.exit 0))) (.seq (.blk 1 (.seq (.reg true qc0) (.cond (.t 17) (.seq (.reg true [oQ 0 4 false]) (.ret)) (.skip)))) (.reg true [oM 0 10 5,oE 1 11 .add 10 1,oM 2 5 11])))
@[go_sem] theorem zFJ:CE qcY.eq_1:=CEM qcY.eq_1
def F991:AFun:=⟨2,18,[.t 4],.seq (.reg true [oQ 0 4 false]) (.seq (.seq (.reg true [oC 0 5 0]) (.blk 0 qcY)) (.seq (.reg true [oQ 0 4 true]) (.ret)))⟩
def qXW:List AOper:=[oM 0 11 0,oK 1 12 11,oF 2 13 0 12,oL 3 14 13]
@[go_sem] theorem zAH:OE qXW.eq_1:=OEM qXW.eq_1
def qXX:List AOper:=[oM 0 17 0,oK 1 18 17,oF 2 19 3 18,oL 3 20 19,oP 4 21 (.iaddr 4 (.t 20) (.c (.int .i64 0))),oM 5 22 1,oP 6 23 (.call 990 [.t 21,.c (.int .i64 0),.t 22,.c (.nils)]),oM 7 5 23]
@[go_sem] theorem zAI:OE qXX.eq_1:=OEM qXX.eq_1
def qXY:List AOper:=[oM 0 24 5,oW 1 25 24,oE 2 26 .gtr 25 1,oM 3 27 26,oH 4 28 27 false 5,oH 5 29 27 false 1,oG 6 30 27 false (.call 991 [.t 28,.t 29]),oG 7 31 27 false (.not (.t 30)),oPt 8 32 27 31]
@[go_sem] theorem zAJ:OE qXY.eq_1:=OEM qXY.eq_1
def qXZ:List AOper:=[oM 0 35 0,oK 1 36 35,oF 2 37 3 36,oL 3 38 37,oP 4 39 (.iaddr 4 (.t 38) (.c (.int .i64 1))),oM 5 40 1,oP 6 41 (.call 990 [.t 39,.c (.int .i64 0),.t 40,.c (.nils)]),oM 7 6 41]
@[go_sem] theorem zAK:OE qXZ.eq_1:=OEM qXZ.eq_1
def qX0:List AOper:=[oM 0 42 6,oM 1 43 1,oD2 2 44 991 42 43,oJ 3 45 44,oM 4 46 45,oH 5 47 46 true 6,oH 6 48 46 true 1,oG 7 49 46 true (.bin .add (.t 48) (.c (.int .i64 1))),oG 8 50 46 true (.call 991 [.t 47,.t 49]),oG 9 51 46 true (.not (.t 50)),oPf 10 52 46 51]
@[go_sem] theorem zAL:OE qX0.eq_1:=OEM qX0.eq_1
def qXU:ACode:=.cond (.t 15) (.seq (.reg true qXX) (.seq (.reg true qXY) (.cond (.t 32) (.seq (.reg true [oQ 0 4 false]) (.ret)) (.skip)))) (.seq (.reg true [oE 0 34 .eql 14 7,oM 1 33 34]) (.cond (.t 33) (.seq (.reg true qXZ) (.seq (.reg true qX0) (.cond (.t 52) (.seq (.reg true [oQ 0 4 false]) (.ret)) (.skip)))) (.skip)))
@[go_sem] theorem zAF:CE qXU.eq_1:=CEM qXU.eq_1
def qX1:List AOper:=[oM 0 53 7,oM 1 54 0,oK 2 55 54,oF 3 56 3 55,oL 4 57 56,oW 5 58 57,oB 6 59 .lss 53 58]
@[go_sem] theorem zAM:OE qX1.eq_1:=OEM qX1.eq_1
def qX2:List AOper:=[oM 0 63 0,oK 1 64 63,oF 2 65 0 64,oL 3 66 65,oE 4 67 .eql 66 6]
@[go_sem] theorem zAN:OE qX2.eq_1:=OEM qX2.eq_1
def qX3:List AOper:=[oM 0 70 0,oK 1 71 70,oF 2 72 3 71,oL 3 73 72,oM 4 74 7,oA 5 75 4 73 74,oM 6 76 8,oD2 7 77 610 75 76,oJ 8 78 77]
@[go_sem] theorem zAO:OE qX3.eq_1:=OEM qX3.eq_1
def qXV:ACode:=.seq (.reg true [oM 0 62 1,oM 1 8 62]) (.seq (.seq (.reg true qX2) (.cond (.t 67) (.reg true [oM 0 68 8,oE 1 69 .add 68 1,oM 2 8 69]) (.skip))) (.seq (.reg true qX3) (.cond (.t 78) (.seq (.reg true [oQ 0 4 false]) (.ret)) (.skip))))
@[go_sem] theorem zAG:CE qXV.eq_1:=CEM qXV.eq_1
def qSW:ACode:=.seq (.reg true [oC 0 7 0]) (.blk 1 (.loop (.seq (.seq (.reg true qX1) (.cond (.t 59) (.skip) (.exit 1))) (.seq (.blk 2 qXV) (.reg true [oM 0 60 7,oE 1 61 .add 60 1,oM 2 7 61])))))
@[go_sem] theorem qx6:CE qSW.eq_1:=CEM qSW.eq_1
def qSX:ACode:=.seq (.seq (.reg true [oM 0 9 1,oE 1 10 .gtr 9 8]) (.cond (.t 10) (.seq (.reg true [oQ 0 4 false]) (.ret)) (.skip))) (.seq (.seq (.reg true qXW) (.blk 0 (.seq (.reg true [oE 0 16 .eql 14 4,oM 1 15 16]) qXU))) (.seq qSW (.seq (.reg true [oQ 0 4 true]) (.ret))))
@[go_sem] theorem qx7:CE qSX.eq_1:=CEM qSX.eq_1
def F610:AFun:=⟨2,79,[.t 4],.seq (.reg true [oQ 0 4 false]) qSX⟩
def qXJ:List AOper:=[oM 0 7 3,oM 1 8 0,oK 2 9 8,oF 3 10 0 9,oL 4 11 10,oW 5 12 11,oB 6 13 .lss 7 12]
@[go_sem] theorem qz4:OE qXJ.eq_1:=OEM qXJ.eq_1
def qXK:List AOper:=[oM 0 16 0,oK 1 17 16,oF 2 18 0 17,oL 3 19 18,oM 4 20 3,oA 5 21 4 19 20,oP 6 22 (.call 610 [.t 21,.c (.int .i64 0)]),oJ 7 23 22]
@[go_sem] theorem qz5:OE qXK.eq_1:=OEM qXK.eq_1
def qXH:ACode:=.loop (.seq (.seq (.reg true qXJ) (.cond (.t 13) (.skip) (.exit 0))) (.seq (.blk 1 (.seq (.reg true qXK) (.cond (.t 23) (.seq (.reg true [oC 0 2 9]) (.ret)) (.skip)))) (.reg true [oM 0 14 3,oE 1 15 .add 14 1,oM 2 3 15])))
@[go_sem] theorem qz2:CE qXH.eq_1:=CEM qXH.eq_1
def qXI:ACode:=.seq (.seq (.reg true [oM 0 4 0,oD1 1 5 579 4,oJ 2 6 5]) (.cond (.t 6) (.seq (.reg true [oC 0 2 1]) (.ret)) (.skip))) (.seq (.seq (.reg true [oC 0 3 0]) (.blk 0 qXH)) (.seq (.reg true [oC 0 2 0]) (.ret)))
@[go_sem] theorem qz3:CE qXI.eq_1:=CEM qXI.eq_1
def F496:AFun:=⟨1,24,[.t 2],.seq (.reg true [oC 0 2 0]) qXI⟩
def qWT:List AOper:=[oM 0 10 0,oD1 1 11 579 10,oJ 2 12 11,oM 3 13 12,oH 4 14 13 false 1,oG 5 15 13 false (.call 519 [.t 14]),oG 6 16 13 false (.not (.t 15)),oPt 7 17 13 16,oM 8 18 17,oH 9 19 18 false 1,oH 10 20 18 false 0,oG 11 21 18 false (.nilchk (.t 20)),oG 12 22 18 false (.faddr 0 (.t 21)),oG 13 23 18 false (.load none (.t 22)),oG 14 24 18 false (.len (.t 23)),oG 15 25 18 false (.call 725 [.t 19,.t 24]),oG 16 26 18 false (.not (.t 25)),oPt 17 27 18 26]
@[go_sem] theorem qzE:OE qWT.eq_1:=OEM qWT.eq_1
def qWR:ACode:=.seq (.reg true [oM 0 31 0,oD1 1 32 496 31,oM 2 9 32]) (.seq (.reg true [oM 0 33 9,oE 1 34 .neq 33 0]) (.cond (.t 34) (.seq (.reg true [oM 0 35 9,oM 1 8 35]) (.ret)) (.skip)))
@[go_sem] theorem qzC:CE qWR.eq_1:=CEM qWR.eq_1
def qWU:List AOper:=[oM 0 36 2,oP 1 37 (.call 340 [.t 36,.c (.int .i64 0),.c (.int .i64 40)]),oJ 2 38 37,oM 3 39 38,oH 4 40 39 false 3,oG 5 41 39 false (.call 340 [.t 40,.c (.int .i64 0),.c (.int .i64 2000)]),oG 6 42 39 false (.not (.t 41)),oPt 7 43 39 42]
@[go_sem] theorem qzF:OE qWU.eq_1:=OEM qWU.eq_1
def qWS:ACode:=.seq (.seq (.reg true [oM 0 28 1,oP 1 29 (.call 610 [.t 28,.c (.int .i64 0)]),oJ 2 30 29]) (.cond (.t 30) (.seq (.reg true [oC 0 8 9]) (.ret)) (.skip))) (.seq qWR (.seq (.seq (.reg true qWU) (.cond (.t 43) (.seq (.reg true [oC 0 8 2]) (.ret)) (.skip))) (.seq (.reg true [oC 0 8 0]) (.ret))))
@[go_sem] theorem qzD:CE qWS.eq_1:=CEM qWS.eq_1
def F479:AFun:=⟨4,44,[.t 8],.seq (.reg true [oC 0 8 0]) (.seq (.seq (.reg true qWT) (.cond (.t 27) (.seq (.reg true [oC 0 8 1]) (.ret)) (.skip))) qWS)⟩
def qWP:List AOper:=[oP 0 3 (.mov (.c (.lst 1 [] true))),oM 1 4 0,oP 2 5 (.app 1 (.t 3) (.t 4)),oM 3 2 5]
@[go_sem] theorem qzA:OE qWP.eq_1:=OEM qWP.eq_1
def F402:AFun:=⟨1,6,[.t 2],.seq (.reg true [oP 0 2 (.mov (.c (.nils)))]) (.seq (.reg true qWP) (.ret))⟩
def qLI:List AOper:=[oM 0 6 5,oM 1 7 0,oW 2 8 7,oB 3 9 .lss 6 8]
@[go_sem] theorem qqR:OE qLI.eq_1:=OEM qLI.eq_1
def qLJ:List AOper:=[oM 0 12 0,oM 1 13 5,oA 2 14 1 12 13,oL 3 15 14,oM 4 16 1,oB 5 17 .eql 15 16]
@[go_sem] theorem qqS:OE qLJ.eq_1:=OEM qLJ.eq_1
def qLH:ACode:=.loop (.seq (.seq (.reg true qLI) (.cond (.t 9) (.skip) (.exit 0))) (.seq (.blk 1 (.seq (.reg true qLJ) (.cond (.t 17) (.seq (.reg true [oQ 0 4 true]) (.ret)) (.skip)))) (.reg true [oM 0 10 5,oE 1 11 .add 10 1,oM 2 5 11])))
@[go_sem] theorem qqQ:CE qLH.eq_1:=CEM qLH.eq_1
def qjV:AFun:=⟨2,18,[.t 4],.seq (.reg true [oQ 0 4 false]) (.seq (.seq (.reg true [oC 0 5 0]) (.blk 0 qLH)) (.seq (.reg true [oQ 0 4 false]) (.ret)))⟩
def qcK:List AOper:=[oM 0 9 7,oM 1 10 0,oW 2 11 10,oB 3 12 .lss 9 11]
@[go_sem] theorem zE5:OE qcK.eq_1:=OEM qcK.eq_1
def qcL:List AOper:=[oM 0 15 6,oJ 1 16 15,oM 2 17 16,oH 3 18 17 true 0,oH 4 19 17 true 7,oG 5 20 17 true (.iaddr 1 (.t 18) (.t 19)),oG 6 21 17 true (.load none (.t 20)),oH 7 22 17 true 1,oG 8 23 17 true (.bin .geq (.t 21) (.t 22)),oPf 9 24 17 23]
@[go_sem] theorem zE6:OE qcL.eq_1:=OEM qcL.eq_1
def qcM:List AOper:=[oM 0 25 0,oM 1 26 7,oA 2 27 1 25 26,oL 3 28 27,oM 4 29 1,oB 5 30 .gtr 28 29]
@[go_sem] theorem zE7:OE qcM.eq_1:=OEM qcM.eq_1
def qcN:List AOper:=[oM 0 31 5,oM 1 32 1,oP 2 33 (.bslice 1 (.int .i64 0) 1 [(0,.t 32)]),oP 3 34 (.app 1 (.t 31) (.t 33)),oM 4 5 34]
@[go_sem] theorem zE8:OE qcN.eq_1:=OEM qcN.eq_1
def qcO:List AOper:=[oM 0 35 5,oM 1 36 0,oM 2 37 7,oA 3 38 1 36 37,oL 4 39 38,oP 5 40 (.bslice 1 (.int .i64 0) 1 [(0,.t 39)]),oP 6 41 (.app 1 (.t 35) (.t 40)),oM 7 5 41]
@[go_sem] theorem zE9:OE qcO.eq_1:=OEM qcO.eq_1
def qcI:ACode:=.seq (.blk 1 (.seq (.seq (.reg true qcL) (.cond (.t 24) (.seq (.reg true [oQ 0 6 true]) (.seq (.reg true qcM) (.cond (.t 30) (.reg true qcN) (.skip)))) (.skip))) (.reg true qcO))) (.reg true [oM 0 13 7,oE 1 14 .add 13 1,oM 2 7 14])
@[go_sem] theorem zE3:CE qcI.eq_1:=CEM qcI.eq_1
def qcP:List AOper:=[oM 0 44 5,oM 1 45 1,oP 2 46 (.bslice 1 (.int .i64 0) 1 [(0,.t 45)]),oP 3 47 (.app 1 (.t 44) (.t 46)),oM 4 5 47]
@[go_sem] theorem zFA:OE qcP.eq_1:=OEM qcP.eq_1
def qcJ:ACode:=.seq (.seq (.reg true [oC 0 7 0]) (.blk 0 (.loop (.seq (.seq (.reg true qcK) (.cond (.t 12) (.skip) (.exit 0))) qcI)))) (.seq (.seq (.reg true [oM 0 42 6,oJ 1 43 42]) (.cond (.t 43) (.reg true qcP) (.skip))) (.seq (.reg true [oM 0 48 5,oM 1 4 48]) (.ret)))
@[go_sem] theorem zE4:CE qcJ.eq_1:=CEM qcJ.eq_1
def F920:AFun:=⟨2,49,[.t 4],.seq (.reg true [oP 0 4 (.mov (.c (.nils)))]) (.seq (.reg true [oP 0 8 (.mov (.c (.lst 1 [] true))),oM 1 5 8]) (.seq (.reg true [oQ 0 6 false]) qcJ))⟩
def qRK:List AOper:=[oM 0 7 0,oK 1 8 7,oF 2 9 0 8,oL 3 10 9,oE 4 11 .eql 10 11]
@[go_sem] theorem qwU:OE qRK.eq_1:=OEM qRK.eq_1
def qRL:List AOper:=[oM 0 12 1,oM 1 13 0,oK 2 14 13,oF 3 15 1 14,oL 4 16 15,oD2 5 17 920 12 16,oM 6 1 17]
@[go_sem] theorem qwV:OE qRL.eq_1:=OEM qRL.eq_1
def qRM:List AOper:=[oM 0 18 5,oM 1 19 0,oK 2 20 19,oF 3 21 2 20,oL 4 22 21,oW 5 23 22,oB 6 24 .lss 18 23]
@[go_sem] theorem qwW:OE qRM.eq_1:=OEM qRM.eq_1
def qRN:List AOper:=[oM 0 27 1,oM 1 28 0,oK 2 29 28,oF 3 30 2 29,oL 4 31 30,oM 5 32 5,oA 6 33 1 31 32,oL 7 34 33,oD2 8 35 920 27 34,oM 9 1 35]
@[go_sem] theorem qwX:OE qRN.eq_1:=OEM qRN.eq_1
def qRI:ACode:=.seq (.reg true [oC 0 5 0]) (.blk 0 (.loop (.seq (.seq (.reg true qRM) (.cond (.t 24) (.skip) (.exit 0))) (.seq (.blk 1 (.reg true qRN)) (.reg true [oM 0 25 5,oE 1 26 .add 25 1,oM 2 5 26])))))
@[go_sem] theorem qwS:CE qRI.eq_1:=CEM qRI.eq_1
def qRO:List AOper:=[oM 0 36 6,oM 1 37 0,oK 2 38 37,oF 3 39 3 38,oL 4 40 39,oW 5 41 40,oB 6 42 .lss 36 41]
@[go_sem] theorem qwY:OE qRO.eq_1:=OEM qRO.eq_1
def qRP:List AOper:=[oM 0 45 0,oK 1 46 45,oF 2 47 3 46,oL 3 48 47,oM 4 49 6,oA 5 50 4 48 49,oM 6 51 1,oD2 7 52 1407 50 51,oM 8 1 52]
@[go_sem] theorem qwZ:OE qRP.eq_1:=OEM qRP.eq_1
def qRJ:ACode:=.seq (.reg true [oC 0 6 0]) (.blk 2 (.loop (.seq (.seq (.reg true qRO) (.cond (.t 42) (.skip) (.exit 2))) (.seq (.blk 3 (.reg true qRP)) (.reg true [oM 0 43 6,oE 1 44 .add 43 1,oM 2 6 44])))))
@[go_sem] theorem qwT:CE qRJ.eq_1:=CEM qRJ.eq_1
def qk9:AFun:=⟨2,54,[.t 4],.seq (.reg true [oP 0 4 (.mov (.c (.nils)))]) (.seq (.seq (.reg true qRK) (.cond (.t 11) (.reg true qRL) (.skip))) (.seq qRI (.seq qRJ (.seq (.reg true [oM 0 53 1,oM 1 4 53]) (.ret)))))⟩
def qN2:List AOper:=[oM 0 6 4,oM 1 7 0,oK 2 8 7,oF 3 9 0 8,oL 4 10 9,oW 5 11 10,oB 6 12 .lss 6 11]
@[go_sem] theorem qtC:OE qN2.eq_1:=OEM qN2.eq_1
def qN3:List AOper:=[oM 0 15 3,oM 1 16 0,oK 2 17 16,oF 3 18 0 17,oL 4 19 18,oM 5 20 4,oA 6 21 4 19 20,oP 7 22 (.mov (.c (.lst 1 [] true))),oD2 8 23 1407 21 22,oP 9 24 (.bslice 1 (.nils) 1 [(0,.t 23)]),oP 10 25 (.app 1 (.t 15) (.t 24)),oM 11 3 25]
@[go_sem] theorem qtD:OE qN3.eq_1:=OEM qN3.eq_1
def qN1:ACode:=.seq (.reg true [oC 0 4 0]) (.blk 0 (.loop (.seq (.seq (.reg true qN2) (.cond (.t 12) (.skip) (.exit 0))) (.seq (.blk 1 (.reg true qN3)) (.reg true [oM 0 13 4,oE 1 14 .add 13 1,oM 2 4 14])))))
@[go_sem] theorem qtB:CE qN1.eq_1:=CEM qN1.eq_1
def qkI:AFun:=⟨1,27,[.t 2],.seq (.reg true [oP 0 2 (.mov (.c (.nils)))]) (.seq (.reg true [oP 0 5 (.mov (.c (.lst 1 [] true))),oM 1 3 5]) (.seq qN1 (.seq (.reg true [oM 0 26 3,oM 1 2 26]) (.ret))))⟩
def qa0:List AOper:=[oM 0 12 5,oM 1 13 0,oK 2 14 13,oF 3 15 0 14,oL 4 16 15,oW 5 17 16,oB 6 18 .lss 12 17]
@[go_sem] theorem zDL:OE qa0.eq_1:=OEM qa0.eq_1
def qa1:List AOper:=[oM 0 21 3,oM 1 22 5,oA 2 23 1 21 22,oL 3 24 23,oD1 4 25 402 24,oM 5 6 25]
@[go_sem] theorem zDM:OE qa1.eq_1:=OEM qa1.eq_1
def qa2:List AOper:=[oM 0 26 7,oM 1 27 6,oW 2 28 27,oB 3 29 .lss 26 28]
@[go_sem] theorem zDN:OE qa2.eq_1:=OEM qa2.eq_1
def qa3:List AOper:=[oM 0 32 8,oM 1 33 3,oM 2 34 6,oM 3 35 7,oA 4 36 1 34 35,oL 5 37 36,oA 6 38 1 33 37,oL 7 39 38,oW 8 40 39,oB 9 41 .lss 32 40]
@[go_sem] theorem zDO:OE qa3.eq_1:=OEM qa3.eq_1
def qa4:List AOper:=[oM 0 44 6,oM 1 45 3,oM 2 46 6,oM 3 47 7,oA 4 48 1 46 47,oL 5 49 48,oA 6 50 1 45 49,oL 7 51 50,oM 8 52 8,oA 9 53 1 51 52,oL 10 54 53,oD2 11 55 1026 44 54,oJ 12 56 55]
@[go_sem] theorem zDP:OE qa4.eq_1:=OEM qa4.eq_1
def qa5:List AOper:=[oM 0 57 6,oM 1 58 3,oM 2 59 6,oM 3 60 7,oA 4 61 1 59 60,oL 5 62 61,oA 6 63 1 58 62,oL 7 64 63,oM 8 65 8,oA 9 66 1 64 65,oL 10 67 66,oP 11 68 (.bslice 1 (.int .i64 0) 1 [(0,.t 67)]),oP 12 69 (.app 1 (.t 57) (.t 68)),oM 13 6 69]
@[go_sem] theorem zDQ:OE qa5.eq_1:=OEM qa5.eq_1
def qaX:ACode:=.loop (.seq (.seq (.reg true qa3) (.cond (.t 41) (.skip) (.exit 4))) (.seq (.blk 5 (.seq (.reg true qa4) (.cond (.t 56) (.reg true qa5) (.skip)))) (.reg true [oM 0 42 8,oE 1 43 .add 42 1,oM 2 8 43])))
@[go_sem] theorem zDI:CE qaX.eq_1:=CEM qaX.eq_1
def qaY:ACode:=.loop (.seq (.seq (.reg true qa2) (.cond (.t 29) (.skip) (.exit 2))) (.seq (.blk 3 (.seq (.reg true [oC 0 8 0]) (.blk 4 qaX))) (.reg true [oM 0 30 7,oE 1 31 .add 30 1,oM 2 7 31])))
@[go_sem] theorem zDJ:CE qaY.eq_1:=CEM qaY.eq_1
def qa6:List AOper:=[oM 0 73 4,oM 1 74 5,oP 2 75 (.bslice 1 (.int .i64 0) 1 [(0,.t 74)]),oP 3 76 (.app 1 (.t 73) (.t 75)),oM 4 4 76]
@[go_sem] theorem zDR:OE qa6.eq_1:=OEM qa6.eq_1
def qaZ:ACode:=.seq (.blk 1 (.seq (.reg true qa1) (.seq (.seq (.reg true [oC 0 7 0]) (.blk 2 qaY)) (.seq (.reg true [oM 0 70 6,oM 1 71 5,oD2 2 72 1026 70 71]) (.cond (.t 72) (.reg true qa6) (.skip)))))) (.reg true [oM 0 19 5,oE 1 20 .add 19 1,oM 2 5 20])
@[go_sem] theorem zDK:CE qaZ.eq_1:=CEM qaZ.eq_1
def qS3:ACode:=.seq (.reg true [oP 0 11 (.mov (.c (.lst 1 [] true))),oM 1 4 11]) (.seq (.seq (.reg true [oC 0 5 0]) (.blk 0 (.loop (.seq (.seq (.reg true qa0) (.cond (.t 18) (.skip) (.exit 0))) qaZ)))) (.seq (.reg true [oM 0 77 4,oM 1 2 77]) (.ret)))
@[go_sem] theorem qyD:CE qS3.eq_1:=CEM qS3.eq_1
def F835:AFun:=⟨1,78,[.t 2],.seq (.reg true [oP 0 2 (.mov (.c (.nils)))]) (.seq (.reg true [oM 0 9 0,oD1 1 10 1162 9,oM 2 3 10]) qS3)⟩
def qWV:List AOper:=[oM 0 5 0,oM 1 6 0,oD1 2 7 835 6,oM 3 8 1,oP 4 9 (.build (.agg [.nilp,.nils,.int .i64 0]) [(0,1,.t 5),(1,1,.t 7),(2,1,.t 8)]),oP 5 10 (.hbox 3 (.t 9)),oM 6 4 10]
@[go_sem] theorem qzG:OE qWV.eq_1:=OEM qWV.eq_1
def F480:AFun:=⟨2,11,[.t 4],.seq (.reg true [oP 0 4 (.mov (.c (.nilp)))]) (.seq (.reg true qWV) (.ret))⟩
def qb0:ACode:=.seq (.seq (.reg true [oM 0 5 0,oM 1 6 1,oB 2 7 .gtr 5 6]) (.cond (.t 7) (.seq (.reg true [oM 0 8 0,oM 1 4 8]) (.ret)) (.skip))) (.seq (.reg true [oM 0 9 1,oM 1 4 9]) (.ret))
@[go_sem] theorem zEL:CE qb0.eq_1:=CEM qb0.eq_1
def F856:AFun:=⟨2,10,[.t 4],.seq (.reg true [oC 0 4 0]) qb0⟩
def qNF:List AOper:=[oM 0 5 4,oM 1 6 0,oK 2 7 6,oF 3 8 3 7,oL 4 9 8,oW 5 10 9,oB 6 11 .lss 5 10]
@[go_sem] theorem qsP:OE qNF.eq_1:=OEM qNF.eq_1
def qNG:List AOper:=[oM 0 14 3,oM 1 15 0,oK 2 16 15,oF 3 17 3 16,oL 4 18 17,oM 5 19 4,oA 6 20 4 18 19,oD1 7 21 1123 20,oD2 8 22 856 14 21,oM 9 3 22]
@[go_sem] theorem qsQ:OE qNG.eq_1:=OEM qNG.eq_1
def qNE:ACode:=.seq (.reg true [oC 0 4 0]) (.blk 0 (.loop (.seq (.seq (.reg true qNF) (.cond (.t 11) (.skip) (.exit 0))) (.seq (.blk 1 (.reg true qNG)) (.reg true [oM 0 12 4,oE 1 13 .add 12 1,oM 2 4 13])))))
@[go_sem] theorem qsO:CE qNE.eq_1:=CEM qNE.eq_1
def qkA:AFun:=⟨1,25,[.t 2],.seq (.reg true [oC 0 2 0]) (.seq (.reg true [oC 0 3 0]) (.seq qNE (.seq (.reg true [oM 0 23 3,oE 1 24 .add 23 1,oM 2 2 24]) (.ret))))⟩
def qNO:List AOper:=[oM 0 8 5,oM 1 9 0,oK 2 10 9,oF 3 11 3 10,oL 4 12 11,oW 5 13 12,oB 6 14 .lss 8 13,oM 7 15 14,oH 8 16 15 true 1,oG 9 17 15 true (.bin .geq (.t 16) (.c (.int .i64 0))),oPf 10 18 15 17]
@[go_sem] theorem qsY:OE qNO.eq_1:=OEM qNO.eq_1
def qNP:List AOper:=[oM 0 21 0,oK 1 22 21,oF 2 23 3 22,oL 3 24 23,oM 4 25 5,oA 5 26 4 24 25,oM 6 27 1,oD2 7 28 1128 26 27,oM 8 1 28]
@[go_sem] theorem qsZ:OE qNP.eq_1:=OEM qNP.eq_1
def qNN:ACode:=.seq (.reg true [oC 0 5 0]) (.blk 0 (.loop (.seq (.seq (.reg true qNO) (.cond (.t 18) (.skip) (.exit 0))) (.seq (.blk 1 (.reg true qNP)) (.reg true [oM 0 19 5,oE 1 20 .add 19 1,oM 2 5 20])))))
@[go_sem] theorem qsX:CE qNN.eq_1:=CEM qNN.eq_1
def qkF:AFun:=⟨2,30,[.t 4],.seq (.reg true [oC 0 4 0]) (.seq (.reg true [oM 0 6 1,oE 1 7 .sub 6 1,oM 2 1 7]) (.seq qNN (.seq (.reg true [oM 0 29 1,oM 1 4 29]) (.ret))))⟩
def qaB:List AOper:=[oM 0 3 0,oP 1 4 (.call 1128 [.t 3,.c (.int .i64 400)]),oE 2 5 .geq 4 0,oM 3 6 5,oH 4 7 6 true 0,oG 5 8 6 true (.call 1123 [.t 7]),oG 6 9 6 true (.bin .leq (.t 8) (.c (.int .i64 80))),oPf 7 10 6 9,oM 8 2 10]
@[go_sem] theorem zCW:OE qaB.eq_1:=OEM qaB.eq_1
def F765:AFun:=⟨1,11,[.t 2],.seq (.reg true [oQ 0 2 false]) (.seq (.reg true qaB) (.ret))⟩
def F381:AFun:=⟨1,5,[.l 2 (some 4)],.seq (.reg true [oZ 0 2]) (.seq (.reg true [oM 0 3 0,oP 1 4 (.build (.agg [.int .i64 0,.int .i64 0,.nils,.nils]) [(0,1,.c (.int .i64 2)),(1,1,.t 3)]),oS 2 2 0 4 4]) (.ret))⟩
def qZI:List AOper:=[oM 0 3 0,oK 1 4 3,oF 2 5 0 4,oL 3 6 5]
@[go_sem] theorem zB3:OE qZI.eq_1:=OEM qZI.eq_1
def qZJ:List AOper:=[oM 0 9 0,oK 1 10 9,oF 2 11 3 10,oL 3 12 11,oP 4 13 (.iaddr 4 (.t 12) (.c (.int .i64 0))),oF 5 14 0 13,oL 6 15 14]
@[go_sem] theorem zB4:OE qZJ.eq_1:=OEM qZJ.eq_1
def qZG:ACode:=.seq (.reg true [oE 0 17 .eql 15 4,oM 1 16 17]) (.cond (.t 16) (.seq (.reg true [oC 0 2 1]) (.ret)) (.seq (.reg true [oE 0 19 .eql 15 11,oM 1 18 19]) (.cond (.t 18) (.seq (.reg true [oC 0 2 4]) (.ret)) (.skip))))
@[go_sem] theorem zB1:CE qZG.eq_1:=CEM qZG.eq_1
def qZK:List AOper:=[oM 0 22 0,oK 1 23 22,oF 2 24 3 23,oL 3 25 24,oP 4 26 (.iaddr 4 (.t 25) (.c (.int .i64 0))),oF 5 27 0 26,oL 6 28 27,oE 7 29 .eql 28 11]
@[go_sem] theorem zB5:OE qZK.eq_1:=OEM qZK.eq_1
def qZL:List AOper:=[oM 0 30 0,oK 1 31 30,oF 2 32 3 31,oL 3 33 32,oP 4 34 (.iaddr 4 (.t 33) (.c (.int .i64 0))),oF 5 35 0 34,oL 6 36 35,oE 7 37 .eql 36 2]
@[go_sem] theorem zB6:OE qZL.eq_1:=OEM qZL.eq_1
def qZM:List AOper:=[oM 0 38 0,oK 1 39 38,oF 2 40 3 39,oL 3 41 40,oP 4 42 (.iaddr 4 (.t 41) (.c (.int .i64 1))),oF 5 43 0 42,oL 6 44 43]
@[go_sem] theorem zB7:OE qZM.eq_1:=OEM qZM.eq_1
def qZH:ACode:=.seq (.reg true [oE 0 46 .eql 44 2,oM 1 45 46]) (.cond (.t 45) (.seq (.reg true [oC 0 2 2]) (.ret)) (.seq (.reg true [oE 0 48 .eql 44 11,oM 1 47 48]) (.cond (.t 47) (.seq (.reg true [oC 0 2 4]) (.ret)) (.skip))))
@[go_sem] theorem zB2:CE qZH.eq_1:=CEM qZH.eq_1
def qZN:List AOper:=[oM 0 51 0,oK 1 52 51,oF 2 53 3 52,oL 3 54 53,oP 4 55 (.iaddr 4 (.t 54) (.c (.int .i64 0))),oF 5 56 0 55,oL 6 57 56,oE 7 58 .eql 57 8,oM 8 59 58,oH 9 60 59 true 0,oG 10 61 59 true (.nilchk (.t 60)),oG 11 62 59 true (.faddr 3 (.t 61)),oG 12 63 59 true (.load none (.t 62)),oG 13 64 59 true (.iaddr 4 (.t 63) (.c (.int .i64 0))),oG 14 65 59 true (.faddr 1 (.t 64)),oG 15 66 59 true (.load none (.t 65)),oH 16 67 59 true 0,oG 17 68 59 true (.nilchk (.t 67)),oG 18 69 59 true (.faddr 2 (.t 68)),oG 19 70 59 true (.load none (.t 69)),oG 20 71 59 true (.len (.t 70)),oG 21 72 59 true (.bin .lss (.t 66) (.t 71)),oPf 22 73 59 72]
@[go_sem] theorem zB8:OE qZN.eq_1:=OEM qZN.eq_1
def qZO:List AOper:=[oM 0 74 0,oK 1 75 74,oF 2 76 3 75,oL 3 77 76,oP 4 78 (.iaddr 4 (.t 77) (.c (.int .i64 0))),oF 5 79 0 78,oL 6 80 79,oE 7 81 .eql 80 11]
@[go_sem] theorem zB9:OE qZO.eq_1:=OEM qZO.eq_1
def qZP:List AOper:=[oM 0 84 0,oK 1 85 84,oF 2 86 3 85,oL 3 87 86,oP 4 88 (.iaddr 4 (.t 87) (.c (.int .i64 0))),oF 5 89 0 88,oL 6 90 89]
@[go_sem] theorem zCA:OE qZP.eq_1:=OEM qZP.eq_1
def qS0:ACode:=.seq (.reg true [oE 0 92 .eql 90 2,oM 1 91 92]) (.cond (.t 91) (.seq (.reg true [oC 0 2 3]) (.ret)) (.seq (.reg true [oE 0 94 .eql 90 11,oM 1 93 94]) (.cond (.t 93) (.seq (.reg true [oC 0 2 4]) (.ret)) (.skip))))
@[go_sem] theorem qyA:CE qS0.eq_1:=CEM qS0.eq_1
def qS1:ACode:=.cond (.t 49) (.seq (.seq (.reg true qZN) (.cond (.t 73) (.seq (.reg true [oC 0 2 3]) (.ret)) (.skip))) (.seq (.reg true qZO) (.cond (.t 81) (.seq (.reg true [oC 0 2 4]) (.ret)) (.skip)))) (.seq (.reg true [oE 0 83 .eql 6 10,oM 1 82 83]) (.cond (.t 82) (.seq (.reg true qZP) (.blk 3 qS0)) (.skip)))
@[go_sem] theorem qyB:CE qS1.eq_1:=CEM qS1.eq_1
def qS2:ACode:=.seq (.reg true [oE 0 21 .eql 6 3,oM 1 20 21]) (.cond (.t 20) (.seq (.seq (.reg true qZK) (.cond (.t 29) (.seq (.reg true [oC 0 2 4]) (.ret)) (.skip))) (.seq (.reg true qZL) (.cond (.t 37) (.seq (.reg true qZM) (.blk 2 qZH)) (.skip)))) (.seq (.reg true [oE 0 50 .eql 6 9,oM 1 49 50]) qS1))
@[go_sem] theorem qyC:CE qS2.eq_1:=CEM qS2.eq_1
def F760:AFun:=⟨1,95,[.t 2],.seq (.reg true [oC 0 2 0]) (.seq (.seq (.reg true qZI) (.blk 0 (.seq (.reg true [oE 0 8 .eql 6 5,oM 1 7 8]) (.cond (.t 7) (.seq (.reg true qZJ) (.blk 1 qZG)) qS2)))) (.seq (.reg true [oC 0 2 0]) (.ret)))⟩
def qM0:List AOper:=[oM 0 7 0,oK 1 8 7,oF 2 9 0 8,oL 3 10 9,oE 4 11 .eql 10 1]
@[go_sem] theorem qsA:OE qM0.eq_1:=OEM qM0.eq_1
def qM1:List AOper:=[oM 0 12 0,oK 1 13 12,oF 2 14 1 13,oL 3 15 14,oM 4 16 1,oB 5 17 .eql 15 16]
@[go_sem] theorem qsB:OE qM1.eq_1:=OEM qM1.eq_1
def qM2:List AOper:=[oM 0 18 6,oM 1 19 0,oK 2 20 19,oF 3 21 3 20,oL 4 22 21,oW 5 23 22,oB 6 24 .lss 18 23]
@[go_sem] theorem qsC:OE qM2.eq_1:=OEM qM2.eq_1
def qM3:List AOper:=[oM 0 27 5,oM 1 28 0,oK 2 29 28,oF 3 30 3 29,oL 4 31 30,oM 5 32 6,oA 6 33 4 31 32,oM 7 34 1,oM 8 35 0,oM 9 36 6,⟨10,some 37,none,.call 1129 [.t 35,.t 36],[⟨4,some 31,none,.load none (.t 30),[]⟩]⟩,oB 11 38 .add 34 37,oD2 12 39 1121 33 38,oB 13 40 .add 27 39,oM 14 5 40]
@[go_sem] theorem qsD:OE qM3.eq_1:=OEM qM3.eq_1
def qMY:ACode:=.seq (.reg true [oC 0 6 0]) (.blk 0 (.loop (.seq (.seq (.reg true qM2) (.cond (.t 24) (.skip) (.exit 0))) (.seq (.blk 1 (.reg true qM3)) (.reg true [oM 0 25 6,oE 1 26 .add 25 1,oM 2 6 26])))))
@[go_sem] theorem qr8:CE qMY.eq_1:=CEM qMY.eq_1
def qMZ:ACode:=.seq (.seq (.reg true qM0) (.cond (.t 11) (.seq (.seq (.reg true qM1) (.cond (.t 17) (.seq (.reg true [oC 0 4 1]) (.ret)) (.skip))) (.seq (.reg true [oC 0 4 0]) (.ret))) (.skip))) (.seq (.reg true [oC 0 5 0]) (.seq qMY (.seq (.reg true [oM 0 41 5,oM 1 4 41]) (.ret))))
@[go_sem] theorem qr9:CE qMZ.eq_1:=CEM qMZ.eq_1
def qj8:AFun:=⟨2,42,[.t 4],.seq (.reg true [oC 0 4 0]) qMZ⟩
def qaD:List AOper:=[oM 0 9 0,oK 1 10 9,oF 2 11 0 10,oL 3 12 11,oM 4 13 0,oK 5 14 13,oF 6 15 1 14,oL 7 16 15,oM 8 17 0,oK 9 18 17,oF 10 19 2 18,oL 11 20 19,oZ 14 7,⟨12,some 21,none,.call 402 [.t 20],[⟨3,some 12,none,.load none (.t 11),[]⟩,⟨7,some 16,none,.load none (.t 15),[]⟩]⟩,oP 13 22 (.build (.agg [.int .i64 0,.int .i64 0,.nils,.nils]) [(0,1,.t 12),(1,1,.t 16),(2,1,.t 21)]),oS 15 7 0 4 22]
@[go_sem] theorem zCY:OE qaD.eq_1:=OEM qaD.eq_1
def qaE:List AOper:=[oM 0 23 0,oK 1 24 23,oF 2 25 0 24,oL 3 26 25,oE 4 27 .eql 26 1,oM 5 28 27,oH 6 29 28 true 0,oG 7 30 28 true (.nilchk (.t 29)),oG 8 31 28 true (.faddr 1 (.t 30)),oG 9 32 28 true (.load none (.t 31)),oH 10 33 28 true 2,oG 11 34 28 true (.bin .geq (.t 32) (.t 33)),oPf 12 35 28 34]
@[go_sem] theorem zCZ:OE qaE.eq_1:=OEM qaE.eq_1
def qaF:List AOper:=[oU 0 36 7,oX 1 37 7 1,oM 2 38 1,oB 3 39 .add 37 38,oU 4 40 7,oS 5 7 1 1 39]
@[go_sem] theorem zC0:OE qaF.eq_1:=OEM qaF.eq_1
def qaG:List AOper:=[oM 0 41 8,oM 1 42 0,oK 2 43 42,oF 3 44 3 43,oL 4 45 44,oW 5 46 45,oB 6 47 .lss 41 46]
@[go_sem] theorem zC1:OE qaG.eq_1:=OEM qaG.eq_1
def qaH:List AOper:=[oU 0 50 7,oX 1 51 7 3,oM 2 52 0,oK 3 53 52,oF 4 54 3 53,oL 5 55 54,oM 6 56 8,oA 7 57 4 55 56,oM 8 58 1,oM 9 59 2,oM 10 60 0,oM 11 61 8,⟨12,some 62,none,.call 1129 [.t 60,.t 61],[⟨5,some 55,none,.load none (.t 54),[]⟩]⟩,oB 13 63 .add 59 62,oP 14 64 (.call 766 [.t 57,.t 58,.t 63]),oP 15 65 (.bslice 4 (.agg [.int .i64 0,.int .i64 0,.nils,.nils]) 1 [(0,.t 64)]),oP 16 66 (.app 4 (.t 51) (.t 65)),oU 17 67 7,oS 18 7 3 1 66]
@[go_sem] theorem zC2:OE qaH.eq_1:=OEM qaH.eq_1
def qaC:ACode:=.seq (.reg true [oC 0 8 0]) (.blk 0 (.loop (.seq (.seq (.reg true qaG) (.cond (.t 47) (.skip) (.exit 0))) (.seq (.blk 1 (.reg true qaH)) (.reg true [oM 0 48 8,oE 1 49 .add 48 1,oM 2 8 49])))))
@[go_sem] theorem zCX:CE qaC.eq_1:=CEM qaC.eq_1
def F766:AFun:=⟨3,69,[.l 6 (some 4)],.seq (.reg true [oZ 0 6]) (.seq (.reg true qaD) (.seq (.seq (.reg true qaE) (.cond (.t 35) (.reg true qaF) (.skip))) (.seq qaC (.seq (.reg true [oY 0 68 7 0 4,oS 1 6 0 4 68]) (.ret)))))⟩
def qM5:List AOper:=[oM 0 10 0,oK 1 11 10,oF 2 12 0 11,oL 3 13 12,oE 4 14 .eql 13 1]
@[go_sem] theorem qsF:OE qM5.eq_1:=OEM qM5.eq_1
def qM6:List AOper:=[oM 0 15 0,oK 1 16 15,oF 2 17 1 16,oL 3 18 17,oM 4 19 2,oB 5 20 .eql 18 19]
@[go_sem] theorem qsG:OE qM6.eq_1:=OEM qM6.eq_1
def qM7:List AOper:=[oM 0 21 1,oM 1 22 2,oP 2 23 (.call 766 [.t 21,.t 22,.c (.int .i64 0)]),oS 3 6 0 4 23]
@[go_sem] theorem qsH:OE qM7.eq_1:=OEM qM7.eq_1
def qM8:List AOper:=[oM 0 24 0,oK 1 25 24,oF 2 26 1 25,oL 3 27 26,oP 4 28 (.build (.agg [.int .i64 0,.int .i64 0,.nils,.nils]) [(0,1,.c (.int .i64 1)),(1,1,.t 27)]),oZ 5 7,oS 6 7 0 4 28]
@[go_sem] theorem qsI:OE qM8.eq_1:=OEM qM8.eq_1
def qM9:List AOper:=[oM 0 29 0,oK 1 30 29,oF 2 31 1 30,oL 3 32 31,oM 4 33 2,oB 5 34 .gtr 32 33]
@[go_sem] theorem qsJ:OE qM9.eq_1:=OEM qM9.eq_1
def qNA:List AOper:=[oU 0 35 7,oX 1 36 7 1,oE 2 37 .sub 36 1,oU 3 38 7,oS 4 7 1 1 37]
@[go_sem] theorem qsK:OE qNA.eq_1:=OEM qNA.eq_1
def qM4:ACode:=.seq (.reg true qM5) (.cond (.t 14) (.seq (.seq (.reg true qM6) (.cond (.t 20) (.seq (.reg true qM7) (.ret)) (.skip))) (.seq (.reg true qM8) (.seq (.seq (.reg true qM9) (.cond (.t 34) (.reg true qNA) (.skip))) (.seq (.reg true [oY 0 39 7 0 4,oS 1 6 0 4 39]) (.ret))))) (.skip))
@[go_sem] theorem qsE:CE qM4.eq_1:=CEM qM4.eq_1
def qNB:List AOper:=[oM 0 40 0,oK 1 41 40,oF 2 42 0 41,oL 3 43 42,oM 4 44 0,oK 5 45 44,oF 6 46 1 45,oL 7 47 46,oM 8 48 0,oK 9 49 48,oF 10 50 2 49,oL 11 51 50,oZ 14 8,⟨12,some 52,none,.call 402 [.t 51],[⟨3,some 43,none,.load none (.t 42),[]⟩,⟨7,some 47,none,.load none (.t 46),[]⟩]⟩,oP 13 53 (.build (.agg [.int .i64 0,.int .i64 0,.nils,.nils]) [(0,1,.t 43),(1,1,.t 47),(2,1,.t 52)]),oS 15 8 0 4 53]
@[go_sem] theorem qsL:OE qNB.eq_1:=OEM qNB.eq_1
def qNC:List AOper:=[oM 0 54 9,oM 1 55 0,oK 2 56 55,oF 3 57 3 56,oL 4 58 57,oW 5 59 58,oB 6 60 .lss 54 59]
@[go_sem] theorem qsM:OE qNC.eq_1:=OEM qNC.eq_1
def qND:List AOper:=[oU 0 63 8,oX 1 64 8 3,oM 2 65 0,oK 3 66 65,oF 4 67 3 66,oL 5 68 67,oM 6 69 9,oA 7 70 4 68 69,oM 8 71 1,oM 9 72 2,oM 10 73 0,oM 11 74 9,⟨12,some 75,none,.call 1129 [.t 73,.t 74],[⟨5,some 68,none,.load none (.t 67),[]⟩]⟩,oB 13 76 .add 72 75,oP 14 77 (.call 1122 [.t 70,.t 71,.t 76]),oP 15 78 (.bslice 4 (.agg [.int .i64 0,.int .i64 0,.nils,.nils]) 1 [(0,.t 77)]),oP 16 79 (.app 4 (.t 64) (.t 78)),oU 17 80 8,oS 18 8 3 1 79]
@[go_sem] theorem qsN:OE qND.eq_1:=OEM qND.eq_1
def qH5:ACode:=.seq (.reg true [oC 0 9 0]) (.blk 0 (.loop (.seq (.seq (.reg true qNC) (.cond (.t 60) (.skip) (.exit 0))) (.seq (.blk 1 (.reg true qND)) (.reg true [oM 0 61 9,oE 1 62 .add 61 1,oM 2 9 62])))))
@[go_sem] theorem qnW:CE qH5.eq_1:=CEM qH5.eq_1
def qj9:AFun:=⟨3,82,[.l 6 (some 4)],.seq (.reg true [oZ 0 6]) (.seq qM4 (.seq (.reg true qNB) (.seq qH5 (.seq (.reg true [oY 0 81 8 0 4,oS 1 6 0 4 81]) (.ret)))))⟩
def qNI:List AOper:=[oM 0 5 0,oK 1 6 5,oF 2 7 0 6,oL 3 8 7,oE 4 9 .eql 8 1]
@[go_sem] theorem qsS:OE qNI.eq_1:=OEM qNI.eq_1
def qNJ:List AOper:=[oM 0 10 0,oK 1 11 10,oF 2 12 1 11,oL 3 13 12,oM 4 3 13]
@[go_sem] theorem qsT:OE qNJ.eq_1:=OEM qNJ.eq_1
def qNK:List AOper:=[oM 0 14 4,oM 1 15 0,oK 2 16 15,oF 3 17 3 16,oL 4 18 17,oW 5 19 18,oB 6 20 .lss 14 19]
@[go_sem] theorem qsU:OE qNK.eq_1:=OEM qNK.eq_1
def qNL:List AOper:=[oM 0 23 3,oM 1 24 0,oK 2 25 24,oF 3 26 3 25,oL 4 27 26,oM 5 28 4,oA 6 29 4 27 28,oD1 7 30 1124 29,oD2 8 31 856 23 30,oM 9 3 31]
@[go_sem] theorem qsV:OE qNL.eq_1:=OEM qNL.eq_1
def qNH:ACode:=.seq (.reg true [oC 0 4 0]) (.blk 0 (.loop (.seq (.seq (.reg true qNK) (.cond (.t 20) (.skip) (.exit 0))) (.seq (.blk 1 (.reg true qNL)) (.reg true [oM 0 21 4,oE 1 22 .add 21 1,oM 2 4 22])))))
@[go_sem] theorem qsR:CE qNH.eq_1:=CEM qNH.eq_1
def qkB:AFun:=⟨1,33,[.t 2],.seq (.reg true [oC 0 2 0]) (.seq (.reg true [oP 0 3 (.mov (.c (.int .i64 (-1))))]) (.seq (.seq (.reg true qNI) (.cond (.t 9) (.reg true qNJ) (.skip))) (.seq qNH (.seq (.reg true [oM 0 32 3,oM 1 2 32]) (.ret)))))⟩
def qZS:List AOper:=[oM 0 10 0,oP 1 11 (.call 643 [.t 10,.c (.int .i64 80),.c (.int .i64 400)]),oM 2 12 6,oM 3 13 1,oP 4 14 (.call 643 [.t 13,.c (.int .i64 80),.c (.int .i64 400)]),oE 5 15 .sub 14 1,oB 6 16 .mul 12 15,oB 7 17 .add 11 16,oE 8 18 .gtr 17 400]
@[go_sem] theorem zCD:OE qZS.eq_1:=OEM qZS.eq_1
def qZT:List AOper:=[oM 0 20 0,oM 1 21 1,oP 2 22 (.call 1122 [.t 20,.t 21,.c (.int .i64 0)]),oP 3 7 (.halloc 4 (.agg [.int .i64 0,.int .i64 0,.nils,.nils])),oT 4 4 7 22]
@[go_sem] theorem zCE:OE qZT.eq_1:=OEM qZT.eq_1
def qZQ:ACode:=.seq (.seq (.reg true [oD1 0 26 1124 7,oE 1 27 .gtr 26 255]) (.cond (.t 27) (.seq (.reg true [oP 0 28 (.build (.agg [.int .i64 0,.int .i64 0,.nils,.nils]) []),oS 1 4 0 4 28,oC 2 5 2]) (.ret)) (.skip))) (.seq (.reg true [oP 0 29 (.load (some 4) (.t 7)),oS 1 4 0 4 29,oC 2 5 0]) (.ret))
@[go_sem] theorem zCB:CE qZQ.eq_1:=CEM qZQ.eq_1
def qZR:ACode:=.seq (.seq (.reg true qZS) (.cond (.t 18) (.seq (.reg true [oP 0 19 (.build (.agg [.int .i64 0,.int .i64 0,.nils,.nils]) []),oS 1 4 0 4 19,oC 2 5 4]) (.ret)) (.skip))) (.seq (.reg true qZT) (.seq (.seq (.reg true [oD1 0 23 1123 7,oE 1 24 .gtr 23 80]) (.cond (.t 24) (.seq (.reg true [oP 0 25 (.build (.agg [.int .i64 0,.int .i64 0,.nils,.nils]) []),oS 1 4 0 4 25,oC 2 5 4]) (.ret)) (.skip))) qZQ))
@[go_sem] theorem zCC:CE qZR.eq_1:=CEM qZR.eq_1
def F761:AFun:=⟨2,30,[.l 4 (some 4),.t 5],.seq (.reg true [oZ 0 4,oC 1 5 0]) (.seq (.reg true [oM 0 8 0,oP 1 9 (.call 1121 [.t 8,.c (.int .i64 0)]),oM 2 6 9]) qZR)⟩
def qNM:List AOper:=[oM 0 3 0,oP 1 4 (.conv .u64 (.t 3)),oP 2 5 (.conv .u32 (.t 4)),oP 3 6 (.conv .i32 (.t 5)),oP 4 7 (.conv .i64 (.t 6)),oM 5 2 7]
@[go_sem] theorem qsW:OE qNM.eq_1:=OEM qNM.eq_1
def qkC:AFun:=⟨1,8,[.t 2],.seq (.reg true [oC 0 2 0]) (.seq (.reg true qNM) (.ret))⟩
def qkD:AFun:=⟨1,4,[.t 2],.seq (.reg true [oC 0 2 0]) (.seq (.seq (.reg true [oM 0 3 0]) (.cond (.t 3) (.seq (.reg true [oC 0 2 1]) (.ret)) (.skip))) (.seq (.reg true [oC 0 2 0]) (.ret)))⟩
def qZX:List AOper:=[oM 0 16 7,oM 1 17 8,oB 2 18 .add 16 17,oD1 3 19 1125 18,oM 4 6 19]
@[go_sem] theorem zCI:OE qZX.eq_1:=OEM qZX.eq_1
def qZY:List AOper:=[oM 0 22 7,oM 1 23 8,oB 2 24 .sub 22 23,oD1 3 25 1125 24,oM 4 6 25]
@[go_sem] theorem zCJ:OE qZY.eq_1:=OEM qZY.eq_1
def qZZ:List AOper:=[oM 0 28 7,oM 1 29 8,oB 2 30 .mul 28 29,oD1 3 31 1125 30,oM 4 6 31]
@[go_sem] theorem zCK:OE qZZ.eq_1:=OEM qZZ.eq_1
def qZ0:List AOper:=[oM 0 36 7,oM 1 37 8,oB 2 38 .quo 36 37,oD1 3 39 1125 38,oM 4 6 39]
@[go_sem] theorem zCL:OE qZ0.eq_1:=OEM qZ0.eq_1
def qZ1:List AOper:=[oM 0 42 7,oM 1 43 8,oB 2 44 .lss 42 43,oD1 3 45 1126 44,oM 4 6 45]
@[go_sem] theorem zCM:OE qZ1.eq_1:=OEM qZ1.eq_1
def qZ2:List AOper:=[oM 0 48 7,oM 1 49 8,oB 2 50 .eql 48 49,oD1 3 51 1126 50,oM 4 6 51]
@[go_sem] theorem zCN:OE qZ2.eq_1:=OEM qZ2.eq_1
def qZU:ACode:=.cond (.t 32) (.seq (.seq (.reg true [oM 0 34 8,oE 1 35 .eql 34 0]) (.cond (.t 35) (.seq (.reg true [oC 0 6 0]) (.ret)) (.skip))) (.seq (.reg true qZ0) (.ret))) (.seq (.reg true [oE 0 41 .eql 13 5,oM 1 40 41]) (.cond (.t 40) (.seq (.reg true qZ1) (.ret)) (.seq (.reg true [oE 0 47 .eql 13 6,oM 1 46 47]) (.cond (.t 46) (.seq (.reg true qZ2) (.ret)) (.skip)))))
@[go_sem] theorem zCF:CE qZU.eq_1:=CEM qZU.eq_1
def qZV:ACode:=.seq (.reg true [oE 0 21 .eql 13 2,oM 1 20 21]) (.cond (.t 20) (.seq (.reg true qZY) (.ret)) (.seq (.reg true [oE 0 27 .eql 13 3,oM 1 26 27]) (.cond (.t 26) (.seq (.reg true qZZ) (.ret)) (.seq (.reg true [oE 0 33 .eql 13 4,oM 1 32 33]) qZU))))
@[go_sem] theorem zCG:CE qZV.eq_1:=CEM qZV.eq_1
def qZW:ACode:=.seq (.reg true [oM 0 11 2,oD1 1 12 1125 11,oM 2 8 12]) (.seq (.seq (.reg true [oM 0 13 0]) (.blk 0 (.seq (.reg true [oE 0 15 .eql 13 1,oM 1 14 15]) (.cond (.t 14) (.seq (.reg true qZX) (.ret)) qZV)))) (.seq (.reg true [oC 0 6 0]) (.ret)))
@[go_sem] theorem zCH:CE qZW.eq_1:=CEM qZW.eq_1
def F762:AFun:=⟨3,52,[.t 6],.seq (.reg true [oC 0 6 0]) (.seq (.reg true [oM 0 9 1,oD1 1 10 1125 9,oM 2 7 10]) qZW)⟩
def qWG:List AOper:=[oM 0 7 0,oM 1 8 1,oM 2 9 2,oP 3 10 (.build (.agg [.int .i64 0,.int .i64 0,.nils,.nils]) [(0,1,.t 7),(1,1,.t 8),(3,1,.t 9)]),oS 4 6 0 4 10]
@[go_sem] theorem qy1:OE qWG.eq_1:=OEM qWG.eq_1
def F382:AFun:=⟨3,11,[.l 6 (some 4)],.seq (.reg true [oZ 0 6]) (.seq (.reg true qWG) (.ret))⟩
def qMJ:List AOper:=[oY 0 5 2 0 4,oY 1 6 3 0 4,oP 2 7 (.bslice 4 (.agg [.int .i64 0,.int .i64 0,.nils,.nils]) 2 [(0,.t 5),(1,.t 6)]),oP 3 8 (.call 382 [.c (.int .i64 5),.c (.int .i64 0),.t 7]),oS 4 4 0 4 8]
@[go_sem] theorem qrT:OE qMJ.eq_1:=OEM qMJ.eq_1
def qj4:AFun:=⟨2,9,[.l 4 (some 4)],.seq (.reg true [oP 0 2 (.lbox 4 (.t 0)),oP 1 3 (.lbox 4 (.t 1)),oZ 2 4]) (.seq (.reg true qMJ) (.ret))⟩
def qkE:AFun:=⟨1,5,[.l 2 (some 4)],.seq (.reg true [oZ 0 2]) (.seq (.reg true [oM 0 3 0,oP 1 4 (.build (.agg [.int .i64 0,.int .i64 0,.nils,.nils]) [(0,1,.c (.int .i64 11)),(1,1,.t 3)]),oS 2 2 0 4 4]) (.ret))⟩
def qZ4:List AOper:=[oM 0 7 0,oK 1 8 7,oF 2 9 0 8,oL 3 10 9,oE 4 11 .eql 10 10]
@[go_sem] theorem zCP:OE qZ4.eq_1:=OEM qZ4.eq_1
def qZ5:List AOper:=[oM 0 12 0,oK 1 13 12,oF 2 14 3 13,oL 3 15 14,oP 4 16 (.iaddr 4 (.t 15) (.c (.int .i64 0))),oF 5 17 1 16,oL 6 18 17,oE 7 19 .neq 18 0]
@[go_sem] theorem zCQ:OE qZ5.eq_1:=OEM qZ5.eq_1
def qZ6:List AOper:=[oM 0 20 0,oK 1 21 20,oF 2 22 2 21,oL 3 23 22,oP 4 24 (.iaddr 1 (.t 23) (.c (.int .i64 0))),oL 5 25 24,oD1 6 26 1127 25,oS 7 4 0 4 26]
@[go_sem] theorem zCR:OE qZ6.eq_1:=OEM qZ6.eq_1
def qZ7:List AOper:=[oM 0 27 0,oK 1 28 27,oF 2 29 2 28,oL 3 30 29,oP 4 31 (.iaddr 1 (.t 30) (.c (.int .i64 1))),oL 5 32 31,oD1 6 33 1127 32,oS 7 4 0 4 33]
@[go_sem] theorem zCS:OE qZ7.eq_1:=OEM qZ7.eq_1
def qZ8:List AOper:=[oM 0 34 0,oK 1 35 34,oF 2 36 2 35,oL 3 37 36,oM 4 38 0,oK 5 39 38,oF 6 40 3 39,oL 7 41 40,oP 8 42 (.iaddr 4 (.t 41) (.c (.int .i64 0))),oF 9 43 1 42,oL 10 44 43,oA 11 45 1 37 44,oL 12 46 45,oZ 14 5,oD1 13 47 1127 46,oS 15 5 0 4 47]
@[go_sem] theorem zCT:OE qZ8.eq_1:=OEM qZ8.eq_1
def qZ9:List AOper:=[oM 0 48 6,oM 1 49 1,oW 2 50 49,oB 3 51 .lss 48 50]
@[go_sem] theorem zCU:OE qZ9.eq_1:=OEM qZ9.eq_1
def qaA:List AOper:=[oY 0 54 5 0 4,oM 1 55 1,oM 2 56 6,oA 3 57 4 55 56,oP 4 58 (.load (some 4) (.t 57)),oD2 5 59 1117 54 58,oS 6 5 0 4 59]
@[go_sem] theorem zCV:OE qaA.eq_1:=OEM qaA.eq_1
def qZ3:ACode:=.seq (.reg true [oC 0 6 0]) (.blk 0 (.loop (.seq (.seq (.reg true qZ9) (.cond (.t 51) (.skip) (.exit 0))) (.seq (.blk 1 (.reg true qaA)) (.reg true [oM 0 52 6,oE 1 53 .add 52 1,oM 2 6 53])))))
@[go_sem] theorem zCO:CE qZ3.eq_1:=CEM qZ3.eq_1
def F763:AFun:=⟨2,61,[.l 4 (some 4)],.seq (.reg true [oZ 0 4]) (.seq (.seq (.reg true qZ4) (.cond (.t 11) (.seq (.seq (.reg true qZ5) (.cond (.t 19) (.seq (.reg true qZ6) (.ret)) (.skip))) (.seq (.reg true qZ7) (.ret))) (.skip))) (.seq (.reg true qZ8) (.seq qZ3 (.seq (.reg true [oY 0 60 5 0 4,oS 1 4 0 4 60]) (.ret)))))⟩
def qSL:List AOper:=[oM 0 5 4,oM 1 6 0,oK 2 7 6,oF 3 8 3 7,oL 4 9 8,oW 5 10 9,oB 6 11 .lss 5 10]
@[go_sem] theorem qxV:OE qSL.eq_1:=OEM qSL.eq_1
def qSM:List AOper:=[oM 0 14 3,oM 1 15 0,oK 2 16 15,oF 3 17 3 16,oL 4 18 17,oM 5 19 4,oA 6 20 4 18 19,oD1 7 21 1504 20,oB 8 22 .add 14 21,oM 9 3 22]
@[go_sem] theorem qxW:OE qSM.eq_1:=OEM qSM.eq_1
def qSK:ACode:=.seq (.reg true [oC 0 4 0]) (.blk 0 (.loop (.seq (.seq (.reg true qSL) (.cond (.t 11) (.skip) (.exit 0))) (.seq (.blk 1 (.reg true qSM)) (.reg true [oM 0 12 4,oE 1 13 .add 12 1,oM 2 4 13])))))
@[go_sem] theorem qxU:CE qSK.eq_1:=CEM qSK.eq_1
def qlI:AFun:=⟨1,24,[.t 2],.seq (.reg true [oC 0 2 0]) (.seq (.reg true [oC 0 3 1]) (.seq qSK (.seq (.reg true [oM 0 23 3,oM 1 2 23]) (.ret))))⟩
def qSP:List AOper:=[oM 0 5 4,oM 1 6 0,oK 2 7 6,oF 3 8 3 7,oL 4 9 8,oW 5 10 9,oB 6 11 .lss 5 10]
@[go_sem] theorem qxZ:OE qSP.eq_1:=OEM qSP.eq_1
def qSQ:List AOper:=[oM 0 14 3,oM 1 15 0,oK 2 16 15,oF 3 17 3 16,oL 4 18 17,oM 5 19 4,oA 6 20 4 18 19,oD1 7 21 1505 20,oD2 8 22 856 14 21,oM 9 3 22]
@[go_sem] theorem qx0:OE qSQ.eq_1:=OEM qSQ.eq_1
def qSN:ACode:=.seq (.reg true [oC 0 4 0]) (.blk 0 (.loop (.seq (.seq (.reg true qSP) (.cond (.t 11) (.skip) (.exit 0))) (.seq (.blk 1 (.reg true qSQ)) (.reg true [oM 0 12 4,oE 1 13 .add 12 1,oM 2 4 13])))))
@[go_sem] theorem qxX:CE qSN.eq_1:=CEM qSN.eq_1
def qSR:List AOper:=[oM 0 23 0,oK 1 24 23,oF 2 25 0 24,oL 3 26 25,oE 4 27 .eql 26 6]
@[go_sem] theorem qx1:OE qSR.eq_1:=OEM qSR.eq_1
def qSO:ACode:=.seq (.reg true [oC 0 3 0]) (.seq qSN (.seq (.seq (.reg true qSR) (.cond (.t 27) (.reg true [oM 0 28 3,oE 1 29 .add 28 1,oM 2 3 29]) (.skip))) (.seq (.reg true [oM 0 30 3,oM 1 2 30]) (.ret))))
@[go_sem] theorem qxY:CE qSO.eq_1:=CEM qSO.eq_1
def qlJ:AFun:=⟨1,31,[.t 2],.seq (.reg true [oC 0 2 0]) qSO⟩
def qRQ:List AOper:=[oM 0 9 1,oK 1 10 9,oF 2 11 3 10,oL 3 12 11,oP 4 13 (.iaddr 4 (.t 12) (.c (.int .i64 0))),oF 5 14 0 13,oL 6 15 14,oE 7 16 .neq 15 11]
@[go_sem] theorem qw0:OE qRQ.eq_1:=OEM qRQ.eq_1
def qRR:List AOper:=[oM 0 17 1,oK 1 18 17,oF 2 19 3 18,oL 3 20 19,oP 4 21 (.iaddr 4 (.t 20) (.c (.int .i64 0))),oF 5 22 1 21,oL 6 23 22,oM 7 7 23]
@[go_sem] theorem qw1:OE qRR.eq_1:=OEM qRR.eq_1
def qRS:List AOper:=[oM 0 24 0,oK 1 25 24,oF 2 26 0 25,oL 3 27 26,oK 4 28 27,oF 5 29 0 28,oL 6 30 29,oM 7 31 7,oA 8 32 4 30 31,oM 9 8 32]
@[go_sem] theorem qw2:OE qRS.eq_1:=OEM qRS.eq_1
def qRT:List AOper:=[oM 0 33 8,oK 1 34 33,oF 2 35 0 34,oL 3 36 35,oE 4 37 .eql 36 4,oM 5 38 37,oH 6 39 38 true 0,oG 7 40 38 true (.nilchk (.t 39)),oG 8 41 38 true (.faddr 1 (.t 40)),oG 9 42 38 true (.load none (.t 41)),oH 10 43 38 true 7,oG 11 44 38 true (.call 1026 [.t 42,.t 43]),oG 12 45 38 true (.not (.t 44)),oPf 13 46 38 45,oM 14 47 46,oH 15 48 47 true 8,oH 17 50 47 true 0,oG 18 51 47 true (.nilchk (.t 50)),oG 19 52 47 true (.faddr 2 (.t 51)),oG 20 53 47 true (.load none (.t 52)),⟨16,some 49,(some (47,true)),.call 1504 [.t 48],[⟨20,some 53,(some (47,true)),.load none (.t 52),[]⟩]⟩,oG 21 54 47 true (.bin .leq (.t 49) (.t 53)),oPf 22 55 47 54,oM 23 56 55,oH 24 57 56 true 2,oH 25 58 56 true 8,oG 26 59 56 true (.call 1505 [.t 58]),oG 27 60 56 true (.bin .add (.t 57) (.t 59)),oG 28 61 56 true (.bin .leq (.t 60) (.c (.int .i64 8))),oPf 29 62 56 61,oM 30 6 62]
@[go_sem] theorem qw3:OE qRT.eq_1:=OEM qRT.eq_1
def qlA:AFun:=⟨3,63,[.t 6],.seq (.reg true [oQ 0 6 false]) (.seq (.seq (.reg true qRQ) (.cond (.t 16) (.seq (.reg true [oQ 0 6 false]) (.ret)) (.skip))) (.seq (.reg true qRR) (.seq (.reg true qRS) (.seq (.reg true qRT) (.ret)))))⟩
def qRU:List AOper:=[oM 0 10 1,oK 1 11 10,oF 2 12 3 11,oL 3 13 12,oP 4 14 (.iaddr 4 (.t 13) (.c (.int .i64 0))),oM 5 8 14]
@[go_sem] theorem qw4:OE qRU.eq_1:=OEM qRU.eq_1
def qRV:List AOper:=[oM 0 15 1,oK 1 16 15,oF 2 17 3 16,oL 3 18 17,oP 4 19 (.iaddr 4 (.t 18) (.c (.int .i64 1))),oM 5 20 2,oP 6 21 (.call 990 [.t 19,.c (.int .i64 0),.t 20,.c (.nils)]),oM 7 9 21]
@[go_sem] theorem qw5:OE qRV.eq_1:=OEM qRV.eq_1
def qRW:List AOper:=[oM 0 23 9,oW 1 24 23,oE 2 25 .eql 24 0,oM 3 26 25,oH 4 27 26 false 8,oG 5 28 26 false (.nilchk (.t 27)),oG 6 29 26 false (.faddr 0 (.t 28)),oG 7 30 26 false (.load none (.t 29)),oG 8 31 26 false (.bin .eql (.t 30) (.c (.int .i64 2))),oPt 9 32 26 31,oM 10 22 32]
@[go_sem] theorem qw6:OE qRW.eq_1:=OEM qRW.eq_1
def qRX:List AOper:=[oM 0 33 8,oK 1 34 33,oP 2 35 (.load (some 4) (.t 34)),oS 3 6 0 4 35,oC 4 7 0]
@[go_sem] theorem qw7:OE qRX.eq_1:=OEM qRX.eq_1
def qRY:List AOper:=[oM 0 37 8,oK 1 38 37,oF 2 39 0 38,oL 3 40 39,oE 4 41 .eql 40 6,oM 5 42 41,oH 6 43 42 true 8,oG 7 44 42 true (.nilchk (.t 43)),oG 8 45 42 true (.faddr 3 (.t 44)),oG 9 46 42 true (.load none (.t 45)),oG 10 47 42 true (.iaddr 4 (.t 46) (.c (.int .i64 0))),oG 11 48 42 true (.faddr 0 (.t 47)),oG 12 49 42 true (.load none (.t 48)),oG 13 50 42 true (.bin .eql (.t 49) (.c (.int .i64 2))),oPf 14 51 42 50,oM 15 36 51]
@[go_sem] theorem qw8:OE qRY.eq_1:=OEM qRY.eq_1
def qRZ:List AOper:=[oM 0 52 8,oK 1 53 52,oF 2 54 3 53,oL 3 55 54,oP 4 56 (.iaddr 4 (.t 55) (.c (.int .i64 0))),oP 5 57 (.load (some 4) (.t 56)),oS 6 6 0 4 57,oC 7 7 0]
@[go_sem] theorem qw9:OE qRZ.eq_1:=OEM qRZ.eq_1
def qR0:List AOper:=[oM 0 59 9,oW 1 60 59,oE 2 61 .eql 60 1,oM 3 62 61,oH 4 63 62 true 9,oG 5 64 62 true (.iaddr 1 (.t 63) (.c (.int .i64 0))),oG 6 65 62 true (.load none (.t 64)),oH 7 66 62 true 2,oG 8 67 62 true (.bin .eql (.t 65) (.t 66)),oPf 9 68 62 67,oM 10 58 68]
@[go_sem] theorem qxA:OE qR0.eq_1:=OEM qR0.eq_1
def qR1:List AOper:=[oM 0 69 8,oK 1 70 69,oP 2 71 (.load (some 4) (.t 70)),oS 3 6 0 4 71,oC 4 7 0]
@[go_sem] theorem qxB:OE qR1.eq_1:=OEM qR1.eq_1
def qR2:List AOper:=[oM 0 73 9,oW 1 74 73,oE 2 75 .eql 74 1,oM 3 76 75,oH 4 77 76 true 8,oG 5 78 76 true (.nilchk (.t 77)),oG 6 79 76 true (.faddr 0 (.t 78)),oG 7 80 76 true (.load none (.t 79)),oG 8 81 76 true (.bin .eql (.t 80) (.c (.int .i64 6))),oPf 9 82 76 81,oM 10 72 82]
@[go_sem] theorem qxC:OE qR2.eq_1:=OEM qR2.eq_1
def qR3:List AOper:=[oM 0 83 8,oK 1 84 83,oF 2 85 3 84,oL 3 86 85,oP 4 87 (.iaddr 4 (.t 86) (.c (.int .i64 0))),oP 5 88 (.load (some 4) (.t 87)),oS 6 6 0 4 88,oC 7 7 0]
@[go_sem] theorem qxD:OE qR3.eq_1:=OEM qR3.eq_1
def qIZ:ACode:=.seq (.blk 0 (.seq (.reg true qRW) (.cond (.t 22) (.seq (.reg true qRX) (.ret)) (.seq (.reg true qRY) (.cond (.t 36) (.seq (.reg true qRZ) (.ret)) (.seq (.reg true qR0) (.cond (.t 58) (.seq (.reg true qR1) (.ret)) (.seq (.reg true qR2) (.cond (.t 72) (.seq (.reg true qR3) (.ret)) (.skip)))))))))) (.seq (.reg true [oP 0 89 (.build (.agg [.int .i64 0,.int .i64 0,.nils,.nils]) []),oS 1 6 0 4 89,oC 2 7 3]) (.ret))
@[go_sem] theorem qoQ:CE qIZ.eq_1:=CEM qIZ.eq_1
def qlB:AFun:=⟨3,90,[.l 6 (some 4),.t 7],.seq (.reg true [oZ 0 6,oC 1 7 0]) (.seq (.reg true qRU) (.seq (.reg true qRV) qIZ))⟩
def qN4:List AOper:=[oM 0 15 1,oK 1 16 15,oF 2 17 0 16,oL 3 18 17]
@[go_sem] theorem qtE:OE qN4.eq_1:=OEM qN4.eq_1
def qN5:List AOper:=[oM 0 21 1,oK 1 22 21,oF 2 23 3 22,oL 3 24 23,oP 4 25 (.iaddr 4 (.t 24) (.c (.int .i64 0))),oF 5 26 0 25,oL 6 27 26,oE 7 28 .eql 27 2,oM 8 29 28,oH 9 30 29 true 1,oG 10 31 29 true (.nilchk (.t 30)),oG 11 32 29 true (.faddr 3 (.t 31)),oG 12 33 29 true (.load none (.t 32)),oG 13 34 29 true (.iaddr 4 (.t 33) (.c (.int .i64 1))),oG 14 35 29 true (.faddr 0 (.t 34)),oG 15 36 29 true (.load none (.t 35)),oG 16 37 29 true (.bin .eql (.t 36) (.c (.int .i64 2))),oPf 17 38 29 37]
@[go_sem] theorem qtF:OE qN5.eq_1:=OEM qN5.eq_1
def qN6:List AOper:=[oM 0 39 1,oK 1 40 39,oF 2 41 1 40,oL 3 42 41,oM 4 43 1,oK 5 44 43,oF 6 45 3 44,oL 7 46 45,oP 8 47 (.iaddr 4 (.t 46) (.c (.int .i64 0))),oF 9 48 1 47,oL 10 49 48,oM 11 50 1,oK 12 51 50,oF 13 52 3 51,oL 14 53 52,oP 15 54 (.iaddr 4 (.t 53) (.c (.int .i64 1))),oF 16 55 1 54,oL 17 56 55,oP 18 57 (.call 762 [.t 42,.t 49,.t 56]),oD1 19 58 381 57,oS 20 6 0 4 58,oC 21 7 1,oC 22 8 0]
@[go_sem] theorem qtG:OE qN6.eq_1:=OEM qN6.eq_1
def qN7:List AOper:=[oM 0 65 1,oM 1 66 1,oK 2 67 66,oF 3 68 3 67,oL 4 69 68,oP 5 70 (.iaddr 4 (.t 69) (.c (.int .i64 0))),oF 6 71 3 70,oL 7 72 71,oD2 8 73 763 65 72,oS 9 6 0 4 73,oC 10 7 2,oC 11 8 0]
@[go_sem] theorem qtH:OE qN7.eq_1:=OEM qN7.eq_1
def qN8:List AOper:=[oM 0 76 1,oK 1 77 76,oF 2 78 3 77,oL 3 79 78,oP 4 80 (.iaddr 4 (.t 79) (.c (.int .i64 0))),oF 5 81 0 80,oL 6 82 81,oE 7 83 .eql 82 4]
@[go_sem] theorem qtI:OE qN8.eq_1:=OEM qN8.eq_1
def qN9:List AOper:=[oM 0 85 1,oK 1 86 85,oF 2 87 3 86,oL 3 88 87,oP 4 89 (.iaddr 4 (.t 88) (.c (.int .i64 0))),oF 5 90 3 89,oL 6 91 90,oP 7 92 (.iaddr 4 (.t 91) (.c (.int .i64 0))),oM 8 93 1,oK 9 94 93,oF 10 95 3 94,oL 11 96 95,oP 12 97 (.iaddr 4 (.t 96) (.c (.int .i64 1))),oZ 17 9,oD2 13 98 761 92 97,oM 14 84 98,oV 15 99 84 0,oV 16 100 84 1,oS 18 9 0 4 99,oM 19 10 100]
@[go_sem] theorem qtJ:OE qN9.eq_1:=OEM qN9.eq_1
def qOA:List AOper:=[oY 0 101 9 0 4,oM 1 102 10,oS 2 6 0 4 101,oC 3 7 3,oM 4 8 102]
@[go_sem] theorem qtK:OE qOA.eq_1:=OEM qOA.eq_1
def qOB:List AOper:=[oM 0 103 0,oM 1 104 1,oM 2 105 2,oP 3 106 (.call 1408 [.t 103,.t 104,.t 105])]
@[go_sem] theorem qtL:OE qOB.eq_1:=OEM qOB.eq_1
def qOC:List AOper:=[oM 0 107 0,oK 1 108 107,oF 2 109 0 108,oL 3 110 109,oK 4 111 110,oF 5 112 0 111,oL 6 113 112,oM 7 114 1,oK 8 115 114,oF 9 116 3 115,oL 10 117 116,oP 11 118 (.iaddr 4 (.t 117) (.c (.int .i64 0))),oF 12 119 1 118,oL 13 120 119,oA 14 121 4 113 120,oP 15 122 (.load (some 4) (.t 121)),oM 16 123 1,oK 17 124 123,oF 18 125 3 124,oL 19 126 125,oP 20 127 (.iaddr 4 (.t 126) (.c (.int .i64 1))),oP 21 128 (.load (some 4) (.t 127)),oD2 22 129 1117 122 128,oS 23 6 0 4 129,oC 24 7 5,oC 25 8 0]
@[go_sem] theorem qtM:OE qOC.eq_1:=OEM qOC.eq_1
def qOD:List AOper:=[oM 0 133 0,oM 1 134 1,oM 2 135 2,oP 3 136 (.call 1409 [.t 133,.t 134,.t 135]),oM 4 132 136,oV 5 137 132 0,oV 6 138 132 1,oP 7 11 (.halloc 4 (.agg [.int .i64 0,.int .i64 0,.nils,.nils])),oT 8 4 11 137,oM 9 12 138]
@[go_sem] theorem qtN:OE qOD.eq_1:=OEM qOD.eq_1
def qIG:List AOper:=[oM 0 142 1,oK 1 143 142,oF 2 144 3 143,oL 3 145 144,oP 4 146 (.iaddr 4 (.t 145) (.c (.int .i64 1))),oD2 5 147 761 146 11,oM 6 141 147,oV 7 148 141 0,oV 8 149 141 1,oZ 9 13,oS 10 13 0 4 148,oM 11 14 149]
@[go_sem] theorem qn7:OE qIG.eq_1:=OEM qIG.eq_1
def qIH:List AOper:=[oY 0 150 13 0 4,oM 1 151 14,oS 2 6 0 4 150,oC 3 7 4,oM 4 8 151]
@[go_sem] theorem qn8:OE qIH.eq_1:=OEM qIH.eq_1
def qID:ACode:=.seq (.reg true [oE 0 131 .eql 18 7,oM 1 130 131]) (.cond (.t 130) (.seq (.reg true qOD) (.seq (.reg true [oM 0 139 12,oE 1 140 .eql 139 0]) (.cond (.t 140) (.seq (.reg true qIG) (.seq (.reg true qIH) (.ret))) (.skip)))) (.skip))
@[go_sem] theorem qn4:CE qID.eq_1:=CEM qID.eq_1
def qIE:ACode:=.cond (.t 59) (.seq (.reg true [oM 0 62 1,oD1 1 63 760 62,oE 2 64 .eql 63 3]) (.cond (.t 64) (.seq (.reg true qN7) (.ret)) (.skip))) (.seq (.reg true [oE 0 75 .eql 18 5,oM 1 74 75]) (.cond (.t 74) (.seq (.seq (.reg true qN8) (.cond (.t 83) (.seq (.reg true qN9) (.seq (.reg true qOA) (.ret))) (.skip))) (.seq (.reg true qOB) (.cond (.t 106) (.seq (.reg true qOC) (.ret)) (.skip)))) qID))
@[go_sem] theorem qn5:CE qIE.eq_1:=CEM qIE.eq_1
def qIF:ACode:=.seq (.reg true [oE 0 20 .eql 18 3,oM 1 19 20]) (.cond (.t 19) (.seq (.reg true qN5) (.cond (.t 38) (.seq (.reg true qN6) (.ret)) (.skip))) (.seq (.seq (.reg true [oE 0 60 .eql 18 10,oM 1 59 60]) (.cond (.t 59) (.skip) (.reg true [oE 0 61 .eql 18 9,oM 1 59 61]))) qIE))
@[go_sem] theorem qn6:CE qIF.eq_1:=CEM qIF.eq_1
def qII:List AOper:=[oP 0 152 (.build (.agg [.int .i64 0,.int .i64 0,.nils,.nils]) []),oS 1 6 0 4 152,oC 2 7 0,oC 3 8 0]
@[go_sem] theorem qn9:OE qII.eq_1:=OEM qII.eq_1
def qkJ:AFun:=⟨3,153,[.l 6 (some 4),.t 7,.t 8],.seq (.reg true [oZ 0 6,oC 1 7 0,oC 2 8 0]) (.seq (.seq (.reg true qN4) (.blk 0 qIF)) (.seq (.reg true qII) (.ret)))⟩
def qa8:List AOper:=[oM 0 18 0,oM 1 19 1,oM 2 20 2,oP 3 21 (.call 1163 [.t 18,.t 19,.t 20]),oM 4 17 21,oV 5 22 17 0,oV 6 23 17 1,oV 7 24 17 2,oZ 8 9,oS 9 9 0 4 22,oM 10 10 23,oM 11 11 24]
@[go_sem] theorem zDT:OE qa8.eq_1:=OEM qa8.eq_1
def qa9:List AOper:=[oY 0 27 9 0 4,oM 1 28 10,oM 2 29 11,oS 3 6 0 4 27,oM 4 7 28,oM 5 8 29]
@[go_sem] theorem zDU:OE qa9.eq_1:=OEM qa9.eq_1
def qbA:List AOper:=[oM 0 30 1,oK 1 31 30,oF 2 32 0 31,oL 3 33 32,oE 4 34 .eql 33 6]
@[go_sem] theorem zDV:OE qbA.eq_1:=OEM qbA.eq_1
def qbB:List AOper:=[oM 0 37 12,oM 1 38 1,oK 2 39 38,oF 3 40 3 39,oL 4 41 40,oW 5 42 41,oB 6 43 .lss 37 42]
@[go_sem] theorem zDW:OE qbB.eq_1:=OEM qbB.eq_1
def qbC:List AOper:=[oM 0 47 0,oM 1 48 1,oK 2 49 48,oF 3 50 3 49,oL 4 51 50,oM 5 52 12,oA 6 53 4 51 52,oM 7 54 2,oP 8 55 (.call 836 [.t 47,.t 53,.t 54]),oM 9 46 55,oV 10 56 46 0,oV 11 57 46 1,oV 12 58 46 2,oZ 13 13,oS 14 13 0 4 56,oM 15 14 57,oM 16 15 58]
@[go_sem] theorem zDX:OE qbC.eq_1:=OEM qbC.eq_1
def qbD:List AOper:=[oM 0 61 1,oK 1 62 61,oF 2 63 0 62,oL 3 64 63,oM 4 65 1,oK 5 66 65,oF 6 67 1 66,oL 7 68 67,oM 8 69 1,oK 9 70 69,oF 10 71 2 70,oL 11 72 71,oP 12 73 (.mov (.c (.lst 4 [] true))),oM 13 74 1,oK 14 75 74,oF 15 76 3 75,oL 16 77 76,oZ 19 16,⟨17,some 78,none,.app 4 (.t 73) (.t 77),[⟨3,some 64,none,.load none (.t 63),[]⟩,⟨7,some 68,none,.load none (.t 67),[]⟩,⟨11,some 72,none,.load none (.t 71),[]⟩]⟩,oP 18 79 (.build (.agg [.int .i64 0,.int .i64 0,.nils,.nils]) [(0,1,.t 64),(1,1,.t 68),(2,1,.t 72),(3,1,.t 78)]),oS 20 16 0 4 79]
@[go_sem] theorem zDY:OE qbD.eq_1:=OEM qbD.eq_1
def qbE:List AOper:=[oU 0 80 16,oX 1 81 16 3,oM 2 82 12,oY 3 83 13 0 4,oA 4 84 4 81 82,oT 5 4 84 83]
@[go_sem] theorem zDZ:OE qbE.eq_1:=OEM qbE.eq_1
def qbF:List AOper:=[oY 0 85 16 0 4,oM 1 86 14,oM 2 87 15,oS 3 6 0 4 85,oM 4 7 86,oM 5 8 87]
@[go_sem] theorem zD0:OE qbF.eq_1:=OEM qbF.eq_1
def qa7:ACode:=.seq (.blk 1 (.seq (.reg true qbC) (.seq (.seq (.reg true [oM 0 59 14,oE 1 60 .eql 59 0]) (.cond (.t 60) (.exit 1) (.skip))) (.seq (.reg true qbD) (.seq (.reg true qbE) (.seq (.reg true qbF) (.ret))))))) (.reg true [oM 0 44 12,oE 1 45 .add 44 1,oM 2 12 45])
@[go_sem] theorem zDS:CE qa7.eq_1:=CEM qa7.eq_1
def qbG:List AOper:=[oP 0 88 (.build (.agg [.int .i64 0,.int .i64 0,.nils,.nils]) []),oS 1 6 0 4 88,oC 2 7 0,oC 3 8 0]
@[go_sem] theorem zD1:OE qbG.eq_1:=OEM qbG.eq_1
def qS4:ACode:=.seq (.seq (.reg true qbA) (.cond (.t 34) (.reg true [oM 0 35 2,oE 1 36 .add 35 1,oM 2 2 36]) (.skip))) (.seq (.seq (.reg true [oC 0 12 0]) (.blk 0 (.loop (.seq (.seq (.reg true qbB) (.cond (.t 43) (.skip) (.exit 0))) qa7)))) (.seq (.reg true qbG) (.ret)))
@[go_sem] theorem qyE:CE qS4.eq_1:=CEM qS4.eq_1
def F836:AFun:=⟨3,89,[.l 6 (some 4),.t 7,.t 8],.seq (.reg true [oZ 0 6,oC 1 7 0,oC 2 8 0]) (.seq (.reg true qa8) (.seq (.seq (.reg true [oM 0 25 10,oE 1 26 .neq 25 0]) (.cond (.t 26) (.seq (.reg true qa9) (.ret)) (.skip))) qS4))⟩
def qWW:List AOper:=[oM 0 11 0,oM 1 12 1,oP 2 13 (.call 836 [.t 11,.t 12,.c (.int .i64 0)]),oM 3 10 13,oV 4 14 10 0,oV 5 15 10 1,oV 6 16 10 2,oP 7 7 (.halloc 4 (.agg [.int .i64 0,.int .i64 0,.nils,.nils])),oT 8 4 7 14,oM 9 8 15,oM 10 9 16]
@[go_sem] theorem qzH:OE qWW.eq_1:=OEM qWW.eq_1
def qWX:List AOper:=[oM 0 17 8,oE 1 18 .neq 17 0,oM 2 19 18,oH 3 20 19 true 9,oG 4 21 19 true (.bin .eql (.t 20) (.c (.int .i64 0))),oPf 5 22 19 21,oM 6 23 22,oG 7 24 23 true (.call 765 [.t 7]),oG 8 25 23 true (.not (.t 24)),oPf 9 26 23 25]
@[go_sem] theorem qzI:OE qWX.eq_1:=OEM qWX.eq_1
def qWY:List AOper:=[oP 0 27 (.load (some 4) (.t 7)),oM 1 28 8,oM 2 29 9,oS 3 4 0 4 27,oM 4 5 28,oM 5 6 29]
@[go_sem] theorem qzJ:OE qWY.eq_1:=OEM qWY.eq_1
def F481:AFun:=⟨2,30,[.l 4 (some 4),.t 5,.t 6],.seq (.reg true [oZ 0 4,oC 1 5 0,oC 2 6 0]) (.seq (.reg true qWW) (.seq (.seq (.reg true qWX) (.cond (.t 26) (.reg true [oC 0 9 4]) (.skip))) (.seq (.reg true qWY) (.ret))))⟩
def qV3:List AOper:=[oM 0 14 2,oD2 1 15 480 3 14,oD2 2 16 481 15 4,oM 3 13 16,oV 4 17 13 0,oV 5 18 13 1,oV 6 19 13 2,oZ 7 7,oS 8 7 0 4 17,oM 9 8 18,oM 10 9 19]
@[go_sem] theorem qyO:OE qV3.eq_1:=OEM qV3.eq_1
def qV2:ACode:=.seq (.seq (.reg true [oM 0 10 2,oP 1 11 (.call 479 [.t 3,.t 4,.t 10,.c (.int .i64 0)]),oE 2 12 .neq 11 0]) (.cond (.t 12) (.seq (.reg true [oQ 0 6 false]) (.ret)) (.skip))) (.seq (.reg true qV3) (.seq (.reg true [oM 0 20 8,oE 1 21 .eql 20 0,oM 2 6 21]) (.ret)))
@[go_sem] theorem qyN:CE qV2.eq_1:=CEM qV2.eq_1
def F161:AFun:=⟨3,22,[.t 6],.seq (.reg true [oP 0 3 (.hbox 1 (.t 0)),oP 1 4 (.hbox 4 (.t 1)),oQ 2 6 false]) qV2⟩
def qWO:List AOper:=[oP 0 5 (.mov (.c (.lst 1 [] true))),oM 1 6 0,oP 2 7 (.app 1 (.t 5) (.t 6)),oM 3 2 7]
@[go_sem] theorem qy9:OE qWO.eq_1:=OEM qWO.eq_1
def F401:AFun:=⟨1,8,[.t 2],.seq (.reg true [oP 0 2 (.mov (.c (.nils)))]) (.seq (.seq (.reg true [oM 0 3 0,oP 1 4 (.isnil 1 false (.t 3))]) (.cond (.t 4) (.seq (.reg true [oP 0 2 (.mov (.c (.nils)))]) (.ret)) (.skip))) (.seq (.reg true qWO) (.ret)))⟩
def qWI:List AOper:=[oU 0 6 1,oX 1 7 1 0,oU 2 8 1,oX 3 9 1 1,oU 4 10 1,oX 5 11 1 2,oZ 8 3,oD1 6 12 401 11,oP 7 13 (.build (.agg [.int .i64 0,.int .i64 0,.nils,.nils]) [(0,1,.t 7),(1,1,.t 9),(2,1,.t 12)]),oS 9 3 0 4 13]
@[go_sem] theorem qy3:OE qWI.eq_1:=OEM qWI.eq_1
def qWJ:List AOper:=[oU 0 14 1,oX 1 15 1 3,oW 2 16 15,oC 3 17 0]
@[go_sem] theorem qy4:OE qWJ.eq_1:=OEM qWJ.eq_1
def qWK:List AOper:=[oA 0 19 4 15 17,oP 1 20 (.load (some 4) (.t 19)),oZ 2 5,oS 3 5 0 4 20]
@[go_sem] theorem qy5:OE qWK.eq_1:=OEM qWK.eq_1
def qWL:List AOper:=[oU 0 21 3,oX 1 22 3 3,oY 2 23 5 0 4,oD1 3 24 385 23,oP 4 25 (.bslice 4 (.agg [.int .i64 0,.int .i64 0,.nils,.nils]) 1 [(0,.t 24)]),oP 5 26 (.app 4 (.t 22) (.t 25)),oU 6 27 3,oS 7 3 3 1 26]
@[go_sem] theorem qy6:OE qWL.eq_1:=OEM qWL.eq_1
def qWH:ACode:=.loop (.seq (.reg true [oB 0 18 .lss 17 16]) (.seq (.cond (.t 18) (.skip) (.exit 0)) (.seq (.blk 1 (.seq (.reg true qWK) (.reg true qWL))) (.reg true [oE 0 28 .add 17 1,oM 1 17 28]))))
@[go_sem] theorem qy2:CE qWH.eq_1:=CEM qWH.eq_1
def F385:AFun:=⟨1,30,[.l 2 (some 4)],.seq (.reg true [oP 0 1 (.lbox 4 (.t 0)),oZ 1 2]) (.seq (.reg true qWI) (.seq (.seq (.reg true qWJ) (.blk 0 qWH)) (.seq (.reg true [oY 0 29 3 0 4,oS 1 2 0 4 29]) (.ret))))⟩
def F774:AFun:=idxF 1 none
def F397:AFun:=ctnF 774
def qaT:List AOper:=[oM 0 4 0,oE 1 5 .lss 4 0,oM 2 6 5,oH 3 7 6 false 0,oG 4 8 6 false (.load none (.t 1)),oG 5 9 6 false (.bin .gtr (.t 7) (.t 8)),oPt 6 10 6 9,oM 7 3 10]
@[go_sem] theorem zDE:OE qaT.eq_1:=OEM qaT.eq_1
def F801:AFun:=⟨2,11,[.t 3],.seq (.reg true [oQ 0 3 false]) (.seq (.reg true qaT) (.ret))⟩
def qWQ:List AOper:=[oM 0 5 1,oP 1 6 (.mkfn 801 [.t 2]),oD2 2 7 397 5 6,oJ 3 8 7,oM 4 4 8]
@[go_sem] theorem qzB:OE qWQ.eq_1:=OEM qWQ.eq_1
def F436:AFun:=⟨2,9,[.t 4],.seq (.reg true [oP 0 2 (.hbox 1 (.t 0)),oQ 1 4 false]) (.seq (.reg true qWQ) (.ret))⟩
def F958:AFun:=idxF 4 (some 4)
def F581:AFun:=ctnF 958
def qYJ:List AOper:=[oU 0 8 1,oX 1 9 1 3,oW 2 10 9,oC 3 11 0]
@[go_sem] theorem zA4:OE qYJ.eq_1:=OEM qYJ.eq_1
def qYK:List AOper:=[oA 0 13 4 9 11,oP 1 14 (.load (some 4) (.t 13)),oZ 2 5,oS 3 5 0 4 14]
@[go_sem] theorem zA5:OE qYK.eq_1:=OEM qYK.eq_1
def qYL:List AOper:=[oY 0 16 5 0 4,oD1 1 17 665 16,oM 2 15 17,oV 3 18 15 0,oV 4 19 15 1,oM 5 6 18,oM 6 7 19]
@[go_sem] theorem zA6:OE qYL.eq_1:=OEM qYL.eq_1
def qYM:List AOper:=[oM 0 20 2,oM 1 21 6,oE 2 22 .add 21 1,oP 3 23 (.max (.t 20) (.t 22)),oM 4 24 3,oM 5 25 7,oB 6 26 .add 24 25,oM 7 2 23,oM 8 3 26]
@[go_sem] theorem zA7:OE qYM.eq_1:=OEM qYM.eq_1
def qYI:ACode:=.loop (.seq (.reg true [oB 0 12 .lss 11 10]) (.seq (.cond (.t 12) (.skip) (.exit 0)) (.seq (.blk 1 (.seq (.reg true qYK) (.seq (.reg true qYL) (.reg true qYM)))) (.reg true [oE 0 27 .add 11 1,oM 1 11 27]))))
@[go_sem] theorem zA3:CE qYI.eq_1:=CEM qYI.eq_1
def qYN:List AOper:=[oM 0 28 2,oM 1 29 3,oM 2 2 28,oM 3 3 29]
@[go_sem] theorem zA8:OE qYN.eq_1:=OEM qYN.eq_1
def F665:AFun:=⟨1,30,[.t 2,.t 3],.seq (.reg true [oP 0 1 (.lbox 4 (.t 0)),oC 1 2 0,oC 2 3 0]) (.seq (.reg true [oC 0 2 1,oC 1 3 1]) (.seq (.seq (.reg true qYJ) (.blk 0 qYI)) (.seq (.reg true qYN) (.ret))))⟩
def qXF:List AOper:=[oY 0 6 1 0 4,oD1 1 7 665 6,oM 2 5 7,oV 3 8 5 0,oV 4 9 5 1,oM 5 3 8,oM 6 4 9]
@[go_sem] theorem qz0:OE qXF.eq_1:=OEM qXF.eq_1
def qXG:List AOper:=[oM 0 10 3,oE 1 11 .leq 10 80,oM 2 12 11,oH 3 13 12 true 4,oG 4 14 12 true (.bin .leq (.t 13) (.c (.int .i64 400))),oPf 5 15 12 14,oM 6 2 15]
@[go_sem] theorem qz1:OE qXG.eq_1:=OEM qXG.eq_1
def F495:AFun:=⟨1,16,[.t 2],.seq (.reg true [oP 0 1 (.lbox 4 (.t 0)),oQ 1 2 false]) (.seq (.reg true qXF) (.seq (.reg true qXG) (.ret)))⟩
def qaS:List AOper:=[oM 0 3 0,oE 1 4 .geq 3 0,oM 2 5 4,oH 3 6 5 true 0,oG 4 7 5 true (.bin .lss (.t 6) (.c (.int .i64 24))),oPf 5 8 5 7,oM 6 2 8]
@[go_sem] theorem zDD:OE qaS.eq_1:=OEM qaS.eq_1
def F796:AFun:=⟨1,9,[.t 2],.seq (.reg true [oQ 0 2 false]) (.seq (.reg true qaS) (.ret))⟩
def qL9:List AOper:=[oM 0 3 0,oE 1 4 .geq 3 1,oM 2 5 4,oH 3 6 5 true 0,oG 4 7 5 true (.bin .leq (.t 6) (.c (.int .i64 6))),oPf 5 8 5 7,oM 6 2 8]
@[go_sem] theorem qrI:OE qL9.eq_1:=OEM qL9.eq_1
def qj0:AFun:=⟨1,9,[.t 2],.seq (.reg true [oQ 0 2 false]) (.seq (.reg true qL9) (.ret))⟩
def qMA:List AOper:=[oM 0 3 0,oP 1 4 (.bin .geq (.t 3) (.c (.int .i64 (-2147483648)))),oM 2 5 4,oH 3 6 5 true 0,oG 4 7 5 true (.bin .leq (.t 6) (.c (.int .i64 2147483647))),oPf 5 8 5 7,oM 6 2 8]
@[go_sem] theorem qrJ:OE qMA.eq_1:=OEM qMA.eq_1
def qj1:AFun:=⟨1,9,[.t 2],.seq (.reg true [oQ 0 2 false]) (.seq (.reg true qMA) (.ret))⟩
def qRH:List AOper:=[oM 0 3 0,oD1 1 4 796 3,oJ 2 5 4,oM 3 2 5]
@[go_sem] theorem qwR:OE qRH.eq_1:=OEM qRH.eq_1
def qk8:AFun:=⟨1,6,[.t 2],.seq (.reg true [oQ 0 2 false]) (.seq (.reg true qRH) (.ret))⟩
def qNR:List AOper:=[oU 0 7 1,oX 1 8 1 3,oW 2 9 8,oM 3 3 9]
@[go_sem] theorem qs1:OE qNR.eq_1:=OEM qNR.eq_1
def qNS:List AOper:=[oU 0 10 1,oX 1 11 1 2,oW 2 12 11,oE 3 13 .eql 12 0,oQ 4 4 true,oM 5 5 13]
@[go_sem] theorem qs2:OE qNS.eq_1:=OEM qNS.eq_1
def qNT:List AOper:=[oU 0 18 1,oX 1 19 1 1,oE 2 20 .geq 19 0,oM 3 21 20,oG 4 22 21 true (.nop 1),oG 5 23 21 true (.lload 1 1 none),oG 6 24 21 true (.bin .leq (.t 23) (.c (.int .i64 255))),oPf 7 25 21 24,oM 8 4 25]
@[go_sem] theorem qs3:OE qNT.eq_1:=OEM qNT.eq_1
def qNU:List AOper:=[oU 0 28 1,oX 1 29 1 1,oD1 2 30 1051 29,oM 3 4 30]
@[go_sem] theorem qs4:OE qNU.eq_1:=OEM qNU.eq_1
def qNV:List AOper:=[oU 0 33 1,oX 1 34 1 1,oD1 2 35 1050 34,oM 3 4 35,oC 4 6 2]
@[go_sem] theorem qs5:OE qNV.eq_1:=OEM qNV.eq_1
def qNW:List AOper:=[oU 0 39 1,oX 1 40 1 1,oE 2 41 .eql 40 0,oM 3 4 41,oC 4 6 1]
@[go_sem] theorem qs6:OE qNW.eq_1:=OEM qNW.eq_1
def qNX:List AOper:=[oU 0 45 1,oX 1 46 1 1,oE 2 47 .eql 46 0,oM 3 4 47,oC 4 6 2]
@[go_sem] theorem qs7:OE qNX.eq_1:=OEM qNX.eq_1
def qNY:List AOper:=[oM 0 50 5,oM 1 51 50,oG 2 52 51 true (.nop 1),oG 3 53 51 true (.lload 1 1 none),oG 4 54 51 true (.bin .geq (.t 53) (.c (.int .i64 0))),oPf 5 55 51 54,oM 6 56 55,oG 7 57 56 true (.nop 1),oG 8 58 56 true (.lload 1 1 none),oG 9 59 56 true (.bin .lss (.t 58) (.c (.int .i64 4))),oPf 10 60 56 59,oM 11 61 60,oH 12 62 61 true 3,oG 13 63 61 true (.bin .leq (.t 62) (.c (.int .i64 3))),oPf 14 64 61 63,oM 15 2 64]
@[go_sem] theorem qs8:OE qNY.eq_1:=OEM qNY.eq_1
def qNZ:List AOper:=[oU 0 67 1,oX 1 68 1 1,oE 2 69 .eql 68 0,oU 3 70 1,oX 4 71 1 2,oW 5 72 71,oE 6 73 .geq 72 1,oM 7 74 73,oG 8 75 74 true (.nop 1),oG 9 76 74 true (.lload 1 2 none),oG 10 77 74 true (.len (.t 76)),oG 11 78 74 true (.bin .leq (.t 77) (.c (.int .i64 4))),oPf 12 79 74 78,oM 13 4 69,oC 14 6 1,oM 15 5 79]
@[go_sem] theorem qs9:OE qNZ.eq_1:=OEM qNZ.eq_1
def qN0:List AOper:=[oU 0 82 1,oX 1 83 1 1,oE 2 84 .eql 83 0,oU 3 85 1,oX 4 86 1 2,oW 5 87 86,oE 6 88 .eql 87 2,oM 7 4 84,oC 8 6 1,oM 9 5 88]
@[go_sem] theorem qtA:OE qN0.eq_1:=OEM qN0.eq_1
def qIB:List AOper:=[oU 0 91 1,oX 1 92 1 1,oD1 2 93 796 92,oM 3 4 93]
@[go_sem] theorem qn2:OE qIB.eq_1:=OEM qIB.eq_1
def qH6:ACode:=.seq (.reg true [oE 0 81 .eql 15 10,oM 1 80 81]) (.cond (.t 80) (.reg true qN0) (.seq (.reg true [oE 0 90 .eql 15 11,oM 1 89 90]) (.cond (.t 89) (.reg true qIB) (.seq (.reg true [oQ 0 2 false]) (.ret)))))
@[go_sem] theorem qnX:CE qH6.eq_1:=CEM qH6.eq_1
def qH7:ACode:=.cond (.t 42) (.reg true qNX) (.seq (.reg true [oE 0 49 .eql 15 8,oM 1 48 49]) (.cond (.t 48) (.seq (.reg true qNY) (.ret)) (.seq (.reg true [oE 0 66 .eql 15 9,oM 1 65 66]) (.cond (.t 65) (.reg true qNZ) qH6))))
@[go_sem] theorem qnY:CE qH7.eq_1:=CEM qH7.eq_1
def qH8:ACode:=.seq (.seq (.reg true [oE 0 37 .eql 15 4,oM 1 36 37]) (.cond (.t 36) (.skip) (.reg true [oE 0 38 .eql 15 6,oM 1 36 38]))) (.cond (.t 36) (.reg true qNW) (.seq (.seq (.reg true [oE 0 43 .eql 15 5,oM 1 42 43]) (.cond (.t 42) (.skip) (.reg true [oE 0 44 .eql 15 7,oM 1 42 44]))) qH7))
@[go_sem] theorem qnZ:CE qH8.eq_1:=CEM qH8.eq_1
def qH9:ACode:=.cond (.t 16) (.reg true qNT) (.seq (.reg true [oE 0 27 .eql 15 2,oM 1 26 27]) (.cond (.t 26) (.reg true qNU) (.seq (.reg true [oE 0 32 .eql 15 3,oM 1 31 32]) (.cond (.t 31) (.reg true qNV) qH8))))
@[go_sem] theorem qn0:CE qH9.eq_1:=CEM qH9.eq_1
def qIC:List AOper:=[oM 0 94 4,oM 1 95 94,oH 2 96 95 true 5,oPf 3 97 95 96,oM 4 98 97,oH 5 99 98 true 3,oH 6 100 98 true 6,oG 7 101 98 true (.bin .eql (.t 99) (.t 100)),oPf 8 102 98 101,oM 9 103 102,oG 10 104 103 true (.nop 1),oG 11 105 103 true (.lload 1 2 none),oG 12 106 103 true (.call 397 [.t 105,.f 1402]),oG 13 107 103 true (.not (.t 106)),oPf 14 108 103 107,oM 15 2 108]
@[go_sem] theorem qn3:OE qIC.eq_1:=OEM qIC.eq_1
def qIA:ACode:=.seq (.reg true [oC 0 6 0]) (.seq (.seq (.reg true [oU 0 14 1,oX 1 15 1 0]) (.blk 0 (.seq (.reg true [oE 0 17 .eql 15 1,oM 1 16 17]) qH9))) (.seq (.reg true qIC) (.ret)))
@[go_sem] theorem qn1:CE qIA.eq_1:=CEM qIA.eq_1
def qkH:AFun:=⟨1,109,[.t 2],.seq (.reg true [oP 0 1 (.lbox 4 (.t 0)),oQ 1 2 false]) (.seq (.reg true qNR) (.seq (.reg true qNS) qIA))⟩
def qaM:List AOper:=[oP 0 1 (.lbox 4 (.t 0)),oC 1 2 0,oC 2 3 0,oQ 3 4 false]
@[go_sem] theorem zC7:OE qaM.eq_1:=OEM qaM.eq_1
def qaN:List AOper:=[oU 0 13 1,oX 1 14 1 3,oW 2 15 14,oC 3 16 0]
@[go_sem] theorem zC8:OE qaN.eq_1:=OEM qaN.eq_1
def qaO:List AOper:=[oA 0 18 4 14 16,oP 1 19 (.load (some 4) (.t 18)),oZ 2 6,oS 3 6 0 4 19]
@[go_sem] theorem zC9:OE qaO.eq_1:=OEM qaO.eq_1
def qaP:List AOper:=[oY 0 21 6 0 4,oD1 1 22 770 21,oM 2 20 22,oV 3 23 20 0,oV 4 24 20 1,oV 5 25 20 2,oM 6 7 23,oM 7 8 24,oM 8 9 25]
@[go_sem] theorem zDA:OE qaP.eq_1:=OEM qaP.eq_1
def qaQ:List AOper:=[oM 0 28 2,oM 1 29 7,oE 2 30 .add 29 1,oP 3 31 (.max (.t 28) (.t 30)),oM 4 32 3,oM 5 33 8,oB 6 34 .add 32 33,oM 7 2 31,oM 8 3 34]
@[go_sem] theorem zDB:OE qaQ.eq_1:=OEM qaQ.eq_1
def qaJ:ACode:=.seq (.reg true qaP) (.seq (.seq (.reg true [oM 0 26 9,oJ 1 27 26]) (.cond (.t 27) (.seq (.reg true [oC 0 2 0,oC 1 3 0,oQ 2 4 false]) (.ret)) (.skip))) (.reg true qaQ))
@[go_sem] theorem zC4:CE qaJ.eq_1:=CEM qaJ.eq_1
def qaK:ACode:=.seq (.reg true qaN) (.blk 0 (.loop (.seq (.reg true [oB 0 17 .lss 16 15]) (.seq (.cond (.t 17) (.skip) (.exit 0)) (.seq (.blk 1 (.seq (.reg true qaO) qaJ)) (.reg true [oE 0 35 .add 16 1,oM 1 16 35]))))))
@[go_sem] theorem zC5:CE qaK.eq_1:=CEM qaK.eq_1
def qaR:List AOper:=[oM 0 36 2,oM 1 37 3,oM 2 2 36,oM 3 3 37,oQ 4 4 true]
@[go_sem] theorem zDC:OE qaR.eq_1:=OEM qaR.eq_1
def qaL:ACode:=.seq (.seq (.reg true [oY 0 10 1 0 4,oD1 1 11 1130 10,oJ 2 12 11]) (.cond (.t 12) (.seq (.reg true [oC 0 2 0,oC 1 3 0,oQ 2 4 false]) (.ret)) (.skip))) (.seq (.reg true [oC 0 2 1,oC 1 3 1]) (.seq qaK (.seq (.reg true qaR) (.ret))))
@[go_sem] theorem zC6:CE qaL.eq_1:=CEM qaL.eq_1
def F770:AFun:=⟨1,38,[.t 2,.t 3,.t 4],.seq (.reg true qaM) qaL⟩
def qWM:List AOper:=[oY 0 7 1 0 4,oD1 1 8 770 7,oM 2 6 8,oV 3 9 6 0,oV 4 10 6 1,oV 5 11 6 2,oM 6 3 9,oM 7 4 10,oM 8 5 11]
@[go_sem] theorem qy7:OE qWM.eq_1:=OEM qWM.eq_1
def qWN:List AOper:=[oM 0 12 5,oM 1 13 12,oG 2 14 13 true (.lload 1 0 (some 4)),oG 3 15 13 true (.call 495 [.t 14]),oPf 4 16 13 15,oM 5 2 16]
@[go_sem] theorem qy8:OE qWN.eq_1:=OEM qWN.eq_1
def F391:AFun:=⟨1,17,[.t 2],.seq (.reg true [oP 0 1 (.lbox 4 (.t 0)),oQ 1 2 false]) (.seq (.reg true qWM) (.seq (.reg true qWN) (.ret)))⟩
def F566:AFun:=⟨1,4,[.t 2],.seq (.reg true [oC 0 2 0]) (.seq (.seq (.reg true [oM 0 3 0]) (.cond (.t 3) (.seq (.reg true [oC 0 2 1]) (.ret)) (.skip))) (.seq (.reg true [oC 0 2 0]) (.ret)))⟩
def qOW:List AOper:=[oU 0 5 2,oX 1 6 2 0,oE 2 7 .eql 6 4,oM 3 8 7,oG 4 9 8 false (.nop 2),oG 5 10 8 false (.lload 2 0 none),oG 6 11 8 false (.bin .eql (.t 10) (.c (.int .i64 7))),oH 7 12 8 false 11,oH 8 13 12 true 1,oG 9 14 12 true (.bin .eql (.t 13) (.c (.int .i64 1))),oG 10 15 8 false (.pick (.t 12) (.t 14) (.c (.bool false))),oPt 11 16 8 15,oD1 12 17 566 16,oM 13 4 17]
@[go_sem] theorem qt6:OE qOW.eq_1:=OEM qOW.eq_1
def qkQ:AFun:=⟨2,18,[.t 4],.seq (.reg true [oP 0 2 (.lbox 4 (.t 0)),oC 1 4 0]) (.seq (.reg true qOW) (.ret))⟩
def qb7:List AOper:=[oU 0 7 2,oX 1 8 2 0,oE 2 9 .eql 8 1,oM 3 10 9,oG 4 11 10 true (.nop 2),oG 5 12 10 true (.lload 2 1 none),oH 6 13 10 true 1,oG 7 14 10 true (.bin .geq (.t 12) (.t 13)),oPf 8 15 10 14]
@[go_sem] theorem zES:OE qb7.eq_1:=OEM qb7.eq_1
def qb8:List AOper:=[oU 0 16 2,oX 1 17 2 3,oW 2 18 17,oC 3 19 0]
@[go_sem] theorem zET:OE qb8.eq_1:=OEM qb8.eq_1
def qb9:List AOper:=[oM 0 21 19,oA 1 22 4 17 19,oP 2 23 (.load (some 4) (.t 22)),oZ 3 6,oM 4 5 21,oS 5 6 0 4 23]
@[go_sem] theorem zEU:OE qb9.eq_1:=OEM qb9.eq_1
def qcA:List AOper:=[oY 0 24 6 0 4,oM 1 25 1,oY 2 26 2 0 4,oM 3 27 5,oD2 4 28 1193 26 27,oB 5 29 .add 25 28,oD2 6 30 880 24 29,oJ 7 31 30]
@[go_sem] theorem zEV:OE qcA.eq_1:=OEM qcA.eq_1
def qb6:ACode:=.seq (.reg true [oB 0 20 .lss 19 18]) (.seq (.cond (.t 20) (.skip) (.exit 0)) (.seq (.blk 1 (.seq (.reg true qb9) (.seq (.reg true qcA) (.cond (.t 31) (.seq (.reg true [oQ 0 4 false]) (.ret)) (.skip))))) (.reg true [oE 0 32 .add 19 1,oM 1 19 32])))
@[go_sem] theorem zER:CE qb6.eq_1:=CEM qb6.eq_1
def F880:AFun:=⟨2,33,[.t 4],.seq (.reg true [oP 0 2 (.lbox 4 (.t 0)),oQ 1 4 false]) (.seq (.seq (.reg true qb7) (.cond (.t 15) (.seq (.reg true [oQ 0 4 false]) (.ret)) (.skip))) (.seq (.seq (.reg true qb8) (.blk 0 (.loop qb6))) (.seq (.reg true [oQ 0 4 true]) (.ret))))⟩
def qXO:List AOper:=[oY 0 3 1 0 4,oD1 1 4 391 3,oM 2 5 4,oG 3 6 5 true (.lload 1 0 (some 4)),oG 4 7 5 true (.call 880 [.t 6,.c (.int .i64 0)]),oPf 5 8 5 7,oM 6 2 8]
@[go_sem] theorem qz9:OE qXO.eq_1:=OEM qXO.eq_1
def F521:AFun:=⟨1,9,[.t 2],.seq (.reg true [oP 0 1 (.lbox 4 (.t 0)),oQ 1 2 false]) (.seq (.reg true qXO) (.ret))⟩
def qc2:List AOper:=[oY 0 4 2 0 4,oL 1 5 1,oD2 2 6 615 4 5,oM 3 3 6]
@[go_sem] theorem zFN:OE qc2.eq_1:=OEM qc2.eq_1
def F993:AFun:=⟨2,7,[.t 3],.seq (.reg true [oP 0 2 (.lbox 4 (.t 0)),oQ 1 3 false]) (.seq (.reg true qc2) (.ret))⟩
def qX4:List AOper:=[oL 0 5 3,oY 1 6 2 0 4,oP 2 7 (.callv (.t 5) [.t 6]),oM 3 8 7,oG 4 9 8 false (.nop 2),oG 5 10 8 false (.lload 2 3 none),oG 6 11 8 false (.mkfn 993 [.t 3]),oG 7 12 8 false (.call 581 [.t 10,.t 11]),oPt 8 13 8 12,oM 9 4 13]
@[go_sem] theorem zAP:OE qX4.eq_1:=OEM qX4.eq_1
def F615:AFun:=⟨2,14,[.t 4],.seq (.reg true [oP 0 2 (.lbox 4 (.t 0)),oP 1 3 (.hbox 1 (.t 1)),oQ 2 4 false]) (.seq (.reg true qX4) (.ret))⟩
def qOG:List AOper:=[oM 0 4 0,oL 1 5 1,oB 2 6 .geq 4 5,oM 3 3 6]
@[go_sem] theorem qtQ:OE qOG.eq_1:=OEM qOG.eq_1
def qkM:AFun:=⟨2,7,[.t 3],.seq (.reg true [oQ 0 3 false]) (.seq (.reg true qOG) (.ret))⟩
def qOF:List AOper:=[oU 0 4 2,oX 1 5 2 0,oE 2 6 .eql 5 11,oM 3 7 6,oG 4 8 7 true (.nop 2),oG 5 9 7 true (.lload 2 1 none),oG 6 10 7 true (.load none (.t 1)),oG 7 11 7 true (.bin .geq (.t 9) (.t 10)),oPf 8 12 7 11,oM 9 13 12,oG 10 14 13 false (.nop 2),oG 11 15 13 false (.lload 2 2 none),oG 12 16 13 false (.mkfn 1169 [.t 1]),oG 13 17 13 false (.call 397 [.t 15,.t 16]),oPt 14 18 13 17,oM 15 3 18]
@[go_sem] theorem qtP:OE qOF.eq_1:=OEM qOF.eq_1
def qkL:AFun:=⟨2,19,[.t 3],.seq (.reg true [oP 0 2 (.lbox 4 (.t 0)),oQ 1 3 false]) (.seq (.reg true qOF) (.ret))⟩
def qbH:List AOper:=[oY 0 5 2 0 4,oP 1 6 (.mkfn 1168 [.t 3]),oD2 2 7 615 5 6,oJ 3 8 7,oM 4 4 8]
@[go_sem] theorem zD2:OE qbH.eq_1:=OEM qbH.eq_1
def F847:AFun:=⟨2,9,[.t 4],.seq (.reg true [oP 0 2 (.lbox 4 (.t 0)),oP 1 3 (.hbox 1 (.t 1)),oQ 2 4 false]) (.seq (.reg true qbH) (.ret))⟩
def qbZ:List AOper:=[oY 0 4 2 0 4,oD1 1 5 521 4,oJ 2 6 5,oM 3 7 6,oG 4 8 7 false (.lload 2 0 (some 4)),oG 5 9 7 false (.faddr 0 (.t 1)),oG 6 10 7 false (.load none (.t 9)),oG 7 11 7 false (.len (.t 10)),oG 8 12 7 false (.call 847 [.t 8,.t 11]),oG 9 13 7 false (.not (.t 12)),oPt 10 14 7 13,oM 11 3 14]
@[go_sem] theorem zEK:OE qbZ.eq_1:=OEM qbZ.eq_1
def F851:AFun:=⟨2,15,[.t 3],.seq (.reg true [oP 0 2 (.lbox 4 (.t 0)),oQ 1 3 false]) (.seq (.reg true qbZ) (.ret))⟩
def qXL:List AOper:=[oF 0 3 0 1,oL 1 4 3,oW 2 5 4,oE 3 6 .lss 5 1,oM 4 7 6,oG 5 8 7 false (.faddr 0 (.t 1)),oG 6 9 7 false (.load none (.t 8)),oG 7 10 7 false (.len (.t 9)),oG 8 11 7 false (.bin .gtr (.t 10) (.c (.int .i64 24))),oPt 9 12 7 11]
@[go_sem] theorem qz6:OE qXL.eq_1:=OEM qXL.eq_1
def qXM:List AOper:=[oF 0 13 0 1,oL 1 14 13,oP 2 15 (.mkfn 851 [.t 1]),oD2 3 16 581 14 15,oJ 4 17 16,oM 5 2 17]
@[go_sem] theorem qz7:OE qXM.eq_1:=OEM qXM.eq_1
def F498:AFun:=⟨1,18,[.t 2],.seq (.reg true [oP 0 1 (.hbox 1 (.t 0)),oQ 1 2 false]) (.seq (.seq (.reg true qXL) (.cond (.t 12) (.seq (.reg true [oQ 0 2 false]) (.ret)) (.skip))) (.seq (.reg true qXM) (.ret)))⟩
def qL1:List AOper:=[oM 0 10 3,oM 1 11 0,oW 2 12 11,oB 3 13 .lss 10 12]
@[go_sem] theorem qrA:OE qL1.eq_1:=OEM qL1.eq_1
def qL2:List AOper:=[oM 0 16 0,oM 1 17 3,oA 2 18 1 16 17,oL 3 19 18,oM 4 20 0,oM 5 21 3,oE 6 22 .sub 21 1,oA 7 23 1 20 22,oL 8 24 23,oB 9 25 .eql 19 24]
@[go_sem] theorem qrB:OE qL2.eq_1:=OEM qL2.eq_1
def qL3:List AOper:=[oM 0 26 0,oM 1 27 3,oP 2 28 (.slc 1 (.t 26) (some (.t 27)) none none),oM 3 4 28]
@[go_sem] theorem qrC:OE qL3.eq_1:=OEM qL3.eq_1
def qL4:List AOper:=[oM 0 29 5,oM 1 30 4,oW 2 31 30,oB 3 32 .lss 29 31]
@[go_sem] theorem qrD:OE qL4.eq_1:=OEM qL4.eq_1
def qL5:List AOper:=[oM 0 35 4,oM 1 36 5,oA 2 37 1 35 36,oL 3 38 37,oM 4 39 4,oM 5 40 5,oE 6 41 .sub 40 1,oA 7 42 1 39 41,oL 8 43 42,oB 9 44 .neq 38 43]
@[go_sem] theorem qrE:OE qL5.eq_1:=OEM qL5.eq_1
def qL6:List AOper:=[oM 0 45 0,oM 1 46 3,oM 2 47 4,oM 3 48 5,oA 4 49 1 47 48,oL 5 50 49,oA 6 51 1 45 46,oT 7 1 51 50]
@[go_sem] theorem qrF:OE qL6.eq_1:=OEM qL6.eq_1
def qLZ:ACode:=.seq (.blk 3 (.seq (.reg true qL5) (.cond (.t 44) (.seq (.reg true qL6) (.reg true [oM 0 52 3,oE 1 53 .add 52 1,oM 2 3 53])) (.skip)))) (.reg true [oM 0 33 5,oE 1 34 .add 33 1,oM 2 5 34])
@[go_sem] theorem qq8:CE qLZ.eq_1:=CEM qLZ.eq_1
def qL7:List AOper:=[oM 0 54 0,oM 1 55 3,oP 2 56 (.slc 1 (.t 54) (some (.t 55)) none none),oN 3 (.clear 1 (.int .i64 0) (.t 56))]
@[go_sem] theorem qrG:OE qL7.eq_1:=OEM qL7.eq_1
def qL8:List AOper:=[oM 0 57 0,oM 1 58 3,oP 2 59 (.slc 1 (.t 57) none (some (.t 58)) none),oM 3 2 59]
@[go_sem] theorem qrH:OE qL8.eq_1:=OEM qL8.eq_1
def qL0:ACode:=.seq (.reg true qL2) (.cond (.t 25) (.seq (.reg true qL3) (.seq (.seq (.reg true [oC 0 5 1]) (.blk 2 (.loop (.seq (.seq (.reg true qL4) (.cond (.t 32) (.skip) (.exit 2))) qLZ)))) (.seq (.reg true qL7) (.seq (.reg true qL8) (.ret))))) (.skip))
@[go_sem] theorem qq9:CE qL0.eq_1:=CEM qL0.eq_1
def qHU:ACode:=.seq (.reg true [oC 0 3 1]) (.blk 0 (.loop (.seq (.seq (.reg true qL1) (.cond (.t 13) (.skip) (.exit 0))) (.seq (.blk 1 qL0) (.reg true [oM 0 14 3,oE 1 15 .add 14 1,oM 2 3 15])))))
@[go_sem] theorem qnK:CE qHU.eq_1:=CEM qHU.eq_1
def qHV:ACode:=.seq (.seq (.reg true [oM 0 6 0,oW 1 7 6,oE 2 8 .lss 7 2]) (.cond (.t 8) (.seq (.reg true [oM 0 9 0,oM 1 2 9]) (.ret)) (.skip))) (.seq qHU (.seq (.reg true [oM 0 60 0,oM 1 2 60]) (.ret)))
@[go_sem] theorem qnL:CE qHV.eq_1:=CEM qHV.eq_1
def qjZ:AFun:=⟨1,61,[.t 2],.seq (.reg true [oP 0 2 (.mov (.c (.nils)))]) qHV⟩
def qOY:List AOper:=[oU 0 11 4,oX 1 12 4 0,oE 2 13 .eql 12 1,oM 3 14 13,oG 4 15 14 true (.nop 4),oG 5 16 14 true (.lload 4 1 none),oH 6 17 14 true 1,oG 7 18 14 true (.bin .eql (.t 16) (.t 17)),oPf 8 19 14 18]
@[go_sem] theorem qt8:OE qOY.eq_1:=OEM qOY.eq_1
def qOZ:List AOper:=[oM 0 20 3,oM 1 21 2,oP 2 22 (.bslice 1 (.int .i64 0) 1 [(0,.t 21)]),oP 3 23 (.app 1 (.t 20) (.t 22)),oM 4 8 23]
@[go_sem] theorem qt9:OE qOZ.eq_1:=OEM qOZ.eq_1
def qO0:List AOper:=[oU 0 24 4,oX 1 25 4 3,oW 2 26 25,oC 3 27 0]
@[go_sem] theorem quA:OE qO0.eq_1:=OEM qO0.eq_1
def qO1:List AOper:=[oM 0 29 27,oA 1 30 4 25 27,oP 2 31 (.load (some 4) (.t 30)),oZ 3 10,oM 4 9 29,oS 5 10 0 4 31]
@[go_sem] theorem quB:OE qO1.eq_1:=OEM qO1.eq_1
def qO2:List AOper:=[oY 0 32 10 0 4,oM 1 33 1,oY 2 34 4 0 4,oM 3 35 9,oM 6 38 2,oU 7 39 4,oX 8 40 4 0,oE 9 41 .eql 40 6,oM 12 44 3,oD2 4 36 1193 34 35,oB 5 37 .add 33 36,oD1 10 42 566 41,oB 11 43 .add 38 42,oP 13 45 (.call 1194 [.t 32,.t 37,.t 43,.t 44]),oM 14 3 45]
@[go_sem] theorem quC:OE qO2.eq_1:=OEM qO2.eq_1
def qOX:ACode:=.loop (.seq (.reg true [oB 0 28 .lss 27 26]) (.seq (.cond (.t 28) (.skip) (.exit 0)) (.seq (.blk 1 (.seq (.reg true qO1) (.reg true qO2))) (.reg true [oE 0 46 .add 27 1,oM 1 27 46]))))
@[go_sem] theorem qt7:CE qOX.eq_1:=CEM qOX.eq_1
def qkR:AFun:=⟨4,48,[.t 8],.seq (.reg true [oP 0 4 (.lbox 4 (.t 0)),oP 1 8 (.mov (.c (.nils)))]) (.seq (.seq (.reg true qOY) (.cond (.t 19) (.seq (.reg true qOZ) (.ret)) (.skip))) (.seq (.seq (.reg true qO0) (.blk 0 qOX)) (.seq (.reg true [oM 0 47 3,oM 1 8 47]) (.ret))))⟩
def qO3:List AOper:=[oY 0 5 3 0 4,oL 1 6 1,oF 2 7 0 2,oL 3 8 7,oE 4 9 .eql 8 6,⟨5,some 10,none,.call 566 [.t 9],[⟨1,some 6,none,.load none (.t 1),[]⟩]⟩,oB 6 11 .add 6 10,oD2 7 12 881 5 11,oJ 8 13 12,oM 9 4 13]
@[go_sem] theorem quD:OE qO3.eq_1:=OEM qO3.eq_1
def qkS:AFun:=⟨3,14,[.t 4],.seq (.reg true [oP 0 3 (.lbox 4 (.t 0)),oQ 1 4 false]) (.seq (.reg true qO3) (.ret))⟩
def qcD:List AOper:=[oF 0 13 3 2,oL 1 14 13,oP 2 15 (.iaddr 4 (.t 14) (.c (.int .i64 0))),oP 3 16 (.load (some 4) (.t 15)),oL 4 17 3,oP 5 18 (.call 1194 [.t 16,.c (.int .i64 0),.t 17,.c (.nils)]),oM 6 5 18]
@[go_sem] theorem zEY:OE qcD.eq_1:=OEM qcD.eq_1
def qcE:List AOper:=[oM 0 19 5,oW 1 20 19,oE 2 21 .gtr 20 1,oM 3 22 21,oH 4 23 22 false 5,oG 5 24 22 false (.len (.t 23)),oG 6 25 22 false (.bin .eql (.t 24) (.c (.int .i64 1))),oH 7 26 22 false 25,oH 8 27 26 true 5,oG 9 28 26 true (.iaddr 1 (.t 27) (.c (.int .i64 0))),oG 10 29 26 true (.load none (.t 28)),oG 11 30 26 true (.load none (.t 3)),oG 12 31 26 true (.bin .neq (.t 29) (.t 30)),oG 13 32 22 false (.pick (.t 26) (.t 31) (.c (.bool false))),oPt 14 33 22 32]
@[go_sem] theorem zEZ:OE qcE.eq_1:=OEM qcE.eq_1
def qcF:List AOper:=[oF 0 36 3 2,oL 1 37 36,oP 2 38 (.iaddr 4 (.t 37) (.c (.int .i64 1))),oP 3 39 (.load (some 4) (.t 38)),oL 4 40 3,oP 5 41 (.call 1194 [.t 39,.c (.int .i64 0),.t 40,.c (.nils)]),oM 6 6 41]
@[go_sem] theorem zE0:OE qcF.eq_1:=OEM qcF.eq_1
def qcG:List AOper:=[oM 0 42 6,oD1 1 43 1042 42,oW 2 44 43,oE 3 45 .gtr 44 1,oM 4 46 45,oH 5 47 46 false 6,oG 6 48 46 false (.len (.t 47)),oG 7 49 46 false (.bin .gtr (.t 48) (.c (.int .i64 0))),oH 8 50 46 false 49,oH 9 51 50 true 6,oG 10 52 50 true (.iaddr 1 (.t 51) (.c (.int .i64 0))),oG 11 53 50 true (.load none (.t 52)),oG 12 54 50 true (.load none (.t 3)),oG 13 55 50 true (.bin .neq (.t 53) (.t 54)),oG 14 56 46 false (.pick (.t 50) (.t 55) (.c (.bool false))),oH 15 57 46 false 56,oH 16 58 57 true 6,oG 17 59 57 true (.iaddr 1 (.t 58) (.c (.int .i64 0))),oG 18 60 57 true (.load none (.t 59)),oG 19 61 57 true (.load none (.t 3)),oG 20 62 57 true (.bin .add (.t 61) (.c (.int .i64 1))),oG 21 63 57 true (.bin .neq (.t 60) (.t 62)),oG 22 64 46 false (.pick (.t 57) (.t 63) (.c (.bool false))),oPt 23 65 46 64]
@[go_sem] theorem zE1:OE qcG.eq_1:=OEM qcG.eq_1
def qcB:ACode:=.cond (.t 11) (.seq (.reg true qcD) (.seq (.reg true qcE) (.cond (.t 33) (.seq (.reg true [oQ 0 4 false]) (.ret)) (.skip)))) (.seq (.reg true [oE 0 35 .eql 10 7,oM 1 34 35]) (.cond (.t 34) (.seq (.reg true qcF) (.seq (.reg true qcG) (.cond (.t 65) (.seq (.reg true [oQ 0 4 false]) (.ret)) (.skip)))) (.skip)))
@[go_sem] theorem zEW:CE qcB.eq_1:=CEM qcB.eq_1
def qcH:List AOper:=[oF 0 66 3 2,oL 1 67 66,oP 2 68 (.mkfn 1195 [.t 3,.t 2]),oD2 3 69 581 67 68,oJ 4 70 69,oM 5 4 70]
@[go_sem] theorem zE2:OE qcH.eq_1:=OEM qcH.eq_1
def qcC:ACode:=.seq (.seq (.reg true [oL 0 7 3,oE 1 8 .gtr 7 8]) (.cond (.t 8) (.seq (.reg true [oQ 0 4 false]) (.ret)) (.skip))) (.seq (.seq (.reg true [oF 0 9 0 2,oL 1 10 9]) (.blk 0 (.seq (.reg true [oE 0 12 .eql 10 4,oM 1 11 12]) qcB))) (.seq (.reg true qcH) (.ret)))
@[go_sem] theorem zEX:CE qcC.eq_1:=CEM qcC.eq_1
def F881:AFun:=⟨2,71,[.t 4],.seq (.reg true [oP 0 2 (.hbox 4 (.t 0)),oP 1 3 (.hbox 1 (.t 1)),oQ 2 4 false]) qcC⟩
def qXP:List AOper:=[oY 0 3 1 0 4,oD1 1 4 521 3,oM 2 5 4,oG 3 6 5 true (.lload 1 0 (some 4)),oG 4 7 5 true (.call 881 [.t 6,.c (.int .i64 0)]),oPf 5 8 5 7,oM 6 2 8]
@[go_sem] theorem zAA:OE qXP.eq_1:=OEM qXP.eq_1
def F522:AFun:=⟨1,9,[.t 2],.seq (.reg true [oP 0 1 (.lbox 4 (.t 0)),oQ 1 2 false]) (.seq (.reg true qXP) (.ret))⟩
def qOH:List AOper:=[oY 0 3 1 0 4,oD1 1 4 522 3,oJ 2 5 4,oM 3 2 5]
@[go_sem] theorem qtR:OE qOH.eq_1:=OEM qOH.eq_1
def qkN:AFun:=⟨1,6,[.t 2],.seq (.reg true [oP 0 1 (.lbox 4 (.t 0)),oQ 1 2 false]) (.seq (.reg true qOH) (.ret))⟩
def qbI:List AOper:=[oU 0 3 1,oX 1 4 1 0,oP 2 5 (.call 581 [.t 4,.f 1170]),oJ 3 6 5,oM 4 2 6]
@[go_sem] theorem zD3:OE qbI.eq_1:=OEM qbI.eq_1
def F848:AFun:=⟨1,7,[.t 2],.seq (.reg true [oP 0 1 (.lbox 1 (.t 0)),oQ 1 2 false]) (.seq (.reg true qbI) (.ret))⟩
def qaW:List AOper:=[oM 0 11 1,oM 1 12 0,oM 2 13 5,oA 3 14 1 12 13,oL 4 15 14,oB 5 16 .eql 11 15]
@[go_sem] theorem zDH:OE qaW.eq_1:=OEM qaW.eq_1
def qaU:ACode:=.seq (.blk 1 (.seq (.reg true [oM 0 10 8,oM 1 5 10]) (.seq (.reg true qaW) (.cond (.t 16) (.seq (.reg true [oM 0 17 5,oM 1 4 17]) (.ret)) (.skip))))) (.reg true [oE 0 18 .add 8 1,oM 1 8 18])
@[go_sem] theorem zDF:CE qaU.eq_1:=CEM qaU.eq_1
def qaV:ACode:=.seq (.seq (.reg true [oM 0 6 0,oW 1 7 6,oC 2 8 0]) (.blk 0 (.loop (.seq (.reg true [oB 0 9 .lss 8 7]) (.seq (.cond (.t 9) (.skip) (.exit 0)) qaU))))) (.seq (.reg true [oP 0 4 (.mov (.c (.int .i64 (-1))))]) (.ret))
@[go_sem] theorem zDG:CE qaV.eq_1:=CEM qaV.eq_1
def F834:AFun:=⟨2,19,[.t 4],.seq (.reg true [oC 0 4 0]) qaV⟩
def F647:AFun:=ctnF 834
def qOE:List AOper:=[oM 0 3 0,oM 1 4 0,oB 2 5 .neq 3 4,oM 3 2 5]
@[go_sem] theorem qtO:OE qOE.eq_1:=OEM qOE.eq_1
def qkK:AFun:=⟨1,6,[.t 2],.seq (.reg true [oQ 0 2 false]) (.seq (.reg true qOE) (.ret))⟩
def qQP:List AOper:=[oM 0 5 0,oD1 1 6 1167 5,oM 2 7 6,oH 3 8 7 true 1,oG 4 9 7 true (.call 1167 [.t 8]),oG 5 10 7 true (.not (.t 9)),oPf 6 11 7 10,oM 7 12 11,oH 8 13 12 false 0,oH 9 14 12 false 1,oG 10 15 12 false (.bin .lss (.t 13) (.t 14)),oPt 11 16 12 15,oM 12 4 16]
@[go_sem] theorem qvZ:OE qQP.eq_1:=OEM qQP.eq_1
def qk2:AFun:=⟨2,17,[.t 4],.seq (.reg true [oQ 0 4 false]) (.seq (.reg true qQP) (.ret))⟩
def qPJ:List AOper:=[oM 0 16 7,oM 1 17 1,oB 2 18 .gtr 16 17,oM 3 19 18,oH 4 20 19 true 0,oH 5 21 19 true 7,oG 6 22 19 true (.iaddr 1 (.t 20) (.t 21)),oG 7 23 19 true (.load none (.t 22)),oH 8 24 19 true 0,oH 9 25 19 true 7,oG 10 26 19 true (.bin .sub (.t 25) (.c (.int .i64 1))),oG 11 27 19 true (.iaddr 1 (.t 24) (.t 26)),oG 12 28 19 true (.load none (.t 27)),oG 13 29 19 true (.call 1345 [.t 23,.t 28]),oPf 14 30 19 29]
@[go_sem] theorem quT:OE qPJ.eq_1:=OEM qPJ.eq_1
def qPK:List AOper:=[oM 0 33 0,oM 1 34 7,oM 2 35 0,oM 3 36 7,oE 4 37 .sub 36 1,oM 5 38 0,oM 6 39 7,oE 7 40 .sub 39 1,oA 8 41 1 38 40,oL 9 42 41,oM 10 43 0,oM 11 44 7,oA 12 45 1 43 44,oL 13 46 45,oA 14 47 1 33 34,oT 15 1 47 42,oA 16 48 1 35 37,oT 17 1 48 46]
@[go_sem] theorem quU:OE qPK.eq_1:=OEM qPK.eq_1
def qPH:ACode:=.seq (.reg true [oM 0 15 6,oM 1 7 15]) (.blk 2 (.loop (.seq (.seq (.reg true qPJ) (.cond (.t 30) (.skip) (.exit 2))) (.seq (.blk 3 (.reg true qPK)) (.reg true [oM 0 31 7,oE 1 32 .sub 31 1,oM 2 7 32])))))
@[go_sem] theorem quR:CE qPH.eq_1:=CEM qPH.eq_1
def qPI:ACode:=.loop (.seq (.seq (.reg true [oM 0 10 6,oM 1 11 2,oB 2 12 .lss 10 11]) (.cond (.t 12) (.skip) (.exit 0))) (.seq (.blk 1 qPH) (.reg true [oM 0 13 6,oE 1 14 .add 13 1,oM 2 6 14])))
@[go_sem] theorem quS:CE qPI.eq_1:=CEM qPI.eq_1
def qkW:AFun:=⟨3,49,[],.seq (.reg true [oM 0 8 1,oE 1 9 .add 8 1,oM 2 6 9]) (.blk 0 qPI)⟩
def qR7:List AOper:=[oM 0 11 8,oP 1 12 (.bin .mul (.c (.int .i64 2)) (.t 11)),oE 2 13 .add 12 1,oM 3 9 13]
@[go_sem] theorem qxH:OE qR7.eq_1:=OEM qR7.eq_1
def qR8:List AOper:=[oM 0 17 9,oE 1 18 .add 17 1,oM 2 19 2,oB 3 20 .lss 18 19,oM 4 21 20,oH 5 22 21 true 0,oH 6 23 21 true 3,oH 7 24 21 true 9,oG 8 25 21 true (.bin .add (.t 23) (.t 24)),oG 9 26 21 true (.iaddr 1 (.t 22) (.t 25)),oG 10 27 21 true (.load none (.t 26)),oH 11 28 21 true 0,oH 12 29 21 true 3,oH 13 30 21 true 9,oG 14 31 21 true (.bin .add (.t 29) (.t 30)),oG 15 32 21 true (.bin .add (.t 31) (.c (.int .i64 1))),oG 16 33 21 true (.iaddr 1 (.t 28) (.t 32)),oG 17 34 21 true (.load none (.t 33)),oG 18 35 21 true (.call 1345 [.t 27,.t 34]),oPf 19 36 21 35]
@[go_sem] theorem qxI:OE qR8.eq_1:=OEM qR8.eq_1
def qR9:List AOper:=[oM 0 39 0,oM 1 40 3,oM 2 41 8,oB 3 42 .add 40 41,oA 4 43 1 39 42,oL 5 44 43,oM 6 45 0,oM 7 46 3,oM 8 47 9,oB 9 48 .add 46 47,oA 10 49 1 45 48,oL 11 50 49,oD2 12 51 1345 44 50,oJ 13 52 51]
@[go_sem] theorem qxJ:OE qR9.eq_1:=OEM qR9.eq_1
def qSA:List AOper:=[oM 0 53 0,oM 1 54 3,oM 2 55 8,oB 3 56 .add 54 55,oM 4 57 0,oM 5 58 3,oM 6 59 9,oB 7 60 .add 58 59,oM 8 61 0,oM 9 62 3,oM 10 63 9,oB 11 64 .add 62 63,oA 12 65 1 61 64,oL 13 66 65,oM 14 67 0,oM 15 68 3,oM 16 69 8,oB 17 70 .add 68 69,oA 18 71 1 67 70,oL 19 72 71,oA 20 73 1 53 56,oT 21 1 73 66,oA 22 74 1 57 60,oT 23 1 74 72]
@[go_sem] theorem qxK:OE qSA.eq_1:=OEM qSA.eq_1
def qR6:ACode:=.seq (.seq (.reg true qR8) (.cond (.t 36) (.reg true [oM 0 37 9,oE 1 38 .add 37 1,oM 2 9 38]) (.skip))) (.seq (.seq (.reg true qR9) (.cond (.t 52) (.ret) (.skip))) (.seq (.reg true qSA) (.reg true [oM 0 75 9,oM 1 8 75])))
@[go_sem] theorem qxG:CE qR6.eq_1:=CEM qR6.eq_1
def qlD:AFun:=⟨4,76,[],.seq (.reg true [oM 0 10 1,oM 1 8 10]) (.blk 0 (.loop (.blk 1 (.seq (.reg true qR7) (.seq (.seq (.reg true [oM 0 14 9,oM 1 15 2,oB 2 16 .geq 14 15]) (.cond (.t 16) (.exit 0) (.skip))) qR6)))))⟩
def qPO:List AOper:=[oM 0 12 2,oM 1 13 1,oB 2 14 .sub 12 13,oM 3 8 14]
@[go_sem] theorem quY:OE qPO.eq_1:=OEM qPO.eq_1
def qPP:List AOper:=[oM 0 15 8,oE 1 16 .sub 15 1,oE 2 17 .quo 16 2,oM 3 9 17]
@[go_sem] theorem quZ:OE qPP.eq_1:=OEM qPP.eq_1
def qPQ:List AOper:=[oM 0 22 0,oM 1 23 9,oM 2 24 8,oM 3 25 6,oP 4 26 (.call 1476 [.t 22,.t 23,.t 24,.t 25])]
@[go_sem] theorem qu0:OE qPQ.eq_1:=OEM qPQ.eq_1
def qPL:ACode:=.loop (.seq (.seq (.reg true [oM 0 18 9,oE 1 19 .geq 18 0]) (.cond (.t 19) (.skip) (.exit 0))) (.seq (.blk 1 (.reg true qPQ)) (.reg true [oM 0 20 9,oE 1 21 .sub 20 1,oM 2 9 21])))
@[go_sem] theorem quV:CE qPL.eq_1:=CEM qPL.eq_1
def qPR:List AOper:=[oM 0 33 0,oM 1 34 6,oM 2 35 0,oM 3 36 6,oM 4 37 10,oB 5 38 .add 36 37,oM 6 39 0,oM 7 40 6,oM 8 41 10,oB 9 42 .add 40 41,oA 10 43 1 39 42,oL 11 44 43,oM 12 45 0,oM 13 46 6,oA 14 47 1 45 46,oL 15 48 47,oA 16 49 1 33 34,oT 17 1 49 44,oA 18 50 1 35 38,oT 19 1 50 48]
@[go_sem] theorem qu1:OE qPR.eq_1:=OEM qPR.eq_1
def qPS:List AOper:=[oM 0 51 0,oM 1 52 7,oM 2 53 10,oM 3 54 6,oP 4 55 (.call 1476 [.t 51,.t 52,.t 53,.t 54])]
@[go_sem] theorem qu2:OE qPS.eq_1:=OEM qPS.eq_1
def qPM:ACode:=.seq (.seq (.reg true [oM 0 29 10,oE 1 30 .geq 29 0]) (.cond (.t 30) (.skip) (.exit 2))) (.seq (.blk 3 (.seq (.reg true qPR) (.reg true qPS))) (.reg true [oM 0 31 10,oE 1 32 .sub 31 1,oM 2 10 32]))
@[go_sem] theorem quW:CE qPM.eq_1:=CEM qPM.eq_1
def qPN:ACode:=.seq (.reg true [oC 0 7 0]) (.seq (.reg true qPO) (.seq (.seq (.reg true qPP) (.blk 0 qPL)) (.seq (.reg true [oM 0 27 8,oE 1 28 .sub 27 1,oM 2 10 28]) (.blk 2 (.loop qPM)))))
@[go_sem] theorem quX:CE qPN.eq_1:=CEM qPN.eq_1
def qkX:AFun:=⟨3,56,[],.seq (.reg true [oM 0 11 1,oM 1 6 11]) qPN⟩
def qQ8:ACode:=.seq (.reg true [oM 0 3 0,oP 1 4 (.bin .geq (.t 3) (.c (.int .u32 65536)))]) (.cond (.t 4) (.seq (.reg true [oM 0 5 0,oP 1 6 (.shft .shr (.t 5) (.c (.int .u64 16))),oM 2 0 6]) (.reg true [oC 0 2 16])) (.skip))
@[go_sem] theorem qwI:CE qQ8.eq_1:=CEM qQ8.eq_1
def qQ9:ACode:=.seq (.reg true [oM 0 7 0,oP 1 8 (.bin .geq (.t 7) (.c (.int .u32 256)))]) (.cond (.t 8) (.seq (.reg true [oM 0 9 0,oP 1 10 (.shft .shr (.t 9) (.c (.int .u64 8))),oM 2 0 10]) (.reg true [oM 0 11 2,oE 1 12 .add 11 8,oM 2 2 12])) (.skip))
@[go_sem] theorem qwJ:CE qQ9.eq_1:=CEM qQ9.eq_1
def qRA:List AOper:=[oM 0 13 2,oM 1 14 0,oP 2 15 (.conv .u8 (.t 14)),oP 3 16 (.sidx (.c (.str [0,1,2,2,3,3,3,3,4,4,4,4,4,4,4,4,5,5,5,5,5,5,5,5,5,5,5,5,5,5,5,5,6,6,6,6,6,6,6,6,6,6,6,6,6,6,6,6,6,6,6,6,6,6,6,6,6,6,6,6,6,6,6,6,7,7,7,7,7,7,7,7,7,7,7,7,7,7,7,7,7,7,7,7,7,7,7,7,7,7,7,7,7,7,7,7,7,7,7,7,7,7,7,7,7,7,7,7,7,7,7,7,7,7,7,7,7,7,7,7,7,7,7,7,7,7,7,7,8,8,8,8,8,8,8,8,8,8,8,8,8,8,8,8,8,8,8,8,8,8,8,8,8,8,8,8,8,8,8,8,8,8,8,8,8,8,8,8,8,8,8,8,8,8,8,8,8,8,8,8,8,8,8,8,8,8,8,8,8,8,8,8,8,8,8,8,8,8,8,8,8,8,8,8,8,8,8,8,8,8,8,8,8,8,8,8,8,8,8,8,8,8,8,8,8,8,8,8,8,8,8,8,8,8,8,8,8,8,8,8,8,8,8,8,8,8,8,8,8,8,8,8,8,8,8,8])) (.t 15)),oP 4 17 (.conv .i64 (.t 16)),oB 5 18 .add 13 17,oM 6 2 18]
@[go_sem] theorem qwK:OE qRA.eq_1:=OEM qRA.eq_1
def qyM:AFun:=⟨1,19,[.t 2],.seq (.reg true [oC 0 2 0]) (.seq qQ8 (.seq qQ9 (.seq (.reg true qRA) (.ret))))⟩
def qRB:ACode:=.seq (.reg true [oM 0 3 0,oP 1 4 (.bin .geq (.t 3) (.c (.int .u64 4294967296)))]) (.cond (.t 4) (.seq (.reg true [oM 0 5 0,oP 1 6 (.shft .shr (.t 5) (.c (.int .u64 32))),oM 2 0 6]) (.reg true [oC 0 2 32])) (.skip))
@[go_sem] theorem qwL:CE qRB.eq_1:=CEM qRB.eq_1
def qRC:ACode:=.seq (.reg true [oM 0 7 0,oP 1 8 (.bin .geq (.t 7) (.c (.int .u64 65536)))]) (.cond (.t 8) (.seq (.reg true [oM 0 9 0,oP 1 10 (.shft .shr (.t 9) (.c (.int .u64 16))),oM 2 0 10]) (.reg true [oM 0 11 2,oE 1 12 .add 11 16,oM 2 2 12])) (.skip))
@[go_sem] theorem qwM:CE qRC.eq_1:=CEM qRC.eq_1
def qRD:ACode:=.seq (.reg true [oM 0 13 0,oP 1 14 (.bin .geq (.t 13) (.c (.int .u64 256)))]) (.cond (.t 14) (.seq (.reg true [oM 0 15 0,oP 1 16 (.shft .shr (.t 15) (.c (.int .u64 8))),oM 2 0 16]) (.reg true [oM 0 17 2,oE 1 18 .add 17 8,oM 2 2 18])) (.skip))
@[go_sem] theorem qwN:CE qRD.eq_1:=CEM qRD.eq_1
def qRE:List AOper:=[oM 0 19 2,oM 1 20 0,oP 2 21 (.conv .u8 (.t 20)),oP 3 22 (.sidx (.c (.str [0,1,2,2,3,3,3,3,4,4,4,4,4,4,4,4,5,5,5,5,5,5,5,5,5,5,5,5,5,5,5,5,6,6,6,6,6,6,6,6,6,6,6,6,6,6,6,6,6,6,6,6,6,6,6,6,6,6,6,6,6,6,6,6,7,7,7,7,7,7,7,7,7,7,7,7,7,7,7,7,7,7,7,7,7,7,7,7,7,7,7,7,7,7,7,7,7,7,7,7,7,7,7,7,7,7,7,7,7,7,7,7,7,7,7,7,7,7,7,7,7,7,7,7,7,7,7,7,8,8,8,8,8,8,8,8,8,8,8,8,8,8,8,8,8,8,8,8,8,8,8,8,8,8,8,8,8,8,8,8,8,8,8,8,8,8,8,8,8,8,8,8,8,8,8,8,8,8,8,8,8,8,8,8,8,8,8,8,8,8,8,8,8,8,8,8,8,8,8,8,8,8,8,8,8,8,8,8,8,8,8,8,8,8,8,8,8,8,8,8,8,8,8,8,8,8,8,8,8,8,8,8,8,8,8,8,8,8,8,8,8,8,8,8,8,8,8,8,8,8,8,8,8,8,8,8])) (.t 21)),oP 4 23 (.conv .i64 (.t 22)),oB 5 24 .add 19 23,oM 6 2 24]
@[go_sem] theorem qwO:OE qRE.eq_1:=OEM qRE.eq_1
def qk5:AFun:=⟨1,25,[.t 2],.seq (.reg true [oC 0 2 0]) (.seq qRB (.seq qRC (.seq qRD (.seq (.reg true qRE) (.ret)))))⟩
def qMI:List AOper:=[oM 0 3 0,oP 1 4 (.conv .u32 (.t 3)),oD1 2 5 1348 4,oM 3 2 5]
@[go_sem] theorem qrS:OE qMI.eq_1:=OEM qMI.eq_1
def qj3:AFun:=⟨1,8,[.t 2],.seq (.reg true [oC 0 2 0]) (.seq (.cond (.c (.bool false)) (.seq (.reg true qMI) (.ret)) (.skip)) (.seq (.reg true [oM 0 6 0,oD1 1 7 1349 6,oM 2 2 7]) (.ret)))⟩
def qSB:List AOper:=[oM 0 3 0,oP 1 4 (.conv .u64 (.t 3)),oD1 2 5 1054 4,oP 3 6 (.shft .shl (.c (.int .u64 1)) (.t 5)),oM 4 2 6]
@[go_sem] theorem qxL:OE qSB.eq_1:=OEM qSB.eq_1
def qlE:AFun:=⟨1,7,[.t 2],.seq (.reg true [oP 0 2 (.mov (.c (.int .u64 0)))]) (.seq (.reg true qSB) (.ret))⟩
def qSC:List AOper:=[oM 0 3 0,oK 1 4 3,oL 2 5 4,oM 3 6 0,oK 4 7 6,oL 5 8 7,oP 6 9 (.shft .shl (.t 8) (.c (.int .u64 13))),oB 7 10 .xor 5 9,oK 8 11 3,oT 9 1 11 10]
@[go_sem] theorem qxM:OE qSC.eq_1:=OEM qSC.eq_1
def qSD:List AOper:=[oM 0 12 0,oK 1 13 12,oL 2 14 13,oM 3 15 0,oK 4 16 15,oL 5 17 16,oP 6 18 (.shft .shr (.t 17) (.c (.int .u64 7))),oB 7 19 .xor 14 18,oK 8 20 12,oT 9 1 20 19]
@[go_sem] theorem qxN:OE qSD.eq_1:=OEM qSD.eq_1
def qSE:List AOper:=[oM 0 21 0,oK 1 22 21,oL 2 23 22,oM 3 24 0,oK 4 25 24,oL 5 26 25,oP 6 27 (.shft .shl (.t 26) (.c (.int .u64 17))),oB 7 28 .xor 23 27,oK 8 29 21,oT 9 1 29 28]
@[go_sem] theorem qxO:OE qSE.eq_1:=OEM qSE.eq_1
def qSF:List AOper:=[oM 0 30 0,oK 1 31 30,oL 2 32 31,oM 3 2 32]
@[go_sem] theorem qxP:OE qSF.eq_1:=OEM qSF.eq_1
def qlF:AFun:=⟨1,33,[.t 2],.seq (.reg true [oP 0 2 (.mov (.c (.int .u64 0)))]) (.seq (.reg true qSC) (.seq (.reg true qSD) (.seq (.reg true qSE) (.seq (.reg true qSF) (.ret)))))⟩
def qPV:List AOper:=[oM 0 11 2,oM 1 12 1,oB 2 13 .sub 11 12,oM 3 6 13]
@[go_sem] theorem qu5:OE qPV.eq_1:=OEM qPV.eq_1
def qPW:List AOper:=[oM 0 16 6,oP 1 17 (.conv .u64 (.t 16)),oP 2 7 (.halloc 1 (.int .u64 0)),oT 3 1 7 17]
@[go_sem] theorem qu6:OE qPW.eq_1:=OEM qPW.eq_1
def qPX:List AOper:=[oM 0 20 1,oM 1 21 6,oE 2 22 .quo 21 4,oE 3 23 .mul 22 2,oB 4 24 .add 20 23,oE 5 25 .sub 24 1,oM 6 9 25]
@[go_sem] theorem qu7:OE qPX.eq_1:=OEM qPX.eq_1
def qPY:List AOper:=[oM 0 26 9,oM 1 27 1,oM 2 28 6,oE 3 29 .quo 28 4,oE 4 30 .mul 29 2,oB 5 31 .add 27 30,oE 6 32 .add 31 1,oB 7 33 .leq 26 32]
@[go_sem] theorem qu8:OE qPY.eq_1:=OEM qPY.eq_1
def qPZ:List AOper:=[oD1 0 36 1478 7,oM 1 37 8,oP 2 38 (.bin .sub (.t 37) (.c (.int .u64 1))),oB 3 39 .and 36 38,oP 4 40 (.conv .i64 (.t 39)),oM 5 10 40]
@[go_sem] theorem qu9:OE qPZ.eq_1:=OEM qPZ.eq_1
def qP0:List AOper:=[oM 0 44 10,oM 1 45 6,oB 2 46 .sub 44 45,oM 3 10 46]
@[go_sem] theorem qvA:OE qP0.eq_1:=OEM qP0.eq_1
def qP1:List AOper:=[oM 0 47 0,oM 1 48 9,oM 2 49 0,oM 3 50 1,oM 4 51 10,oB 5 52 .add 50 51,oM 6 53 0,oM 7 54 1,oM 8 55 10,oB 9 56 .add 54 55,oA 10 57 1 53 56,oL 11 58 57,oM 12 59 0,oM 13 60 9,oA 14 61 1 59 60,oL 15 62 61,oA 16 63 1 47 48,oT 17 1 63 58,oA 18 64 1 49 52,oT 19 1 64 62]
@[go_sem] theorem qvB:OE qP1.eq_1:=OEM qP1.eq_1
def qPT:ACode:=.seq (.blk 1 (.seq (.reg true qPZ) (.seq (.seq (.reg true [oM 0 41 10,oM 1 42 6,oB 2 43 .geq 41 42]) (.cond (.t 43) (.reg true qP0) (.skip))) (.reg true qP1)))) (.reg true [oM 0 34 9,oE 1 35 .add 34 1,oM 2 9 35])
@[go_sem] theorem qu3:CE qPT.eq_1:=CEM qPT.eq_1
def qPU:ACode:=.seq (.reg true qPW) (.seq (.reg true [oM 0 18 6,oD1 1 19 1477 18,oM 2 8 19]) (.seq (.reg true qPX) (.blk 0 (.loop (.seq (.seq (.reg true qPY) (.cond (.t 33) (.skip) (.exit 0))) qPT)))))
@[go_sem] theorem qu4:CE qPU.eq_1:=CEM qPU.eq_1
def qkY:AFun:=⟨3,65,[],.seq (.reg true qPV) (.seq (.reg true [oM 0 14 6,oE 1 15 .geq 14 8]) (.cond (.t 15) qPU (.skip)))⟩
def qSS:List AOper:=[oM 0 10 0,oM 1 11 2,oA 2 12 1 10 11,oL 3 13 12,oM 4 14 0,oM 5 15 1,oA 6 16 1 14 15,oL 7 17 16,oD2 8 18 1345 13 17]
@[go_sem] theorem qx2:OE qSS.eq_1:=OEM qSS.eq_1
def qST:List AOper:=[oM 0 19 3,oK 1 20 19,oL 2 21 20,oE 3 22 .add 21 1,oK 4 23 19,oT 5 1 23 22]
@[go_sem] theorem qx3:OE qST.eq_1:=OEM qST.eq_1
def qSU:List AOper:=[oM 0 24 2,oM 1 25 1,oM 2 8 24,oM 3 9 25]
@[go_sem] theorem qx4:OE qSU.eq_1:=OEM qSU.eq_1
def qSV:List AOper:=[oM 0 26 1,oM 1 27 2,oM 2 8 26,oM 3 9 27]
@[go_sem] theorem qx5:OE qSV.eq_1:=OEM qSV.eq_1
def qlK:AFun:=⟨4,28,[.t 8,.t 9],.seq (.reg true [oC 0 8 0,oC 1 9 0]) (.seq (.seq (.reg true qSS) (.cond (.t 18) (.seq (.reg true qST) (.seq (.reg true qSU) (.ret))) (.skip))) (.seq (.reg true qSV) (.ret)))⟩
def qSH:List AOper:=[oM 0 12 0,oM 1 13 1,oM 2 14 2,oM 3 15 4,oP 4 16 (.call 1529 [.t 12,.t 13,.t 14,.t 15]),oM 5 11 16,oV 6 17 11 0,oV 7 18 11 1,oM 8 1 17,oM 9 2 18]
@[go_sem] theorem qxR:OE qSH.eq_1:=OEM qSH.eq_1
def qSI:List AOper:=[oM 0 20 0,oM 1 21 2,oM 2 22 3,oM 3 23 4,oP 4 24 (.call 1529 [.t 20,.t 21,.t 22,.t 23]),oM 5 19 24,oV 6 25 19 0,oV 7 26 19 1,oM 8 2 25,oM 9 3 26]
@[go_sem] theorem qxS:OE qSI.eq_1:=OEM qSI.eq_1
def qSJ:List AOper:=[oM 0 28 0,oM 1 29 1,oM 2 30 2,oM 3 31 4,oP 4 32 (.call 1529 [.t 28,.t 29,.t 30,.t 31]),oM 5 27 32,oV 6 33 27 0,oV 7 34 27 1,oM 8 1 33,oM 9 2 34]
@[go_sem] theorem qxT:OE qSJ.eq_1:=OEM qSJ.eq_1
def qlH:AFun:=⟨5,36,[.t 10],.seq (.reg true [oC 0 10 0]) (.seq (.reg true qSH) (.seq (.reg true qSI) (.seq (.reg true qSJ) (.seq (.reg true [oM 0 35 2,oM 1 10 35]) (.ret)))))⟩
def qSG:List AOper:=[oM 0 7 0,oM 1 8 1,oE 2 9 .sub 8 1,oM 3 10 1,oM 4 11 1,oE 5 12 .add 11 1,oM 6 13 2,oP 7 14 (.call 1480 [.t 7,.t 9,.t 10,.t 12,.t 13]),oM 8 6 14]
@[go_sem] theorem qxQ:OE qSG.eq_1:=OEM qSG.eq_1
def qlG:AFun:=⟨3,15,[.t 6],.seq (.reg true [oC 0 6 0]) (.seq (.reg true qSG) (.ret))⟩
def qP4:List AOper:=[oM 0 13 2,oM 1 14 1,oB 2 15 .sub 13 14,oM 3 8 15]
@[go_sem] theorem qvE:OE qP4.eq_1:=OEM qP4.eq_1
def qP5:List AOper:=[oM 0 16 1,oM 1 17 8,oE 2 18 .quo 17 4,oE 3 19 .mul 18 1,oB 4 20 .add 16 19,oM 5 10 20]
@[go_sem] theorem qvF:OE qP5.eq_1:=OEM qP5.eq_1
def qP6:List AOper:=[oM 0 21 1,oM 1 22 8,oE 2 23 .quo 22 4,oE 3 24 .mul 23 2,oB 4 25 .add 21 24,oM 5 11 25]
@[go_sem] theorem qvG:OE qP6.eq_1:=OEM qP6.eq_1
def qP7:List AOper:=[oM 0 26 1,oM 1 27 8,oE 2 28 .quo 27 4,oE 3 29 .mul 28 3,oB 4 30 .add 26 29,oM 5 12 30]
@[go_sem] theorem qvH:OE qP7.eq_1:=OEM qP7.eq_1
def qP8:List AOper:=[oM 0 35 0,oM 1 36 10,oP 2 37 (.call 1479 [.t 35,.t 36,.t 9]),oM 3 10 37]
@[go_sem] theorem qvI:OE qP8.eq_1:=OEM qP8.eq_1
def qP9:List AOper:=[oM 0 38 0,oM 1 39 11,oP 2 40 (.call 1479 [.t 38,.t 39,.t 9]),oM 3 11 40]
@[go_sem] theorem qvJ:OE qP9.eq_1:=OEM qP9.eq_1
def qQA:List AOper:=[oM 0 41 0,oM 1 42 12,oP 2 43 (.call 1479 [.t 41,.t 42,.t 9]),oM 3 12 43]
@[go_sem] theorem qvK:OE qQA.eq_1:=OEM qQA.eq_1
def qQB:List AOper:=[oM 0 44 0,oM 1 45 10,oM 2 46 11,oM 3 47 12,oP 4 48 (.call 1480 [.t 44,.t 45,.t 46,.t 47,.t 9]),oM 5 11 48]
@[go_sem] theorem qvL:OE qQB.eq_1:=OEM qQB.eq_1
def qP2:ACode:=.seq (.reg true [oM 0 31 8,oE 1 32 .geq 31 8]) (.cond (.t 32) (.seq (.seq (.reg true [oM 0 33 8,oE 1 34 .geq 33 50]) (.cond (.t 34) (.seq (.reg true qP8) (.seq (.reg true qP9) (.reg true qQA))) (.skip))) (.reg true qQB)) (.skip))
@[go_sem] theorem qvC:CE qP2.eq_1:=CEM qP2.eq_1
def qP3:ACode:=.seq (.reg true [oE 0 55 .eql 49 12,oM 1 54 55]) (.cond (.t 54) (.seq (.reg true [oM 0 56 11,oM 1 6 56,oC 2 7 2]) (.ret)) (.seq (.reg true [oM 0 50 11,oM 1 6 50,oC 2 7 0]) (.ret)))
@[go_sem] theorem qvD:CE qP3.eq_1:=CEM qP3.eq_1
def qIM:ACode:=.seq (.reg true [oL 0 49 9]) (.blk 0 (.seq (.reg true [oE 0 52 .eql 49 0,oM 1 51 52]) (.cond (.t 51) (.seq (.reg true [oM 0 53 11,oM 1 6 53,oC 2 7 1]) (.ret)) qP3)))
@[go_sem] theorem qoD:CE qIM.eq_1:=CEM qIM.eq_1
def qkZ:AFun:=⟨3,57,[.t 6,.t 7],.seq (.reg true [oC 0 6 0,oC 1 7 0]) (.seq (.reg true qP4) (.seq (.reg true [oP 0 9 (.halloc 1 (.int .i64 0))]) (.seq (.reg true qP5) (.seq (.reg true qP6) (.seq (.reg true qP7) (.seq qP2 qIM))))))⟩
def qQE:List AOper:=[oM 0 14 0,oM 1 15 6,oM 2 16 0,oM 3 17 7,oM 4 18 0,oM 5 19 7,oA 6 20 1 18 19,oL 7 21 20,oM 8 22 0,oM 9 23 6,oA 10 24 1 22 23,oL 11 25 24,oA 12 26 1 14 15,oT 13 1 26 21,oA 14 27 1 16 17,oT 15 1 27 25]
@[go_sem] theorem qvO:OE qQE.eq_1:=OEM qQE.eq_1
def qQC:ACode:=.seq (.reg true qQE) (.seq (.reg true [oM 0 28 6,oE 1 29 .add 28 1,oM 2 6 29]) (.reg true [oM 0 30 7,oE 1 31 .sub 30 1,oM 2 7 31]))
@[go_sem] theorem qvM:CE qQC.eq_1:=CEM qQC.eq_1
def qQD:ACode:=.seq (.reg true [oM 0 9 2,oE 1 10 .sub 9 1,oM 2 7 10]) (.blk 0 (.loop (.seq (.seq (.reg true [oM 0 11 6,oM 1 12 7,oB 2 13 .lss 11 12]) (.cond (.t 13) (.skip) (.exit 0))) (.blk 1 qQC))))
@[go_sem] theorem qvN:CE qQD.eq_1:=CEM qQD.eq_1
def qk0:AFun:=⟨3,32,[],.seq (.reg true [oM 0 8 1,oM 1 6 8]) qQD⟩
def qQG:List AOper:=[oM 0 17 7,oM 1 18 2,oB 2 19 .lss 17 18,oM 3 20 19,oH 4 21 20 true 0,oH 5 22 20 true 7,oG 6 23 20 true (.iaddr 1 (.t 21) (.t 22)),oG 7 24 20 true (.load none (.t 23)),oH 8 25 20 true 0,oH 9 26 20 true 7,oG 10 27 20 true (.bin .sub (.t 26) (.c (.int .i64 1))),oG 11 28 20 true (.iaddr 1 (.t 25) (.t 27)),oG 12 29 20 true (.load none (.t 28)),oG 13 30 20 true (.call 1345 [.t 24,.t 29]),oG 14 31 20 true (.not (.t 30)),oPf 15 32 20 31]
@[go_sem] theorem qvQ:OE qQG.eq_1:=OEM qQG.eq_1
def qQH:List AOper:=[oM 0 38 2,oM 1 39 1,oB 2 40 .sub 38 39,oE 3 41 .lss 40 50]
@[go_sem] theorem qvR:OE qQH.eq_1:=OEM qQH.eq_1
def qQI:List AOper:=[oM 0 42 0,oM 1 43 7,oM 2 44 0,oM 3 45 7,oE 4 46 .sub 45 1,oM 5 47 0,oM 6 48 7,oE 7 49 .sub 48 1,oA 8 50 1 47 49,oL 9 51 50,oM 10 52 0,oM 11 53 7,oA 12 54 1 52 53,oL 13 55 54,oA 14 56 1 42 43,oT 15 1 56 51,oA 16 57 1 44 46,oT 17 1 57 55]
@[go_sem] theorem qvS:OE qQI.eq_1:=OEM qQI.eq_1
def qQJ:List AOper:=[oM 0 58 7,oM 1 59 1,oB 2 60 .sub 58 59,oE 3 61 .geq 60 2]
@[go_sem] theorem qvT:OE qQJ.eq_1:=OEM qQJ.eq_1
def qQK:List AOper:=[oM 0 68 0,oM 1 69 9,oA 2 70 1 68 69,oL 3 71 70,oM 4 72 0,oM 5 73 9,oE 6 74 .sub 73 1,oA 7 75 1 72 74,oL 8 76 75,oD2 9 77 1345 71 76,oJ 10 78 77]
@[go_sem] theorem qvU:OE qQK.eq_1:=OEM qQK.eq_1
def qQL:List AOper:=[oM 0 79 0,oM 1 80 9,oM 2 81 0,oM 3 82 9,oE 4 83 .sub 82 1,oM 5 84 0,oM 6 85 9,oE 7 86 .sub 85 1,oA 8 87 1 84 86,oL 9 88 87,oM 10 89 0,oM 11 90 9,oA 12 91 1 89 90,oL 13 92 91,oA 14 93 1 79 80,oT 15 1 93 88,oA 16 94 1 81 83,oT 17 1 94 92]
@[go_sem] theorem qvV:OE qQL.eq_1:=OEM qQL.eq_1
def qQF:ACode:=.seq (.seq (.reg true [oM 0 64 9,oE 1 65 .geq 64 1]) (.cond (.t 65) (.skip) (.exit 4))) (.seq (.blk 5 (.seq (.seq (.reg true qQK) (.cond (.t 78) (.exit 4) (.skip))) (.reg true qQL))) (.reg true [oM 0 66 9,oE 1 67 .sub 66 1,oM 2 9 67]))
@[go_sem] theorem qvP:CE qQF.eq_1:=CEM qQF.eq_1
def qQM:List AOper:=[oM 0 95 2,oM 1 96 7,oB 2 97 .sub 95 96,oE 3 98 .geq 97 2]
@[go_sem] theorem qvW:OE qQM.eq_1:=OEM qQM.eq_1
def qQN:List AOper:=[oM 0 106 0,oM 1 107 10,oA 2 108 1 106 107,oL 3 109 108,oM 4 110 0,oM 5 111 10,oE 6 112 .sub 111 1,oA 7 113 1 110 112,oL 8 114 113,oD2 9 115 1345 109 114,oJ 10 116 115]
@[go_sem] theorem qvX:OE qQN.eq_1:=OEM qQN.eq_1
def qQO:List AOper:=[oM 0 117 0,oM 1 118 10,oM 2 119 0,oM 3 120 10,oE 4 121 .sub 120 1,oM 5 122 0,oM 6 123 10,oE 7 124 .sub 123 1,oA 8 125 1 122 124,oL 9 126 125,oM 10 127 0,oM 11 128 10,oA 12 129 1 127 128,oL 13 130 129,oA 14 131 1 117 118,oT 15 1 131 126,oA 16 132 1 119 121,oT 17 1 132 130]
@[go_sem] theorem qvY:OE qQO.eq_1:=OEM qQO.eq_1
def qIN:ACode:=.seq (.seq (.reg true [oM 0 101 10,oM 1 102 2,oB 2 103 .lss 101 102]) (.cond (.t 103) (.skip) (.exit 6))) (.seq (.blk 7 (.seq (.seq (.reg true qQN) (.cond (.t 116) (.exit 6) (.skip))) (.reg true qQO))) (.reg true [oM 0 104 10,oE 1 105 .add 104 1,oM 2 10 105]))
@[go_sem] theorem qoE:CE qIN.eq_1:=CEM qIN.eq_1
def qIO:ACode:=.seq (.seq (.reg true qQJ) (.cond (.t 61) (.seq (.reg true [oM 0 62 7,oE 1 63 .sub 62 1,oM 2 9 63]) (.blk 4 (.loop qQF))) (.skip))) (.seq (.reg true qQM) (.cond (.t 98) (.seq (.reg true [oM 0 99 7,oE 1 100 .add 99 1,oM 2 10 100]) (.blk 6 (.loop qIN))) (.skip)))
@[go_sem] theorem qoF:CE qIO.eq_1:=CEM qIO.eq_1
def qIP:ACode:=.seq (.seq (.reg true [oM 0 35 7,oM 1 36 2,oB 2 37 .eql 35 36]) (.cond (.t 37) (.seq (.reg true [oQ 0 6 true]) (.ret)) (.skip))) (.seq (.seq (.reg true qQH) (.cond (.t 41) (.seq (.reg true [oQ 0 6 false]) (.ret)) (.skip))) (.seq (.reg true qQI) qIO))
@[go_sem] theorem qoG:CE qIP.eq_1:=CEM qIP.eq_1
def qIQ:ACode:=.seq (.blk 1 (.seq (.blk 2 (.loop (.seq (.seq (.reg true qQG) (.cond (.t 32) (.skip) (.exit 2))) (.blk 3 (.reg true [oM 0 33 7,oE 1 34 .add 33 1,oM 2 7 34]))))) qIP)) (.reg true [oM 0 15 8,oE 1 16 .add 15 1,oM 2 8 16])
@[go_sem] theorem qoH:CE qIQ.eq_1:=CEM qIQ.eq_1
def qIR:ACode:=.seq (.seq (.reg true [oC 0 8 0]) (.blk 0 (.loop (.seq (.seq (.reg true [oM 0 13 8,oE 1 14 .lss 13 5]) (.cond (.t 14) (.skip) (.exit 0))) qIQ)))) (.seq (.reg true [oQ 0 6 false]) (.ret))
@[go_sem] theorem qoI:CE qIR.eq_1:=CEM qIR.eq_1
def qk1:AFun:=⟨3,133,[.t 6],.seq (.reg true [oQ 0 6 false]) (.seq (.reg true [oM 0 11 1,oE 1 12 .add 11 1,oM 2 7 12]) qIR)⟩
def qQT:List AOper:=[oM 0 11 0,oM 1 12 1,oM 2 13 0,oM 3 14 3,oM 4 15 0,oM 5 16 3,oA 6 17 1 15 16,oL 7 18 17,oM 8 19 0,oM 9 20 1,oA 10 21 1 19 20,oL 11 22 21,oA 12 23 1 11 12,oT 13 1 23 18,oA 14 24 1 13 14,oT 15 1 24 22]
@[go_sem] theorem qv3:OE qQT.eq_1:=OEM qQT.eq_1
def qQU:List AOper:=[oM 0 25 1,oE 1 26 .add 25 1,oM 2 27 2,oE 3 28 .sub 27 1,oM 4 9 26,oM 5 10 28]
@[go_sem] theorem qv4:OE qQU.eq_1:=OEM qQU.eq_1
def qQV:List AOper:=[oM 0 29 9,oM 1 30 10,oB 2 31 .leq 29 30,oM 3 32 31,oH 4 33 32 true 0,oH 5 34 32 true 1,oG 6 35 32 true (.iaddr 1 (.t 33) (.t 34)),oG 7 36 32 true (.load none (.t 35)),oH 8 37 32 true 0,oH 9 38 32 true 9,oG 10 39 32 true (.iaddr 1 (.t 37) (.t 38)),oG 11 40 32 true (.load none (.t 39)),oG 12 41 32 true (.call 1345 [.t 36,.t 40]),oG 13 42 32 true (.not (.t 41)),oPf 14 43 32 42]
@[go_sem] theorem qv5:OE qQV.eq_1:=OEM qQV.eq_1
def qQW:List AOper:=[oM 0 46 9,oM 1 47 10,oB 2 48 .leq 46 47,oM 3 49 48,oH 4 50 49 true 0,oH 5 51 49 true 1,oG 6 52 49 true (.iaddr 1 (.t 50) (.t 51)),oG 7 53 49 true (.load none (.t 52)),oH 8 54 49 true 0,oH 9 55 49 true 10,oG 10 56 49 true (.iaddr 1 (.t 54) (.t 55)),oG 11 57 49 true (.load none (.t 56)),oG 12 58 49 true (.call 1345 [.t 53,.t 57]),oPf 13 59 49 58]
@[go_sem] theorem qv6:OE qQW.eq_1:=OEM qQW.eq_1
def qQX:List AOper:=[oM 0 65 0,oM 1 66 9,oM 2 67 0,oM 3 68 10,oM 4 69 0,oM 5 70 10,oA 6 71 1 69 70,oL 7 72 71,oM 8 73 0,oM 9 74 9,oA 10 75 1 73 74,oL 11 76 75,oA 12 77 1 65 66,oT 13 1 77 72,oA 14 78 1 67 68,oT 15 1 78 76]
@[go_sem] theorem qv7:OE qQX.eq_1:=OEM qQX.eq_1
def qQQ:ACode:=.seq (.reg true qQX) (.seq (.reg true [oM 0 79 9,oE 1 80 .add 79 1,oM 2 9 80]) (.reg true [oM 0 81 10,oE 1 82 .sub 81 1,oM 2 10 82]))
@[go_sem] theorem qv0:CE qQQ.eq_1:=CEM qQQ.eq_1
def qQR:ACode:=.seq (.blk 4 (.loop (.seq (.seq (.reg true qQW) (.cond (.t 59) (.skip) (.exit 4))) (.blk 5 (.reg true [oM 0 60 10,oE 1 61 .sub 60 1,oM 2 10 61]))))) (.seq (.seq (.reg true [oM 0 62 9,oM 1 63 10,oB 2 64 .gtr 62 63]) (.cond (.t 64) (.exit 0) (.skip))) qQQ)
@[go_sem] theorem qv1:CE qQR.eq_1:=CEM qQR.eq_1
def qQS:ACode:=.loop (.blk 1 (.seq (.blk 2 (.loop (.seq (.seq (.reg true qQV) (.cond (.t 43) (.skip) (.exit 2))) (.blk 3 (.reg true [oM 0 44 9,oE 1 45 .add 44 1,oM 2 9 45]))))) qQR))
@[go_sem] theorem qv2:CE qQS.eq_1:=CEM qQS.eq_1
def qk3:AFun:=⟨4,84,[.t 8],.seq (.reg true [oC 0 8 0]) (.seq (.reg true qQT) (.seq (.reg true qQU) (.seq (.blk 0 qQS) (.seq (.reg true [oM 0 83 9,oM 1 8 83]) (.ret)))))⟩
def qQZ:List AOper:=[oM 0 12 0,oM 1 13 1,oM 2 14 0,oM 3 15 3,oM 4 16 0,oM 5 17 3,oA 6 18 1 16 17,oL 7 19 18,oM 8 20 0,oM 9 21 1,oA 10 22 1 20 21,oL 11 23 22,oA 12 24 1 12 13,oT 13 1 24 19,oA 14 25 1 14 15,oT 15 1 25 23]
@[go_sem] theorem qv9:OE qQZ.eq_1:=OEM qQZ.eq_1
def qQ0:List AOper:=[oM 0 26 1,oE 1 27 .add 26 1,oM 2 28 2,oE 3 29 .sub 28 1,oM 4 10 27,oM 5 11 29]
@[go_sem] theorem qwA:OE qQ0.eq_1:=OEM qQ0.eq_1
def qQ1:List AOper:=[oM 0 30 10,oM 1 31 11,oB 2 32 .leq 30 31,oM 3 33 32,oH 4 34 33 true 0,oH 5 35 33 true 10,oG 6 36 33 true (.iaddr 1 (.t 34) (.t 35)),oG 7 37 33 true (.load none (.t 36)),oH 8 38 33 true 0,oH 9 39 33 true 1,oG 10 40 33 true (.iaddr 1 (.t 38) (.t 39)),oG 11 41 33 true (.load none (.t 40)),oG 12 42 33 true (.call 1345 [.t 37,.t 41]),oPf 13 43 33 42]
@[go_sem] theorem qwB:OE qQ1.eq_1:=OEM qQ1.eq_1
def qQ2:List AOper:=[oM 0 46 10,oM 1 47 11,oB 2 48 .leq 46 47,oM 3 49 48,oH 4 50 49 true 0,oH 5 51 49 true 11,oG 6 52 49 true (.iaddr 1 (.t 50) (.t 51)),oG 7 53 49 true (.load none (.t 52)),oH 8 54 49 true 0,oH 9 55 49 true 1,oG 10 56 49 true (.iaddr 1 (.t 54) (.t 55)),oG 11 57 49 true (.load none (.t 56)),oG 12 58 49 true (.call 1345 [.t 53,.t 57]),oG 13 59 49 true (.not (.t 58)),oPf 14 60 49 59]
@[go_sem] theorem qwC:OE qQ2.eq_1:=OEM qQ2.eq_1
def qQ3:List AOper:=[oM 0 66 0,oM 1 67 11,oM 2 68 0,oM 3 69 1,oM 4 70 0,oM 5 71 1,oA 6 72 1 70 71,oL 7 73 72,oM 8 74 0,oM 9 75 11,oA 10 76 1 74 75,oL 11 77 76,oA 12 78 1 66 67,oT 13 1 78 73,oA 14 79 1 68 69,oT 15 1 79 77]
@[go_sem] theorem qwD:OE qQ3.eq_1:=OEM qQ3.eq_1
def qQY:ACode:=.seq (.reg true [oM 0 63 10,oM 1 64 11,oB 2 65 .gtr 63 64]) (.cond (.t 65) (.seq (.reg true qQ3) (.seq (.reg true [oM 0 80 11,oM 1 8 80,oQ 2 9 true]) (.ret))) (.skip))
@[go_sem] theorem qv8:CE qQY.eq_1:=CEM qQY.eq_1
def qQ4:List AOper:=[oM 0 81 0,oM 1 82 10,oM 2 83 0,oM 3 84 11,oM 4 85 0,oM 5 86 11,oA 6 87 1 85 86,oL 7 88 87,oM 8 89 0,oM 9 90 10,oA 10 91 1 89 90,oL 11 92 91,oA 12 93 1 81 82,oT 13 1 93 88,oA 14 94 1 83 84,oT 15 1 94 92]
@[go_sem] theorem qwE:OE qQ4.eq_1:=OEM qQ4.eq_1
def qQ5:List AOper:=[oM 0 99 10,oM 1 100 11,oB 2 101 .leq 99 100,oM 3 102 101,oH 4 103 102 true 0,oH 5 104 102 true 10,oG 6 105 102 true (.iaddr 1 (.t 103) (.t 104)),oG 7 106 102 true (.load none (.t 105)),oH 8 107 102 true 0,oH 9 108 102 true 1,oG 10 109 102 true (.iaddr 1 (.t 107) (.t 108)),oG 11 110 102 true (.load none (.t 109)),oG 12 111 102 true (.call 1345 [.t 106,.t 110]),oPf 13 112 102 111]
@[go_sem] theorem qwF:OE qQ5.eq_1:=OEM qQ5.eq_1
def qQ6:List AOper:=[oM 0 115 10,oM 1 116 11,oB 2 117 .leq 115 116,oM 3 118 117,oH 4 119 118 true 0,oH 5 120 118 true 11,oG 6 121 118 true (.iaddr 1 (.t 119) (.t 120)),oG 7 122 118 true (.load none (.t 121)),oH 8 123 118 true 0,oH 9 124 118 true 1,oG 10 125 118 true (.iaddr 1 (.t 123) (.t 124)),oG 11 126 118 true (.load none (.t 125)),oG 12 127 118 true (.call 1345 [.t 122,.t 126]),oG 13 128 118 true (.not (.t 127)),oPf 14 129 118 128]
@[go_sem] theorem qwG:OE qQ6.eq_1:=OEM qQ6.eq_1
def qQ7:List AOper:=[oM 0 135 0,oM 1 136 10,oM 2 137 0,oM 3 138 11,oM 4 139 0,oM 5 140 11,oA 6 141 1 139 140,oL 7 142 141,oM 8 143 0,oM 9 144 10,oA 10 145 1 143 144,oL 11 146 145,oA 12 147 1 135 136,oT 13 1 147 142,oA 14 148 1 137 138,oT 15 1 148 146]
@[go_sem] theorem qwH:OE qQ7.eq_1:=OEM qQ7.eq_1
def qIS:ACode:=.seq (.reg true qQ7) (.seq (.reg true [oM 0 149 10,oE 1 150 .add 149 1,oM 2 10 150]) (.reg true [oM 0 151 11,oE 1 152 .sub 151 1,oM 2 11 152]))
@[go_sem] theorem qoJ:CE qIS.eq_1:=CEM qIS.eq_1
def qIT:ACode:=.seq (.blk 8 (.loop (.seq (.seq (.reg true qQ6) (.cond (.t 129) (.skip) (.exit 8))) (.blk 9 (.reg true [oM 0 130 11,oE 1 131 .sub 130 1,oM 2 11 131]))))) (.seq (.seq (.reg true [oM 0 132 10,oM 1 133 11,oB 2 134 .gtr 132 133]) (.cond (.t 134) (.exit 4) (.skip))) qIS)
@[go_sem] theorem qoK:CE qIT.eq_1:=CEM qIT.eq_1
def qIU:ACode:=.loop (.blk 5 (.seq (.blk 6 (.loop (.seq (.seq (.reg true qQ5) (.cond (.t 112) (.skip) (.exit 6))) (.blk 7 (.reg true [oM 0 113 10,oE 1 114 .add 113 1,oM 2 10 114]))))) qIT))
@[go_sem] theorem qoL:CE qIU.eq_1:=CEM qIU.eq_1
def qIY:List AOper:=[oM 0 153 0,oM 1 154 11,oM 2 155 0,oM 3 156 1,oM 4 157 0,oM 5 158 1,oA 6 159 1 157 158,oL 7 160 159,oM 8 161 0,oM 9 162 11,oA 10 163 1 161 162,oL 11 164 163,oA 12 165 1 153 154,oT 13 1 165 160,oA 14 166 1 155 156,oT 15 1 166 164]
@[go_sem] theorem qoP:OE qIY.eq_1:=OEM qIY.eq_1
def qIV:ACode:=.seq (.reg true [oM 0 97 11,oE 1 98 .sub 97 1,oM 2 11 98]) (.seq (.blk 4 qIU) (.seq (.reg true qIY) (.seq (.reg true [oM 0 167 11,oM 1 8 167,oQ 2 9 false]) (.ret))))
@[go_sem] theorem qoM:CE qIV.eq_1:=CEM qIV.eq_1
def qIW:ACode:=.seq (.blk 2 (.loop (.seq (.seq (.reg true qQ2) (.cond (.t 60) (.skip) (.exit 2))) (.blk 3 (.reg true [oM 0 61 11,oE 1 62 .sub 61 1,oM 2 11 62]))))) (.seq qQY (.seq (.reg true qQ4) (.seq (.reg true [oM 0 95 10,oE 1 96 .add 95 1,oM 2 10 96]) qIV)))
@[go_sem] theorem qoN:CE qIW.eq_1:=CEM qIW.eq_1
def qIX:ACode:=.seq (.reg true qQZ) (.seq (.reg true qQ0) (.seq (.blk 0 (.loop (.seq (.seq (.reg true qQ1) (.cond (.t 43) (.skip) (.exit 0))) (.blk 1 (.reg true [oM 0 44 10,oE 1 45 .add 44 1,oM 2 10 45]))))) qIW))
@[go_sem] theorem qoO:CE qIX.eq_1:=CEM qIX.eq_1
def qk4:AFun:=⟨4,168,[.t 8,.t 9],.seq (.reg true [oC 0 8 0,oQ 1 9 false]) qIX⟩
def qMB:List AOper:=[oM 0 19 2,oM 1 20 1,oB 2 21 .sub 19 20,oM 3 10 21]
@[go_sem] theorem qrK:OE qMB.eq_1:=OEM qMB.eq_1
def qMC:List AOper:=[oM 0 24 0,oM 1 25 1,oM 2 26 2,oP 3 27 (.call 1339 [.t 24,.t 25,.t 26])]
@[go_sem] theorem qrL:OE qMC.eq_1:=OEM qMC.eq_1
def qMD:List AOper:=[oM 0 30 0,oM 1 31 1,oM 2 32 2,oP 3 33 (.call 1340 [.t 30,.t 31,.t 32])]
@[go_sem] theorem qrM:OE qMD.eq_1:=OEM qMD.eq_1
def qME:List AOper:=[oM 0 36 0,oM 1 37 1,oM 2 38 2,oP 3 39 (.call 1341 [.t 36,.t 37,.t 38])]
@[go_sem] theorem qrN:OE qME.eq_1:=OEM qME.eq_1
def qFL:List AOper:=[oM 0 43 0,oM 1 44 1,oM 2 45 2,oP 3 46 (.call 1342 [.t 43,.t 44,.t 45]),oM 4 42 46,oV 5 47 42 0,oV 6 48 42 1,oM 7 11 47,oM 8 12 48]
@[go_sem] theorem qfJ:OE qFL.eq_1:=OEM qFL.eq_1
def qMF:List AOper:=[oM 0 51 0,oM 1 52 1,oM 2 53 2,oP 3 54 (.call 1343 [.t 51,.t 52,.t 53])]
@[go_sem] theorem qrO:OE qMF.eq_1:=OEM qMF.eq_1
def qMG:List AOper:=[oM 0 55 2,oE 1 56 .sub 55 1,oM 2 57 11,oM 3 58 1,oB 4 59 .sub 57 58,oB 5 60 .sub 56 59,oM 6 11 60]
@[go_sem] theorem qrP:OE qMG.eq_1:=OEM qMG.eq_1
def qFM:List AOper:=[oM 0 61 8,oM 1 62 61,oH 2 63 62 true 9,oPf 3 64 62 63,oM 4 65 64,oH 5 66 65 true 12,oG 6 67 65 true (.bin .eql (.t 66) (.c (.int .i64 1))),oPf 7 68 65 67]
@[go_sem] theorem qfK:OE qFM.eq_1:=OEM qFM.eq_1
def qHC:List AOper:=[oM 0 69 0,oM 1 70 1,oM 2 71 2,oP 3 72 (.call 1344 [.t 69,.t 70,.t 71])]
@[go_sem] theorem qrQ:OE qHC.eq_1:=OEM qHC.eq_1
def qMH:List AOper:=[oM 0 73 1,oE 1 74 .gtr 73 0,oM 2 75 74,oH 3 76 75 true 0,oH 4 77 75 true 1,oG 5 78 75 true (.bin .sub (.t 77) (.c (.int .i64 1))),oG 6 79 75 true (.iaddr 1 (.t 76) (.t 78)),oG 7 80 75 true (.load none (.t 79)),oH 8 81 75 true 0,oH 9 82 75 true 11,oG 10 83 75 true (.iaddr 1 (.t 81) (.t 82)),oG 11 84 75 true (.load none (.t 83)),oG 12 85 75 true (.call 1345 [.t 80,.t 84]),oG 13 86 75 true (.not (.t 85)),oPf 14 87 75 86]
@[go_sem] theorem qrR:OE qMH.eq_1:=OEM qMH.eq_1
def qHZ:List AOper:=[oM 0 88 0,oM 1 89 1,oM 2 90 2,oM 3 91 11,oP 4 92 (.call 1346 [.t 88,.t 89,.t 90,.t 91]),oM 5 13 92]
@[go_sem] theorem qnQ:OE qHZ.eq_1:=OEM qHZ.eq_1
def qEM:List AOper:=[oM 0 95 0,oM 1 96 1,oM 2 97 2,oM 3 98 11,oP 4 99 (.call 1347 [.t 95,.t 96,.t 97,.t 98]),oM 5 94 99,oV 6 100 94 0,oV 7 101 94 1,oM 8 14 100,oM 9 15 101]
@[go_sem] theorem qV1:OE qEM.eq_1:=OEM qEM.eq_1
def qH0:List AOper:=[oM 0 103 14,oM 1 104 1,oB 2 105 .sub 103 104,oM 3 106 2,oM 4 107 14,oB 5 108 .sub 106 107,oM 6 16 105,oM 7 17 108]
@[go_sem] theorem qnR:OE qH0.eq_1:=OEM qH0.eq_1
def qH1:List AOper:=[oM 0 114 16,oM 1 115 18,oB 2 116 .geq 114 115,oM 3 8 116]
@[go_sem] theorem qnS:OE qH1.eq_1:=OEM qH1.eq_1
def qH2:List AOper:=[oM 0 117 0,oM 1 118 1,oM 2 119 14,oM 3 120 3,oP 4 121 (.call 1053 [.t 117,.t 118,.t 119,.t 120])]
@[go_sem] theorem qnT:OE qH2.eq_1:=OEM qH2.eq_1
def qH3:List AOper:=[oM 0 124 17,oM 1 125 18,oB 2 126 .geq 124 125,oM 3 8 126]
@[go_sem] theorem qnU:OE qH3.eq_1:=OEM qH3.eq_1
def qH4:List AOper:=[oM 0 127 0,oM 1 128 14,oE 2 129 .add 128 1,oM 3 130 2,oM 4 131 3,oP 5 132 (.call 1053 [.t 127,.t 129,.t 130,.t 131])]
@[go_sem] theorem qnV:OE qH4.eq_1:=OEM qH4.eq_1
def qHW:ACode:=.cond (.t 113) (.seq (.reg true qH1) (.seq (.reg true qH2) (.reg true [oM 0 122 14,oE 1 123 .add 122 1,oM 2 1 123]))) (.seq (.reg true qH3) (.seq (.reg true qH4) (.reg true [oM 0 133 14,oM 1 2 133])))
@[go_sem] theorem qnM:CE qHW.eq_1:=CEM qHW.eq_1
def qDX:ACode:=.seq (.reg true qH0) (.seq (.reg true [oM 0 109 10,oE 1 110 .quo 109 8,oM 2 18 110]) (.seq (.reg true [oM 0 111 16,oM 1 112 17,oB 2 113 .lss 111 112]) qHW))
@[go_sem] theorem qnN:CE qDX.eq_1:=CEM qDX.eq_1
def qDY:ACode:=.seq (.seq (.reg true qMH) (.cond (.t 87) (.seq (.reg true qHZ) (.seq (.reg true [oM 0 93 13,oM 1 1 93]) (.exit 1))) (.skip))) (.seq (.reg true qEM) (.seq (.reg true [oM 0 102 15,oM 1 9 102]) qDX))
@[go_sem] theorem qVZ:CE qDY.eq_1:=CEM qDY.eq_1
def qDB:ACode:=.seq (.seq (.reg true [oM 0 49 12,oE 1 50 .eql 49 2]) (.cond (.t 50) (.seq (.reg true qMF) (.seq (.reg true qMG) (.reg true [oC 0 12 1]))) (.skip))) (.seq (.seq (.reg true qFM) (.cond (.t 68) (.seq (.reg true qHC) (.cond (.t 72) (.ret) (.skip))) (.skip))) qDY)
@[go_sem] theorem qV0:CE qDB.eq_1:=CEM qDB.eq_1
def qHX:ACode:=.seq (.seq (.reg true [oM 0 34 8,oJ 1 35 34]) (.cond (.t 35) (.seq (.reg true qME) (.reg true [oM 0 40 3,oE 1 41 .sub 40 1,oM 2 3 41])) (.skip))) (.seq (.reg true qFL) qDB)
@[go_sem] theorem qnO:CE qHX.eq_1:=CEM qHX.eq_1
def qHY:ACode:=.seq (.reg true qMB) (.seq (.seq (.reg true [oM 0 22 10,oE 1 23 .leq 22 12]) (.cond (.t 23) (.seq (.reg true qMC) (.ret)) (.skip))) (.seq (.seq (.reg true [oM 0 28 3,oE 1 29 .eql 28 0]) (.cond (.t 29) (.seq (.reg true qMD) (.ret)) (.skip))) qHX))
@[go_sem] theorem qnP:CE qHY.eq_1:=CEM qHY.eq_1
def qj2:AFun:=⟨4,134,[],.seq (.reg true [oQ 0 8 true]) (.seq (.reg true [oQ 0 9 true]) (.blk 0 (.loop (.blk 1 qHY))))⟩
def qYO:List AOper:=[oM 0 5 0,oM 1 6 2,oM 2 7 2,oP 3 8 (.conv .u64 (.t 7)),oD1 4 9 1054 8,oP 5 10 (.call 1053 [.t 5,.c (.int .i64 0),.t 6,.t 9])]
@[go_sem] theorem zA9:OE qYO.eq_1:=OEM qYO.eq_1
def F678:AFun:=⟨1,11,[],.seq (.reg true [oM 0 3 0,oW 1 4 3,oM 2 2 4]) (.reg true qYO)⟩
def qLU:List AOper:=[oM 0 10 1,oU 1 11 2,oX 2 12 2 1,oP 3 13 (.bslice 1 (.int .i64 0) 1 [(0,.t 12)]),oP 4 14 (.app 1 (.t 10) (.t 13)),oM 5 1 14]
@[go_sem] theorem qq3:OE qLU.eq_1:=OEM qLU.eq_1
def qLV:List AOper:=[oM 0 15 1,oU 1 16 2,oX 2 17 2 2,oP 3 18 (.app 1 (.t 15) (.t 17)),oM 4 1 18]
@[go_sem] theorem qq4:OE qLV.eq_1:=OEM qLV.eq_1
def qLW:List AOper:=[oU 0 19 2,oX 1 20 2 3,oW 2 21 20,oC 3 22 0]
@[go_sem] theorem qq5:OE qLW.eq_1:=OEM qLW.eq_1
def qLX:List AOper:=[oA 0 24 4 20 22,oP 1 25 (.load (some 4) (.t 24)),oZ 2 6,oS 3 6 0 4 25]
@[go_sem] theorem qq6:OE qLX.eq_1:=OEM qLX.eq_1
def qLY:List AOper:=[oY 0 26 6 0 4,oM 1 27 1,oD2 2 28 1041 26 27,oM 3 1 28]
@[go_sem] theorem qq7:OE qLY.eq_1:=OEM qLY.eq_1
def qLS:ACode:=.loop (.seq (.reg true [oB 0 23 .lss 22 21]) (.seq (.cond (.t 23) (.skip) (.exit 0)) (.seq (.blk 1 (.seq (.reg true qLX) (.reg true qLY))) (.reg true [oE 0 29 .add 22 1,oM 1 22 29]))))
@[go_sem] theorem qq1:CE qLS.eq_1:=CEM qLS.eq_1
def qLT:ACode:=.seq (.seq (.reg true [oU 0 7 2,oX 1 8 2 0,oE 2 9 .eql 8 11]) (.cond (.t 9) (.reg true qLU) (.skip))) (.seq (.reg true qLV) (.seq (.seq (.reg true qLW) (.blk 0 qLS)) (.seq (.reg true [oM 0 30 1,oM 1 4 30]) (.ret))))
@[go_sem] theorem qq2:CE qLT.eq_1:=CEM qLT.eq_1
def qjY:AFun:=⟨2,31,[.t 4],.seq (.reg true [oP 0 2 (.lbox 4 (.t 0)),oP 1 4 (.mov (.c (.nils)))]) qLT⟩
def qYH:List AOper:=[oU 0 6 2,oX 1 7 2 0,oM 2 8 1,oA 3 9 4 7 8,oP 4 10 (.load (some 4) (.t 9)),oP 5 11 (.call 1041 [.t 10,.c (.nils)]),oM 6 5 11]
@[go_sem] theorem zA2:OE qYH.eq_1:=OEM qYH.eq_1
def F664:AFun:=⟨2,16,[.t 4],.seq (.reg true [oP 0 2 (.lbox 1 (.t 0)),oP 1 4 (.mov (.c (.nils)))]) (.seq (.reg true qYH) (.seq (.reg true [oM 0 12 5,oD1 1 13 678 12]) (.seq (.reg true [oM 0 14 5,oD1 1 15 1042 14,oM 2 4 15]) (.ret))))⟩
def qLN:List AOper:=[oM 0 11 6,oM 1 12 5,oW 2 13 12,oB 3 14 .lss 11 13]
@[go_sem] theorem qqW:OE qLN.eq_1:=OEM qLN.eq_1
def qLO:List AOper:=[oY 0 17 2 0 1,oM 1 18 5,oM 2 19 6,oA 3 20 1 18 19,oL 4 21 20,oC 7 24 0,oD2 5 22 664 17 21,oW 6 23 22]
@[go_sem] theorem qqX:OE qLO.eq_1:=OEM qLO.eq_1
def qLP:List AOper:=[oM 0 28 5,oM 1 29 8,oD2 2 30 647 28 29,oJ 3 31 30]
@[go_sem] theorem qqY:OE qLP.eq_1:=OEM qLP.eq_1
def qLQ:List AOper:=[oM 0 32 5,oM 1 33 8,oP 2 34 (.bslice 1 (.int .i64 0) 1 [(0,.t 33)]),oP 3 35 (.app 1 (.t 32) (.t 34)),oM 4 5 35]
@[go_sem] theorem qqZ:OE qLQ.eq_1:=OEM qLQ.eq_1
def qLK:ACode:=.seq (.blk 3 (.seq (.reg true [oA 0 26 1 22 24,oL 1 27 26,oM 2 8 27]) (.seq (.reg true qLP) (.cond (.t 31) (.reg true qLQ) (.skip))))) (.reg true [oE 0 36 .add 24 1,oM 1 24 36])
@[go_sem] theorem qqT:CE qLK.eq_1:=CEM qLK.eq_1
def qLL:ACode:=.seq (.blk 1 (.seq (.reg true qLO) (.blk 2 (.loop (.seq (.reg true [oB 0 25 .lss 24 23]) (.seq (.cond (.t 25) (.skip) (.exit 2)) qLK)))))) (.reg true [oM 0 15 6,oE 1 16 .add 15 1,oM 2 6 16])
@[go_sem] theorem qqU:CE qLL.eq_1:=CEM qLL.eq_1
def qLM:ACode:=.seq (.seq (.reg true [oC 0 6 0]) (.blk 0 (.loop (.seq (.seq (.reg true qLN) (.cond (.t 14) (.skip) (.exit 0))) qLL)))) (.seq (.reg true [oM 0 37 5,oD1 1 38 678 37]) (.seq (.reg true [oM 0 39 5,oD1 1 40 1042 39,oM 2 4 40]) (.ret)))
@[go_sem] theorem qqV:CE qLM.eq_1:=CEM qLM.eq_1
def qjW:AFun:=⟨2,41,[.t 4],.seq (.reg true [oP 0 2 (.lbox 1 (.t 0)),oP 1 4 (.mov (.c (.nils)))]) (.seq (.reg true [oM 0 9 1,oD1 1 10 401 9,oM 2 5 10]) qLM)⟩
def qLR:List AOper:=[oP 0 5 (.load (some 1) (.t 1)),oM 1 6 0,oL 3 8 2,⟨2,some 7,none,.call 664 [.t 5,.t 6],[⟨3,some 8,none,.load none (.t 2),[]⟩]⟩,oD2 4 9 647 7 8,oM 5 4 9]
@[go_sem] theorem qq0:OE qLR.eq_1:=OEM qLR.eq_1
def qjX:AFun:=⟨3,10,[.t 4],.seq (.reg true [oQ 0 4 false]) (.seq (.reg true qLR) (.ret))⟩
def qYG:List AOper:=[oP 0 5 (.load (some 1) (.t 2)),oL 1 6 3,oP 2 7 (.bslice 1 (.int .i64 0) 1 [(0,.t 6)]),oD2 3 8 1039 5 7,oP 4 9 (.mkfn 1040 [.t 2,.t 3]),oD2 5 10 397 8 9,oM 6 4 10]
@[go_sem] theorem zA1:OE qYG.eq_1:=OEM qYG.eq_1
def F663:AFun:=⟨2,11,[.t 4],.seq (.reg true [oP 0 2 (.hbox 1 (.t 0)),oP 1 3 (.hbox 1 (.t 1)),oQ 2 4 false]) (.seq (.reg true qYG) (.ret))⟩
def qbK:List AOper:=[oY 0 10 2 0 1,oM 1 11 1,oP 2 12 (.build (.agg [.nils,.int .i64 0,.nils]) [(0,1,.t 10),(1,1,.t 11)]),oP 3 13 (.hbox 3 (.t 12)),oM 4 5 13]
@[go_sem] theorem zD5:OE qbK.eq_1:=OEM qbK.eq_1
def qbL:List AOper:=[oU 0 14 2,oX 1 15 2 0,oW 2 16 15,oC 3 17 0]
@[go_sem] theorem zD6:OE qbL.eq_1:=OEM qbL.eq_1
def qbM:List AOper:=[oM 0 19 17,oA 1 20 4 15 17,oP 2 21 (.load (some 4) (.t 20)),oZ 3 7,oM 4 6 19,oS 5 7 0 4 21]
@[go_sem] theorem zD7:OE qbM.eq_1:=OEM qbM.eq_1
def qbN:List AOper:=[oY 0 23 7 0 4,oD1 1 24 665 23,oM 2 22 24,oV 3 25 22 0,oV 4 26 22 1,oM 5 8 25,oM 6 9 26]
@[go_sem] theorem zD8:OE qbN.eq_1:=OEM qbN.eq_1
def qbO:List AOper:=[oM 0 27 5,oM 1 28 5,oK 2 29 28,oF 3 30 2 29,oL 4 31 30,oU 5 32 7,oX 6 33 7 0,oE 7 34 .eql 33 4,oM 8 35 34,oH 9 36 35 true 9,oH 10 37 35 true 1,oG 11 38 35 true (.bin .leq (.t 36) (.t 37)),oPf 12 39 35 38,oM 13 40 39,oG 14 41 40 true (.lload 2 0 (some 1)),oH 15 42 40 true 6,⟨16,some 43,(some (40,true)),.call 663 [.t 41,.t 42],[⟨4,some 31,none,.load none (.t 30),[]⟩]⟩,oG 17 44 40 true (.not (.t 43)),oPf 18 45 40 44,oP 19 46 (.bslice 1 (.bool false) 1 [(0,.t 45)]),oP 20 47 (.app 1 (.t 31) (.t 46)),oK 21 48 27,oF 22 49 2 48,oT 23 1 49 47]
@[go_sem] theorem zD9:OE qbO.eq_1:=OEM qbO.eq_1
def qbJ:ACode:=.loop (.seq (.reg true [oB 0 18 .lss 17 16]) (.seq (.cond (.t 18) (.skip) (.exit 0)) (.seq (.blk 1 (.seq (.reg true qbM) (.seq (.reg true qbN) (.reg true qbO)))) (.reg true [oE 0 50 .add 17 1,oM 1 17 50]))))
@[go_sem] theorem zD4:CE qbJ.eq_1:=CEM qbJ.eq_1
def F849:AFun:=⟨2,52,[.t 4],.seq (.reg true [oP 0 2 (.lbox 1 (.t 0)),oP 1 4 (.mov (.c (.nilp)))]) (.seq (.reg true qbK) (.seq (.seq (.reg true qbL) (.blk 0 qbJ)) (.seq (.reg true [oM 0 51 5,oM 1 4 51]) (.ret))))⟩
def qW0:List AOper:=[oP 0 4 (.lbox 1 (.t 0)),oP 1 5 (.lbox 4 (.t 1)),oP 2 8 (.mov (.c (.nilp))),oC 3 9 0]
@[go_sem] theorem qzL:OE qW0.eq_1:=OEM qW0.eq_1
def qW1:List AOper:=[oY 0 11 4 0 1,oD1 1 12 498 11,oJ 2 13 12,oM 3 14 13,oG 4 15 14 false (.lload 5 0 (some 4)),oG 5 16 14 false (.call 521 [.t 15]),oG 6 17 14 false (.not (.t 16)),oPt 7 18 14 17,oM 8 19 18,oG 9 20 19 false (.lload 5 0 (some 4)),oG 10 21 19 false (.nop 4),oG 11 22 19 false (.lload 4 0 none),oG 12 23 19 false (.len (.t 22)),oG 13 24 19 false (.call 847 [.t 20,.t 23]),oG 14 25 19 false (.not (.t 24)),oPt 15 26 19 25,oM 16 10 26]
@[go_sem] theorem qzM:OE qW1.eq_1:=OEM qW1.eq_1
def qW2:List AOper:=[oY 0 28 5 0 4,oD1 1 29 522 28,oJ 2 30 29,oM 3 31 30,oG 4 32 31 false (.lload 4 0 (some 1)),oG 5 33 31 false (.call 848 [.t 32]),oG 6 34 31 false (.not (.t 33)),oPt 7 35 31 34,oM 8 27 35]
@[go_sem] theorem qzN:OE qW2.eq_1:=OEM qW2.eq_1
def qW3:List AOper:=[oM 0 37 2,oP 1 38 (.bslice 1 (.int .i64 0) 1 [(0,.t 37)]),oP 2 39 (.call 436 [.c (.int .i64 40),.t 38]),oJ 3 40 39,oM 4 41 40,oH 5 42 41 false 3,oG 6 43 41 false (.bslice 1 (.int .i64 0) 1 [(0,.t 42)]),oG 7 44 41 false (.call 436 [.c (.int .i64 2000),.t 43]),oG 8 45 41 false (.not (.t 44)),oPt 9 46 41 45,oM 10 36 46]
@[go_sem] theorem qzO:OE qW3.eq_1:=OEM qW3.eq_1
def qWZ:ACode:=.cond (.t 10) (.seq (.reg true [oP 0 8 (.mov (.c (.nilp))),oC 1 9 1]) (.ret)) (.seq (.reg true qW2) (.cond (.t 27) (.seq (.reg true [oP 0 8 (.mov (.c (.nilp))),oC 1 9 9]) (.ret)) (.seq (.reg true qW3) (.cond (.t 36) (.seq (.reg true [oP 0 8 (.mov (.c (.nilp))),oC 1 9 2]) (.ret)) (.skip)))))
@[go_sem] theorem qzK:CE qWZ.eq_1:=CEM qWZ.eq_1
def qW4:List AOper:=[oY 0 47 4 0 1,oM 1 48 2,oD2 2 49 849 47 48,oM 3 8 49,oC 4 9 0]
@[go_sem] theorem qzP:OE qW4.eq_1:=OEM qW4.eq_1
def F493:AFun:=⟨4,50,[.t 8,.t 9],.seq (.reg true qW0) (.seq (.blk 0 (.seq (.reg true qW1) qWZ)) (.seq (.reg true qW4) (.ret)))⟩
def qaI:List AOper:=[oP 0 5 (.mov (.c (.lst 4 [] true))),oM 1 6 0,oP 2 7 (.app 4 (.t 5) (.t 6)),oM 3 2 7]
@[go_sem] theorem zC3:OE qaI.eq_1:=OEM qaI.eq_1
def F769:AFun:=⟨1,8,[.t 2],.seq (.reg true [oP 0 2 (.mov (.c (.nils)))]) (.seq (.seq (.reg true [oM 0 3 0,oP 1 4 (.isnil 1 false (.t 3))]) (.cond (.t 4) (.seq (.reg true [oP 0 2 (.mov (.c (.nils)))]) (.ret)) (.skip))) (.seq (.reg true qaI) (.ret)))⟩
def qYZ:List AOper:=[oU 0 5 1,oX 1 6 1 3,oW 2 7 6,oE 3 8 .eql 7 0]
@[go_sem] theorem zBK:OE qYZ.eq_1:=OEM qYZ.eq_1
def qY0:List AOper:=[oU 0 9 1,oX 1 10 1 3,oP 2 11 (.iaddr 4 (.t 10) (.c (.int .i64 0))),oP 3 12 (.load (some 4) (.t 11)),oZ 4 3,oS 5 3 0 4 12]
@[go_sem] theorem zBL:OE qY0.eq_1:=OEM qY0.eq_1
def qYX:ACode:=.seq (.reg true [oE 0 20 .eql 18 4,oM 1 19 20]) (.cond (.t 19) (.seq (.reg true [oC 0 2 1]) (.ret)) (.seq (.reg true [oE 0 22 .eql 18 11,oM 1 21 22]) (.cond (.t 21) (.seq (.reg true [oC 0 2 4]) (.ret)) (.skip))))
@[go_sem] theorem zBI:CE qYX.eq_1:=CEM qYX.eq_1
def qY1:List AOper:=[oU 0 25 1,oX 1 26 1 3,oP 2 27 (.iaddr 4 (.t 26) (.c (.int .i64 1))),oP 3 28 (.load (some 4) (.t 27)),oZ 4 4,oS 5 4 0 4 28]
@[go_sem] theorem zBM:OE qY1.eq_1:=OEM qY1.eq_1
def qY2:List AOper:=[oU 0 30 3,oX 1 31 3 0,oE 2 32 .eql 31 2,oM 3 33 32,oG 4 34 33 true (.nop 4),oG 5 35 33 true (.lload 4 0 none),oG 6 36 33 true (.bin .eql (.t 35) (.c (.int .i64 2))),oPf 7 37 33 36,oM 8 29 37]
@[go_sem] theorem zBN:OE qY2.eq_1:=OEM qY2.eq_1
def qY3:List AOper:=[oU 0 39 3,oX 1 40 3 0,oE 2 41 .eql 40 11,oM 3 42 41,oG 4 43 42 false (.nop 3),oG 5 44 42 false (.lload 3 0 none),oG 6 45 42 false (.bin .eql (.t 44) (.c (.int .i64 2))),oH 7 46 42 false 45,oG 8 47 46 true (.nop 4),oG 9 48 46 true (.lload 4 0 none),oG 10 49 46 true (.bin .eql (.t 48) (.c (.int .i64 11))),oG 11 50 42 false (.pick (.t 46) (.t 49) (.c (.bool false))),oPt 12 51 42 50,oM 13 38 51]
@[go_sem] theorem zBO:OE qY3.eq_1:=OEM qY3.eq_1
def qY4:List AOper:=[oU 0 56 3,oX 1 57 3 0,oE 2 58 .eql 57 11,oM 3 55 58]
@[go_sem] theorem zBP:OE qY4.eq_1:=OEM qY4.eq_1
def qY5:List AOper:=[oU 0 60 1,oX 1 61 1 0,oE 2 62 .eql 61 9,oM 3 63 62,oG 4 64 63 true (.nop 3),oG 5 65 63 true (.lload 3 0 none),oG 6 66 63 true (.bin .eql (.t 65) (.c (.int .i64 8))),oPf 7 67 63 66,oM 8 68 67,oG 9 69 68 true (.nop 3),oG 10 70 68 true (.lload 3 1 none),oG 11 71 68 true (.nop 1),oG 12 72 68 true (.lload 1 2 none),oG 13 73 68 true (.len (.t 72)),oG 14 74 68 true (.bin .lss (.t 70) (.t 73)),oPf 15 75 68 74,oM 16 59 75]
@[go_sem] theorem zBQ:OE qY5.eq_1:=OEM qY5.eq_1
def qY6:List AOper:=[oU 0 76 1,oX 1 77 1 0,oE 2 78 .eql 77 10,oM 3 79 78,oG 4 80 79 true (.nop 3),oG 5 81 79 true (.lload 3 0 none),oG 6 82 79 true (.bin .eql (.t 81) (.c (.int .i64 2))),oPf 7 83 79 82,oM 8 59 83]
@[go_sem] theorem zBR:OE qY6.eq_1:=OEM qY6.eq_1
def qYY:ACode:=.seq (.seq (.reg true [oE 0 53 .eql 14 9,oM 1 52 53]) (.cond (.t 52) (.skip) (.reg true [oE 0 54 .eql 14 10,oM 1 52 54]))) (.cond (.t 52) (.blk 3 (.seq (.reg true qY4) (.cond (.t 55) (.seq (.reg true [oC 0 2 4]) (.ret)) (.seq (.seq (.reg true qY5) (.cond (.t 59) (.skip) (.reg true qY6))) (.cond (.t 59) (.seq (.reg true [oC 0 2 3]) (.ret)) (.skip)))))) (.skip))
@[go_sem] theorem zBJ:CE qYY.eq_1:=CEM qYY.eq_1
def qSY:ACode:=.seq (.reg true [oE 0 24 .eql 14 3,oM 1 23 24]) (.cond (.t 23) (.seq (.reg true qY1) (.blk 2 (.seq (.reg true qY2) (.cond (.t 29) (.seq (.reg true [oC 0 2 2]) (.ret)) (.seq (.reg true qY3) (.cond (.t 38) (.seq (.reg true [oC 0 2 4]) (.ret)) (.skip))))))) qYY)
@[go_sem] theorem qx8:CE qSY.eq_1:=CEM qSY.eq_1
def qSZ:ACode:=.seq (.reg true [oU 0 13 1,oX 1 14 1 0]) (.blk 0 (.seq (.reg true [oE 0 16 .eql 14 5,oM 1 15 16]) (.cond (.t 15) (.seq (.reg true [oU 0 17 3,oX 1 18 3 0]) (.blk 1 qYX)) qSY)))
@[go_sem] theorem qx9:CE qSZ.eq_1:=CEM qSZ.eq_1
def F758:AFun:=⟨1,84,[.t 2],.seq (.reg true [oP 0 1 (.lbox 4 (.t 0)),oC 1 2 0]) (.seq (.seq (.reg true qYZ) (.cond (.t 8) (.seq (.reg true [oC 0 2 0]) (.ret)) (.skip))) (.seq (.reg true qY0) (.seq qSZ (.seq (.reg true [oC 0 2 0]) (.ret)))))⟩
def F726:AFun:=⟨1,5,[.l 2 (some 4)],.seq (.reg true [oZ 0 2]) (.seq (.reg true [oM 0 3 0,oP 1 4 (.build (.agg [.int .i64 0,.int .i64 0,.nils,.nils]) [(0,1,.c (.int .i64 2)),(1,1,.t 3)]),oS 2 2 0 4 4]) (.ret))⟩
def qO6:List AOper:=[oM 0 13 2,oY 1 14 3 0 4,oM 2 15 1,oP 3 16 (.callv (.t 13) [.t 14,.t 15]),oS 4 6 0 4 16]
@[go_sem] theorem quG:OE qO6.eq_1:=OEM qO6.eq_1
def qO7:List AOper:=[oU 0 17 3,oX 1 18 3 0,oU 2 19 3,oX 3 20 3 1,oU 4 21 3,oX 5 22 3 2,oZ 8 7,oD1 6 23 401 22,oP 7 24 (.build (.agg [.int .i64 0,.int .i64 0,.nils,.nils]) [(0,1,.t 18),(1,1,.t 20),(2,1,.t 23)]),oS 9 7 0 4 24]
@[go_sem] theorem quH:OE qO7.eq_1:=OEM qO7.eq_1
def qO8:List AOper:=[oU 0 25 3,oX 1 26 3 3,oW 2 27 26,oC 3 28 0]
@[go_sem] theorem quI:OE qO8.eq_1:=OEM qO8.eq_1
def qO9:List AOper:=[oM 0 30 28,oA 1 31 4 26 28,oP 2 32 (.load (some 4) (.t 31)),oZ 3 9,oM 4 8 30,oS 5 9 0 4 32]
@[go_sem] theorem quJ:OE qO9.eq_1:=OEM qO9.eq_1
def qPA:List AOper:=[oU 0 33 7,oX 1 34 7 3,oY 2 35 9 0 4,oM 3 36 1,oY 4 37 3 0 4,oM 5 38 8,oM 8 41 2,oD2 6 39 1193 37 38,oB 7 40 .add 36 39,oP 9 42 (.call 1316 [.t 35,.t 40,.t 41]),oP 10 43 (.bslice 4 (.agg [.int .i64 0,.int .i64 0,.nils,.nils]) 1 [(0,.t 42)]),oP 11 44 (.app 4 (.t 34) (.t 43)),oU 12 45 7,oS 13 7 3 1 44]
@[go_sem] theorem quK:OE qPA.eq_1:=OEM qPA.eq_1
def qO4:ACode:=.loop (.seq (.reg true [oB 0 29 .lss 28 27]) (.seq (.cond (.t 29) (.skip) (.exit 0)) (.seq (.blk 1 (.seq (.reg true qO9) (.reg true qPA))) (.reg true [oE 0 46 .add 28 1,oM 1 28 46]))))
@[go_sem] theorem quE:CE qO4.eq_1:=CEM qO4.eq_1
def qO5:ACode:=.seq (.seq (.reg true [oU 0 10 3,oX 1 11 3 0,oE 2 12 .eql 11 1]) (.cond (.t 12) (.seq (.reg true qO6) (.ret)) (.skip))) (.seq (.reg true qO7) (.seq (.seq (.reg true qO8) (.blk 0 qO4)) (.seq (.reg true [oY 0 47 7 0 4,oS 1 6 0 4 47]) (.ret))))
@[go_sem] theorem quF:CE qO5.eq_1:=CEM qO5.eq_1
def qkT:AFun:=⟨3,48,[.l 6 (some 4)],.seq (.reg true [oP 0 3 (.lbox 4 (.t 0)),oZ 1 6]) qO5⟩
def qR4:List AOper:=[oU 0 7 4,oX 1 8 4 1,oM 2 9 1,oL 3 10 2,oB 4 11 .add 9 10,oB 5 12 .geq 8 11]
@[go_sem] theorem qxE:OE qR4.eq_1:=OEM qR4.eq_1
def qR5:List AOper:=[oU 0 13 4,oX 1 14 4 1,oL 2 15 3,oB 3 16 .add 14 15,oU 4 17 4,oS 5 4 1 1 16]
@[go_sem] theorem qxF:OE qR5.eq_1:=OEM qR5.eq_1
def qlC:AFun:=⟨4,19,[.l 6 (some 4)],.seq (.reg true [oP 0 4 (.lbox 4 (.t 0)),oZ 1 6]) (.seq (.seq (.reg true qR4) (.cond (.t 12) (.reg true qR5) (.skip))) (.seq (.reg true [oY 0 18 4 0 4,oS 1 6 0 4 18]) (.ret)))⟩
def qPF:List AOper:=[oP 0 3 (.lbox 4 (.t 0)),oP 1 4 (.hbox 1 (.t 1)),oP 2 5 (.hbox 1 (.t 2)),oZ 3 6]
@[go_sem] theorem quP:OE qPF.eq_1:=OEM qPF.eq_1
def qPG:List AOper:=[oY 0 7 3 0 4,oP 1 8 (.mkfn 1462 [.t 5,.t 4]),oP 2 9 (.call 1316 [.t 7,.c (.int .i64 0),.t 8]),oS 3 6 0 4 9]
@[go_sem] theorem quQ:OE qPG.eq_1:=OEM qPG.eq_1
def qkV:AFun:=⟨3,10,[.l 6 (some 4)],.seq (.reg true qPF) (.seq (.reg true qPG) (.ret))⟩
def qPB:List AOper:=[oU 0 7 3,oX 1 8 3 1,oM 2 9 1,oB 3 10 .eql 8 9,oM 4 6 10]
@[go_sem] theorem quL:OE qPB.eq_1:=OEM qPB.eq_1
def qPC:List AOper:=[oP 0 11 (.load (some 4) (.t 2)),oM 1 12 1,oP 2 13 (.call 1318 [.t 11,.t 12,.c (.int .i64 0)]),oS 3 5 0 4 13]
@[go_sem] theorem quM:OE qPC.eq_1:=OEM qPC.eq_1
def qPD:List AOper:=[oU 0 15 3,oX 1 16 3 1,oM 2 17 1,oB 3 18 .gtr 16 17,oM 4 14 18]
@[go_sem] theorem quN:OE qPD.eq_1:=OEM qPD.eq_1
def qPE:List AOper:=[oU 0 19 3,oX 1 20 3 1,oE 2 21 .sub 20 1,oU 3 22 3,oS 4 3 1 1 21]
@[go_sem] theorem quO:OE qPE.eq_1:=OEM qPE.eq_1
def qkU:AFun:=⟨3,24,[.l 5 (some 4)],.seq (.reg true [oP 0 3 (.lbox 4 (.t 0)),oZ 1 5]) (.seq (.blk 0 (.seq (.reg true qPB) (.cond (.t 6) (.seq (.reg true qPC) (.ret)) (.seq (.reg true qPD) (.cond (.t 14) (.reg true qPE) (.skip)))))) (.seq (.reg true [oY 0 23 3 0 4,oS 1 5 0 4 23]) (.ret)))⟩
def qc1:List AOper:=[oY 0 5 2 0 4,oP 1 6 (.mkfn 1317 [.t 3]),oP 2 7 (.call 1316 [.t 5,.c (.int .i64 0),.t 6]),oS 3 4 0 4 7]
@[go_sem] theorem zFM:OE qc1.eq_1:=OEM qc1.eq_1
def F992:AFun:=⟨2,8,[.l 4 (some 4)],.seq (.reg true [oP 0 2 (.lbox 4 (.t 0)),oP 1 3 (.hbox 4 (.t 1)),oZ 2 4]) (.seq (.reg true qc1) (.ret))⟩
def qRF:List AOper:=[oM 0 3 0,oP 1 4 (.conv .i32 (.t 3)),oP 2 5 (.conv .i64 (.t 4)),oM 3 2 5]
@[go_sem] theorem qwP:OE qRF.eq_1:=OEM qRF.eq_1
def qk6:AFun:=⟨1,6,[.t 2],.seq (.reg true [oC 0 2 0]) (.seq (.reg true qRF) (.ret))⟩
def qMN:List AOper:=[oM 0 9 1,oD1 1 10 1400 9,oM 2 11 2,oD1 3 12 1400 11,oM 4 7 10,oM 5 8 12]
@[go_sem] theorem qrX:OE qMN.eq_1:=OEM qMN.eq_1
def qMO:List AOper:=[oM 0 16 7,oM 1 17 8,oB 2 18 .add 16 17,oD1 3 19 1400 18,oM 4 6 19]
@[go_sem] theorem qrY:OE qMO.eq_1:=OEM qMO.eq_1
def qMP:List AOper:=[oM 0 22 7,oM 1 23 8,oB 2 24 .sub 22 23,oD1 3 25 1400 24,oM 4 6 25]
@[go_sem] theorem qrZ:OE qMP.eq_1:=OEM qMP.eq_1
def qMQ:List AOper:=[oM 0 28 7,oM 1 29 8,oB 2 30 .mul 28 29,oD1 3 31 1400 30,oM 4 6 31]
@[go_sem] theorem qr0:OE qMQ.eq_1:=OEM qMQ.eq_1
def qMR:List AOper:=[oM 0 36 7,oM 1 37 8,oB 2 38 .quo 36 37,oD1 3 39 1400 38,oM 4 6 39]
@[go_sem] theorem qr1:OE qMR.eq_1:=OEM qMR.eq_1
def qMS:List AOper:=[oM 0 42 7,oM 1 43 8,oB 2 44 .lss 42 43,oD1 3 45 566 44,oM 4 6 45]
@[go_sem] theorem qr2:OE qMS.eq_1:=OEM qMS.eq_1
def qMT:List AOper:=[oM 0 48 7,oM 1 49 8,oB 2 50 .eql 48 49,oD1 3 51 566 50,oM 4 6 51]
@[go_sem] theorem qr3:OE qMT.eq_1:=OEM qMT.eq_1
def qMK:ACode:=.cond (.t 32) (.seq (.seq (.reg true [oM 0 34 8,oE 1 35 .eql 34 0]) (.cond (.t 35) (.seq (.reg true [oC 0 6 0]) (.ret)) (.skip))) (.seq (.reg true qMR) (.ret))) (.seq (.reg true [oE 0 41 .eql 13 5,oM 1 40 41]) (.cond (.t 40) (.seq (.reg true qMS) (.ret)) (.seq (.reg true [oE 0 47 .eql 13 6,oM 1 46 47]) (.cond (.t 46) (.seq (.reg true qMT) (.ret)) (.skip)))))
@[go_sem] theorem qrU:CE qMK.eq_1:=CEM qMK.eq_1
def qML:ACode:=.seq (.reg true [oE 0 21 .eql 13 2,oM 1 20 21]) (.cond (.t 20) (.seq (.reg true qMP) (.ret)) (.seq (.reg true [oE 0 27 .eql 13 3,oM 1 26 27]) (.cond (.t 26) (.seq (.reg true qMQ) (.ret)) (.seq (.reg true [oE 0 33 .eql 13 4,oM 1 32 33]) qMK))))
@[go_sem] theorem qrV:CE qML.eq_1:=CEM qML.eq_1
def qMM:ACode:=.seq (.reg true qMN) (.seq (.seq (.reg true [oM 0 13 0]) (.blk 0 (.seq (.reg true [oE 0 15 .eql 13 1,oM 1 14 15]) (.cond (.t 14) (.seq (.reg true qMO) (.ret)) qML)))) (.seq (.reg true [oC 0 6 0]) (.ret)))
@[go_sem] theorem qrW:CE qMM.eq_1:=CEM qMM.eq_1
def qj5:AFun:=⟨3,52,[.t 6],.seq (.reg true [oC 0 6 0]) qMM⟩
def qj7:AFun:=⟨1,5,[.l 2 (some 4)],.seq (.reg true [oZ 0 2]) (.seq (.reg true [oM 0 3 0,oP 1 4 (.build (.agg [.int .i64 0,.int .i64 0,.nils,.nils]) [(0,1,.c (.int .i64 11)),(1,1,.t 3)]),oS 2 2 0 4 4]) (.ret))⟩
def qRG:List AOper:=[oY 0 5 2 0 4,oY 1 6 3 0 4,oP 2 7 (.bslice 4 (.agg [.int .i64 0,.int .i64 0,.nils,.nils]) 2 [(0,.t 5),(1,.t 6)]),oP 3 8 (.build (.agg [.int .i64 0,.int .i64 0,.nils,.nils]) [(0,1,.c (.int .i64 5)),(3,1,.t 7)]),oS 4 4 0 4 8]
@[go_sem] theorem qwQ:OE qRG.eq_1:=OEM qRG.eq_1
def qk7:AFun:=⟨2,9,[.l 4 (some 4)],.seq (.reg true [oP 0 2 (.lbox 4 (.t 0)),oP 1 3 (.lbox 4 (.t 1)),oZ 2 4]) (.seq (.reg true qRG) (.ret))⟩
def qMV:List AOper:=[oM 0 8 0,oD1 1 9 1120 8,oZ 2 5,oS 3 5 0 4 9]
@[go_sem] theorem qr5:OE qMV.eq_1:=OEM qMV.eq_1
def qMW:List AOper:=[oA 0 14 4 10 12,oP 1 15 (.load (some 4) (.t 14)),oZ 2 7,oS 3 7 0 4 15]
@[go_sem] theorem qr6:OE qMW.eq_1:=OEM qMW.eq_1
def qMX:List AOper:=[oY 0 16 5 0 4,oY 1 17 7 0 4,oD2 2 18 1401 16 17,oS 3 5 0 4 18]
@[go_sem] theorem qr7:OE qMX.eq_1:=OEM qMX.eq_1
def qMU:ACode:=.loop (.seq (.reg true [oB 0 13 .lss 12 11]) (.seq (.cond (.t 13) (.skip) (.exit 0)) (.seq (.blk 1 (.seq (.reg true qMW) (.reg true qMX))) (.reg true [oE 0 19 .add 12 1,oM 1 12 19]))))
@[go_sem] theorem qr4:CE qMU.eq_1:=CEM qMU.eq_1
def qj6:AFun:=⟨2,21,[.l 4 (some 4)],.seq (.reg true [oZ 0 4]) (.seq (.reg true qMV) (.seq (.seq (.reg true [oM 0 10 1,oW 1 11 10,oC 2 12 0]) (.blk 0 qMU)) (.seq (.reg true [oY 0 20 5 0 4,oS 1 4 0 4 20]) (.ret))))⟩
def qY9:List AOper:=[oU 0 12 5,oX 1 13 5 3,oP 2 14 (.iaddr 4 (.t 13) (.c (.int .i64 0))),oF 3 15 3 14,oL 4 16 15,oP 5 17 (.iaddr 4 (.t 16) (.c (.int .i64 0))),oP 6 18 (.load (some 4) (.t 17)),oU 7 19 5,oX 8 20 5 3,oP 9 21 (.iaddr 4 (.t 20) (.c (.int .i64 1))),oP 10 22 (.load (some 4) (.t 21)),oD2 11 23 992 18 22,oS 12 6 0 4 23]
@[go_sem] theorem zBU:OE qY9.eq_1:=OEM qY9.eq_1
def qZA:List AOper:=[oU 0 26 5,oX 1 27 5 1,oU 2 28 5,oX 3 29 5 3,oP 4 30 (.iaddr 4 (.t 29) (.c (.int .i64 0))),oF 5 31 1 30,oL 6 32 31,oU 7 33 5,oX 8 34 5 3,oP 9 35 (.iaddr 4 (.t 34) (.c (.int .i64 1))),oF 10 36 1 35,oL 11 37 36,oP 12 38 (.call 1118 [.t 27,.t 32,.t 37]),oD1 13 39 726 38,oS 14 6 0 4 39]
@[go_sem] theorem zBV:OE qZA.eq_1:=OEM qZA.eq_1
def qZB:List AOper:=[oU 0 45 5,oX 1 46 5 2,oU 2 47 5,oX 3 48 5 3,oP 4 49 (.iaddr 4 (.t 48) (.c (.int .i64 0))),oF 5 50 1 49,oL 6 51 50,oA 7 52 1 46 51,oL 8 53 52,oU 9 54 5,oX 10 55 5 3,oP 11 56 (.iaddr 4 (.t 55) (.c (.int .i64 0))),oF 12 57 3 56,oL 13 58 57,oD2 14 59 1119 53 58,oS 15 6 0 4 59]
@[go_sem] theorem zBW:OE qZB.eq_1:=OEM qZB.eq_1
def qZC:List AOper:=[oU 0 60 5,oX 1 61 5 2,oU 2 62 5,oX 3 63 5 3,oP 4 64 (.iaddr 4 (.t 63) (.c (.int .i64 0))),oF 5 65 1 64,oL 6 66 65,oE 7 67 .eql 66 0,oD1 8 68 566 67,oA 9 69 1 61 68,oL 10 70 69,oD1 11 71 1120 70,oS 12 6 0 4 71]
@[go_sem] theorem zBX:OE qZC.eq_1:=OEM qZC.eq_1
def qY7:ACode:=.seq (.reg true [oE 0 41 .eql 9 3,oM 1 40 41]) (.cond (.t 40) (.seq (.seq (.reg true [oU 0 42 5,oX 1 43 5 0,oE 2 44 .eql 43 9]) (.cond (.t 44) (.seq (.reg true qZB) (.ret)) (.skip))) (.seq (.reg true qZC) (.ret))) (.skip))
@[go_sem] theorem zBS:CE qY7.eq_1:=CEM qY7.eq_1
def qY8:ACode:=.seq (.reg true [oM 0 9 1]) (.blk 0 (.seq (.reg true [oE 0 11 .eql 9 1,oM 1 10 11]) (.cond (.t 10) (.seq (.reg true qY9) (.ret)) (.seq (.reg true [oE 0 25 .eql 9 2,oM 1 24 25]) (.cond (.t 24) (.seq (.reg true qZA) (.ret)) qY7)))))
@[go_sem] theorem zBT:CE qY8.eq_1:=CEM qY8.eq_1
def qZD:List AOper:=[oU 0 72 5,oX 1 73 5 0,oU 2 74 5,oX 3 75 5 1,oU 4 76 5,oX 5 77 5 2,oU 6 78 5,oX 7 79 5 3,oZ 10 7,oD1 8 80 769 79,oP 9 81 (.build (.agg [.int .i64 0,.int .i64 0,.nils,.nils]) [(0,1,.t 73),(1,1,.t 75),(2,1,.t 77),(3,1,.t 80)]),oS 11 7 0 4 81]
@[go_sem] theorem zBY:OE qZD.eq_1:=OEM qZD.eq_1
def qZE:List AOper:=[oU 0 82 5,oX 1 83 5 3,oP 2 84 (.iaddr 4 (.t 83) (.c (.int .i64 0))),oF 3 85 0 84,oL 4 86 85,oE 5 87 .neq 86 11,oD1 6 88 566 87,oM 7 8 88]
@[go_sem] theorem zBZ:OE qZE.eq_1:=OEM qZE.eq_1
def qZF:List AOper:=[oU 0 89 7,oX 1 90 7 3,oM 2 91 8,oU 3 92 3,oX 4 93 3 0,oU 5 94 5,oX 6 95 5 3,oM 7 96 8,oA 8 97 4 95 96,oF 9 98 1 97,oL 10 99 98,oA 11 100 4 93 99,oP 12 101 (.load (some 4) (.t 100)),oA 13 102 4 90 91,oT 14 4 102 101]
@[go_sem] theorem zB0:OE qZF.eq_1:=OEM qZF.eq_1
def F759:AFun:=⟨3,104,[.l 6 (some 4)],.seq (.reg true [oP 0 3 (.lbox 1 (.t 0)),oP 1 5 (.lbox 4 (.t 2)),oZ 2 6]) (.seq qY8 (.seq (.reg true qZD) (.seq (.reg true qZE) (.seq (.reg true qZF) (.seq (.reg true [oY 0 103 7 0 4,oS 1 6 0 4 103]) (.ret))))))⟩
def qOJ:List AOper:=[oU 0 6 1,oX 1 7 1 3,oW 2 8 7,oC 3 9 0]
@[go_sem] theorem qtT:OE qOJ.eq_1:=OEM qOJ.eq_1
def qOK:List AOper:=[oA 0 11 4 7 9,oP 1 12 (.load (some 4) (.t 11)),oZ 2 5,oS 3 5 0 4 12]
@[go_sem] theorem qtU:OE qOK.eq_1:=OEM qOK.eq_1
def qOL:List AOper:=[oM 0 13 3,oY 1 14 5 0 4,oU 3 16 1,oX 4 17 1 0,oE 5 18 .eql 17 6,oD1 2 15 1171 14,oD1 6 19 566 18,oB 7 20 .add 15 19,oP 8 21 (.max (.t 13) (.t 20)),oM 9 3 21]
@[go_sem] theorem qtV:OE qOL.eq_1:=OEM qOL.eq_1
def qOI:ACode:=.loop (.seq (.reg true [oB 0 10 .lss 9 8]) (.seq (.cond (.t 10) (.skip) (.exit 0)) (.seq (.blk 1 (.seq (.reg true qOK) (.reg true qOL))) (.reg true [oE 0 22 .add 9 1,oM 1 9 22]))))
@[go_sem] theorem qtS:CE qOI.eq_1:=CEM qOI.eq_1
def qkO:AFun:=⟨1,24,[.t 2],.seq (.reg true [oP 0 1 (.lbox 4 (.t 0)),oC 1 2 0]) (.seq (.reg true [oC 0 3 0]) (.seq (.seq (.reg true qOJ) (.blk 0 qOI)) (.seq (.reg true [oM 0 23 3,oM 1 2 23]) (.ret))))⟩
def qOM:List AOper:=[oU 0 12 4,oX 1 13 4 3,oP 2 14 (.iaddr 4 (.t 13) (.c (.int .i64 0))),oP 3 15 (.load (some 4) (.t 14)),oU 4 16 4,oX 5 17 4 3,oP 6 18 (.iaddr 4 (.t 17) (.c (.int .i64 1))),oP 7 19 (.load (some 4) (.t 18)),oZ 8 8,oZ 9 9,oS 10 8 0 4 15,oS 11 9 0 4 19]
@[go_sem] theorem qtW:OE qOM.eq_1:=OEM qOM.eq_1
def qON:List AOper:=[oU 0 24 8,oX 1 25 8 3,oP 2 26 (.iaddr 4 (.t 25) (.c (.int .i64 0))),oP 3 27 (.load (some 4) (.t 26)),oS 4 10 0 4 27]
@[go_sem] theorem qtX:OE qON.eq_1:=OEM qON.eq_1
def qOO:List AOper:=[oY 0 28 9 0 4,oM 1 29 2,oP 2 30 (.call 1194 [.t 28,.c (.int .i64 0),.t 29,.c (.nils)]),oM 3 11 30]
@[go_sem] theorem qtY:OE qOO.eq_1:=OEM qOO.eq_1
def qOP:List AOper:=[oM 0 32 11,oW 1 33 32,oE 2 34 .eql 33 0,oM 3 31 34]
@[go_sem] theorem qtZ:OE qOP.eq_1:=OEM qOP.eq_1
def qOQ:List AOper:=[oY 0 35 9 0 4,oY 1 36 8 0 4,oD2 2 37 992 35 36,oS 3 6 0 4 37,oQ 4 7 true]
@[go_sem] theorem qt0:OE qOQ.eq_1:=OEM qOQ.eq_1
def qOR:List AOper:=[oU 0 39 10,oX 1 40 10 0,oE 2 41 .eql 40 2,oM 3 38 41]
@[go_sem] theorem qt1:OE qOR.eq_1:=OEM qOR.eq_1
def qOS:List AOper:=[oY 0 42 9 0 4,oY 1 43 10 0 4,oD2 2 44 992 42 43,oS 3 6 0 4 44,oQ 4 7 true]
@[go_sem] theorem qt2:OE qOS.eq_1:=OEM qOS.eq_1
def qOT:List AOper:=[oM 0 46 11,oW 1 47 46,oE 2 48 .eql 47 1,oM 3 49 48,oH 4 50 49 true 11,oG 5 51 49 true (.iaddr 1 (.t 50) (.c (.int .i64 0))),oG 6 52 49 true (.load none (.t 51)),oH 7 53 49 true 2,oG 8 54 49 true (.bin .eql (.t 52) (.t 53)),oPf 9 55 49 54,oM 10 45 55]
@[go_sem] theorem qt3:OE qOT.eq_1:=OEM qOT.eq_1
def qOU:List AOper:=[oY 0 56 9 0 4,oY 1 57 8 0 4,oD2 2 58 992 56 57,oS 3 6 0 4 58,oQ 4 7 true]
@[go_sem] theorem qt4:OE qOU.eq_1:=OEM qOU.eq_1
def qOV:List AOper:=[oM 0 60 11,oW 1 61 60,oE 2 62 .eql 61 1,oM 3 63 62,oH 4 64 63 true 11,oG 5 65 63 true (.iaddr 1 (.t 64) (.c (.int .i64 0))),oG 6 66 63 true (.load none (.t 65)),oH 7 67 63 true 2,oG 8 68 63 true (.bin .add (.t 67) (.c (.int .i64 1))),oG 9 69 63 true (.bin .eql (.t 66) (.t 68)),oPf 10 70 63 69,oM 11 71 70,oG 12 72 71 true (.nop 8),oG 13 73 71 true (.lload 8 0 none),oG 14 74 71 true (.bin .eql (.t 73) (.c (.int .i64 6))),oPf 15 75 71 74,oM 16 59 75]
@[go_sem] theorem qt5:OE qOV.eq_1:=OEM qOV.eq_1
def qIL:List AOper:=[oY 0 76 9 0 4,oY 1 77 10 0 4,oD2 2 78 992 76 77,oS 3 6 0 4 78,oQ 4 7 true]
@[go_sem] theorem qoC:OE qIL.eq_1:=OEM qIL.eq_1
def qIJ:ACode:=.seq (.blk 0 (.seq (.reg true qOP) (.cond (.t 31) (.seq (.reg true qOQ) (.ret)) (.seq (.reg true qOR) (.cond (.t 38) (.seq (.reg true qOS) (.ret)) (.seq (.reg true qOT) (.cond (.t 45) (.seq (.reg true qOU) (.ret)) (.seq (.reg true qOV) (.cond (.t 59) (.seq (.reg true qIL) (.ret)) (.skip)))))))))) (.seq (.reg true [oP 0 79 (.build (.agg [.int .i64 0,.int .i64 0,.nils,.nils]) []),oS 1 6 0 4 79,oQ 2 7 false]) (.ret))
@[go_sem] theorem qoA:CE qIJ.eq_1:=CEM qIJ.eq_1
def qIK:ACode:=.seq (.reg true [oY 0 20 8 0 4,oZ 1 10,oS 2 10 0 4 20]) (.seq (.seq (.reg true [oU 0 21 8,oX 1 22 8 0,oE 2 23 .eql 22 6]) (.cond (.t 23) (.reg true qON) (.skip))) (.seq (.reg true qOO) qIJ))
@[go_sem] theorem qoB:CE qIK.eq_1:=CEM qIK.eq_1
def qkP:AFun:=⟨3,80,[.l 6 (some 4),.t 7],.seq (.reg true [oP 0 4 (.lbox 4 (.t 1)),oZ 1 6,oQ 2 7 false]) (.seq (.reg true qOM) qIK)⟩
def qbS:List AOper:=[oM 0 17 0,oK 1 18 17,oF 2 19 0 18,oP 3 20 (.load (some 1) (.t 19)),oM 4 21 8,oY 5 22 4 0 4,oP 6 23 (.call 759 [.t 20,.t 21,.t 22]),oS 7 6 0 4 23,oC 8 7 1]
@[go_sem] theorem zED:OE qbS.eq_1:=OEM qbS.eq_1
def qbT:List AOper:=[oM 0 26 0,oK 1 27 26,oF 2 28 0 27,oP 3 29 (.load (some 1) (.t 28)),oM 4 30 8,oY 5 31 4 0 4,oP 6 32 (.call 759 [.t 29,.t 30,.t 31]),oS 7 6 0 4 32,oC 8 7 2]
@[go_sem] theorem zEE:OE qbT.eq_1:=OEM qbT.eq_1
def qbU:List AOper:=[oM 0 35 0,oK 1 36 35,oF 2 37 0 36,oP 3 38 (.load (some 1) (.t 37)),oM 4 39 8,oY 5 40 4 0 4,oP 6 41 (.call 759 [.t 38,.t 39,.t 40]),oS 7 6 0 4 41,oC 8 7 3]
@[go_sem] theorem zEF:OE qbU.eq_1:=OEM qbU.eq_1
def qbV:List AOper:=[oU 0 44 4,oX 1 45 4 3,oP 2 46 (.iaddr 4 (.t 45) (.c (.int .i64 0))),oF 3 47 1 46,oL 4 48 47,oM 5 9 48]
@[go_sem] theorem zEG:OE qbV.eq_1:=OEM qbV.eq_1
def qbW:List AOper:=[oU 0 49 4,oX 1 50 4 0,oE 2 51 .eql 50 5,oM 3 52 51,oH 4 53 52 true 0,oG 5 54 52 true (.nilchk (.t 53)),oG 6 55 52 true (.faddr 2 (.t 54)),oG 7 56 52 true (.load none (.t 55)),oH 8 57 52 true 9,oG 9 58 52 true (.iaddr 1 (.t 56) (.t 57)),oG 10 59 52 true (.load none (.t 58)),oPf 11 60 52 59,oM 12 61 60,oH 13 62 61 true 2,oH 14 63 61 true 0,oG 15 64 61 true (.nilchk (.t 63)),oG 16 65 61 true (.faddr 0 (.t 64)),oG 17 66 61 true (.faddr 0 (.t 65)),oG 18 67 61 true (.load none (.t 66)),oH 19 68 61 true 9,oG 20 69 61 true (.iaddr 4 (.t 67) (.t 68)),oG 21 70 61 true (.load (some 4) (.t 69)),oG 22 71 61 true (.call 1171 [.t 70]),oG 23 72 61 true (.bin .add (.t 62) (.t 71)),oG 24 73 61 true (.bin .leq (.t 72) (.c (.int .i64 8))),oPf 25 74 61 73]
@[go_sem] theorem zEH:OE qbW.eq_1:=OEM qbW.eq_1
def qbX:List AOper:=[oM 0 75 0,oK 1 76 75,oF 2 77 0 76,oP 3 78 (.load (some 1) (.t 77)),oM 4 79 8,oY 5 80 4 0 4,oP 6 81 (.call 759 [.t 78,.t 79,.t 80]),oS 7 6 0 4 81,oC 8 7 5]
@[go_sem] theorem zEI:OE qbX.eq_1:=OEM qbX.eq_1
def qbP:ACode:=.seq (.reg true [oE 0 34 .eql 14 1,oM 1 33 34]) (.cond (.t 33) (.seq (.reg true qbU) (.ret)) (.seq (.reg true [oE 0 43 .eql 14 4,oM 1 42 43]) (.cond (.t 42) (.seq (.reg true qbV) (.seq (.reg true qbW) (.cond (.t 74) (.seq (.reg true qbX) (.ret)) (.skip)))) (.skip))))
@[go_sem] theorem zEA:CE qbP.eq_1:=CEM qbP.eq_1
def qbQ:ACode:=.seq (.reg true [oM 0 14 8]) (.blk 0 (.seq (.reg true [oE 0 16 .eql 14 2,oM 1 15 16]) (.cond (.t 15) (.seq (.reg true qbS) (.ret)) (.seq (.reg true [oE 0 25 .eql 14 3,oM 1 24 25]) (.cond (.t 24) (.seq (.reg true qbT) (.ret)) qbP)))))
@[go_sem] theorem zEB:CE qbQ.eq_1:=CEM qbQ.eq_1
def qbY:List AOper:=[oM 0 86 0,oY 1 87 4 0 4,oM 2 88 2,oP 3 89 (.call 1172 [.t 86,.t 87,.t 88]),oM 4 85 89,oV 5 90 85 0,oV 6 91 85 1,oZ 7 10,oS 8 10 0 4 90,oM 9 11 91]
@[go_sem] theorem zEJ:OE qbY.eq_1:=OEM qbY.eq_1
def qbR:ACode:=.seq (.reg true [oU 0 82 4,oX 1 83 4 0,oE 2 84 .eql 83 7]) (.cond (.t 84) (.seq (.reg true qbY) (.seq (.reg true [oM 0 92 11]) (.cond (.t 92) (.seq (.reg true [oY 0 93 10 0 4,oS 1 6 0 4 93,oC 2 7 4]) (.ret)) (.skip)))) (.skip))
@[go_sem] theorem zEC:CE qbR.eq_1:=CEM qbR.eq_1
def F850:AFun:=⟨3,95,[.l 6 (some 4),.t 7],.seq (.reg true [oP 0 4 (.lbox 4 (.t 1)),oZ 1 6,oC 2 7 0]) (.seq (.seq (.reg true [oY 0 12 4 0 4,oD1 1 13 758 12,oM 2 8 13]) qbQ) (.seq qbR (.seq (.reg true [oP 0 94 (.build (.agg [.int .i64 0,.int .i64 0,.nils,.nils]) []),oS 1 6 0 4 94,oC 2 7 0]) (.ret))))⟩
def qW7:List AOper:=[oM 0 16 0,oY 1 17 4 0 4,oM 2 18 2,oP 3 19 (.call 850 [.t 16,.t 17,.t 18]),oM 4 15 19,oV 5 20 15 0,oV 6 21 15 1,oZ 7 8,oS 8 8 0 4 20,oM 9 9 21]
@[go_sem] theorem qzS:OE qW7.eq_1:=OEM qW7.eq_1
def qW8:List AOper:=[oY 0 24 8 0 4,oM 1 25 9,oS 2 6 0 4 24,oM 3 7 25]
@[go_sem] theorem qzT:OE qW8.eq_1:=OEM qW8.eq_1
def qW9:List AOper:=[oU 0 26 4,oX 1 27 4 3,oW 2 28 27,oC 3 29 0]
@[go_sem] theorem qzU:OE qW9.eq_1:=OEM qW9.eq_1
def qXA:List AOper:=[oM 0 31 29,oA 1 32 4 27 29,oP 2 33 (.load (some 4) (.t 32)),oZ 3 11,oM 4 10 31,oS 5 11 0 4 33]
@[go_sem] theorem qzV:OE qXA.eq_1:=OEM qXA.eq_1
def qXB:List AOper:=[oM 0 35 0,oY 1 36 11 0 4,oM 2 37 2,oU 3 38 4,oX 4 39 4 0,oE 5 40 .eql 39 6,oZ 12 12,oD1 6 41 566 40,oB 7 42 .add 37 41,oP 8 43 (.call 494 [.t 35,.t 36,.t 42]),oM 9 34 43,oV 10 44 34 0,oV 11 45 34 1,oS 13 12 0 4 44,oM 14 13 45]
@[go_sem] theorem qzW:OE qXB.eq_1:=OEM qXB.eq_1
def qXC:List AOper:=[oU 0 48 4,oX 1 49 4 0,oU 2 50 4,oX 3 51 4 1,oU 4 52 4,oX 5 53 4 2,oU 6 54 4,oX 7 55 4 3,oZ 10 14,oD1 8 56 769 55,oP 9 57 (.build (.agg [.int .i64 0,.int .i64 0,.nils,.nils]) [(0,1,.t 49),(1,1,.t 51),(2,1,.t 53),(3,1,.t 56)]),oS 11 14 0 4 57]
@[go_sem] theorem qzX:OE qXC.eq_1:=OEM qXC.eq_1
def qXD:List AOper:=[oU 0 58 14,oX 1 59 14 3,oM 2 60 10,oY 3 61 12 0 4,oA 4 62 4 59 60,oT 5 4 62 61]
@[go_sem] theorem qzY:OE qXD.eq_1:=OEM qXD.eq_1
def qXE:List AOper:=[oY 0 63 14 0 4,oM 1 64 13,oS 2 6 0 4 63,oM 3 7 64]
@[go_sem] theorem qzZ:OE qXE.eq_1:=OEM qXE.eq_1
def qW5:ACode:=.seq (.blk 1 (.seq (.reg true qXA) (.seq (.reg true qXB) (.seq (.reg true [oM 0 46 13,oE 1 47 .neq 46 0]) (.cond (.t 47) (.seq (.reg true qXC) (.seq (.reg true qXD) (.seq (.reg true qXE) (.ret)))) (.skip)))))) (.reg true [oE 0 65 .add 29 1,oM 1 29 65])
@[go_sem] theorem qzQ:CE qW5.eq_1:=CEM qW5.eq_1
def qW6:ACode:=.seq (.seq (.reg true qW9) (.blk 0 (.loop (.seq (.reg true [oB 0 30 .lss 29 28]) (.seq (.cond (.t 30) (.skip) (.exit 0)) qW5))))) (.seq (.reg true [oP 0 66 (.build (.agg [.int .i64 0,.int .i64 0,.nils,.nils]) []),oS 1 6 0 4 66,oC 2 7 0]) (.ret))
@[go_sem] theorem qzR:CE qW6.eq_1:=CEM qW6.eq_1
def F494:AFun:=⟨3,67,[.l 6 (some 4),.t 7],.seq (.reg true [oP 0 4 (.lbox 4 (.t 1)),oZ 1 6,oC 2 7 0]) (.seq (.seq (.reg true qW7) (.seq (.reg true [oM 0 22 9,oE 1 23 .neq 22 0]) (.cond (.t 23) (.seq (.reg true qW8) (.ret)) (.skip)))) qW6)⟩
def qV6:List AOper:=[oP 0 3 (.lbox 1 (.t 0)),oP 1 4 (.lbox 4 (.t 1)),oZ 2 6,oC 3 7 0,oC 4 8 0]
@[go_sem] theorem qyR:OE qV6.eq_1:=OEM qV6.eq_1
def qV7:List AOper:=[oY 0 14 3 0 1,oY 1 15 4 0 4,oM 2 16 2,oP 3 17 (.call 493 [.t 14,.t 15,.t 16,.c (.int .i64 0)]),oM 4 13 17,oV 5 18 13 0,oV 6 19 13 1,oM 7 9 18,oM 8 10 19]
@[go_sem] theorem qyS:OE qV7.eq_1:=OEM qV7.eq_1
def qV8:List AOper:=[oP 0 22 (.build (.agg [.int .i64 0,.int .i64 0,.nils,.nils]) []),oM 1 23 10,oS 2 6 0 4 22,oC 3 7 0,oM 4 8 23]
@[go_sem] theorem qyT:OE qV8.eq_1:=OEM qV8.eq_1
def qV9:List AOper:=[oM 0 25 9,oY 1 26 4 0 4,oP 2 27 (.call 494 [.t 25,.t 26,.c (.int .i64 0)]),oM 3 24 27,oV 4 28 24 0,oV 5 29 24 1,oZ 6 11,oS 7 11 0 4 28,oM 8 12 29]
@[go_sem] theorem qyU:OE qV9.eq_1:=OEM qV9.eq_1
def qWA:List AOper:=[oP 0 33 (.build (.agg [.int .i64 0,.int .i64 0,.nils,.nils]) []),oS 1 6 0 4 33,oC 2 7 0,oC 3 8 3]
@[go_sem] theorem qyV:OE qWA.eq_1:=OEM qWA.eq_1
def qWB:List AOper:=[oY 0 35 11 0 4,oD1 1 36 495 35,oJ 2 37 36,oM 3 34 37]
@[go_sem] theorem qyW:OE qWB.eq_1:=OEM qWB.eq_1
def qWC:List AOper:=[oP 0 38 (.build (.agg [.int .i64 0,.int .i64 0,.nils,.nils]) []),oS 1 6 0 4 38,oC 2 7 0,oC 3 8 4]
@[go_sem] theorem qyX:OE qWC.eq_1:=OEM qWC.eq_1
def qWD:List AOper:=[oY 0 39 11 0 4,oD1 1 40 385 39,oM 2 41 12,oS 3 6 0 4 40,oM 4 7 41,oC 5 8 0]
@[go_sem] theorem qyY:OE qWD.eq_1:=OEM qWD.eq_1
def qV5:ACode:=.seq (.reg true qV9) (.seq (.blk 0 (.seq (.reg true [oM 0 31 12,oE 1 32 .eql 31 0,oM 2 30 32]) (.cond (.t 30) (.seq (.reg true qWA) (.ret)) (.seq (.reg true qWB) (.cond (.t 34) (.seq (.reg true qWC) (.ret)) (.skip)))))) (.seq (.reg true qWD) (.ret)))
@[go_sem] theorem qyQ:CE qV5.eq_1:=CEM qV5.eq_1
def F175:AFun:=⟨3,42,[.l 6 (some 4),.t 7,.t 8],.seq (.reg true qV6) (.seq (.reg true qV7) (.seq (.seq (.reg true [oM 0 20 10,oE 1 21 .neq 20 0]) (.cond (.t 21) (.seq (.reg true qV8) (.ret)) (.skip))) qV5))⟩
def qV4:List AOper:=[oY 0 11 3 0 1,oY 1 12 4 0 4,oM 2 13 2,oP 3 14 (.call 175 [.t 11,.t 12,.t 13]),oM 4 10 14,oV 5 15 10 0,oV 6 16 10 1,oV 7 17 10 2,oZ 8 7,oS 9 7 0 4 15,oM 10 8 16,oM 11 9 17]
@[go_sem] theorem qyP:OE qV4.eq_1:=OEM qV4.eq_1
def F162:AFun:=⟨3,20,[.t 6],.seq (.reg true [oP 0 3 (.lbox 1 (.t 0)),oP 1 4 (.lbox 4 (.t 1)),oQ 2 6 false]) (.seq (.reg true qV4) (.seq (.reg true [oM 0 18 9,oE 1 19 .eql 18 3,oM 2 6 19]) (.ret)))⟩
def qgW:List AOper:=[oY 0 12 3 0 1,oM 1 13 7,oD2 2 14 79 12 13,oM 3 7 14]
@[go_sem] theorem zHO:OE qgW.eq_1:=OEM qgW.eq_1
def qgX:List AOper:=[oY 0 17 4 0 4,oM 1 18 7,oD2 2 19 80 17 18,oM 3 7 19]
@[go_sem] theorem zHP:OE qgX.eq_1:=OEM qgX.eq_1
def qgY:List AOper:=[oY 0 22 3 0 1,oY 2 24 4 0 4,oM 4 26 2,oD1 1 23 82 22,oD1 3 25 83 24,oP 5 27 (.call 161 [.t 23,.t 25,.t 26]),oM 6 8 27]
@[go_sem] theorem zHQ:OE qgY.eq_1:=OEM qgY.eq_1
def qgZ:List AOper:=[oY 0 28 3 0 1,oD1 1 29 82 28,oP 2 9 (.lalloc (.agg [.nils])),oS 3 9 0 1 29]
@[go_sem] theorem zHR:OE qgZ.eq_1:=OEM qgZ.eq_1
def qg0:List AOper:=[oY 0 30 4 0 4,oD1 1 31 83 30,oZ 2 10,oS 3 10 0 4 31]
@[go_sem] theorem zHS:OE qg0.eq_1:=OEM qg0.eq_1
def qg1:List AOper:=[oY 0 32 9 0 1,oY 1 33 10 0 4,oM 2 34 2,oP 3 35 (.call 162 [.t 32,.t 33,.t 34]),oM 4 11 35]
@[go_sem] theorem zHT:OE qg1.eq_1:=OEM qg1.eq_1
def qg2:List AOper:=[oY 0 39 9 0 1,oY 1 40 3 0 1,oD1 2 41 82 40,oD2 3 42 87 39 41,oJ 4 43 42]
@[go_sem] theorem zHU:OE qg2.eq_1:=OEM qg2.eq_1
def qg3:List AOper:=[oY 0 44 10 0 4,oY 1 45 4 0 4,oD1 2 46 83 45,oD2 3 47 85 44 46,oJ 4 48 47]
@[go_sem] theorem zHV:OE qg3.eq_1:=OEM qg3.eq_1
def qgU:ACode:=.seq (.seq (.reg true [oM 0 36 11,oM 1 37 8,oP 2 38 (.beq true (.t 36) (.t 37))]) (.cond (.t 38) (.seq (.reg true [oQ 0 6 false]) (.ret)) (.skip))) (.seq (.seq (.reg true qg2) (.cond (.t 43) (.seq (.reg true [oQ 0 6 false]) (.ret)) (.skip))) (.seq (.seq (.reg true qg3) (.cond (.t 48) (.seq (.reg true [oQ 0 6 false]) (.ret)) (.skip))) (.seq (.reg true [oQ 0 6 true]) (.ret))))
@[go_sem] theorem zHM:CE qgU.eq_1:=CEM qgU.eq_1
def qgV:ACode:=.seq (.seq (.reg true [oM 0 20 7,oE 1 21 .lss 20 0]) (.cond (.t 21) (.seq (.reg true [oQ 0 6 true]) (.ret)) (.skip))) (.seq (.reg true qgY) (.seq (.reg true qgZ) (.seq (.reg true qg0) (.seq (.reg true qg1) qgU))))
@[go_sem] theorem zHN:CE qgV.eq_1:=CEM qgV.eq_1
def qWE:ACode:=.seq (.reg true [oC 0 7 1048576]) (.seq (.reg true qgW) (.seq (.seq (.reg true [oM 0 15 7,oE 1 16 .lss 15 0]) (.cond (.t 16) (.seq (.reg true [oQ 0 6 true]) (.ret)) (.skip))) (.seq (.reg true qgX) qgV)))
@[go_sem] theorem qyZ:CE qWE.eq_1:=CEM qWE.eq_1
def F20:AFun:=⟨3,49,[.t 6],.seq (.reg true [oP 0 3 (.lbox 1 (.t 0)),oP 1 4 (.lbox 4 (.t 1)),oQ 2 6 false]) qWE⟩
def tabm:List (Nat×AFun):=[(338,F338),(80,F80),(337,F337),(79,F79),(147,F147),(83,F83),(342,F342),(82,F82),(86,F86),(346,F346),(85,F85),(87,F87),(340,F340),(1023,qjT),(1024,qjU),(643,F643),(642,F642),(1129,qkG),(878,F878),(519,F519),(725,F725),(579,F579),(990,F990),(991,F991),(610,F610),(496,F496),(479,F479),(402,F402),(1026,qjV),(920,F920),(1407,qk9),(1162,qkI),(835,F835),(480,F480),(856,F856),(1123,qkA),(1128,qkF),(765,F765),(381,F381),(760,F760),(1121,qj8),(766,F766),(1122,qj9),(1124,qkB),(761,F761),(1125,qkC),(1126,qkD),(762,F762),(382,F382),(1117,qj4),(1127,qkE),(763,F763),(1504,qlI),(1505,qlJ),(1408,qlA),(1409,qlB),(1163,qkJ),(836,F836),(481,F481),(161,F161),(401,F401),(385,F385),(774,F774),(397,F397),(801,F801),(436,F436),(958,F958),(581,F581),(665,F665),(495,F495),(796,F796),(1050,qj0),(1051,qj1),(1402,qk8),(1130,qkH),(770,F770),(391,F391),(566,F566),(1193,qkQ),(880,F880),(521,F521),(993,F993),(615,F615),(1169,qkM),(1168,qkL),(847,F847),(851,F851),(498,F498),(1042,qjZ),(1194,qkR),(1195,qkS),(881,F881),(522,F522),(1170,qkN),(848,F848),(834,F834),(647,F647),(1167,qkK),(1345,qk2),(1339,qkW),(1476,qlD),(1340,qkX),(1348,qyM),(1349,qk5),(1054,qj3),(1477,qlE),(1478,qlF),(1341,qkY),(1529,qlK),(1480,qlH),(1479,qlG),(1342,qkZ),(1343,qk0),(1344,qk1),(1346,qk3),(1347,qk4),(1053,qj2),(678,F678),(1041,qjY),(664,F664),(1039,qjW),(1040,qjX),(663,F663),(849,F849),(493,F493),(769,F769),(758,F758),(726,F726),(1316,qkT),(1462,qlC),(1318,qkV),(1317,qkU),(992,F992),(1400,qk6),(1118,qj5),(1120,qj7),(1401,qk7),(1119,qj6),(759,F759),(1171,qkO),(1172,qkP),(850,F850),(494,F494),(175,F175),(162,F162),(20,F20)]
def Gm (g:Nat):Option AFn:=qU4 g tabm
theorem g338:Gm 338=some (.fn F338):=by kernel_rfl
theorem g80:Gm 80=some (.fn F80):=by kernel_rfl
theorem g337:Gm 337=some (.fn F337):=by kernel_rfl
theorem g79:Gm 79=some (.fn F79):=by kernel_rfl
theorem g147:Gm 147=some (.fn F147):=by kernel_rfl
theorem g83:Gm 83=some (.fn F83):=by kernel_rfl
theorem g342:Gm 342=some (.fn F342):=by kernel_rfl
theorem g82:Gm 82=some (.fn F82):=by kernel_rfl
theorem g86:Gm 86=some (.fn F86):=by kernel_rfl
theorem g346:Gm 346=some (.fn F346):=by kernel_rfl
theorem g85:Gm 85=some (.fn F85):=by kernel_rfl
theorem g87:Gm 87=some (.fn F87):=by kernel_rfl
theorem g340:Gm 340=some (.fn F340):=by kernel_rfl
theorem zLG:Gm 1023=some (.fn qjT):=by kernel_rfl
theorem zLH:Gm 1024=some (.fn qjU):=by kernel_rfl
theorem g643:Gm 643=some (.fn F643):=by kernel_rfl
theorem g642:Gm 642=some (.fn F642):=by kernel_rfl
theorem zL3:Gm 1129=some (.fn qkG):=by kernel_rfl
theorem g878:Gm 878=some (.fn F878):=by kernel_rfl
theorem g519:Gm 519=some (.fn F519):=by kernel_rfl
theorem g725:Gm 725=some (.fn F725):=by kernel_rfl
theorem g579:Gm 579=some (.fn F579):=by kernel_rfl
theorem g990:Gm 990=some (.fn F990):=by kernel_rfl
theorem g991:Gm 991=some (.fn F991):=by kernel_rfl
theorem g610:Gm 610=some (.fn F610):=by kernel_rfl
theorem g496:Gm 496=some (.fn F496):=by kernel_rfl
theorem g479:Gm 479=some (.fn F479):=by kernel_rfl
theorem g402:Gm 402=some (.fn F402):=by kernel_rfl
theorem zLI:Gm 1026=some (.fn qjV):=by kernel_rfl
theorem g920:Gm 920=some (.fn F920):=by kernel_rfl
theorem zMW:Gm 1407=some (.fn qk9):=by kernel_rfl
theorem zL5:Gm 1162=some (.fn qkI):=by kernel_rfl
theorem g835:Gm 835=some (.fn F835):=by kernel_rfl
theorem g480:Gm 480=some (.fn F480):=by kernel_rfl
theorem g856:Gm 856=some (.fn F856):=by kernel_rfl
theorem zLX:Gm 1123=some (.fn qkA):=by kernel_rfl
theorem zL2:Gm 1128=some (.fn qkF):=by kernel_rfl
theorem g765:Gm 765=some (.fn F765):=by kernel_rfl
theorem g381:Gm 381=some (.fn F381):=by kernel_rfl
theorem g760:Gm 760=some (.fn F760):=by kernel_rfl
theorem zLV:Gm 1121=some (.fn qj8):=by kernel_rfl
theorem g766:Gm 766=some (.fn F766):=by kernel_rfl
theorem zLW:Gm 1122=some (.fn qj9):=by kernel_rfl
theorem zLY:Gm 1124=some (.fn qkB):=by kernel_rfl
theorem g761:Gm 761=some (.fn F761):=by kernel_rfl
theorem zLZ:Gm 1125=some (.fn qkC):=by kernel_rfl
theorem zL0:Gm 1126=some (.fn qkD):=by kernel_rfl
theorem g762:Gm 762=some (.fn F762):=by kernel_rfl
theorem g382:Gm 382=some (.fn F382):=by kernel_rfl
theorem zLR:Gm 1117=some (.fn qj4):=by kernel_rfl
theorem zL1:Gm 1127=some (.fn qkE):=by kernel_rfl
theorem g763:Gm 763=some (.fn F763):=by kernel_rfl
theorem zM5:Gm 1504=some (.fn qlI):=by kernel_rfl
theorem zM6:Gm 1505=some (.fn qlJ):=by kernel_rfl
theorem zMX:Gm 1408=some (.fn qlA):=by kernel_rfl
theorem zMY:Gm 1409=some (.fn qlB):=by kernel_rfl
theorem zL6:Gm 1163=some (.fn qkJ):=by kernel_rfl
theorem g836:Gm 836=some (.fn F836):=by kernel_rfl
theorem g481:Gm 481=some (.fn F481):=by kernel_rfl
theorem g161:Gm 161=some (.fn F161):=by kernel_rfl
theorem g401:Gm 401=some (.fn F401):=by kernel_rfl
theorem g385:Gm 385=some (.fn F385):=by kernel_rfl
theorem g774:Gm 774=some (.fn F774):=by kernel_rfl
theorem g397:Gm 397=some (.fn F397):=by kernel_rfl
theorem g801:Gm 801=some (.fn F801):=by kernel_rfl
theorem g436:Gm 436=some (.fn F436):=by kernel_rfl
theorem g958:Gm 958=some (.fn F958):=by kernel_rfl
theorem g581:Gm 581=some (.fn F581):=by kernel_rfl
theorem g665:Gm 665=some (.fn F665):=by kernel_rfl
theorem g495:Gm 495=some (.fn F495):=by kernel_rfl
theorem g796:Gm 796=some (.fn F796):=by kernel_rfl
theorem zLN:Gm 1050=some (.fn qj0):=by kernel_rfl
theorem zLO:Gm 1051=some (.fn qj1):=by kernel_rfl
theorem zMV:Gm 1402=some (.fn qk8):=by kernel_rfl
theorem zL4:Gm 1130=some (.fn qkH):=by kernel_rfl
theorem g770:Gm 770=some (.fn F770):=by kernel_rfl
theorem g391:Gm 391=some (.fn F391):=by kernel_rfl
theorem g566:Gm 566=some (.fn F566):=by kernel_rfl
theorem zMD:Gm 1193=some (.fn qkQ):=by kernel_rfl
theorem g880:Gm 880=some (.fn F880):=by kernel_rfl
theorem g521:Gm 521=some (.fn F521):=by kernel_rfl
theorem g993:Gm 993=some (.fn F993):=by kernel_rfl
theorem g615:Gm 615=some (.fn F615):=by kernel_rfl
theorem zL9:Gm 1169=some (.fn qkM):=by kernel_rfl
theorem zL8:Gm 1168=some (.fn qkL):=by kernel_rfl
theorem g847:Gm 847=some (.fn F847):=by kernel_rfl
theorem g851:Gm 851=some (.fn F851):=by kernel_rfl
theorem g498:Gm 498=some (.fn F498):=by kernel_rfl
theorem zLM:Gm 1042=some (.fn qjZ):=by kernel_rfl
theorem zME:Gm 1194=some (.fn qkR):=by kernel_rfl
theorem zMF:Gm 1195=some (.fn qkS):=by kernel_rfl
theorem g881:Gm 881=some (.fn F881):=by kernel_rfl
theorem g522:Gm 522=some (.fn F522):=by kernel_rfl
theorem zMA:Gm 1170=some (.fn qkN):=by kernel_rfl
theorem g848:Gm 848=some (.fn F848):=by kernel_rfl
theorem g834:Gm 834=some (.fn F834):=by kernel_rfl
theorem g647:Gm 647=some (.fn F647):=by kernel_rfl
theorem zL7:Gm 1167=some (.fn qkK):=by kernel_rfl
theorem zMP:Gm 1345=some (.fn qk2):=by kernel_rfl
theorem zMJ:Gm 1339=some (.fn qkW):=by kernel_rfl
theorem zM0:Gm 1476=some (.fn qlD):=by kernel_rfl
theorem zMK:Gm 1340=some (.fn qkX):=by kernel_rfl
theorem zMS:Gm 1349=some (.fn qk5):=by kernel_rfl
theorem zLQ:Gm 1054=some (.fn qj3):=by kernel_rfl
theorem zM1:Gm 1477=some (.fn qlE):=by kernel_rfl
theorem zM2:Gm 1478=some (.fn qlF):=by kernel_rfl
theorem zML:Gm 1341=some (.fn qkY):=by kernel_rfl
theorem zM7:Gm 1529=some (.fn qlK):=by kernel_rfl
theorem zM4:Gm 1480=some (.fn qlH):=by kernel_rfl
theorem zM3:Gm 1479=some (.fn qlG):=by kernel_rfl
theorem zMM:Gm 1342=some (.fn qkZ):=by kernel_rfl
theorem zMN:Gm 1343=some (.fn qk0):=by kernel_rfl
theorem zMO:Gm 1344=some (.fn qk1):=by kernel_rfl
theorem zMQ:Gm 1346=some (.fn qk3):=by kernel_rfl
theorem zMR:Gm 1347=some (.fn qk4):=by kernel_rfl
theorem zLP:Gm 1053=some (.fn qj2):=by kernel_rfl
theorem g678:Gm 678=some (.fn F678):=by kernel_rfl
theorem zLL:Gm 1041=some (.fn qjY):=by kernel_rfl
theorem g664:Gm 664=some (.fn F664):=by kernel_rfl
theorem zLJ:Gm 1039=some (.fn qjW):=by kernel_rfl
theorem zLK:Gm 1040=some (.fn qjX):=by kernel_rfl
theorem g663:Gm 663=some (.fn F663):=by kernel_rfl
theorem g849:Gm 849=some (.fn F849):=by kernel_rfl
theorem g493:Gm 493=some (.fn F493):=by kernel_rfl
theorem g769:Gm 769=some (.fn F769):=by kernel_rfl
theorem g758:Gm 758=some (.fn F758):=by kernel_rfl
theorem g726:Gm 726=some (.fn F726):=by kernel_rfl
theorem zMG:Gm 1316=some (.fn qkT):=by kernel_rfl
theorem zMZ:Gm 1462=some (.fn qlC):=by kernel_rfl
theorem zMI:Gm 1318=some (.fn qkV):=by kernel_rfl
theorem zMH:Gm 1317=some (.fn qkU):=by kernel_rfl
theorem g992:Gm 992=some (.fn F992):=by kernel_rfl
theorem zMT:Gm 1400=some (.fn qk6):=by kernel_rfl
theorem zLS:Gm 1118=some (.fn qj5):=by kernel_rfl
theorem zLU:Gm 1120=some (.fn qj7):=by kernel_rfl
theorem zMU:Gm 1401=some (.fn qk7):=by kernel_rfl
theorem zLT:Gm 1119=some (.fn qj6):=by kernel_rfl
theorem g759:Gm 759=some (.fn F759):=by kernel_rfl
theorem zMB:Gm 1171=some (.fn qkO):=by kernel_rfl
theorem zMC:Gm 1172=some (.fn qkP):=by kernel_rfl
theorem g850:Gm 850=some (.fn F850):=by kernel_rfl
theorem g494:Gm 494=some (.fn F494):=by kernel_rfl
theorem g175:Gm 175=some (.fn F175):=by kernel_rfl
theorem g162:Gm 162=some (.fn F162):=by kernel_rfl
theorem g20:Gm 20=some (.fn F20):=by kernel_rfl
end Go.Ab
namespace Go.Ab
open Go
set_option maxRecDepth 10000
theorem c338 (xs:List Int) (hx:xs.length≤140737488355328) (left:Nat) (hl:left≤1048576):Pure Gm 338 [.lst 1 (xs.map encI) false,.int .i64 left] (.int .i64 (qF7 xs.length left)):=
  qpW g338 shI.tree xs left hl hx
theorem c80 (x:GCore):∀(_:x.bd) (left:Nat) (_:left≤1048576),Pure Gm 80 [x.enc,.int .i64 left] (.int .i64 (qF7 x.sz left)):=by
  induction x using GCore.ind with
  | _ x ih=>
  intro hb left hl
  refine Pure.intro [] [] g80 (by kernel_rfl) rfl (by simp [AV.trees,AV.tree,GCore.tr]) rfl ?_
  simp only [F80,qAC,go_sem]
  refine qAN GCore.ln ?_
  simp only [go_sem]
  rw [GCore.bd_eq] at hb
  refine qAB (c338 _ hb.1 _ (by omega)) ?_
  simp only [go_sem]
  refine qAA ?_ ?_<;>intro hc<;>simp only [hc,go_sem]
  · have hq:=of_decide_eq_true hc;rw [qCU] at hq
    exact qAF rfl (by rw [qCM (by rw [GCore.sz_eq];omega)])
  have hq:=of_decide_eq_false hc;rw [qCU] at hq;rw [qBT (by omega)];clear hc
  refine qAB (qnE GCore.isSh g337 GCore.sz x.Kids (fun y hm lf hlf=>ih y hm (hb.2.2 y hm) lf hlf) _ (by omega) hb.2.1) ?_
  simp only [go_sem]
  refine qAA ?_ ?_<;>intro hc<;>simp only [hc,go_sem]
  · have hq:=of_decide_eq_true hc;rw [qCU] at hq
    exact qAF rfl (by rw [qCM (by rw [GCore.sz_eq];omega)])
  have hq:=of_decide_eq_false hc;rw [qCU] at hq;rw [qBT (by omega)];clear hc
  exact qAF rfl (by rw [qBT (by rw [GCore.sz_eq];omega)];rw [GCore.sz_eq];first | rfl | (congr 2;omega))
theorem c337 (xs:List GCore) (hx:xs.length≤140737488355328∧(∀y∈xs,GCore.bd y)) (left:Nat) (hl:left≤1048576):Pure Gm 337 [.lst 4 (xs.map GCore.enc) false,.int .i64 left] (.int .i64 (qF7 (xs.length+sumN GCore.sz xs) left)):=
  qnE GCore.isSh g337 GCore.sz xs (fun x hm lf hlf=>c80 x (hx.2 x hm) lf hlf) left hl hx.1
theorem c79 (x:GBook) (hb:x.bd) (left:Nat) (hl:left≤1048576):Pure Gm 79 [x.enc,.int .i64 left] (.int .i64 (qF7 x.sz left)):=by
  refine Pure.intro [] [] g79 (by kernel_rfl) rfl (by simp [AV.trees,AV.tree,GBook.tr]) rfl ?_
  simp only [F79,qAC,go_sem]
  refine qAN rfl ?_
  simp only [go_sem]
  unfold GBook.bd at hb
  refine qAB (c337 _ ⟨hb.1,hb.2⟩ _ (by omega)) ?_
  simp only [go_sem]
  refine qAA ?_ ?_<;>intro hc<;>simp only [hc,go_sem]
  · have hq:=of_decide_eq_true hc;rw [qCU] at hq
    exact qAF rfl (by rw [qCM (by unfold GBook.sz;omega)])
  have hq:=of_decide_eq_false hc;rw [qCU] at hq;rw [qBT (by omega)];clear hc
  exact qAF rfl (by rw [qBT (by unfold GBook.sz;omega)];unfold GBook.sz;first | rfl | (congr 2;omega))
theorem c147 (xs:List Int) (hl:xs.length≤1048576):Pure Gm 147 [.lst 1 (xs.map encI) false] (.lst 1 (xs.map encI) false):=qpZ g147 xs hl
theorem c83 (x:GCore):∀(_:x.sz≤1048576),Pure Gm 83 [x.enc] (x.enc):=by
  induction x using GCore.ind with
  | _ x ih=>
  intro hz
  refine Pure.intro [] [] g83 (by kernel_rfl) rfl (by simp [AV.trees,AV.tree,GCore.tr]) GCore.tr ?_
  simp only [F83,qAC,go_sem]
  refine qAN GCore.ln ?_
  simp only [go_sem]
  rw [GCore.sz_eq] at hz
  refine qAB (c147 _ (by omega)) ?_
  simp only [go_sem]
  refine qAB (qnG GCore.isSh rfl rfl (by simp) g342 x.Kids (fun y hm=>ih y hm (by have:=qA9 (f:=GCore.sz) hm;omega)) (by omega)) ?_
  simp only [go_sem]
  refine qAE rfl rfl ⟨_,rfl⟩ (by decide) ?_
  simp only [go_sem]
  exact qAF GCore.tr (by rw [GCore.enc_eq])
theorem c342 (xs:List GCore) (hl:xs.length+sumN GCore.sz xs≤1048576):Pure Gm 342 [.lst 4 (xs.map GCore.enc) false] (.lst 4 (xs.map GCore.enc) false):=
  qnG GCore.isSh rfl rfl (by simp) g342 xs (fun x hm=>c83 x (by have:=qA9 (f:=GCore.sz) hm;omega)) (by omega)
theorem c82 (x:GBook) (hz:x.sz≤1048576):Pure Gm 82 [x.enc] x.enc:=by
  refine Pure.intro [] [] g82 (by kernel_rfl) rfl (by simp [AV.trees,AV.tree,GBook.tr]) GBook.tr ?_
  simp only [F82,qAC,go_sem]
  refine qAN rfl ?_
  simp only [go_sem]
  unfold GBook.sz at hz
  refine qAB (c342 _ (by omega)) ?_
  simp only [go_sem]
  exact qAF GBook.tr rfl
theorem c86 (xs:List Int) (hl:xs.length≤2097152):Pure Gm 86 [.lst 1 (xs.map encI) false,.lst 1 (xs.map encI) false] (.bool true):=qo5 g86 xs hl
theorem c85 (x:GCore):∀(_:x.sz≤2097152),Pure Gm 85 [x.enc,x.enc] (.bool true):=by
  induction x using GCore.ind with
  | _ x ih=>
  intro hz
  refine Pure.intro [] [] g85 (by kernel_rfl) rfl (by simp [AV.trees,AV.tree,GCore.tr]) rfl ?_
  simp only [F85,qAC,go_sem]
  refine qAN GCore.ln ?_
  simp only [go_sem]
  refine qAN GCore.ln ?_
  simp only [go_sem]
  rw [GCore.sz_eq] at hz
  refine qAB (c86 _ (by omega)) ?_
  simp only [go_sem]
  refine qAB (qm2 GCore.isSh g346 x.Kids (fun y hm=>ih y hm (by have:=qA9 (f:=GCore.sz) hm;omega)) (by omega)) ?_
  simp only [go_sem]
  exact qAF rfl rfl
theorem c346 (xs:List GCore) (hl:xs.length+sumN GCore.sz xs≤2097152):Pure Gm 346 [.lst 4 (xs.map GCore.enc) false,.lst 4 (xs.map GCore.enc) false] (.bool true):=
  qm2 GCore.isSh g346 xs (fun x hm=>c85 x (by have:=qA9 (f:=GCore.sz) hm;omega)) (by omega)
theorem c87 (x:GBook) (hz:x.sz≤2097152):Pure Gm 87 [x.enc,x.enc] (.bool true):=by
  refine Pure.intro [] [] g87 (by kernel_rfl) rfl (by simp [AV.trees,AV.tree,GBook.tr]) rfl ?_
  simp only [F87,qAC,go_sem]
  refine qAN rfl ?_
  simp only [go_sem]
  refine qAN rfl ?_
  simp only [go_sem]
  unfold GBook.sz at hz
  refine qAB (c346 _ (by omega)) ?_
  simp only [go_sem]
  exact qAF rfl rfl
end Go.Ab
namespace Go.Ab
open Go
set_option maxRecDepth 10000
set_option maxHeartbeats 2000000
def inI (n lo hi:Int):Bool:=decide (lo≤n)&&decide (n≤hi)
theorem dlt (a b:Int):decide (a<b)= !decide (b≤a):=by rw [Bool.eq_iff_iff];simp
theorem nt {b:Bool} (h:(!b)=true):b=false:=by cases b<;>simp_all
theorem nf {b:Bool} (h:(!b)=false):b=true:=by cases b<;>simp_all
theorem qCE {α:Type} {xs:List α} {i:Nat} (h:i<xs.length):xs.drop i=xs[i]::xs.drop (i+1):=by simp
def shp (k:Int):(Int×Int)×Int×Int:=
  if k=1∨k=2∨k=11 then ((0,0),0,0) else if k=3∨k=5∨k=7 then ((2,2),0,0) else if k=4∨k=6 then ((1,1),0,0)
  else if k=8 then ((0,3),0,0) else if k=9 then ((1,1),1,4) else if k=10 then ((1,1),2,2) else ((0,-1),0,0)
def qJV (k v:Int):Bool:=
  if k=1 then inI v 0 255 else if k=2 then inI v (-2147483648) 2147483647 else if k=3 then inI v 1 6 else if k=8 then inI v 0 3 else if k=11 then inI v 0 23 else decide (v=0)
def qGQ (n:Int):Bool:=inI n 0 23
def qB3 (x:GCore):Bool:=inI x.Kids.length (shp x.Kind).1.1 (shp x.Kind).1.2&&inI x.Data.length (shp x.Kind).2.1 (shp x.Kind).2.2&&qJV x.Kind x.Value&&x.Data.all qGQ
def GCore.fold {β:Type} (f:GCore→List β→β) (x:GCore):β:=f x (x.Kids.attach.map fun y=>GCore.fold f y.1)
termination_by SizeOf.sizeOf x
decreasing_by exact GCore.lt_of_mem y.2
theorem GCore.fold_eq {β:Type} (f:GCore→List β→β) (x:GCore):GCore.fold f x=f x (x.Kids.map (GCore.fold f)):=by
  rw [GCore.fold]
  congr 1
  rw [List.attach_map_val (l:=x.Kids) (f:=GCore.fold f)]
@[go_sem] theorem zJO {α:Type} (f:α→Nat):sumN f []=0:=rfl
theorem qD4 {α:Type} {f:α→Nat} {xs:List α} {i:Nat} (h:i<xs.length):sumN f (xs.take (i+1))=sumN f (xs.take i)+f xs[i]:=by
  induction xs generalizing i with
  | nil=>simp at h
  | cons a xs ih=>
    cases i with
    | zero=>simp [sumN]
    | succ i=>simp only [List.take_succ_cons,sumN,List.getElem_cons_succ,ih (by simpa using h)];omega
def maxN {α:Type} (f:α→Nat):List α→Nat
  |[]=>0
  | x::xs=>Nat.max (f x) (maxN f xs)
def GCore.ok:GCore→Bool:=GCore.fold fun x rs=>qB3 x&&rs.all id
theorem GCore.ok_eq (x:GCore):x.ok=(qB3 x&&x.Kids.all GCore.ok):=by
  unfold GCore.ok;rw [GCore.fold_eq];simp
def GCore.size:GCore→Nat:=GCore.fold fun _ rs=>1+sumN id rs
theorem qfC {α β:Type} (f:β→Nat) (g:α→β):∀xs:List α,sumN f (xs.map g)=sumN (fun x=>f (g x)) xs
  |[]=>rfl
  | x::xs=>by simp [sumN,qfC f g xs]
theorem GCore.size_eq (x:GCore):x.size=1+sumN GCore.size x.Kids:=by
  unfold GCore.size;rw [GCore.fold_eq,qfC];rfl
theorem qTQ {α β:Type} (f:β→Nat) (g:α→β):∀xs:List α,maxN f (xs.map g)=maxN (fun x=>f (g x)) xs
  |[]=>rfl
  | x::xs=>by simp [maxN,qTQ f g xs]
def GCore.dep:GCore→Nat:=GCore.fold fun _ rs=>1+maxN id rs
theorem GCore.dep_eq (x:GCore):x.dep=1+maxN GCore.dep x.Kids:=by
  unfold GCore.dep;rw [GCore.fold_eq,qTQ];rfl
theorem GCore.kid_sz {x y:GCore} (h:y∈x.Kids):y.sz≤x.sz:=by
  have:=qA9 (f:=GCore.sz) h
  rw [GCore.sz_eq x];omega
theorem GCore.len_sz (x:GCore):x.Kids.length≤x.sz∧x.Data.length≤x.sz:=by rw [GCore.sz_eq x];omega
def qJ2 (d:Int):List GCore→Int→Option Int
  |[],n=>some n
  | x::xs,n=>if x.ok∧(x.dep:Int)≤d∧(x.size:Int)≤n then qJ2 d xs (n-x.size) else none
def qDK (x:GCore) (d left:Int):Int:=if x.ok∧(x.dep:Int)≤d∧(x.size:Int)≤left then x.size else-1
theorem c340 {n lo hi:Int}:Pure Gm 340 [.int .i64 n,.int .i64 lo,.int .i64 hi] (.bool (inI n lo hi)):=by
  refine Pure.intro [] [] g340 (by kernel_rfl) rfl (by simp [AV.trees,AV.tree,go_sem]) rfl ?_
  simp only [F340,qAC,go_sem]
  repeat' (first | (refine qAN rfl ?_;simp only [go_sem]) | (first | (refine qAG ?_ ?_<;>intro hc<;>simp only [hc,go_sem]) | (refine qAA ?_ ?_<;>intro hc<;>simp only [hc,go_sem])) | refine qAF rfl ?_ | refine qB1 (by rfl) ?_)
  all_goals (simp_all [inI]<;>omega)
theorem zJW {k:Int}:Pure Gm 1023 [.int .i64 k] (.tup [.int .i64 (shp k).1.1,.int .i64 (shp k).1.2,.int .i64 (shp k).2.1,.int .i64 (shp k).2.2]):=by
  refine Pure.intro [] [] zLG (by kernel_rfl) rfl (by simp [AV.trees,AV.tree,go_sem]) rfl ?_
  simp only [qjT,qAC,go_sem]
  repeat' (first | (refine qAN rfl ?_;simp only [go_sem]) | (first | (refine qAG ?_ ?_<;>intro hc<;>simp only [hc,go_sem]) | (refine qAA ?_ ?_<;>intro hc<;>simp only [hc,go_sem])) | refine qAF rfl ?_ | refine qB1 (by rfl) ?_)
  all_goals (simp_all [shp,qBU])
theorem zJX {x:GCore}:Pure Gm 1024 [.ept x.enc 0] (.bool (qJV x.Kind x.Value)):=by
  refine Pure.intro [] [] zLH (by kernel_rfl) rfl (by simp [AV.trees,AV.tree,go_sem]) rfl ?_
  simp only [qjU,qAC,go_sem]
  repeat' (first | (refine qAN rfl ?_;simp only [go_sem]) | (first | (refine qAG ?_ ?_<;>intro hc<;>simp only [hc,go_sem]) | (refine qAA ?_ ?_<;>intro hc<;>simp only [hc,go_sem])) | (refine qAB (c340) ?_;simp only [go_sem]) | refine qAF rfl ?_ | refine qB1 (by rfl) ?_)
  all_goals (simp_all [qJV])
theorem GCore.size_pos (x:GCore):1≤x.size:=by rw [GCore.size_eq];omega
theorem GCore.dep_pos (x:GCore):1≤x.dep:=by rw [GCore.dep_eq];omega
theorem qeF (d:Int):∀(xs:List GCore) (n:Int),0≤n→qJ2 d xs n=if xs.all GCore.ok∧(∀y∈xs,(y.dep:Int)≤d)∧(sumN GCore.size xs:Int)≤n then some (n-sumN GCore.size xs) else none
  |[],n,hn=>by simp [qJ2,sumN,hn]
  | x::xs,n,hn=>by
    unfold qJ2
    have hp:=x.size_pos
    by_cases h:x.ok∧(x.dep:Int)≤d∧(x.size:Int)≤n
    · rw [if_pos h,qeF d xs _ (by omega)]
      simp only [sumN,List.all_cons,h.1,Bool.true_and,List.forall_mem_cons,h.2.1,true_and]
      by_cases h2:xs.all GCore.ok∧(∀y∈xs,(y.dep:Int)≤d)∧(sumN GCore.size xs:Int)≤n-x.size
      · rw [if_pos h2,if_pos ⟨h2.1,h2.2.1,by omega⟩];congr 1;omega
      · rw [if_neg h2,if_neg (fun q=>h2 ⟨q.1,q.2.1,by omega⟩)]
    · rw [if_neg h,if_neg]
      simp only [sumN,List.all_cons,Bool.and_eq_true,List.forall_mem_cons]
      rintro ⟨⟨a,_⟩,⟨b,_⟩,c⟩
      exact h ⟨a,b,by omega⟩
theorem qJK {α:Type} (f:α→Nat) (n:Nat):∀xs:List α,maxN f xs≤n↔∀y∈xs,f y≤n
  |[]=>by simp [maxN]
  | x::xs=>by
    simp only [maxN,List.forall_mem_cons,←qJK f n xs]
    exact Nat.max_le
theorem qiS (x:GCore) (d left:Int) (hd:1≤d) (hl:1≤left) (hn:qB3 x=true):qDK x d left=match qJ2 (d-1) x.Kids (left-1) with | some r=>left-r | none=> -1:=by
  unfold qDK
  rw [qeF _ _ _ (by omega),x.ok_eq,hn,x.size_eq,x.dep_eq,Bool.true_and]
  have hm:((1+maxN GCore.dep x.Kids:Nat):Int)≤d↔∀y∈x.Kids,(y.dep:Int)≤d-1:=by
    have:=qJK GCore.dep (d-1).toNat x.Kids
    constructor
    · intro h y hy;have:=this.1 (by omega) y hy;omega
    · intro h;have:=this.2 (fun y hy=>by have:=h y hy;omega);omega
  by_cases h:x.Kids.all GCore.ok∧(∀y∈x.Kids,(y.dep:Int)≤d-1)∧(sumN GCore.size x.Kids:Int)≤left-1
  · rw [if_pos h,if_pos ⟨h.1,hm.2 h.2.1,by omega⟩];simp only [];omega
  · rw [if_neg h,if_neg (fun q=>h ⟨q.1,hm.1 q.2.1,by omega⟩)]
theorem qgC {x:GCore} {d left:Int} (h:d<1∨left<1∨qB3 x=false):qDK x d left= -1:=by
  unfold qDK
  rw [if_neg]
  rintro ⟨h1,h2,h3⟩
  have:=x.size_pos;have:=x.dep_pos
  rcases h with h | h | h
  · omega
  · omega
  · rw [x.ok_eq,h] at h1;cases h1
theorem c643 (x:GCore):∀(d left:Int) (hz:x.sz≤1048576) (hd:0≤d∧d≤1048576) (hl:0≤left∧left≤1048576),Pure Gm 643 [.ept x.enc 0,.int .i64 d,.int .i64 left] (.int .i64 (qDK x d left)):=by
  induction x using GCore.ind with
  | _ x ih=>
  intro d left hz hd hl
  refine Pure.intro [] [] g643 (by kernel_rfl) rfl (by simp [AV.trees,AV.tree,go_sem]) rfl ?_
  simp only [F643,qAC,go_sem]
  have hL:=x.len_sz
  refine qAB zJW ?_
  simp only [go_sem]
  have bad:∀{h:List AObj},d<1∨left<1∨qB3 x=false→Fin (some [.int .i64 (-1)]) h (.int .i64 (qDK x d left)):=fun h=>qAF rfl (by rw [qgC h])
  repeat' (first
    | (first | (refine qAG ?_ ?_<;>intro hc<;>simp only [hc,go_sem]) | (refine qAA ?_ ?_<;>intro hc<;>simp only [hc,go_sem]))
    | (refine qAB c340 ?_;simp only [go_sem])
    | (refine qAB zJX ?_;simp only [go_sem])
    | refine bad ?_)
  all_goals try (first
    | (refine .inl ?_;simp_all;done)
    | (refine .inr (.inl ?_);simp_all;done)
    | (refine .inr (.inr ?_);simp_all [qB3];done))
  rename_i h1 h2 h3 h4
  have hn0:x.Data.all qGQ=true→qB3 x=true:=by intro h;simp_all [qB3]
  have hn1:x.Data.all qGQ=false→qB3 x=false:=by intro h;simp_all [qB3]
  have d1:1≤d:=by have:=of_decide_eq_false h1;omega
  have l1:1≤left:=by have:=of_decide_eq_false h2;omega
  refine Sem.loop (fun i:Nat=>i≤x.Data.length∧x.Data.all qGQ=(x.Data.drop i).all qGQ) (fun i=>(⟨[(0,.ept x.enc 0),(1,.int .i64 d),(2,.int .i64 left),(11,.int .i64 (i:Nat))],[],[]⟩:VSt)) (fun i=>x.Data.length-i) 0 (by kernel_rfl) ⟨Nat.zero_le _,by simp⟩ (Can.sub (by simp [go_sem]) (by simp [go_sem])) ?_
  rintro i ⟨hi,hI⟩
  simp only [go_sem]
  refine qAA ?_ ?_<;>intro hc<;>simp only [hc,go_sem]
  · have hlt:i<x.Data.length:=by have:=of_decide_eq_true hc;omega
    simp only [List.getElem?_map,List.getElem?_eq_getElem hlt,Option.map_some,go_sem]
    simp only [encI]
    simp only [go_sem]
    refine qAB c340 ?_
    simp only [go_sem]
    refine qAA ?_ ?_<;>intro hc<;>simp only [hc,go_sem]
    · refine bad (.inr (.inr (hn1 ?_)))
      rw [hI,qCE hlt,List.all_cons];simp_all [qGQ]
    · simp only [qAK (show i<4611686018427387904 by omega)];refine qAH (i+1) ⟨by omega, ?_⟩ (by omega) (Can.sub (by simp [go_sem]) (by simp [go_sem]))
      rw [hI,qCE hlt,List.all_cons];simp_all [qGQ]
  · obtain rfl:i=x.Data.length:=by have:=of_decide_eq_false hc;omega
    have hn:=hn0 (by rw [hI];simp)
    rw [qiS x d left d1 l1 hn]
    refine Sem.loop (fun i:Nat=>i≤x.Kids.length∧qJ2 (d-1) x.Kids (left-1)=qJ2 (d-1) (x.Kids.drop i) (left-((1+sumN GCore.size (x.Kids.take i):Nat):Int))∧((1+sumN GCore.size (x.Kids.take i):Nat):Int)≤left) (fun i=>(⟨[(0,.ept x.enc 0),(1,.int .i64 d),(2,.int .i64 left),(12,.int .i64 ((1+sumN GCore.size (x.Kids.take i):Nat):Int)),(13,.int .i64 (i:Nat))],[],[]⟩:VSt)) (fun i=>x.Kids.length-i) 0 (by kernel_rfl) ⟨Nat.zero_le _,by simp [sumN];omega⟩ (Can.sub (by simp [go_sem]) (by simp [go_sem])) ?_
    rintro i ⟨hi,hI⟩
    simp only [go_sem]
    refine qAA ?_ ?_<;>intro hc<;>simp only [hc,go_sem]
    · have hlt:i<x.Kids.length:=by have:=of_decide_eq_true hc;omega
      simp only [List.getElem?_map,List.getElem?_eq_getElem hlt,Option.map_some,go_sem]
      have hm:=List.getElem_mem hlt
      have hk:=GCore.kid_sz hm
      have hp:=x.Kids[i].size_pos
      have ht:=qD4 (f:=GCore.size) hlt
      rw [qAJ (by omega) (by omega),qAJ (by omega) (by omega)]
      refine qAB (ih _ hm (d-1) (left-((1+sumN GCore.size (x.Kids.take i):Nat):Int)) (by omega) (by omega) (by omega)) ?_
      simp only [go_sem]
      rw [qCE hlt] at hI
      refine qAA ?_ ?_<;>intro hc<;>simp only [hc,go_sem]
      · have hb:¬(x.Kids[i].ok∧(x.Kids[i].dep:Int)≤d-1∧(x.Kids[i].size:Int)≤left-((1+sumN GCore.size (x.Kids.take i):Nat):Int)):=by
          intro q
          have:=of_decide_eq_true hc
          unfold qDK at this
          rw [if_pos q] at this;omega
        refine qAF rfl ?_
        rw [hI.1,qJ2,if_neg hb]
      · have hb:x.Kids[i].ok∧(x.Kids[i].dep:Int)≤d-1∧(x.Kids[i].size:Int)≤left-((1+sumN GCore.size (x.Kids.take i):Nat):Int):=by
          by_cases q:x.Kids[i].ok∧(x.Kids[i].dep:Int)≤d-1∧(x.Kids[i].size:Int)≤left-((1+sumN GCore.size (x.Kids.take i):Nat):Int)
          · exact q
          · have:=of_decide_eq_false hc
            unfold qDK at this
            rw [if_neg q] at this;omega
        have hv:qDK x.Kids[i] (d-1) (left-((1+sumN GCore.size (x.Kids.take i):Nat):Int))=x.Kids[i].size:=by unfold qDK;rw [if_pos hb]
        have e1:((1+sumN GCore.size (x.Kids.take i):Nat):Int)+x.Kids[i].size=((1+sumN GCore.size (x.Kids.take (i+1)):Nat):Int):=by omega
        rw [hv,qAJ (n:=((1+sumN GCore.size (x.Kids.take i):Nat):Int)+x.Kids[i].size) (by omega) (by omega),e1]
        simp only [qAK (show i<4611686018427387904 by omega)];refine qAH (i+1) ⟨by omega, ?_⟩ (by omega) (Can.sub (by simp [go_sem]) (by simp [go_sem]))
        rw [qJ2,if_pos hb] at hI
        refine ⟨?_,by omega⟩
        rw [hI.1];congr 1;omega
    · obtain rfl:i=x.Kids.length:=by have:=of_decide_eq_false hc;omega
      refine qAF rfl ?_
      rw [hI.1]
      simp only [List.drop_length,qJ2,AV.int.injEq,true_and]
      exact (Int.sub_sub_self _ _).symm
theorem c642 {x:GCore} (hz:x.sz≤1048576):Pure Gm 642 [.ept x.enc 0] (.bool (decide (0<qDK x 80 400))):=by
  refine Pure.intro [] [] g642 (by kernel_rfl) rfl (by simp [AV.trees,AV.tree,go_sem]) rfl ?_
  simp only [F642,qAC,go_sem]
  refine qAB (c643 x 80 400 hz (by omega) (by omega)) ?_
  simp only [go_sem]
  exact qAF rfl rfl
def GCore.valid (x:GCore):Bool:=x.ok&&decide (x.dep≤80)&&decide (x.size≤400)
theorem qVB (x:GCore):decide (0<qDK x 80 400)=x.valid:=by
  unfold qDK GCore.valid
  have:=x.size_pos
  by_cases h:x.ok∧(x.dep:Int)≤80∧(x.size:Int)≤400
  · rw [if_pos h]
    have h2:x.dep≤80:=by omega
    have h3:x.size≤400:=by omega
    simp [h.1,h2,h3];omega
  · rw [if_neg h]
    cases hv:(x.ok&&decide (x.dep≤80)&&decide (x.size≤400)) with
    | false=>rfl
    | true=>
      simp only [Bool.and_eq_true,decide_eq_true_eq] at hv
      exact absurd ⟨hv.1.1,by omega,by omega⟩ h
def qAY (k:Int) (i:Nat):Int:=if k=4∨k=7∧i=1 then 1 else 0
theorem qCT (k:Int) (i:Nat):0≤qAY k i∧qAY k i≤1:=by unfold qAY;split<;>omega
def anyK {α:Type} (p:Nat→α→Bool):List α→Nat→Bool
  |[],_=>false
  | x::xs,i=>p i x || anyK p xs (i+1)
theorem qd1 {α β:Type} (p:Nat→β→Bool) (f:α→β):∀(xs:List α) (i:Nat),anyK p (xs.map f) i=anyK (fun k x=>p k (f x)) xs i
  |[],_=>rfl
  | x::xs,i=>by simp [anyK,qd1 p f xs]
def GCore.above:GCore→Int→Bool:=GCore.fold fun x rs d=>if x.Kind=1 then decide (d≤x.Value) else anyK (fun i (r:Int→Bool)=>r (d+qAY x.Kind i)) rs 0
theorem GCore.above_eq (x:GCore) (d:Int):x.above d=if x.Kind=1 then decide (d≤x.Value) else anyK (fun i y=>y.above (d+qAY x.Kind i)) x.Kids 0:=by
  unfold GCore.above;rw [GCore.fold_eq,qd1]
theorem GCore.dep_kid {x y:GCore} (h:y∈x.Kids):y.dep+1≤x.dep:=by
  rw [x.dep_eq];have:=(qJK GCore.dep (maxN GCore.dep x.Kids) x.Kids).1 (Nat.le_refl _) y h;omega
theorem qhS {x:GCore} {i:Nat}:Pure Gm 1129 [.ept x.enc 0,.int .i64 (i:Int)] (.int .i64 (qAY x.Kind i)):=by
  refine Pure.intro [] [] zL3 (by kernel_rfl) rfl (by simp [AV.trees,AV.tree,go_sem]) rfl ?_
  simp only [qkG,qAC,go_sem]
  repeat' (first | (refine qAN rfl ?_;simp only [go_sem]) | (first | (refine qAG ?_ ?_<;>intro hc<;>simp only [hc,go_sem]) | (refine qAA ?_ ?_<;>intro hc<;>simp only [hc,go_sem])) | refine qAF rfl ?_ | refine qB1 (by rfl) ?_)
  all_goals (simp_all [qAY]<;>omega)
theorem c878 (x:GCore):∀(d:Int) (hz:x.sz≤1048576) (hd:0≤d∧d+x.dep≤4194304),Pure Gm 878 [.ept x.enc 0,.int .i64 d] (.bool (x.above d)):=by
  induction x using GCore.ind with
  | _ x ih=>
  intro d hz hd
  refine Pure.intro [] [] g878 (by kernel_rfl) rfl (by simp [AV.trees,AV.tree,go_sem]) rfl ?_
  simp only [F878,qAC,go_sem]
  have hL:=x.len_sz
  refine qAA ?_ ?_<;>intro hc<;>simp only [hc,go_sem]
  · refine qAF rfl ?_
    rw [x.above_eq];simp_all
  have hk1:x.above d=anyK (fun i y=>y.above (d+qAY x.Kind i)) x.Kids 0:=by rw [x.above_eq,if_neg (of_decide_eq_false hc)]
  refine Sem.loop (fun i:Nat=>i≤x.Kids.length∧x.above d=anyK (fun i y=>y.above (d+qAY x.Kind i)) (x.Kids.drop i) i) (fun i=>(⟨[(0,.ept x.enc 0),(1,.int .i64 d),(5,.int .i64 (i:Nat))],[],[]⟩:VSt)) (fun i=>x.Kids.length-i) 0 (by kernel_rfl) ⟨Nat.zero_le _,by simp [hk1]⟩ (Can.sub (by simp [go_sem]) (by simp [go_sem])) ?_
  rintro i ⟨hi,hI⟩
  simp only [go_sem]
  refine qAA ?_ ?_<;>intro hc<;>simp only [hc,go_sem]
  · have hlt:i<x.Kids.length:=by have:=of_decide_eq_true hc;omega
    simp only [List.getElem?_map,List.getElem?_eq_getElem hlt,Option.map_some,go_sem]
    refine qAB qhS ?_
    simp only [go_sem]
    have hm:=List.getElem_mem hlt
    have hk:=GCore.kid_sz hm
    have hp:=GCore.dep_kid hm
    have hb:=qCT x.Kind i
    rw [qAJ (by omega) (by omega)]
    refine qAB (ih _ hm _ (by omega) (by omega)) ?_
    simp only [go_sem]
    rw [qCE hlt,anyK] at hI
    refine qAA ?_ ?_<;>intro hc<;>simp only [hc,go_sem]
    · refine qAF rfl ?_
      rw [hI,hc];rfl
    · simp only [qAK (show i<4611686018427387904 by omega)];refine qAH (i+1) ⟨by omega, ?_⟩ (by omega) (Can.sub (by simp [go_sem]) (by simp [go_sem]))
      rw [hI,hc];rfl
  · obtain rfl:i=x.Kids.length:=by have:=of_decide_eq_false hc;omega
    refine qAF rfl ?_
    rw [hI];simp [anyK]
def GCore.closed (x:GCore):Bool:=x.valid&& !x.above 0
def GCore.refs (n:Int):GCore→Bool:=GCore.fold fun x rs=> !(decide (x.Kind=11)&&decide (n≤x.Value))&&x.Data.all (fun k=>decide (k<n))&&rs.all id
theorem GCore.refs_eq (n:Int) (x:GCore):x.refs n=(!(decide (x.Kind=11)&&decide (n≤x.Value))&&x.Data.all (fun k=>decide (k<n))&&x.Kids.all (GCore.refs n)):=by
  unfold GCore.refs;rw [GCore.fold_eq];simp
def GBook.ok (b:GBook):Bool:=inI b.Defs.length 1 24&&b.Defs.all fun c=>c.closed&&c.refs b.Defs.length
theorem c519 {x:GCore} (hz:x.sz≤1048576):Pure Gm 519 [.ept x.enc 0] (.bool x.closed):=by
  refine Pure.intro [] [] g519 (by kernel_rfl) rfl (by simp [AV.trees,AV.tree,go_sem]) rfl ?_
  simp only [F519,qAC,go_sem]
  refine qAB (c642 hz) ?_
  simp only [go_sem]
  rw [qVB]
  refine qAG ?_ ?_<;>intro hc<;>simp only [hc,go_sem]
  · have hd:x.dep≤80:=by unfold GCore.valid at hc;simp only [Bool.and_eq_true,decide_eq_true_eq] at hc;omega
    refine qAB (c878 x 0 hz (by omega)) ?_
    simp only [go_sem]
    exact qAF rfl (by simp [GCore.closed,hc])
  · exact qAF rfl (by simp [GCore.closed,hc])
theorem c725 (x:GCore):∀(n:Int) (hz:x.sz≤1048576),Pure Gm 725 [.ept x.enc 0,.int .i64 n] (.bool (x.refs n)):=by
  induction x using GCore.ind with
  | _ x ih=>
  intro n hz
  refine Pure.intro [] [] g725 (by kernel_rfl) rfl (by simp [AV.trees,AV.tree,go_sem]) rfl ?_
  simp only [F725,qAC,go_sem]
  have hL:=x.len_sz
  have bad:∀{h:List AObj},x.refs n=false→Fin (some [.bool false]) h (.bool (x.refs n)):=fun h=>qAF rfl (by rw [h])
  repeat' (first
    | (first | (refine qAG ?_ ?_<;>intro hc<;>simp only [hc,go_sem]) | (refine qAA ?_ ?_<;>intro hc<;>simp only [hc,go_sem]))
    | refine bad ?_)
  all_goals try (rw [x.refs_eq];simp_all;done)
  all_goals
    have hk1:x.refs n=(x.Data.all (fun k=>decide (k<n))&&x.Kids.all (GCore.refs n)):=by rw [x.refs_eq];simp [*]
    refine Sem.loop (fun i:Nat=>i≤x.Data.length∧x.refs n=((x.Data.drop i).all (fun k=>decide (k<n))&&x.Kids.all (GCore.refs n))) (fun i=>(⟨[(0,.ept x.enc 0),(1,.int .i64 n),(5,.int .i64 (i:Nat))],[],[]⟩:VSt)) (fun i=>x.Data.length-i) 0 (by kernel_rfl) ⟨Nat.zero_le _,by simp [hk1]⟩ (Can.sub (by simp [go_sem]) (by simp [go_sem])) ?_
    rintro i ⟨hi,hI⟩
    simp only [go_sem]
    refine qAA ?_ ?_<;>intro hc<;>simp only [hc,go_sem]
    · have hlt:i<x.Data.length:=by have:=of_decide_eq_true hc;omega
      simp only [List.getElem?_map,List.getElem?_eq_getElem hlt,Option.map_some,go_sem]
      simp only [encI]
      simp only [go_sem]
      rw [qCE hlt,List.all_cons] at hI
      refine qAA ?_ ?_<;>intro hc<;>simp only [hc,go_sem]
      · exact bad (by rw [hI,dlt,hc];rfl)
      · simp only [qAK (show i<4611686018427387904 by omega)];refine qAH (i+1) ⟨by omega, ?_⟩ (by omega) (Can.sub (by simp [go_sem]) (by simp [go_sem]))
        rw [hI,dlt,hc];rfl
    · obtain rfl:i=x.Data.length:=by have:=of_decide_eq_false hc;omega
      simp only [List.drop_length,List.all_nil,Bool.true_and] at hI
      have hk2:=hI
      clear hI hi
      refine Sem.loop (fun i:Nat=>i≤x.Kids.length∧x.refs n=(x.Kids.drop i).all (GCore.refs n)) (fun i=>(⟨[(0,.ept x.enc 0),(1,.int .i64 n),(6,.int .i64 (i:Nat))],[],[]⟩:VSt)) (fun i=>x.Kids.length-i) 0 (by kernel_rfl) ⟨Nat.zero_le _,by simp [hk2]⟩ (Can.sub (by simp [go_sem]) (by simp [go_sem])) ?_
      rintro i ⟨hi,hI⟩
      simp only [go_sem]
      refine qAA ?_ ?_<;>intro hc<;>simp only [hc,go_sem]
      · have hlt:i<x.Kids.length:=by have:=of_decide_eq_true hc;omega
        simp only [List.getElem?_map,List.getElem?_eq_getElem hlt,Option.map_some,go_sem]
        have hm:=List.getElem_mem hlt
        have hk:=GCore.kid_sz hm
        refine qAB (ih _ hm _ (by omega)) ?_
        simp only [go_sem]
        rw [qCE hlt,List.all_cons] at hI
        refine qAA ?_ ?_<;>intro hc<;>simp only [hc,go_sem]
        · exact bad (by rw [hI,nt hc];rfl)
        · simp only [qAK (show i<4611686018427387904 by omega)];refine qAH (i+1) ⟨by omega, ?_⟩ (by omega) (Can.sub (by simp [go_sem]) (by simp [go_sem]))
          rw [hI,nf hc];rfl
      · obtain rfl:i=x.Kids.length:=by have:=of_decide_eq_false hc;omega
        exact qAF rfl (by rw [hI];simp)
end Go.Ab
namespace Go.Ab
open Go
set_option maxRecDepth 10000
set_option maxHeartbeats 2000000
theorem c579 {b:GBook} (hz:b.sz≤1048576):Pure Gm 579 [.ept b.enc 0] (.bool b.ok):=by
  refine Pure.intro [] [] g579 (by kernel_rfl) rfl (by simp [AV.trees,AV.tree,go_sem]) rfl ?_
  simp only [F579,qAC,go_sem]
  have hz':b.Defs.length+sumN GCore.sz b.Defs≤1048576:=hz
  refine qAB c340 ?_
  simp only [go_sem]
  refine qAA ?_ ?_<;>intro hc<;>simp only [hc,go_sem]
  · exact qAF rfl (by simp_all [GBook.ok])
  have hk1:b.ok=b.Defs.all (fun c=>c.closed&&c.refs b.Defs.length):=by simp_all [GBook.ok]
  refine Sem.loop (fun i:Nat=>i≤b.Defs.length∧b.ok=(b.Defs.drop i).all (fun c=>c.closed&&c.refs b.Defs.length)) (fun i=>(⟨[(0,.ept b.enc 0),(3,.int .i64 (i:Nat))],[],[]⟩:VSt)) (fun i=>b.Defs.length-i) 0 (by kernel_rfl) ⟨Nat.zero_le _,by simp [hk1]⟩ (Can.sub (by simp [go_sem]) (by simp [go_sem])) ?_
  rintro i ⟨hi,hI⟩
  simp only [go_sem]
  refine qAA ?_ ?_<;>intro hc<;>simp only [hc,go_sem]
  · have hlt:i<b.Defs.length:=by have:=of_decide_eq_true hc;omega
    simp only [List.getElem?_map,List.getElem?_eq_getElem hlt,Option.map_some,go_sem]
    have hm:=List.getElem_mem hlt
    have hk:=qA9 (f:=GCore.sz) hm
    rw [qCE hlt,List.all_cons] at hI
    refine qAB (c519 (x:=b.Defs[i]) (by omega)) ?_
    simp only [go_sem]
    repeat' (first
      | (first | (refine qAG ?_ ?_<;>intro hc<;>simp only [hc,go_sem]) | (refine qAA ?_ ?_<;>intro hc<;>simp only [hc,go_sem]))
      | (refine qAB (c725 b.Defs[i] _ (by omega)) ?_;simp only [go_sem])
      | (simp only [List.getElem?_map,List.getElem?_eq_getElem hlt,Option.map_some,go_sem]))
    · rename_i h0
      exact qAF rfl (by rw [hI,nf h0,nt hc];rfl)
    · rename_i h0
      simp only [qAK (show i<4611686018427387904 by omega)];refine qAH (i+1) ⟨by omega, ?_⟩ (by omega) (Can.sub (by simp [go_sem]) (by simp [go_sem]))
      rw [hI,nf h0,nf hc];rfl
    · exact qAF rfl (by rw [hI,nt hc];rfl)
  · obtain rfl:i=b.Defs.length:=by have:=of_decide_eq_false hc;omega
    exact qAF rfl (by rw [hI];simp)
def qB8 {α:Type} (f:Nat→α→List Int):List α→Nat→List Int
  |[],_=>[]
  | x::xs,i=>f i x++qB8 f xs (i+1)
theorem qUU {α β:Type} (f:Nat→β→List Int) (g:α→β):∀(xs:List α) (i:Nat),qB8 f (xs.map g) i=qB8 (fun k x=>f k (g x)) xs i
  |[],_=>rfl
  | x::xs,i=>by simp [qB8,qUU f g xs]
def boxI (k:Int):Int:=if k=6 then 1 else 0
def GCore.levels:GCore→Int→Int→List Int:=GCore.fold fun x rs v l=>if x.Kind=1 then (if x.Value=v then [l] else []) else qB8 (fun i (r:Int→Int→List Int)=>r (v+qAY x.Kind i) (l+boxI x.Kind)) rs 0
theorem GCore.levels_eq (x:GCore) (v l:Int):x.levels v l=if x.Kind=1 then (if x.Value=v then [l] else []) else qB8 (fun i y=>y.levels (v+qAY x.Kind i) (l+boxI x.Kind)) x.Kids 0:=by
  unfold GCore.levels;rw [GCore.fold_eq,qUU]
theorem qF0 {α:Type} {f:Nat→α→List Int} {n:α→Nat}:∀{xs:List α} {i:Nat},(∀x∈xs,∀k,(f k x).length≤n x)→(qB8 f xs i).length≤sumN n xs
  |[],_,_=>by simp [qB8,sumN]
  | x::xs,i,h=>by
    simp only [qB8,List.length_append,sumN]
    have:=h x (by simp) i
    have:=qF0 (f:=f) (n:=n) (xs:=xs) (i:=i+1) (fun y hy=>h y (by simp [hy]))
    omega
theorem GCore.levels_len:∀(x:GCore) (v l:Int),(x.levels v l).length≤x.size:=GCore.ind fun x ih v l=>by
  rw [x.levels_eq,x.size_eq]
  split
  · split<;>simp
  · have:=qF0 (f:=fun i y=>y.levels (v+qAY x.Kind i) (l+boxI x.Kind)) (n:=GCore.size) (xs:=x.Kids) (i:=0) (fun y hy k=>ih y hy _ _)
    omega
end Go.Ab
namespace Go.Ab
open Go
set_option maxRecDepth 10000
set_option maxHeartbeats 2000000
def fil (e:Env) (w:Nat) (el:List AV) (i:Nat) (v:Option AV) (r:List (Nat×Ao)):Option (List AV):=match v with
  | some v=>if v.cells.length=w∧i<el.length then qBR e w (el.set i v) r else none
  | none=>none
section
variable {e:Env} {w i:Nat} {el:List AV} {v:AV} {x:Ao} {r:List (Nat×Ao)}
@[go_sem] theorem zK6:qBR e w el []=some el:=nr (by unfold qBR;rfl)
@[go_sem] theorem zIH:qBR e w el ((i,x)::r)=fil e w el i (ev e x) r:=nr (by unfold qBR;rfl)
@[go_sem] theorem zK7 {el0:AV} (h:v.cells.length=w):fil e w [el0] 0 (some v) r=qBR e w [v] r:=by
  show (if v.cells.length=w∧0<1 then _ else _)=_
  rw [if_pos ⟨h,by omega⟩];rfl
@[go_sem] theorem rep0 {v:AV}:List.replicate 0 v=[]:=nr rfl
@[go_sem] theorem rep1 {v:AV}:List.replicate 1 v=[v]:=nr rfl
end
theorem Grown.ofApp {h X h':List AObj} {id id' w:Nat} {ys:List AV} (g:Grown (h++X) id w ys h' id') (hid:id<h.length):Grown h id w ys h' id':=by
  have hl:=g.len
  simp only [List.length_append] at hl
  refine ⟨g.at',by omega, ?_,fun j hj hne=> ?_⟩
  · rcases g.pos with e | e
    · exact .inl e
    · simp only [List.length_append] at e;right;omega
  · rw [g.keep j (by simp;omega) hne,List.getElem?_append_left hj]
theorem qEZ {α:Type} {f:Nat→α→List Int}:∀{xs:List α} {i k:Nat} (h:i<xs.length),qB8 f (xs.take (i+1)) k=qB8 f (xs.take i) k++f (k+i) xs[i]
  |[],i,k,h=>by simp at h
  | x::xs,0,k,h=>by simp [qB8]
  | x::xs,i+1,k,h=>by
    simp only [List.take_succ_cons,qB8,List.getElem_cons_succ]
    rw [qEZ (i:=i) (k:=k+1) (by simpa using h),List.append_assoc]
    congr 2
    congr 1
    omega
theorem GCore.size_sz:∀x:GCore,x.size≤x.sz+1:=GCore.ind fun x ih=>by
  rw [x.size_eq,x.sz_eq]
  have:∀xs:List GCore,(∀y∈xs,y.size≤y.sz+1)→sumN GCore.size xs≤xs.length+sumN GCore.sz xs:=by
    intro xs
    induction xs with
    | nil=>intro _;simp [sumN]
    | cons a xs ihx=>intro h;simp only [sumN,List.length_cons];have:=h a (by simp);have:=ihx (fun y hy=>h y (by simp [hy]));omega
  have:=this _ ih
  omega
theorem qC5 (x:GCore) (v l:Int) (i:Nat):(qB8 (fun i y=>GCore.levels y (v+qAY x.Kind i) (l+boxI x.Kind)) (x.Kids.take i) 0).length+1≤x.size:=by
  rw [x.size_eq]
  have h1:=qF0 (f:=fun i y=>GCore.levels y (v+qAY x.Kind i) (l+boxI x.Kind)) (n:=GCore.size) (xs:=x.Kids.take i) (i:=0) (fun y hy k=>GCore.levels_len _ _ _)
  have h2:∀(xs:List GCore) (i:Nat),sumN GCore.size (xs.take i)≤sumN GCore.size xs:=by
    intro xs
    induction xs with
    | nil=>intro i;simp
    | cons a xs ih=>intro i;cases i with
      | zero=>simp [sumN]
      | succ i=>simp only [List.take_succ_cons,sumN];have:=ih i;omega
  have:=h2 x.Kids i
  omega
theorem GCore.size_kid {x:GCore} {i:Nat} (h:i<x.Kids.length) (v l:Int):(qB8 (fun i y=>GCore.levels y (v+qAY x.Kind i) (l+boxI x.Kind)) (x.Kids.take i) 0).length+x.Kids[i].size+1≤x.size:=by
  rw [x.size_eq]
  have h1:=qF0 (f:=fun i y=>GCore.levels y (v+qAY x.Kind i) (l+boxI x.Kind)) (n:=GCore.size) (xs:=x.Kids.take i) (i:=0) (fun y hy k=>GCore.levels_len _ _ _)
  have h2:=qD4 (f:=GCore.size) h
  have h3:∀(xs:List GCore) (i:Nat),sumN GCore.size (xs.take i)≤sumN GCore.size xs:=by
    intro xs
    induction xs with
    | nil=>intro i;simp
    | cons a xs ih=>intro i;cases i with
      | zero=>simp [sumN]
      | succ i=>simp only [List.take_succ_cons,sumN];have:=ih i;omega
  have:=h3 x.Kids (i+1)
  omega
theorem a990 (x:GCore):∀(v l:Int) (xs:List Int) (_:x.sz≤1048576) (_:0≤v∧v+x.dep≤4194304) (_:0≤l∧l+x.dep≤4194304) (_:xs.length+x.size≤4194304),
    Acc Gm 990 [.ept x.enc 0,.int .i64 v,.int .i64 l] 1 (xs.map encI) ((xs++x.levels v l).map encI):=by
  induction x using GCore.ind with
  | _ x ih=>
  intro v l xs hz hv hl hx h id K ho hK
  have hL:=x.len_sz
  have hid:id<h.length:=(List.getElem?_eq_some_iff.1 ho).1
  refine qAZ.run [] [] g990 (by kernel_rfl) rfl ?_
  simp only [List.cons_append,List.nil_append,F990,qAC,go_sem]
  refine qAA ?_ ?_<;>intro hc<;>simp only [hc,go_sem]
  · refine qAA ?_ ?_<;>intro hc<;>simp only [hc,go_sem]
    · refine qBY (el:=xs.map encI) qFH (by rw [List.getElem?_append_left hid];exact ho) (by simp) (by omega) ?_
      simp only [go_sem]
      have e:x.levels v l=[l]:=by rw [x.levels_eq];simp_all
      rw [e] at hK
      have:=hK _ _ (Grown.ofApp (X:=[.row 1 [.int .i64 l] true]) (Grown.app (by rw [List.getElem?_append_left hid];exact ho)) hid)
      simpa [encI] using this
    · have e:x.levels v l=[]:=by rw [x.levels_eq];simp_all
      rw [e,List.append_nil] at hK
      have:=hK _ _ (Grown.refl ho)
      simpa using this
  have hk1:x.levels v l=qB8 (fun i y=>GCore.levels y (v+qAY x.Kind i) (l+boxI x.Kind)) x.Kids 0:=by rw [x.levels_eq,if_neg (of_decide_eq_false hc)]
  clear hc
  have cont:∀(b:Int),b=boxI x.Kind→∀s:LEnv,get s 0=some (.ept x.enc 0)→get s 1=some (.int .i64 v)→get s 2=some (.int .i64 (l+b))→get s 3=some (.slice 1 id 0 xs.length false)→get s 9=some (.int .i64 0)→
      qG9 s [(0,.ept x.enc 0),(1,.int .i64 v),(2,.int .i64 (l+boxI x.Kind)),(3,.slice 1 id 0 (xs.length+0) false),(9,.int .i64 ((0:Nat):Int))]:=by
    intro b hb s h0 h1 h2 h3 h4
    subst hb
    exact ⟨h0,h1,h2,h3,h4,trivial⟩
  have hb0:0≤boxI x.Kind∧boxI x.Kind≤1:=by unfold boxI;split<;>omega
  refine qAA ?_ ?_<;>intro hc<;>simp only [hc,go_sem]
  all_goals
    (try rw [qAJ (n:=l+1) (by omega) (by omega)])
    refine Sem.loop (fun a:Nat×List AObj×Nat=>a.1≤x.Kids.length∧Grown h id 1 ((xs++qB8 (fun i y=>GCore.levels y (v+qAY x.Kind i) (l+boxI x.Kind)) (x.Kids.take a.1) 0).map encI) a.2.1 a.2.2)
      (fun a=>(⟨[(0,.ept x.enc 0),(1,.int .i64 v),(2,.int .i64 (l+boxI x.Kind)),(3,.slice 1 a.2.2 0 (xs.length+(qB8 (fun i y=>GCore.levels y (v+qAY x.Kind i) (l+boxI x.Kind)) (x.Kids.take a.1) 0).length) false),(9,.int .i64 (a.1:Nat))],[],a.2.1⟩:VSt)) (fun a=>x.Kids.length-a.1) (0,h,id) (by kernel_rfl) ⟨Nat.zero_le _,by simpa [qB8] using Grown.refl ho⟩
      (Can.sub (by first | exact cont 1 (by simp_all [boxI]) _ rfl rfl rfl rfl rfl | exact cont 0 (by simp_all [boxI]) _ rfl rfl (by simp [go_sem]) rfl rfl) (by simp [go_sem])) ?_
    rintro ⟨i,h',id'⟩ ⟨hi,hG⟩
    simp only at hi hG
    simp only [go_sem]
    have hfl:=qC5 x v l i
    refine qAA ?_ ?_<;>intro hc<;>simp only [hc,go_sem]
    · have hlt:i<x.Kids.length:=by have:=of_decide_eq_true hc;omega
      simp only [List.getElem?_map,List.getElem?_eq_getElem hlt,Option.map_some,go_sem]
      have hm:=List.getElem_mem hlt
      have hk:=GCore.kid_sz hm
      have hp:=GCore.dep_kid hm
      have hb:=qCT x.Kind i
      have hft:=qEZ (f:=fun i y=>GCore.levels y (v+qAY x.Kind i) (l+boxI x.Kind)) (k:=0) hlt
      have hfl2:=qC5 x v l (i+1)
      rw [hft,Nat.zero_add,List.length_append] at hfl2
      refine qAB qhS ?_
      simp only [go_sem]
      rw [qAJ (n:=v+qAY x.Kind i) (by omega) (by omega)]
      have hsz:=GCore.size_kid hlt v l
      refine qFP (ih _ hm (v+qAY x.Kind i) (l+boxI x.Kind) (xs++qB8 (fun i y=>GCore.levels y (v+qAY x.Kind i) (l+boxI x.Kind)) (x.Kids.take i) 0) (by omega) (by omega) (by omega) (by rw [List.length_append];omega)) hG.at' (by simp) rfl ?_
      intro h2 id2 hG2
      simp only [go_sem]
      simp only [qAK (show i<4611686018427387904 by omega)]
      refine qAH (i+1,h2,id2) ⟨by omega, ?_⟩ (by simp only;omega) (Can.sub ?_ (by simp [go_sem]))
      · rw [hft,Nat.zero_add,←List.append_assoc]
        exact hG.trans hG2
      · simp only [hft,Nat.zero_add]
        simp [go_sem,Nat.add_assoc]
    · have e:i=x.Kids.length:=by have:=of_decide_eq_false hc;omega
      subst e
      rw [List.take_length] at hG⊢
      rw [hk1] at hK
      have:=hK _ _ hG
      simpa using this
end Go.Ab
namespace Go.Ab
open Go
set_option maxRecDepth 10000
set_option maxHeartbeats 2000000
def lvOk (x:GCore) (l:Int):Bool:=
  if x.Kind=4 then (match x.Kids[0]? with
    | some y=>decide ((y.levels 0 l).length≤1)&&(y.levels 0 l).all (fun n=>decide (n=l))
    | none=>true)
  else if x.Kind=7 then (match x.Kids[1]? with
    | some y=>(y.levels 0 l).all (fun n=>decide (n=l)) || (y.levels 0 l).all (fun n=>decide (n=l+1))
    | none=>true)
  else true
def GCore.strat:GCore→Int→Bool:=GCore.fold fun x rs l=>decide (l≤8)&&lvOk x l&&rs.all fun r=>r (l+boxI x.Kind)
theorem GCore.strat_eq (x:GCore) (l:Int):x.strat l=(decide (l≤8)&&lvOk x l&&x.Kids.all fun y=>y.strat (l+boxI x.Kind)):=by
  unfold GCore.strat;rw [GCore.fold_eq];simp [Function.comp_def]
theorem qBB {x y:GCore} (h:x.ok=true) (hy:y∈x.Kids):y.ok=true:=by
  rw [x.ok_eq,Bool.and_eq_true,List.all_eq_true] at h;exact h.2 y hy
theorem qDV {x:GCore} (h:x.ok=true):qB3 x=true:=by rw [x.ok_eq,Bool.and_eq_true] at h;exact h.1
theorem qBE {x:GCore} (h:x.ok=true):((x.Kind=3∨x.Kind=5∨x.Kind=7)→x.Kids.length=2)∧((x.Kind=4∨x.Kind=6∨x.Kind=9∨x.Kind=10)→x.Kids.length=1):=by
  have h:=qDV h
  unfold qB3 inI at h
  simp only [Bool.and_eq_true,decide_eq_true_eq] at h
  obtain ⟨⟨⟨⟨h1,h2⟩,_⟩,_⟩,_⟩:=h
  constructor
  · rintro (hk | hk | hk)<;>simp [shp,hk] at h1 h2<;>omega
  · rintro (hk | hk | hk | hk)<;>simp [shp,hk] at h1 h2<;>omega
theorem c991 {xs:List Int} {n:Int} (hl:xs.length≤4194304):Pure Gm 991 [.lst 1 (xs.map encI) false,.int .i64 n] (.bool (xs.all fun k=>decide (k=n))):=by
  refine Pure.intro [] [] g991 (by kernel_rfl) rfl (by simp [AV.trees,AV.tree,qA0 shI.tree]) rfl ?_
  simp only [F991,qAC,go_sem]
  refine Sem.loop (fun i:Nat=>i≤xs.length∧(xs.all fun k=>decide (k=n))=(xs.drop i).all fun k=>decide (k=n)) (fun i=>(⟨[(0,.lst 1 (xs.map encI) false),(1,.int .i64 n),(5,.int .i64 (i:Nat))],[],[]⟩:VSt)) (fun i=>xs.length-i) 0 (by kernel_rfl) ⟨Nat.zero_le _,by simp⟩ (Can.sub (by simp [go_sem]) (by simp [go_sem])) ?_
  rintro i ⟨hi,hI⟩
  simp only [go_sem]
  refine qAA ?_ ?_<;>intro hc<;>simp only [hc,go_sem]
  · have hlt:i<xs.length:=by have:=of_decide_eq_true hc;omega
    simp only [List.getElem?_map,List.getElem?_eq_getElem hlt,Option.map_some,go_sem]
    simp only [encI]
    simp only [go_sem]
    rw [qCE hlt,List.all_cons] at hI
    refine qAA ?_ ?_<;>intro hc<;>simp only [hc,go_sem]
    · exact qAF rfl (by rw [hI];simp_all)
    · simp only [qAK (show i<4611686018427387904 by omega)];refine qAH (i+1) ⟨by omega, ?_⟩ (by omega) (Can.sub (by simp [go_sem]) (by simp [go_sem]))
      rw [hI];simp_all
  · obtain rfl:i=xs.length:=by have:=of_decide_eq_false hc;omega
    exact qAF rfl (by rw [hI];simp)
theorem c610 (x:GCore):∀(l:Int) (hz:x.sz≤1048576) (hk:x.ok=true) (hl:0≤l∧l≤9) (hd:x.dep≤1000) (hq:x.size≤2097152),Pure Gm 610 [.ept x.enc 0,.int .i64 l] (.bool (x.strat l)):=by
  induction x using GCore.ind with
  | _ x ih=>
  intro l hz hk hl hd hq
  refine Pure.intro [] [] g610 (by kernel_rfl) rfl (by simp [AV.trees,AV.tree,go_sem]) rfl ?_
  simp only [F610,qAC,go_sem]
  have hL:=x.len_sz
  have bad:∀{h:List AObj},x.strat l=false→Fin (some [.bool false]) h (.bool (x.strat l)):=fun h=>qAF rfl (by rw [h])
  have hsz:=x.size_sz
  have lvb:∀{h:List AObj},decide (8<l)=false→lvOk x l=false→Fin (some [.bool false]) h (.bool (x.strat l)):=fun h1 h=>bad (by rw [x.strat_eq,h];simp)
  have h01:∀{y:GCore},y∈x.Kids→y.sz≤1048576∧y.dep≤1000∧y.size≤2097152:=fun hy=>by
    have:=GCore.kid_sz hy;have:=GCore.dep_kid hy;have:=qA9 (f:=GCore.size) hy;have:=x.size_eq;omega
  refine qAA ?_ ?_<;>intro hc<;>simp only [hc,go_sem]
  · exact bad (by rw [x.strat_eq,show decide (l≤8)=false by have:=of_decide_eq_true hc;exact decide_eq_false (by omega)];rfl)
  have hc8:=hc
  refine qAA ?_ ?_<;>intro hc<;>simp only [hc,go_sem]
  have h1:=(qBE hk).2 (.inl (of_decide_eq_true hc))
  have hlt:0<x.Kids.length:=by omega
  simp only [List.getElem?_map,List.getElem?_eq_getElem hlt,Option.map_some,go_sem]
  have hm:=List.getElem_mem hlt
  have ha:=a990 x.Kids[0] 0 l [] (h01 hm).1 (by have:=(h01 hm).2.1;omega) (by have:=(h01 hm).2.1;omega) (by simp;have:=(h01 hm).2.2;omega)
  have hll:=GCore.levels_len x.Kids[0] 0 l
  have hq0:=(h01 hm).2.2
  have hlv:lvOk x l=(decide ((x.Kids[0].levels 0 l).length≤1)&&(x.Kids[0].levels 0 l).all (fun n=>decide (n=l))):=by
    unfold lvOk;rw [if_pos (of_decide_eq_true hc),List.getElem?_eq_getElem hlt]
  rw [List.nil_append] at ha
  refine qCW ha rfl ?_
  intro h' id' hG
  simp only [go_sem]
  refine qAG ?_ ?_<;>intro hc<;>simp only [hc,go_sem]
  rotate_left
  exact lvb hc8 (by rw [hlv,show decide ((x.Kids[0].levels 0 l).length≤1)=false by have:=of_decide_eq_true hc;exact decide_eq_false (by omega)];rfl)
  rotate_right
  have hc1:=hc
  refine qBS (vs':=[.lst 1 ((x.Kids[0].levels 0 l).map encI) false,.int .i64 l]) (Cvs.cons (Cv.row hG.at' (by simp) (qA0 shI.tree _) (by decide)) (Cvs.cons (.refl rfl) Cvs.nil)) (c991 (by omega)) rfl ?_
  simp only [go_sem]
  refine qAA ?_ ?_<;>intro hc<;>simp only [hc,go_sem]
  exact lvb hc8 (by rw [hlv,nt hc,Bool.and_false])
  have hT:lvOk x l=true:=by rw [hlv,nf hc,Bool.and_true];have:=of_decide_eq_false hc1;exact decide_eq_true (by omega)
  rotate_left
  refine qAA ?_ ?_<;>intro hc<;>simp only [hc,go_sem]
  have h1:=(qBE hk).1 (.inr (.inr (of_decide_eq_true hc)))
  have hlt:1<x.Kids.length:=by omega
  simp only [List.getElem?_map,List.getElem?_eq_getElem hlt,Option.map_some,go_sem]
  have hm:=List.getElem_mem hlt
  have ha:=a990 x.Kids[1] 0 l [] (h01 hm).1 (by have:=(h01 hm).2.1;omega) (by have:=(h01 hm).2.1;omega) (by simp;have:=(h01 hm).2.2;omega)
  have hll:=GCore.levels_len x.Kids[1] 0 l
  have hq0:=(h01 hm).2.2
  have hlv:lvOk x l=((x.Kids[1].levels 0 l).all (fun n=>decide (n=l)) || (x.Kids[1].levels 0 l).all (fun n=>decide (n=l+1))):=by
    have hk7:=of_decide_eq_true hc
    unfold lvOk;rw [if_neg (by omega),if_pos hk7,List.getElem?_eq_getElem hlt]
  rw [List.nil_append] at ha
  refine qCW ha rfl ?_
  intro h' id' hG
  simp only [go_sem]
  refine qBS (vs':=[.lst 1 ((x.Kids[1].levels 0 l).map encI) false,.int .i64 l]) (Cvs.cons (Cv.row hG.at' (by simp) (qA0 shI.tree _) (by decide)) (Cvs.cons (.refl rfl) Cvs.nil)) (c991 (by omega)) rfl ?_
  simp only [go_sem]
  refine qAG ?_ ?_<;>intro hc<;>simp only [hc,go_sem]
  have hc1:=hc
  rw [qAJ (n:=l+1) (by omega) (by omega)]
  refine qBS (vs':=[.lst 1 ((x.Kids[1].levels 0 l).map encI) false,.int .i64 (l+1)]) (Cvs.cons (Cv.row hG.at' (by simp) (qA0 shI.tree _) (by decide)) (Cvs.cons (.refl rfl) Cvs.nil)) (c991 (by omega)) rfl ?_
  simp only [go_sem]
  refine qAA ?_ ?_<;>intro hc<;>simp only [hc,go_sem]
  exact lvb hc8 (by rw [hlv,nt hc,nt hc1];rfl)
  have hT:lvOk x l=true:=by rw [hlv,nf hc,Bool.or_true]
  rotate_left
  have hT:lvOk x l=true:=by rw [hlv,show (x.Kids[1].levels 0 l).all (fun n=>decide (n=l))=true by revert hc;cases (x.Kids[1].levels 0 l).all (fun n=>decide (n=l))<;>simp];rfl
  rotate_left
  have hT:lvOk x l=true:=by unfold lvOk;rename_i h4;rw [if_neg (of_decide_eq_false h4),if_neg (of_decide_eq_false hc)]
  all_goals
    have hk1:x.strat l=x.Kids.all fun y=>y.strat (l+boxI x.Kind):=by
      rw [x.strat_eq,hT,show decide (l≤8)=true by have:=of_decide_eq_false hc8;exact decide_eq_true (by omega)];rfl
    have hl8:l≤8:=by have:=of_decide_eq_false hc8;omega
    refine Sem.loop (fun i:Nat=>i≤x.Kids.length∧x.strat l=(x.Kids.drop i).all fun y=>y.strat (l+boxI x.Kind)) (fun i=>(⟨[(0,.ept x.enc 0),(1,.int .i64 l),(7,.int .i64 (i:Nat))],[],[]⟩:VSt)) (fun i=>x.Kids.length-i) 0 (by kernel_rfl) ⟨Nat.zero_le _,by simp [hk1]⟩ (Can.renum [] rfl trivial ⟨⟨_,rfl,.tree (by simp [go_sem,AV.tree])⟩,⟨_,rfl,.tree rfl⟩,⟨_,rfl,.tree rfl⟩,trivial⟩ trivial) ?_
    rintro i ⟨hi,hI⟩
    simp only [go_sem]
    refine qAA ?_ ?_<;>intro hc<;>simp only [hc,go_sem]
    · have hlt:i<x.Kids.length:=by have:=of_decide_eq_true hc;omega
      have hm:=List.getElem_mem hlt
      have hb0:boxI x.Kind=if x.Kind=6 then 1 else 0:=rfl
      rw [qCE hlt,List.all_cons] at hI
      refine qAA ?_ ?_<;>intro hc<;>simp only [hc,go_sem]
      · have hb1:boxI x.Kind=1:=by rw [hb0,if_pos (of_decide_eq_true hc)]
        simp only [List.getElem?_map,List.getElem?_eq_getElem hlt,Option.map_some,go_sem]
        rw [qAJ (n:=l+1) (by omega) (by omega)]
        rw [hb1] at hI
        refine qAB (ih _ hm (l+1) (h01 hm).1 (qBB hk hm) (by omega) (h01 hm).2.1 (h01 hm).2.2) ?_
        simp only [go_sem]
        refine qAA ?_ ?_<;>intro hc<;>simp only [hc,go_sem]
        · exact bad (by rw [hI,nt hc];rfl)
        · simp only [qAK (show i<4611686018427387904 by omega)];refine qAH (i+1) ⟨by omega, ?_⟩ (by omega) (Can.sub (by simp [go_sem]) (by simp [go_sem]))
          rw [hI,nf hc,hb1];rfl
      · have hb1:boxI x.Kind=0:=by rw [hb0,if_neg (of_decide_eq_false hc)]
        simp only [List.getElem?_map,List.getElem?_eq_getElem hlt,Option.map_some,go_sem]
        rw [hb1,Int.add_zero] at hI
        refine qAB (ih _ hm l (h01 hm).1 (qBB hk hm) (by omega) (h01 hm).2.1 (h01 hm).2.2) ?_
        simp only [go_sem]
        refine qAA ?_ ?_<;>intro hc<;>simp only [hc,go_sem]
        · exact bad (by rw [hI,nt hc];rfl)
        · simp only [qAK (show i<4611686018427387904 by omega)];refine qAH (i+1) ⟨by omega, ?_⟩ (by omega) (Can.sub (by simp [go_sem]) (by simp [go_sem]))
          rw [hI,nf hc,hb1,Int.add_zero];rfl
    · obtain rfl:i=x.Kids.length:=by have:=of_decide_eq_false hc;omega
      exact qAF rfl (by rw [hI];simp)
end Go.Ab
namespace Go.Ab
open Go
set_option maxRecDepth 10000
set_option maxHeartbeats 2000000
def qCC (b:GBook):Int:=if b.ok then (if b.Defs.all (fun c=>c.strat 0) then 0 else 9) else 1
def qA5 (b:GBook) (c:GCore) (limit budget:Int):Int:=
  if b.ok&&c.closed&&c.refs b.Defs.length then (if c.strat 0 then (if qCC b=0 then (if inI limit 0 40&&inI budget 0 2000 then 0 else 2) else qCC b) else 9) else 1
theorem qCG {x:GCore} (h:x.closed=true):x.ok=true∧x.dep≤80∧x.size≤400:=by
  unfold GCore.closed GCore.valid at h
  simp only [Bool.and_eq_true,decide_eq_true_eq] at h
  exact ⟨h.1.1.1,h.1.1.2,h.1.2⟩
theorem qFO {b:GBook} (h:b.ok=true) {c:GCore} (hc:c∈b.Defs):c.closed=true∧c.refs b.Defs.length=true:=by
  unfold GBook.ok at h
  simp only [Bool.and_eq_true,List.all_eq_true] at h
  exact h.2 c hc
theorem qTB {b:GBook} (h:b.ok=true):1≤b.Defs.length∧b.Defs.length≤24:=by
  unfold GBook.ok inI at h
  simp only [Bool.and_eq_true,decide_eq_true_eq] at h
  omega
theorem c496 {b:GBook} (hz:b.sz≤1048576):Pure Gm 496 [.ept b.enc 0] (.int .i64 (qCC b)):=by
  refine Pure.intro [] [] g496 (by kernel_rfl) rfl (by simp [AV.trees,AV.tree,go_sem]) rfl ?_
  simp only [F496,qAC,go_sem]
  have hz':b.Defs.length+sumN GCore.sz b.Defs≤1048576:=hz
  refine qAB (c579 hz) ?_
  simp only [go_sem]
  refine qAA ?_ ?_<;>intro hc<;>simp only [hc,go_sem]
  · exact qAF rfl (by simp_all [qCC])
  have hk:=nf hc
  have hk1:qCC b=if b.Defs.all (fun c=>c.strat 0) then 0 else 9:=by unfold qCC;rw [if_pos hk]
  refine Sem.loop (fun i:Nat=>i≤b.Defs.length∧qCC b=(if (b.Defs.drop i).all (fun c=>c.strat 0) then 0 else 9)) (fun i=>(⟨[(0,.ept b.enc 0),(3,.int .i64 (i:Nat))],[],[]⟩:VSt)) (fun i=>b.Defs.length-i) 0 (by kernel_rfl) ⟨Nat.zero_le _,by simpa using hk1⟩ (Can.sub (by simp [go_sem]) (by simp [go_sem])) ?_
  rintro i ⟨hi,hI⟩
  simp only [go_sem]
  refine qAA ?_ ?_<;>intro hc<;>simp only [hc,go_sem]
  · have hlt:i<b.Defs.length:=by have:=of_decide_eq_true hc;omega
    simp only [List.getElem?_map,List.getElem?_eq_getElem hlt,Option.map_some,go_sem]
    have hm:=List.getElem_mem hlt
    have hs:=qA9 (f:=GCore.sz) hm
    have hv:=qCG (qFO hk hm).1
    rw [qCE hlt,List.all_cons] at hI
    refine qAB (c610 b.Defs[i] 0 (by omega) hv.1 (by omega) (by omega) (by omega)) ?_
    simp only [go_sem]
    refine qAA ?_ ?_<;>intro hc<;>simp only [hc,go_sem]
    · exact qAF rfl (by rw [hI,nt hc];rfl)
    · simp only [qAK (show i<4611686018427387904 by omega)];refine qAH (i+1) ⟨by omega, ?_⟩ (by omega) (Can.sub (by simp [go_sem]) (by simp [go_sem]))
      rw [hI,nf hc,Bool.true_and]
  · obtain rfl:i=b.Defs.length:=by have:=of_decide_eq_false hc;omega
    exact qAF rfl (by rw [hI];simp)
theorem c479 {b:GBook} {c:GCore} {limit budget:Int} (hz:b.sz≤1048576) (hc0:c.sz≤1048576):Pure Gm 479 [.ept b.enc 0,.ept c.enc 0,.int .i64 limit,.int .i64 budget] (.int .i64 (qA5 b c limit budget)):=by
  refine Pure.intro [] [] g479 (by kernel_rfl) rfl (by simp [AV.trees,AV.tree,go_sem]) rfl ?_
  simp only [F479,qAC,go_sem]
  refine qAB (c579 hz) ?_
  simp only [go_sem]
  have bad:(b.ok&&c.closed&&c.refs b.Defs.length)=false→Fin (some [.int .i64 1]) [] (.int .i64 (qA5 b c limit budget)):=fun h=>qAF rfl (by unfold qA5;rw [h];rfl)
  refine qAG ?_ ?_<;>intro hc<;>simp only [hc,go_sem]
  rotate_left
  exact bad (by rw [show b.ok=false by revert hc;cases b.ok<;>simp];rfl)
  have h1:=nf hc
  refine qAB (c519 hc0) ?_
  simp only [go_sem]
  refine qAG ?_ ?_<;>intro hc<;>simp only [hc,go_sem]
  rotate_left
  exact bad (by rw [show c.closed=false by revert hc;cases c.closed<;>simp,Bool.and_false];rfl)
  have h2:=nf hc
  refine qAB (c725 c _ hc0) ?_
  simp only [go_sem]
  refine qAA ?_ ?_<;>intro hc<;>simp only [hc,go_sem]
  · exact bad (by rw [nt hc,Bool.and_false])
  have h3:(b.ok&&c.closed&&c.refs b.Defs.length)=true:=by rw [h1,h2,nf hc];rfl
  have hv:=qCG h2
  refine qAB (c610 c 0 hc0 hv.1 (by omega) (by omega) (by omega)) ?_
  simp only [go_sem]
  refine qAA ?_ ?_<;>intro hc<;>simp only [hc,go_sem]
  · exact qAF rfl (by unfold qA5;rw [if_pos h3,nt hc];rfl)
  have h4:=nf hc
  refine qAB (c496 hz) ?_
  simp only [go_sem]
  refine qAA ?_ ?_<;>intro hc<;>simp only [hc,go_sem]
  · exact qAF rfl (by unfold qA5;rw [if_pos h3,if_pos h4,if_neg (by simpa using hc)])
  have h5:qCC b=0:=by simpa using hc
  refine qAB c340 ?_
  simp only [go_sem]
  refine qAG ?_ ?_<;>intro hc<;>simp only [hc,go_sem]
  rotate_left
  exact qAF rfl (by unfold qA5;rw [if_pos h3,if_pos h4,if_pos h5,show inI limit 0 40=false by revert hc;cases inI limit 0 40<;>simp];rfl)
  have h6:=nf hc
  refine qAB c340 ?_
  simp only [go_sem]
  refine qAA ?_ ?_<;>intro hc<;>simp only [hc,go_sem]
  · exact qAF rfl (by unfold qA5;rw [if_pos h3,if_pos h4,if_pos h5,nt hc,Bool.and_false];rfl)
  · exact qAF rfl (by unfold qA5;rw [if_pos h3,if_pos h4,if_pos h5,nf hc,h6];rfl)
end Go.Ab
namespace Go.Ab
open Go
set_option maxRecDepth 10000
set_option maxHeartbeats 2000000
theorem n402 (xs:List Int) (hz:xs.length≤4194304):qGN Gm 402 [.lst 1 (xs.map encI) false] (.lst 1 (xs.map encI) false):=by
  refine qGN.intro [] [] g402 (by kernel_rfl) rfl (by simp [AV.trees,AV.tree,qA0 shI.tree]) (qTX (fun _=>rfl) xs) ?_
  simp only [F402,qAC,go_sem]
  refine qI5 Els.lst (by simp;omega) ?_
  simp only [go_sem]
  exact qh5 (t:=.lst 1 (xs.map encI) false) (pre:=[]) (post:=[]) (qTX (fun _=>rfl) xs) (by simp [qBU,lay]) (by simp [lay,lI])
theorem VR2s.of_eq {μ:List (Option Nat)} {a b:List AV} (h:a=b) (ht:AV.trees b=true):VR2s μ a b:=by subst h;exact VR2s.trees ht
theorem qAT (xs:List Int):AV.trees (xs.map encI)=true:=qA0 shI.tree xs
def putI:List Int→Int→List Int
  |[],n=>[n]
  | x::xs,n=>if x<n then x::putI xs n else if x=n then x::xs else n::x::xs
theorem qHO:∀(xs:List Int) (n:Int),(putI xs n).length≤xs.length+1
  |[],n=>by simp [putI]
  | x::xs,n=>by
    unfold putI
    split
    · have:=qHO xs n;simp;omega
    · split<;>simp
theorem qTY:∀(xs:List Int) (n k:Int),k∈putI xs n↔k=n∨k∈xs
  |[],n,k=>by simp [putI]
  | x::xs,n,k=>by
    unfold putI
    split
    · simp only [List.mem_cons,qTY xs n k]
      constructor
      · rintro (h | h | h)<;>simp_all
      · rintro (h | h | h)<;>simp_all
    · split
      · rename_i h;subst h;simp
      · simp
theorem c402 (xs:List Int) (hz:xs.length≤4194304):Pure Gm 402 [.lst 1 (xs.map encI) false] (.lst 1 (xs.map encI) false):=by
  refine Pure.intro [] [] g402 (by kernel_rfl) rfl (by simp [AV.trees,AV.tree,qAT]) (by simp [AV.tree,qAT]) ?_
  simp only [F402,qAC,go_sem]
  refine qI5 Els.lst (by simp;omega) ?_
  simp only [go_sem]
  exact qA7 (Cv.row rfl (by simp) (qAT xs) (by decide))
theorem qo0 {xs:List Int} {n:Int} (hl:xs.length≤4194304):Pure Gm 1026 [.lst 1 (xs.map encI) false,.int .i64 n] (.bool (xs.any fun k=>decide (k=n))):=by
  refine Pure.intro [] [] zLI (by kernel_rfl) rfl (by simp [AV.trees,AV.tree,qAT]) rfl ?_
  simp only [qjV,qAC,go_sem]
  refine Sem.loop (fun i:Nat=>i≤xs.length∧(xs.any fun k=>decide (k=n))=(xs.drop i).any fun k=>decide (k=n)) (fun i=>(⟨[(0,.lst 1 (xs.map encI) false),(1,.int .i64 n),(5,.int .i64 (i:Nat))],[],[]⟩:VSt)) (fun i=>xs.length-i) 0 (by kernel_rfl) ⟨Nat.zero_le _,by simp⟩ (Can.sub (by simp [go_sem]) (by simp [go_sem])) ?_
  rintro i ⟨hi,hI⟩
  simp only [go_sem]
  refine qAA ?_ ?_<;>intro hc<;>simp only [hc,go_sem]
  · have hlt:i<xs.length:=by have:=of_decide_eq_true hc;omega
    simp only [List.getElem?_map,List.getElem?_eq_getElem hlt,Option.map_some,go_sem]
    simp only [encI]
    simp only [go_sem]
    rw [qCE hlt,List.any_cons] at hI
    refine qAA ?_ ?_<;>intro hc<;>simp only [hc,go_sem]
    · exact qAF rfl (by rw [hI,hc];rfl)
    · simp only [qAK (show i<4611686018427387904 by omega)];refine qAH (i+1) ⟨by omega, ?_⟩ (by omega) (Can.sub (by simp [go_sem]) (by simp [go_sem]))
      rw [hI,hc];rfl
  · obtain rfl:i=xs.length:=by have:=of_decide_eq_false hc;omega
    exact qAF rfl (by rw [hI];simp)
theorem c920 {xs:List Int} {n:Int} (hl:xs.length≤2097152):Pure Gm 920 [.lst 1 (xs.map encI) false,.int .i64 n] (.lst 1 ((putI xs n).map encI) false):=by
  refine Pure.intro [] [] g920 (by kernel_rfl) rfl (by simp [AV.trees,AV.tree,qAT]) (by simp [AV.tree,qAT]) ?_
  simp only [F920,qAC,go_sem]
  refine Sem.loop (fun a:Nat×List Int×Bool=>a.1≤xs.length∧a.2.1.length≤a.1+a.2.2.toNat∧(if a.2.2 then a.2.1++xs.drop a.1 else a.2.1++putI (xs.drop a.1) n)=putI xs n)
    (fun a=>(⟨[(0,.lst 1 (xs.map encI) false),(1,.int .i64 n),(5,.slice 1 0 0 a.2.1.length false),(6,.bool a.2.2),(7,.int .i64 (a.1:Nat))],[],[.row 1 (a.2.1.map encI) true]⟩:VSt)) (fun a=>xs.length-a.1) (0,[],false) (by kernel_rfl) ⟨Nat.zero_le _,Nat.zero_le _,by simp⟩
    (Can.renum [none] rfl ⟨.ph,trivial⟩ ⟨⟨_,rfl,.tree (by simp [AV.tree,qAT])⟩,⟨_,rfl,.tree rfl⟩,⟨_,rfl,.ph2 rfl⟩,⟨_,rfl,.tree rfl⟩,⟨_,rfl,.tree rfl⟩,trivial⟩ trivial) ?_
  rintro ⟨i,out,done⟩ ⟨hi,ho,hI⟩
  simp only at hi ho hI
  simp only [go_sem]
  refine qAA ?_ ?_<;>intro hc<;>simp only [hc,go_sem]
  · have hlt:i<xs.length:=by have:=of_decide_eq_true hc;omega
    rw [qCE hlt] at hI
    cases done with
    | true=>
      simp only [if_true] at hI
      have ho:out.length≤i+1:=ho
      simp only [go_sem]
      simp only [List.getElem?_map,List.getElem?_eq_getElem hlt,Option.map_some,go_sem]
      simp only [encI]
      simp only [go_sem]
      refine qBY (el:=out.map encI) rfl rfl (by simp) (by omega) ?_
      simp only [go_sem]
      simp only [qAK (show i<4611686018427387904 by omega)]
      refine qAH (i+1,out++[xs[i]],true) ⟨by omega,by simp;omega,by simpa using hI⟩ (by simp only;omega) ?_
      simp only [List.length_append,List.length_cons,List.length_nil,Nat.zero_add]
      refine Can.renum [some 2] rfl ⟨.row rfl (VR2s.of_eq (by simp [encI]) (qAT _)),trivial⟩ ⟨⟨_,rfl,.tree (by simp [AV.tree,qAT])⟩,⟨_,rfl,.tree rfl⟩,⟨_,rfl,.slice rfl⟩,⟨_,rfl,.tree rfl⟩,⟨_,rfl,.tree rfl⟩,trivial⟩ trivial
    | false=>
      simp only [Bool.false_eq_true,if_false,putI] at hI
      have ho:out.length≤i:=ho
      simp only [go_sem]
      simp only [List.getElem?_map,List.getElem?_eq_getElem hlt,Option.map_some,go_sem]
      simp only [encI]
      simp only [go_sem]
      refine qAA ?_ ?_<;>intro hc<;>simp only [hc,go_sem]
      · simp only [List.getElem?_map,List.getElem?_eq_getElem hlt,Option.map_some,go_sem]
        simp only [encI]
        simp only [go_sem]
        have h1:=of_decide_eq_true hc
        rw [if_neg (by omega)] at hI
        refine qAA ?_ ?_<;>intro hc<;>simp only [hc,go_sem]
        · have h2:=of_decide_eq_true hc
          rw [if_neg (by omega)] at hI
          refine qBY (el:=out.map encI) rfl rfl (by simp) (by omega) ?_
          simp only [go_sem]
          simp only [List.getElem?_map,List.getElem?_eq_getElem hlt,Option.map_some,go_sem]
          simp only [encI]
          simp only [go_sem]
          refine qBY (el:=out.map encI++[.int .i64 n]) rfl rfl (by simp) (by omega) ?_
          simp only [go_sem]
          simp only [qAK (show i<4611686018427387904 by omega)]
          refine qAH (i+1,out++[n,xs[i]],true) ⟨by omega,by simp;omega,by simpa using hI⟩ (by simp only;omega) ?_
          simp only [List.length_append,List.length_cons,List.length_nil,Nat.zero_add]
          refine Can.renum [some 4] rfl ⟨.row rfl (VR2s.of_eq (by simp [encI]) (qAT _)),trivial⟩ ⟨⟨_,rfl,.tree (by simp [AV.tree,qAT])⟩,⟨_,rfl,.tree rfl⟩,⟨_,rfl,.slice rfl⟩,⟨_,rfl,.tree rfl⟩,⟨_,rfl,.tree rfl⟩,trivial⟩ trivial
        · have h2:=of_decide_eq_false hc
          rw [if_pos (by omega)] at hI
          simp only [List.getElem?_map,List.getElem?_eq_getElem hlt,Option.map_some,go_sem]
          simp only [encI]
          simp only [go_sem]
          refine qBY (el:=out.map encI) rfl rfl (by simp) (by omega) ?_
          simp only [go_sem]
          simp only [qAK (show i<4611686018427387904 by omega)]
          refine qAH (i+1,out++[xs[i]],true) ⟨by omega,by simp;omega,by simpa using hI⟩ (by simp only;omega) ?_
          simp only [List.length_append,List.length_cons,List.length_nil,Nat.zero_add]
          refine Can.renum [some 2] rfl ⟨.row rfl (VR2s.of_eq (by simp [encI]) (qAT _)),trivial⟩ ⟨⟨_,rfl,.tree (by simp [AV.tree,qAT])⟩,⟨_,rfl,.tree rfl⟩,⟨_,rfl,.slice rfl⟩,⟨_,rfl,.tree rfl⟩,⟨_,rfl,.tree rfl⟩,trivial⟩ trivial
      · have h1:=of_decide_eq_false hc
        rw [if_pos (by omega)] at hI
        simp only [List.getElem?_map,List.getElem?_eq_getElem hlt,Option.map_some,go_sem]
        simp only [encI]
        simp only [go_sem]
        refine qBY (el:=out.map encI) rfl rfl (by simp) (by omega) ?_
        simp only [go_sem]
        simp only [qAK (show i<4611686018427387904 by omega)]
        refine qAH (i+1,out++[xs[i]],false) ⟨by omega,by simp;omega,by simpa using hI⟩ (by simp only;omega) ?_
        simp only [List.length_append,List.length_cons,List.length_nil,Nat.zero_add]
        refine Can.renum [some 2] rfl ⟨.row rfl (VR2s.of_eq (by simp [encI]) (qAT _)),trivial⟩ ⟨⟨_,rfl,.tree (by simp [AV.tree,qAT])⟩,⟨_,rfl,.tree rfl⟩,⟨_,rfl,.slice rfl⟩,⟨_,rfl,.tree rfl⟩,⟨_,rfl,.tree rfl⟩,trivial⟩ trivial
  · have e:i=xs.length:=by have:=of_decide_eq_false hc;omega
    subst e
    simp only [List.drop_length,putI,List.append_nil] at hI
    cases done with
    | true=>
      simp only [if_true] at hI
      subst hI
      simp only [go_sem]
      exact qA7 (Cv.row rfl (by simp) (qAT _) (by decide))
    | false=>
      simp only [Bool.false_eq_true,if_false] at hI
      have ho:out.length≤xs.length:=ho
      simp only [go_sem]
      refine qBY (el:=out.map encI) rfl rfl (by simp) (by omega) ?_
      simp only [go_sem]
      rw [←hI]
      have e:out.map encI++[.int .i64 n]=(out++[n]).map encI:=by simp [encI]
      rw [e]
      exact qA7 (Cv.row rfl (by simp) (qAT _) (by decide))
end Go.Ab
namespace Go.Ab
open Go
set_option maxRecDepth 10000
set_option maxHeartbeats 2000000
def GCore.names:GCore→List Int→List Int:=GCore.fold fun x rs out=>rs.foldl (fun o r=>r o) (x.Data.foldl putI (if x.Kind=11 then putI out x.Value else out))
theorem qE0 {α β γ:Type} (f:γ→β→γ) (g:α→β):∀(xs:List α) (c:γ),(xs.map g).foldl f c=xs.foldl (fun c x=>f c (g x)) c
  |[],_=>rfl
  | x::xs,c=>by simp [qE0 f g xs]
theorem GCore.names_eq (x:GCore) (out:List Int):x.names out=x.Kids.foldl (fun o y=>y.names o) (x.Data.foldl putI (if x.Kind=11 then putI out x.Value else out)):=by
  unfold GCore.names;rw [GCore.fold_eq,qE0]
theorem qE1 {α β:Type} (f:β→α→β) {xs:List α} {i:Nat} (h:i<xs.length) (c:β):(xs.take (i+1)).foldl f c=f ((xs.take i).foldl f c) xs[i]:=by
  rw [List.take_add_one,List.getElem?_eq_getElem h,List.foldl_append];rfl
theorem qGB:∀(ds out:List Int),(ds.foldl putI out).length≤out.length+ds.length
  |[],out=>by simp
  | d::ds,out=>by
    simp only [List.foldl_cons,List.length_cons]
    have:=qGB ds (putI out d);have:=qHO out d;omega
theorem GCore.names_len:∀(x:GCore) (out:List Int),(x.names out).length≤out.length+x.sz+1:=GCore.ind fun x ih out=>by
  rw [x.names_eq,x.sz_eq]
  have h:∀(ks:List GCore),(∀y∈ks,∀o:List Int,(y.names o).length≤o.length+y.sz+1)→∀o:List Int,(ks.foldl (fun o y=>y.names o) o).length≤o.length+ks.length+sumN GCore.sz ks:=by
    intro ks
    induction ks with
    | nil=>intro _ o;simp [sumN]
    | cons a ks ihk=>
      intro h o
      simp only [List.foldl_cons,List.length_cons,sumN]
      have:=h a (by simp) o
      have:=ihk (fun y hy=>h y (by simp [hy])) (a.names o)
      omega
  have h1:=h x.Kids ih (x.Data.foldl putI (if x.Kind=11 then putI out x.Value else out))
  have h2:=qGB x.Data (if x.Kind=11 then putI out x.Value else out)
  have h3:(if x.Kind=11 then putI out x.Value else out).length≤out.length+1:=by
    split
    · exact qHO _ _
    · omega
  omega
theorem qgA (x:GCore) (o:List Int) (i:Nat):((x.Kids.take i).foldl (fun o y=>y.names o) o).length+(sumN GCore.sz (x.Kids.drop i)+(x.Kids.drop i).length)≤o.length+(x.Kids.length+sumN GCore.sz x.Kids):=by
  have h:∀(ks:List GCore) (i:Nat) (o:List Int),((ks.take i).foldl (fun o y=>y.names o) o).length+(sumN GCore.sz (ks.drop i)+(ks.drop i).length)≤o.length+(ks.length+sumN GCore.sz ks):=by
    intro ks
    induction ks with
    | nil=>intro i o;simp [sumN]
    | cons a ks ih=>
      intro i o
      cases i with
      | zero=>simp [sumN];omega
      | succ i=>
        simp only [List.take_succ_cons,List.foldl_cons,List.drop_succ_cons,List.length_cons,sumN]
        have:=ih i (a.names o)
        have:=a.names_len o
        omega
  exact h _ _ _
theorem zKL (x:GCore):∀(out:List Int) (hz:x.sz≤1048576) (ho:out.length+x.sz≤2000000),Pure Gm 1407 [.ept x.enc 0,.lst 1 (out.map encI) false] (.lst 1 ((x.names out).map encI) false):=by
  induction x using GCore.ind with
  | _ x ih=>
  intro out hz ho
  refine Pure.intro [] [] zMW (by kernel_rfl) rfl (by simp [AV.trees,AV.tree,qAT,GCore.tr]) (by simp [AV.tree,qAT]) ?_
  simp only [qk9,qAC,go_sem]
  have hL:=x.len_sz
  have hse:=x.sz_eq
  obtain ⟨o0,ho0⟩:∃o0,o0=(if x.Kind=11 then putI out x.Value else out):=⟨_,rfl⟩
  have hnm:x.names out=x.Kids.foldl (fun o y=>y.names o) (x.Data.foldl putI o0):=by rw [x.names_eq,ho0]
  have hl0:o0.length≤out.length+1:=by rw [ho0];split;exact qHO _ _;omega
  refine qAA ?_ ?_<;>intro hc<;>simp only [hc,go_sem]
  refine qAB (c920 (by omega)) ?_
  simp only [go_sem]
  have h0:o0=putI out x.Value:=by rw [ho0,if_pos (of_decide_eq_true hc)]
  rotate_left
  have h0:o0=out:=by rw [ho0,if_neg (of_decide_eq_false hc)]
  all_goals
    refine Sem.loop (fun i:Nat=>i≤x.Data.length∧True) (fun i=>(⟨[(0,.ept x.enc 0),(1,.lst 1 (((x.Data.take i).foldl putI o0).map encI) false),(5,.int .i64 (i:Nat))],[],[]⟩:VSt)) (fun i=>x.Data.length-i) 0 (by kernel_rfl) ⟨Nat.zero_le _,by trivial⟩ (Can.sub (by simp [go_sem,h0]) (by simp [go_sem])) ?_
    rintro i ⟨hi,hI⟩
    simp only [go_sem]
    refine qAA ?_ ?_<;>intro hc<;>simp only [hc,go_sem]
    · have hlt:i<x.Data.length:=by have:=of_decide_eq_true hc;omega
      simp only [List.getElem?_map,List.getElem?_eq_getElem hlt,Option.map_some,go_sem]
      simp only [encI]
      simp only [go_sem]
      have:=qGB (x.Data.take i) o0
      rw [List.length_take] at this
      refine qAB (c920 (by omega)) ?_
      simp only [go_sem]
      simp only [qAK (show i<4611686018427387904 by omega)]
      refine qAH (i+1) ⟨by omega,trivial⟩ (by omega) (Can.sub ?_ (by simp [go_sem]))
      rw [qE1 putI hlt]
      simp [go_sem]
    · obtain rfl:i=x.Data.length:=by have:=of_decide_eq_false hc;omega
      rw [List.take_length]
      have hd:=qGB x.Data o0
      obtain ⟨o1,h1⟩:∃o1,o1=x.Data.foldl putI o0:=⟨_,rfl⟩
      rw [←h1] at hnm hd⊢
      refine Sem.loop (fun i:Nat=>i≤x.Kids.length∧True) (fun i=>(⟨[(0,.ept x.enc 0),(1,.lst 1 (((x.Kids.take i).foldl (fun o y=>GCore.names y o) o1).map encI) false),(6,.int .i64 (i:Nat))],[],[]⟩:VSt)) (fun i=>x.Kids.length-i) 0 (by kernel_rfl) ⟨Nat.zero_le _,by trivial⟩ (Can.sub (by simp [go_sem]) (by simp [go_sem])) ?_
      rintro i ⟨hi,hI⟩
      simp only [go_sem]
      refine qAA ?_ ?_<;>intro hc<;>simp only [hc,go_sem]
      · have hlt:i<x.Kids.length:=by have:=of_decide_eq_true hc;omega
        simp only [List.getElem?_map,List.getElem?_eq_getElem hlt,Option.map_some,go_sem]
        have hm:=List.getElem_mem hlt
        have hk:=GCore.kid_sz hm
        have hb:=qgA x o1 i
        rw [qCE hlt] at hb
        simp only [sumN,List.length_cons] at hb
        refine qAB (ih _ hm _ (by omega) (by omega)) ?_
        simp only [go_sem]
        simp only [qAK (show i<4611686018427387904 by omega)]
        refine qAH (i+1) ⟨by omega,trivial⟩ (by omega) (Can.sub ?_ (by simp [go_sem]))
        rw [qE1 (fun (o:List Int) (y:GCore)=>y.names o) hlt]
        simp [go_sem]
      · obtain rfl:i=x.Kids.length:=by have:=of_decide_eq_false hc;omega
        rw [List.take_length]
        exact qAF (by simp [AV.tree,qAT]) (by rw [hnm])
end Go.Ab
namespace Go.Ab
open Go
set_option maxRecDepth 10000
set_option maxHeartbeats 2000000
def qBJ (b:GBook):List (List Int):=b.Defs.map fun c=>c.names []
def Ed (U:List (List Int)) (a b:Int):Prop:=b∈U.getD a.toNat []
open Classical in
noncomputable def recB (U:List (List Int)) (d:Int):Bool:=decide (Relation.TransGen (Ed U) d d)
def qT9 (U:List (List Int)):Prop:=∀ys∈U,∀k∈ys,0≤k∧k<U.length
theorem qEF:∀(n:Nat) (xs:List Int),xs.Nodup→(∀x∈xs,0≤x∧x<n)→xs.length≤n
  | 0,[],_,_=>Nat.le_refl _
  | 0,x::xs,_,h=>by have:=h x (by simp);omega
  | n+1,xs,hd,h=>by
    by_cases hm:(n:Int)∈xs
    · have h1:=qEF n (xs.erase n) (hd.erase _) (fun x hx=>by
        have h2:=h x (List.mem_of_mem_erase hx)
        have h3:x≠n:=by rintro rfl;exact (hd.not_mem_erase) hx
        omega)
      rw [List.length_erase_of_mem hm] at h1
      omega
    · have:=qEF n xs hd (fun x hx=>by
        have h2:=h x hx
        have h3:x≠n:=by rintro rfl;exact hm hx
        omega)
      omega
structure Seen (U:List (List Int)) (d:Int) (i:Nat) (seen:List Int):Prop where
  nd:seen.Nodup
  rng:∀s∈seen,0≤s∧s<U.length
  rch:∀s∈seen,Relation.TransGen (Ed U) d s
  beg:∀s,Ed U d s→s∈seen
  cls:∀j,j<i→∀s,seen[j]?=some s→∀k,Ed U s k→k∈seen
theorem Seen.len {U:List (List Int)} {d:Int} {i:Nat} {seen:List Int} (h:Seen U d i seen):seen.length≤U.length:=qEF _ _ h.nd h.rng
theorem Seen.done {U:List (List Int)} {d:Int} {seen:List Int} (h:Seen U d seen.length seen):(seen.any fun k=>decide (k=d))=recB U d:=by
  unfold recB
  rw [Bool.eq_iff_iff]
  simp only [List.any_eq_true,decide_eq_true_eq]
  constructor
  · rintro ⟨k,hk,rfl⟩;exact h.rch _ hk
  · intro hr
    refine ⟨d, ?_,rfl⟩
    have key:∀{b:Int},Relation.TransGen (Ed U) d b→b∈seen:=by
      intro b hb
      induction hb with
      | single h1=>exact h.beg _ h1
      | tail _ h2 ih=>
        obtain ⟨j,hj,e⟩:=List.getElem_of_mem ih
        exact h.cls j hj _ (by rw [List.getElem?_eq_getElem hj,e]) _ h2
    exact key hr
theorem Seen.next {U:List (List Int)} {d:Int} {i:Nat} {seen':List Int} {e:Int} (h:Seen U d i seen') (hp:seen'[i]?=some e) (he:∀k,Ed U e k→k∈seen'):Seen U d (i+1) seen':=
  ⟨h.nd,h.rng,h.rch,h.beg,fun j hj s hs k hk=>by
    rcases Nat.lt_succ_iff_lt_or_eq.1 hj with hj | rfl
    · exact h.cls j hj s hs k hk
    · rw [hp] at hs;cases hs;exact he k hk⟩
theorem Seen.push {U:List (List Int)} (hU:qT9 U) {d:Int} {i:Nat} {seen:List Int} {e k:Int} (h:Seen U d i seen) (hi:i≤seen.length) (he:e∈seen) (hk:Ed U e k) (hn:k∉seen):Seen U d i (seen++[k]) where
  nd:=by
    rw [List.nodup_append]
    refine ⟨h.nd,by simp, ?_⟩
    intro a ha b hb
    simp at hb
    rintro rfl
    rw [hb] at ha
    exact hn ha
  rng:=fun s hs=>by
    rcases List.mem_append.1 hs with hs | hs
    · exact h.rng s hs
    · simp at hs
      subst hs
      unfold Ed at hk
      rw [List.getD_eq_getElem?_getD] at hk
      cases hq:U[e.toNat]? with
      | none=>rw [hq] at hk;simp at hk
      | some ys=>rw [hq] at hk;exact hU ys (List.mem_of_getElem? hq) _ hk
  rch:=fun s hs=>by
    rcases List.mem_append.1 hs with hs | hs
    · exact h.rch s hs
    · simp at hs;subst hs;exact .tail (h.rch e he) hk
  beg:=fun s hs=>List.mem_append.2 (.inl (h.beg s hs))
  cls:=fun j hj s hs k' hk'=>by
    rw [List.getElem?_append_left (by omega)] at hs
    exact List.mem_append.2 (.inl (h.cls j hj s hs k' hk'))
theorem qJU (U:List (List Int)):AV.trees (U.map (encL 1 encI))=true:=qA0 (shL shI).tree U
noncomputable def recs (U:List (List Int)) (n:Nat):List Int:=((List.range n).map fun (k:Nat)=>(k:Int)).filter (recB U)
theorem qVI (U:List (List Int)) (n:Nat):recs U (n+1)=if recB U n then recs U n++[(n:Int)] else recs U n:=by
  unfold recs
  rw [List.range_succ,List.map_append,List.filter_append]
  simp only [List.map_cons,List.map_nil,List.filter_cons,List.filter_nil]
  split<;>simp
theorem qe2 (U:List (List Int)) (n:Nat):(recs U n).length≤n:=by
  unfold recs
  refine Nat.le_trans (List.length_filter_le _ _) (by simp)
theorem zJ8 {b:GBook} (hz:b.sz≤1048576):Pure Gm 1162 [.ept b.enc 0] (.lst 1 ((qBJ b).map (encL 1 encI)) false):=by
  refine Pure.intro [] [] zL5 (by kernel_rfl) rfl (by simp [AV.trees,AV.tree,go_sem]) (by simp [AV.tree,qJU]) ?_
  simp only [qkI,qAC,go_sem]
  have hz':b.Defs.length+sumN GCore.sz b.Defs≤1048576:=hz
  have hul:(qBJ b).length=b.Defs.length:=by simp [qBJ]
  refine Sem.loop (fun i:Nat=>i≤b.Defs.length) (fun i=>(⟨[(0,.ept b.enc 0),(3,.slice 1 0 0 i false),(4,.int .i64 (i:Nat))],[],[.row 1 (((qBJ b).take i).map (encL 1 encI)) true]⟩:VSt)) (fun i=>b.Defs.length-i) 0 (by kernel_rfl) (Nat.zero_le _)
    (Can.renum [none] rfl ⟨.ph,trivial⟩ ⟨⟨_,rfl,.tree (by simp [AV.tree,go_sem])⟩,⟨_,rfl,.ph2 rfl⟩,⟨_,rfl,.tree rfl⟩,trivial⟩ trivial) ?_
  intro i hi
  simp only [go_sem]
  refine qAA ?_ ?_<;>intro hc<;>simp only [hc,go_sem]
  · have hlt:i<b.Defs.length:=by have:=of_decide_eq_true hc;omega
    simp only [List.getElem?_map,List.getElem?_eq_getElem hlt,Option.map_some,go_sem]
    have hm:=List.getElem_mem hlt
    have hs:=qA9 (f:=GCore.sz) hm
    refine qhU (.same (.clip .nil)) ?_
    refine qAB (zKL b.Defs[i] [] (by omega) (by simp;omega)) ?_
    simp only [go_sem]
    refine qBY (el:=((qBJ b).take i).map (encL 1 encI)) rfl rfl (by simp;omega) (by omega) ?_
    simp only [go_sem]
    simp only [qAK (show i<4611686018427387904 by omega)]
    refine qAH (i+1) (by omega) (by omega) ?_
    refine Can.renum [some 2] rfl ⟨.row rfl (VR2s.of_eq ?_ (qJU _)),trivial⟩ ⟨⟨_,rfl,.tree (by simp [AV.tree,go_sem])⟩,⟨_,rfl,.slice rfl⟩,⟨_,rfl,.tree rfl⟩,trivial⟩ trivial
    rw [List.take_add_one,List.getElem?_eq_getElem (by omega)]
    simp [qBJ,encL]
  · obtain rfl:i=b.Defs.length:=by have:=of_decide_eq_false hc;omega
    rw [List.take_of_length_le (by omega)]
    exact qA7 (Cv.row rfl (by simp [hul]) (qJU _) (by decide))
end Go.Ab
