/- Texts Par0 .. Par16: the abstract machine, its laws and contracts of functions: lemmas for the statement. No condition. -/
import Derived.Lib.Bytealg
import Derived.Lib.ItoaNum
import Derived.Lib.Join
import Derived.Lib.ParseIntB
import Derived.Test.YtkgbnffcaabafaaGreatDoorP4
set_option linter.unusedSimpArgs false
set_option linter.unusedVariables false
namespace Go.Ab
open Go
inductive qC where
 | mk (Kind:Int) (Name:List UInt8) (Kids:List qC)
def qC.Kind:qC->Int |.mk a _ _=>a
def qC.Name:qC->List UInt8 |.mk _ a _=>a
def qC.Kids:qC->List qC |.mk _ _ a=>a
theorem qC.ext{x y:qC}(h1:x.Kind=y.Kind)(h2:x.Name=y.Name)(h4:x.Kids=y.Kids):x=y:=by
 cases x;cases y;simp_all[qC.Kind,qC.Name,qC.Kids]
theorem qC.lt_of_mem{x:qC}{y:qC}(h:y∈x.Kids):SizeOf.sizeOf y<SizeOf.sizeOf x:=by
 cases x with
 | mk a b c=>
  have:=List.sizeOf_lt_of_mem (show y∈c from h);simp only[qC.mk.sizeOf_spec];omega
theorem qC.ind{P:qC->Prop}(h:∀x,(∀y,y∈x.Kids->P y)->P x)(x:qC):P x:=
 h x fun y hy=>qC.ind h y
termination_by SizeOf.sizeOf x
decreasing_by exact qC.lt_of_mem hy
mutual
def qC.enc:qC->AV
 |.mk k v ks=>.agg [.int .i64 k,.str v,.lst 3 (qC.encs ks) false]
def qC.encs:List qC->List AV
 |[]=>[]
 | x::xs=>x.enc::qC.encs xs
end
theorem qC.encs_eq:∀xs,qC.encs xs=xs.map qC.enc
 |[]=>by simp[qC.encs]
 | x::xs=>by simp[qC.encs,qC.encs_eq xs]
theorem qC.enc_eq(x:qC):x.enc=.agg [.int .i64 x.Kind,.str x.Name,.lst 3 (x.Kids.map qC.enc) false]:=by
 cases x;simp[qC.enc,qC.encs_eq,qC.Kind,qC.Name,qC.Kids]
theorem qC.trx:∀x:qC,x.enc.tree=true:=qC.ind fun x ih=>by
 rw[qC.enc_eq];have h:∀xs:List qC,(∀y∈xs,y.enc.tree=true)->AV.trees (xs.map qC.enc)=true:=by
  intro xs
  induction xs with
  | nil=>intro _;rfl
  | cons a xs ihx=>intro h;simp only[lMc,AV.trees,bAt];exact⟨h a (by simp),ihx fun y hy=>h y (by simp[hy])⟩
 simp[AV.tree,AV.trees,h _ ih]
theorem qC.isSh:Sh qC.enc 3 (some 3):=⟨qC.trx,fun x=>by rw[qC.enc_eq];rfl,fun x=>by rw[qC.enc_eq];rfl,by decide,fun x=>by rw[qC.enc_eq];simp⟩
section
variable {x:qC}
@[go_sem] theorem qC.tr:x.enc.tree=true:=qC.trx x
@[go_sem] theorem qC.ln:x.enc.cells.length=3:=by rw[qC.enc_eq];rfl
@[go_sem] theorem qC.all:x.enc.part 0 (some 3)=some x.enc:=by rw[qC.enc_eq];rfl
@[go_sem] theorem qC.p0:x.enc.part 0 none=some (.int .i64 x.Kind):=by rw[qC.enc_eq];rfl
@[go_sem] theorem qC.p1:x.enc.part 1 none=some (.str x.Name):=by rw[qC.enc_eq];rfl
@[go_sem] theorem qC.p2:x.enc.part 2 none=some (.lst 3 (x.Kids.map qC.enc) false):=by rw[qC.enc_eq];rfl
end
mutual
def qC.sz:qC->Nat
 |.mk _ d ks=>d.length+(ks.length+qC.szs ks)
def qC.szs:List qC->Nat
 |[]=>0
 | x::xs=>x.sz+qC.szs xs
end
mutual
def qC.bd:qC->Prop
 |.mk _ d ks=>d.length<=140737488355328/\ks.length<=140737488355328/\qC.bds ks
def qC.bds:List qC->Prop
 |[]=>True
 | x::xs=>x.bd/\qC.bds xs
end
theorem qC.bds_eq:∀xs,qC.bds xs↔∀y∈xs,qC.bd y
 |[]=>by simp[qC.bds]
 | x::xs=>by simp[qC.bds,qC.bds_eq xs]
theorem qC.bd_eq(x:qC):x.bd↔x.Name.length<=140737488355328/\x.Kids.length<=140737488355328/\∀y∈x.Kids,y.bd:=by
 cases x;simp[qC.bd,qC.bds_eq,qC.Name,qC.Kids]
abbrev TNE:Nat:=1000000
def Ua:List AV->AV->Prop:=fun as v=>∃(s:List UInt8)(c:Int),as=[.str s,.int .u8 c]/\v=.int .i64 (Lib.indexByte s c.toNat.toUInt8)
def Uc:List AV->AV->Prop:=fun as v=>∃n:Int,as=[.int .i64 n,.int .i64 10]/\-9223372036854775808<=n/\n<=9223372036854775807/\v=.str (Lib.itoa n)
def Qt(s:List UInt8):AV:=match Lib.parseIntB 64 s with
 |.ok n=>.tup [.int .i64 n,.nili]
 |.range=>.tup [.int .i64 (Lib.intSat 64 s),.iface TNE .any]
 | _=>.tup [.int .i64 0,.iface TNE .any]
def UZ:List AV->AV->Prop:=fun as v=>∃s:List UInt8,as=[.str s,.int .i64 10,.int .i64 64]/\s.length<=140737488355328/\v=Qt s
end Go.Ab
namespace Go.Ab
open Go
set_option maxRecDepth 10000
def sr(l:List qA)(c:qF):qF:=.seq (.reg true l) c
@[go_sem] theorem qg7{l:List qA}{c:qF}:sr l c=.seq (.reg true l) c:=nr rfl
def oL(i d t:Nat):qA:=.mk i (some d) none (.load none (.t t)) []
@[go_sem] theorem qfO{i d t:Nat}:oL i d t=.mk i (some d) none (.load none (.t t)) []:=nr rfl
def oC(i d:Nat)(n:Int):qA:=.mk i (some d) none (.mov (.c (.int .i64 n))) []
@[go_sem] theorem qfF{i d:Nat}{n:Int}:oC i d n=.mk i (some d) none (.mov (.c (.int .i64 n))) []:=nr rfl
def oQ(i d:Nat)(b:Bool):qA:=.mk i (some d) none (.mov (.c (.bool b))) []
@[go_sem] theorem qfU{i d:Nat}{b:Bool}:oQ i d b=.mk i (some d) none (.mov (.c (.bool b))) []:=nr rfl
def oE(i d:Nat)(op:BinOp)(a:Nat)(n:Int):qA:=.mk i (some d) none (.bin op (.t a) (.c (.int .i64 n))) []
@[go_sem] theorem qfI{i d:Nat}{op:BinOp}{a:Nat}{n:Int}:oE i d op a n=.mk i (some d) none (.bin op (.t a) (.c (.int .i64 n))) []:=nr rfl
def oB(i d:Nat)(op:BinOp)(a b:Nat):qA:=.mk i (some d) none (.bin op (.t a) (.t b)) []
@[go_sem] theorem qfE{i d:Nat}{op:BinOp}{a b:Nat}:oB i d op a b=.mk i (some d) none (.bin op (.t a) (.t b)) []:=nr rfl
def oA(i d w a b:Nat):qA:=.mk i (some d) none (.iaddr w (.t a) (.t b)) []
@[go_sem] theorem qfD{i d w a b:Nat}:oA i d w a b=.mk i (some d) none (.iaddr w (.t a) (.t b)) []:=nr rfl
def oX(i d t k:Nat):qA:=.mk i (some d) none (.lload t k none) []
@[go_sem] theorem qf0{i d t k:Nat}:oX i d t k=.mk i (some d) none (.lload t k none) []:=nr rfl
def oY(i d t k w:Nat):qA:=.mk i (some d) none (.lload t k (some w)) []
@[go_sem] theorem qf1{i d t k w:Nat}:oY i d t k w=.mk i (some d) none (.lload t k (some w)) []:=nr rfl
def oS(i t k w x:Nat):qA:=.mk i none none (.lstore t k w (.t x)) []
@[go_sem] theorem qfV{i t k w x:Nat}:oS i t k w x=.mk i none none (.lstore t k w (.t x)) []:=nr rfl
def oT(i w a b:Nat):qA:=.mk i none none (.store w (.t a) (.t b)) []
@[go_sem] theorem qfW{i w a b:Nat}:oT i w a b=.mk i none none (.store w (.t a) (.t b)) []:=nr rfl
def oF(i d k a:Nat):qA:=.mk i (some d) none (.faddr k (.t a)) []
@[go_sem] theorem qfJ{i d k a:Nat}:oF i d k a=.mk i (some d) none (.faddr k (.t a)) []:=nr rfl
def oK(i d a:Nat):qA:=.mk i (some d) none (.nilchk (.t a)) []
@[go_sem] theorem qfN{i d a:Nat}:oK i d a=.mk i (some d) none (.nilchk (.t a)) []:=nr rfl
def oV(i d a k:Nat):qA:=.mk i (some d) none (.ext (.t a) k) []
@[go_sem] theorem qfY{i d a k:Nat}:oV i d a k=.mk i (some d) none (.ext (.t a) k) []:=nr rfl
def oU(i d a:Nat):qA:=.mk i (some d) none (.nop a) []
@[go_sem] theorem qfX{i d a:Nat}:oU i d a=.mk i (some d) none (.nop a) []:=nr rfl
def oJ(i d a:Nat):qA:=.mk i (some d) none (.not (.t a)) []
@[go_sem] theorem qfM{i d a:Nat}:oJ i d a=.mk i (some d) none (.not (.t a)) []:=nr rfl
def oW(i d a:Nat):qA:=.mk i (some d) none (.len (.t a)) []
@[go_sem] theorem qfZ{i d a:Nat}:oW i d a=.mk i (some d) none (.len (.t a)) []:=nr rfl
def oH(i d k:Nat)(b:Bool)(a:Nat):qA:=.mk i (some d) (some (k,b)) (.mov (.t a)) []
@[go_sem] theorem qfL{i d k:Nat}{b:Bool}{a:Nat}:oH i d k b a=.mk i (some d) (some (k,b)) (.mov (.t a)) []:=nr rfl
def oD1(i d g a:Nat):qA:=.mk i (some d) none (.call g [.t a]) []
@[go_sem] theorem qfG{i d g a:Nat}:oD1 i d g a=.mk i (some d) none (.call g [.t a]) []:=nr rfl
def oD2(i d g a b:Nat):qA:=.mk i (some d) none (.call g [.t a,.t b]) []
@[go_sem] theorem qfH{i d g a b:Nat}:oD2 i d g a b=.mk i (some d) none (.call g [.t a,.t b]) []:=nr rfl
def oPf(i d a b:Nat):qA:=.mk i (some d) none (.pick (.t a) (.t b) (.c (.bool false))) []
@[go_sem] theorem qfS{i d a b:Nat}:oPf i d a b=.mk i (some d) none (.pick (.t a) (.t b) (.c (.bool false))) []:=nr rfl
def oPt(i d a b:Nat):qA:=.mk i (some d) none (.pick (.t a) (.c (.bool true)) (.t b)) []
@[go_sem] theorem qfT{i d a b:Nat}:oPt i d a b=.mk i (some d) none (.pick (.t a) (.c (.bool true)) (.t b)) []:=nr rfl
def qAT:List qA:=[oM 0 3 0,oP 1 4 (.bin .geq (.t 3) (.c (.int .u8 65))),oM 2 5 4,oH 3 6 5 true 0,oG 4 7 5 true (.bin .leq (.t 6) (.c (.int .u8 90))),oPf 5 8 5 7,oM 6 2 8]
def YP:qH:=⟨1,9,[.t 2],sr [oQ 0 2 false] (sr qAT .ret)⟩
def qCK:List qA:=[oM 0 3 0,oP 1 4 (.bin .geq (.t 3) (.c (.int .u8 97))),oM 2 5 4,oH 3 6 5 true 0,oG 4 7 5 true (.bin .leq (.t 6) (.c (.int .u8 122))),oPf 5 8 5 7,oM 6 2 8]
def Yi:qH:=⟨1,9,[.t 2],sr [oQ 0 2 false] (sr qCK .ret)⟩
def qDE:List qA:=[oM 0 3 0,oP 1 4 (.bin .geq (.t 3) (.c (.int .u8 48))),oM 2 5 4,oH 3 6 5 true 0,oG 4 7 5 true (.bin .leq (.t 6) (.c (.int .u8 57))),oPf 5 8 5 7,oM 6 2 8]
def Ys:qH:=⟨1,9,[.t 2],sr [oQ 0 2 false] (sr qDE .ret)⟩
def kw:List qA:=[oM 0 3 0,oD1 1 4 1206 3,oM 2 5 4,oH 3 6 5 false 0,oG 4 7 5 false (.call 1100 [.t 6]),oPt 5 8 5 7,oM 6 9 8,oH 7 10 9 false 0,oG 8 11 9 false (.call 1330 [.t 10]),oPt 9 12 9 11,oM 10 2 12]
def YF:qH:=⟨1,13,[.t 2],sr [oQ 0 2 false] (sr kw .ret)⟩
def qBK:List qA:=[oM 0 11 1,oM 1 12 0,oM 2 13 5,oA 3 14 1 12 13,oL 4 15 14,oP 5 16 (.sop .eql (.t 11) (.t 15))]
def qBI:qF:=.seq (.blk 1 (sr [oM 0 10 8,oM 1 5 10] (sr qBK (.cond (.t 16) (sr [oM 0 17 5,oM 1 4 17] .ret) .skip)))) (.reg true [oE 0 18 .add 8 1,oM 1 8 18])
def qBJ:qF:=.seq (sr [oM 0 6 0,oW 1 7 6,oC 2 8 0] (.blk 0 (.loop (sr [oB 0 9 .lss 8 7] (.seq (.cond (.t 9) .skip (.exit 0)) qBI))))) (sr [oP 0 4 (.mov (.c (.int .i64 (-1))))] .ret)
def YV:qH:=⟨2,19,[.t 4],sr [oC 0 4 0] qBJ⟩
def UB:qH:=Z5 1106
def kx:List qA:=[oP 0 3 (.bslice 1 (.str []) 8 [(0,.c (.str [100,97,116,97])),(1,.c (.str [100,101,102])),(2,.c (.str [108,101,116])),(3,.c (.str [105,110])),(4,.c (.str [109,97,116,99,104])),(5,.c (.str [105,102])),(6,.c (.str [116,104,101,110])),(7,.c (.str [101,108,115,101]))]),oM 1 4 0,oD2 2 5 732 3 4,oM 3 2 5]
def YG:qH:=⟨1,6,[.t 2],sr [oQ 0 2 false] (sr kx .ret)⟩
def qAR:List qA:=[oM 0 4 0,oP 1 5 (.slen (.t 4)),oE 2 6 .lss 5 1,oM 3 7 6,oH 4 8 7 false 0,oG 5 9 7 false (.slen (.t 8)),oG 6 10 7 false (.bin .gtr (.t 9) (.c (.int .i64 12))),oPt 7 11 7 10,oM 8 12 11,oH 9 13 12 false 0,oG 10 14 12 false (.sidx (.t 13) (.c (.int .i64 0))),oG 11 15 12 false (.call 1330 [.t 14]),oPt 12 16 12 15,oM 13 17 16,oH 14 18 17 false 0,oG 15 19 17 false (.call 1013 [.t 18]),oPt 16 20 17 19]
def qAS:List qA:=[oM 0 26 0,oM 1 27 3,oP 2 28 (.sidx (.t 26) (.t 27)),oD1 3 29 1012 28,oJ 4 30 29]
def qAP:qF:=.seq (.blk 1 (sr [oM 0 25 23,oM 1 3 25] (sr qAS (.cond (.t 30) (sr [oQ 0 2 false] .ret) .skip)))) (.reg true [oE 0 31 .add 23 1,oM 1 23 31])
def qAQ:qF:=.seq (sr [oM 0 21 0,oP 1 22 (.slen (.t 21)),oC 2 23 0] (.blk 0 (.loop (sr [oB 0 24 .lss 23 22] (.seq (.cond (.t 24) .skip (.exit 0)) qAP))))) (sr [oQ 0 2 true] .ret)
def YO:qH:=⟨1,32,[.t 2],sr [oQ 0 2 false] (.seq (sr qAR (.cond (.t 20) (sr [oQ 0 2 false] .ret) .skip)) qAQ)⟩
def qLC:List qA:=[oM 0 3 0,oD1 1 4 1099 3,oM 2 5 4,oH 3 6 5 true 0,oG 4 7 5 true (.sidx (.t 6) (.c (.int .i64 0))),oG 5 8 5 true (.call 1100 [.t 7]),oPf 6 9 5 8,oM 7 2 9]
def V4:qH:=⟨1,10,[.t 2],sr [oQ 0 2 false] (sr qLC .ret)⟩
def qHP:List qA:=[oP 0 1 (.lbox 3 (.t 0)),oC 1 2 0,oC 2 3 0,oQ 3 4 false]
def qHQ:List qA:=[oU 0 10 1,oX 1 11 1 2,oW 2 12 11,oC 3 13 0]
def qHT:List qA:=[oA 0 15 3 11 13,oP 1 16 (.load (some 3) (.t 15)),oP 2 6 (.lalloc (.agg [.int .i64 0,.str [],.nils])),oS 3 6 0 3 16]
def qHU:List qA:=[oY 0 18 6 0 3,oD1 1 19 331 18,oM 2 17 19,oV 3 20 17 0,oV 4 21 17 1,oV 5 22 17 2,oM 6 7 20,oM 7 8 21,oM 8 9 22]
def qHV:List qA:=[oM 0 25 2,oM 1 26 7,oE 2 27 .add 26 1,oP 3 28 (.max (.t 25) (.t 27)),oM 4 29 3,oM 5 30 8,oB 6 31 .add 29 30,oM 7 2 28,oM 8 3 31]
def qHN:qF:=sr qHU (.seq (sr [oM 0 23 9,oJ 1 24 23] (.cond (.t 24) (sr [oC 0 2 0,oC 1 3 0,oQ 2 4 false] .ret) .skip)) (.reg true qHV))
def qHO:qF:=sr qHQ (.blk 0 (.loop (sr [oB 0 14 .lss 13 12] (.seq (.cond (.t 14) .skip (.exit 0)) (.seq (.blk 1 (sr qHT qHN)) (.reg true [oE 0 32 .add 13 1,oM 1 13 32]))))))
def qHW:List qA:=[oU 0 37 1,oX 1 38 1 1,oP 2 39 (.sop .eql (.t 38) (.c (.str []))),oM 3 40 39,oG 4 41 40 true (.nop 1),oG 5 42 40 true (.lload 1 2 none),oG 6 43 40 true (.len (.t 42)),oG 7 44 40 true (.bin .eql (.t 43) (.c (.int .i64 0))),oPf 8 45 40 44,oM 9 4 45]
def qHX:List qA:=[oU 0 48 1,oX 1 49 1 1,oD1 2 50 717 49,oM 3 51 50,oG 4 52 51 true (.nop 1),oG 5 53 51 true (.lload 1 1 none),oG 6 54 51 true (.sop .neq (.t 53) (.c (.str [73,110,116]))),oPf 7 55 51 54,oM 8 56 55,oG 9 57 56 true (.nop 1),oG 10 58 56 true (.lload 1 2 none),oG 11 59 56 true (.len (.t 58)),oG 12 60 56 true (.bin .eql (.t 59) (.c (.int .i64 0))),oPf 13 61 56 60,oM 14 4 61]
def qHY:List qA:=[oU 0 64 1,oX 1 65 1 1,oP 2 66 (.sop .eql (.t 65) (.c (.str []))),oM 3 67 66,oG 4 68 67 true (.nop 1),oG 5 69 67 true (.lload 1 2 none),oG 6 70 67 true (.len (.t 69)),oG 7 71 67 true (.bin .eql (.t 70) (.c (.int .i64 2))),oPf 8 72 67 71,oM 9 4 72]
def qHR:List qA:=[oU 0 75 1,oX 1 76 1 1,oP 2 77 (.sop .eql (.t 76) (.c (.str []))),oM 3 78 77,oG 4 79 78 true (.nop 1),oG 5 80 78 true (.lload 1 2 none),oG 6 81 78 true (.len (.t 80)),oG 7 82 78 true (.bin .eql (.t 81) (.c (.int .i64 1))),oPf 8 83 78 82,oM 9 4 83]
def qHL:qF:=.cond (.t 46) (.reg true qHX) (sr [oE 0 63 .eql 34 3,oM 1 62 63] (.cond (.t 62) (.reg true qHY) (sr [oE 0 74 .eql 34 4,oM 1 73 74] (.cond (.t 73) (.reg true qHR) .skip))))
def qHM:qF:=sr [oU 0 33 1,oX 1 34 1 0] (.blk 2 (sr [oE 0 36 .eql 34 1,oM 1 35 36] (.cond (.t 35) (.reg true qHW) (sr [oE 0 47 .eql 34 2,oM 1 46 47] qHL))))
def qHS:List qA:=[oM 0 84 2,oM 1 85 3,oM 2 86 4,oM 3 2 84,oM 4 3 85,oM 5 4 86]
def Vi:qH:=⟨1,87,[.t 2,.t 3,.t 4],sr qHP (sr [oC 0 2 1,oC 1 3 1] (.seq qHO (.seq qHM (sr qHS .ret))))⟩
def qL8:List qA:=[oY 0 7 1 0 3,oD1 1 8 331 7,oM 2 6 8,oV 3 9 6 0,oV 4 10 6 1,oV 5 11 6 2,oM 6 3 9,oM 7 4 10,oM 8 5 11]
def qL9:List qA:=[oM 0 12 5,oM 1 13 12,oH 2 14 13 true 3,oG 3 15 13 true (.bin .leq (.t 14) (.c (.int .i64 6))),oPf 4 16 13 15,oM 5 17 16,oH 6 18 17 true 4,oG 7 19 17 true (.bin .leq (.t 18) (.c (.int .i64 16))),oPf 8 20 17 19,oM 9 2 20]
def F74:qH:=⟨1,21,[.t 2],sr [oP 0 1 (.lbox 3 (.t 0)),oQ 1 2 false] (sr qL8 (sr qL9 .ret))⟩
def qNM:List qA:=[oM 0 3 0,oD1 1 4 1099 3,oM 2 5 4,oH 3 6 5 true 0,oG 4 7 5 true (.sidx (.t 6) (.c (.int .i64 0))),oG 5 8 5 true (.call 1206 [.t 7]),oPf 6 9 5 8,oM 7 2 9]
def UN:qH:=⟨1,10,[.t 2],sr [oQ 0 2 false] (sr qNM .ret)⟩
def Vy:qH:=⟨1,5,[.t 2],sr [oP 0 2 (.mov (.c (.str [])))] (sr [oM 0 3 0,oP 1 4 (.call 957 [.t 3,.c (.int .i64 10)]),oM 2 2 4] .ret)⟩
def qAL:List qA:=[oM 0 3 0,oP 1 4 (.bin .geq (.t 3) (.c (.int .i64 (-2147483648)))),oM 2 5 4,oH 3 6 5 true 0,oG 4 7 5 true (.bin .leq (.t 6) (.c (.int .i64 2147483647))),oPf 5 8 5 7,oM 6 2 8]
def YM:qH:=⟨1,9,[.t 2],sr [oQ 0 2 false] (sr qAL .ret)⟩
def qAN:List qA:=[oM 0 7 0,oP 1 8 (.call 1382 [.t 7,.c (.int .i64 10),.c (.int .i64 64)]),oM 2 6 8,oV 3 9 6 0,oV 4 10 6 1,oM 5 4 9,oM 6 5 10]
def qAO:List qA:=[oM 0 11 5,oP 1 12 (.isnil 4 true (.t 11)),oM 2 13 12,oH 3 14 13 false 4,oG 4 15 13 false (.call 1051 [.t 14]),oG 5 16 13 false (.not (.t 15)),oPt 6 17 13 16,oM 7 18 17,oH 8 19 18 false 4,oG 9 20 18 false (.call 577 [.t 19]),oH 10 21 18 false 0,oG 11 22 18 false (.sop .neq (.t 20) (.t 21)),oPt 12 23 18 22]
def qAM:qF:=sr qAN (.seq (sr qAO (.cond (.t 23) (sr [oC 0 2 0,oQ 1 3 false] .ret) .skip)) (sr [oM 0 24 4,oM 1 2 24,oQ 2 3 true] .ret))
def YN:qH:=⟨1,25,[.t 2,.t 3],sr [oC 0 2 0,oQ 1 3 false] qAM⟩
def kz:List qA:=[oM 0 6 0,oD1 1 7 1091 6,oM 2 5 7,oV 3 8 5 0,oV 4 9 5 1,oM 5 3 8,oM 6 4 9]
def qAA:List qA:=[oM 0 10 4,oM 1 11 10,oH 2 12 11 true 3,oG 3 13 11 true (.bin .geq (.t 12) (.c (.int .i64 0))),oPf 4 14 11 13,oM 5 2 14]
def YH:qH:=⟨1,15,[.t 2],sr [oQ 0 2 false] (sr kz (sr qAA .ret))⟩
def qDF:List qA:=[oM 0 5 0,oP 1 6 (.slen (.t 5)),oM 2 7 1,oP 3 8 (.slen (.t 7)),oB 4 9 .geq 6 8,oM 5 10 9,oH 6 11 10 true 0,oH 7 12 10 true 1,oG 8 13 10 true (.slen (.t 12)),oG 9 14 10 true (.sslc (.t 11) none (some (.t 13))),oH 10 15 10 true 1,oG 11 16 10 true (.sop .eql (.t 14) (.t 15)),oPf 12 17 10 16,oM 13 4 17]
def Yt:qH:=⟨2,18,[.t 4],sr [oQ 0 4 false] (sr qDF .ret)⟩
def qAB:List qA:=[oM 0 5 0,oM 1 6 1,oD2 2 7 1331 5 6,oM 3 4 7]
def YI:qH:=⟨2,8,[.t 4],sr [oQ 0 4 false] (sr qAB .ret)⟩
def qK1:List qA:=[oM 0 9 6,oM 1 10 0,oP 2 11 (.slen (.t 10)),oB 3 12 .lss 9 11,oM 4 13 12,oH 5 14 13 true 0,oH 6 15 13 true 6,oG 7 16 13 true (.sidx (.t 14) (.t 15)),oG 8 17 13 true (.call 1012 [.t 16]),oPf 9 18 13 17]
def qK2:List qA:=[oM 0 24 0,oM 1 25 1,oM 2 26 6,oP 3 27 (.sslc (.t 24) (some (.t 25)) (some (.t 26))),oM 4 7 27]
def qK3:List qA:=[oM 0 41 7,oP 1 42 (.sop .eql (.t 41) (.c (.str [50,49,52,55,52,56,51,54,52,56]))),oM 2 43 42,oH 3 44 43 false 7,oG 4 45 43 false (.call 1014 [.t 44]),oPt 5 46 43 45,oM 6 40 46]
def qKY:qF:=.cond (.t 36) (sr [oM 0 39 6,oC 1 4 2,oM 2 5 39] .ret) (sr qK3 (.cond (.t 40) (sr [oM 0 47 6,oC 1 4 4,oM 2 5 47] .ret) .skip))
def qKZ:qF:=sr [oM 0 33 7,oD1 1 34 889 33,oM 2 32 34] (.cond (.t 32) (sr [oM 0 35 6,oC 1 4 1,oM 2 5 35] .ret) (sr [oM 0 37 7,oD1 1 38 717 37,oM 2 36 38] qKY))
def qK0:qF:=sr qK2 (.blk 2 (sr [oM 0 29 7,oD1 1 30 1013 29,oM 2 28 30] (.cond (.t 28) (sr [oM 0 31 6,oC 1 4 3,oM 2 5 31] .ret) qKZ)))
def qK4:List qA:=[oM 0 49 0,oM 1 50 1,oP 2 51 (.sslc (.t 49) (some (.t 50)) none),oP 3 52 (.call 1015 [.t 51,.c (.str [45,62])])]
def qK5:List qA:=[oM 0 53 1,oE 1 54 .add 53 2,oC 2 4 5,oM 3 5 54]
def qK6:List qA:=[oM 0 55 0,oM 1 56 1,oP 2 57 (.sidx (.t 55) (.t 56)),oP 3 58 (.call 631 [.c (.str [43,45,42,47,60,61,40,41,91,93,123,125,44,59,58,46,124,33,92]),.t 57]),oE 4 59 .geq 58 0]
def qK7:List qA:=[oM 0 60 1,oE 1 61 .add 60 1,oC 2 4 5,oM 3 5 61]
def qKW:qF:=.seq (sr [oM 0 21 6,oM 1 22 1,oB 2 23 .gtr 21 22] (.cond (.t 23) (.seq qK0 (sr [oM 0 48 1,oC 1 4 0,oM 2 5 48] .ret)) .skip)) (.seq (sr qK4 (.cond (.t 52) (sr qK5 .ret) .skip)) (.seq (sr qK6 (.cond (.t 59) (sr qK7 .ret) .skip)) (sr [oM 0 62 1,oC 1 4 0,oM 2 5 62] .ret)))
def qKX:qF:=sr [oM 0 8 1,oM 1 6 8] (.seq (.blk 0 (.loop (.seq (sr qK1 (.cond (.t 18) .skip (.exit 0))) (.blk 1 (.reg true [oM 0 19 6,oE 1 20 .add 19 1,oM 2 6 20]))))) qKW)
def V2:qH:=⟨2,63,[.t 4,.t 5],sr [oC 0 4 0,oC 1 5 0] qKX⟩
def qG5:List qA:=[oM 0 12 6,oM 1 13 0,oP 2 14 (.slen (.t 13)),oB 3 15 .lss 12 14]
def qG6:List qA:=[oM 0 16 0,oM 1 17 6,oP 2 18 (.sidx (.t 16) (.t 17)),oP 3 19 (.call 631 [.c (.str [32,10,9]),.t 18]),oE 4 20 .geq 19 0]
def qG7:List qA:=[oM 0 24 0,oM 1 25 6,oD2 2 26 632 24 25,oM 3 23 26,oV 4 27 23 0,oV 5 28 23 1,oM 6 7 27,oM 7 8 28]
def qG8:List qA:=[oM 0 31 6,oP 1 2 (.mov (.c (.nils))),oM 2 3 31,oC 3 4 6]
def qG9:List qA:=[oM 0 32 5,oM 1 33 7,oM 2 34 0,oM 3 35 6,oM 4 36 8,oP 5 37 (.sslc (.t 34) (some (.t 35)) (some (.t 36))),oM 6 38 6,oP 7 39 (.build (.agg [.int .i64 0,.str [],.int .i64 0]) [(0,1,.t 33),(1,1,.t 37),(2,1,.t 38)]),oP 8 40 (.bslice 3 (.agg [.int .i64 0,.str [],.int .i64 0]) 1 [(0,.t 39)]),oP 9 41 (.app 3 (.t 32) (.t 40)),oM 10 5 41]
def qG2:qF:=sr qG7 (.seq (sr [oM 0 29 7,oE 1 30 .eql 29 0] (.cond (.t 30) (sr qG8 .ret) .skip)) (sr qG9 (.reg true [oM 0 42 8,oM 1 6 42])))
def qG3:qF:=sr [oC 0 6 0] (.blk 0 (.loop (.seq (sr qG5 (.cond (.t 15) .skip (.exit 0))) (.blk 1 (.seq (sr qG6 (.cond (.t 20) (sr [oM 0 21 6,oE 1 22 .add 21 1,oM 2 6 22] (.exit 1)) .skip)) qG2)))))
def qHA:List qA:=[oM 0 43 5,oM 1 2 43,oC 2 3 0,oC 3 4 0]
def qG4:qF:=.seq (sr [oM 0 9 0,oP 1 10 (.slen (.t 9)),oE 2 11 .gtr 10 20000] (.cond (.t 11) (sr [oP 0 2 (.mov (.c (.nils))),oC 1 3 0,oC 2 4 2] .ret) .skip)) (sr [oP 0 5 (.mov (.c (.nils)))] (.seq qG3 (sr qHA .ret)))
def Vc:qH:=⟨1,44,[.t 2,.t 3,.t 4],sr [oP 0 2 (.mov (.c (.nils))),oC 1 3 0,oC 2 4 0] qG4⟩
def qAU:List qA:=[oM 0 3 0,oK 1 4 3,oF 2 5 1 4,oL 3 6 5,oM 4 7 0,oK 5 8 7,oF 6 9 0 8,oL 7 10 9,oW 8 11 10,oB 9 12 .lss 6 11]
def qAV:List qA:=[oM 0 13 0,oK 1 14 13,oF 2 15 0 14,oL 3 16 15,oM 4 17 0,oK 5 18 17,oF 6 19 1 18,oL 7 20 19,oA 8 21 3 16 20,oP 9 22 (.load (some 3) (.t 21)),oS 10 2 0 3 22]
def qAW:List qA:=[oM 0 23 0,oK 1 24 23,oF 2 25 2 24,oL 3 26 25,oP 4 27 (.build (.agg [.int .i64 0,.str [],.int .i64 0]) [(2,1,.t 26)]),oS 5 2 0 3 27]
def YQ:qH:=⟨1,28,[.l 2 (some 3)],sr [oP 0 2 (.lalloc (.agg [.int .i64 0,.str [],.int .i64 0]))] (.seq (sr qAU (.cond (.t 12) (sr qAV .ret) .skip)) (sr qAW .ret))⟩
def qLD:List qA:=[oM 0 2 0,oD1 1 3 1101 2,oP 2 4 (.fld 2 none (.t 3)),oP 3 5 (.build (.agg [.int .i64 0]) [(0,1,.t 4)]),oP 4 6 (.mkif 751 (.t 5)),oN 5 (.panic (.t 6))]
def V5:qH:=⟨1,7,[],.reg true qLD⟩
def qAX:List qA:=[oM 0 6 0,oD1 1 7 1101 6,oP 2 5 (.lalloc (.agg [.int .i64 0,.str [],.int .i64 0])),oS 3 5 0 3 7]
def qAY:List qA:=[oU 0 8 5,oX 1 9 5 1,oM 2 10 1,oP 3 11 (.sop .eql (.t 9) (.t 10)),oM 4 12 11,oG 5 13 12 true (.nop 5),oG 6 14 12 true (.lload 5 0 none),oG 7 15 12 true (.bin .eql (.t 14) (.c (.int .i64 5))),oH 8 16 12 true 15,oG 9 17 16 false (.nop 5),oG 10 18 16 false (.lload 5 0 none),oG 11 19 16 false (.bin .eql (.t 18) (.c (.int .i64 3))),oG 12 20 12 true (.pick (.t 16) (.c (.bool true)) (.t 19)),oPf 13 21 12 20,oM 14 4 21]
def YS:qH:=⟨2,22,[.t 4],sr [oQ 0 4 false] (sr qAX (sr qAY .ret))⟩
def qLI:List qA:=[oM 0 5 0,oM 1 6 1,oD2 2 7 1103 5 6,oJ 3 8 7]
def qLJ:List qA:=[oM 0 9 0,oK 1 10 9,oF 2 11 1 10,oL 3 12 11,oE 4 13 .add 12 1,oK 5 14 9,oF 6 15 1 14,oT 7 1 15 13]
def V7:qH:=⟨2,16,[.t 4],sr [oQ 0 4 false] (.seq (sr qLI (.cond (.t 8) (sr [oQ 0 4 false] .ret) .skip)) (sr qLJ (sr [oQ 0 4 true] .ret)))⟩
def qM4:List qA:=[oM 0 6 0,oD1 1 7 1101 6,oP 2 5 (.lalloc (.agg [.int .i64 0,.str [],.int .i64 0])),oS 3 5 0 3 7]
def qM5:List qA:=[oU 0 8 5,oX 1 9 5 0,oM 2 10 1,oB 3 11 .neq 9 10]
def qM6:List qA:=[oM 0 14 0,oK 1 15 14,oF 2 16 1 15,oL 3 17 16,oE 4 18 .add 17 1,oK 5 19 14,oF 6 20 1 19,oT 7 1 20 18]
def qM3:qF:=.seq (sr qM5 (.cond (.t 11) (.reg true [oM 0 12 0,oD1 1 13 719 12]) .skip)) (sr qM6 (sr [oU 0 21 5,oX 1 22 5 1,oM 2 4 22] .ret))
def UJ:qH:=⟨2,23,[.t 4],sr [oP 0 4 (.mov (.c (.str [])))] (sr qM4 qM3)⟩
def qM7:List qA:=[oM 0 4 0,oM 1 5 1,oD2 2 6 721 4 5,oJ 3 7 6]
def UK:qH:=⟨2,10,[],sr qM7 (.cond (.t 7) (.reg true [oM 0 8 0,oD1 1 9 719 8]) .skip)⟩
def UQ:qH:=⟨0,2,[.l 0 (some 3)],sr [oP 0 0 (.lalloc (.agg [.int .i64 0,.str [],.nils]))] (sr [oP 0 1 (.build (.agg [.int .i64 0,.str [],.nils]) [(0,1,.c (.int .i64 1))]),oS 1 0 0 3 1] .ret)⟩
def qNQ:List qA:=[oY 0 3 1 0 3,oP 1 4 (.bslice 3 (.agg [.int .i64 0,.str [],.nils]) 1 [(0,.t 3)]),oP 2 5 (.build (.agg [.int .i64 0,.str [],.nils]) [(0,1,.c (.int .i64 4)),(2,1,.t 4)]),oS 3 2 0 3 5]
def UR:qH:=⟨1,6,[.l 2 (some 3)],sr [oP 0 1 (.lbox 3 (.t 0)),oP 1 2 (.lalloc (.agg [.int .i64 0,.str [],.nils]))] (sr qNQ .ret)⟩
def YR:qH:=⟨1,5,[.l 2 (some 3)],sr [oP 0 2 (.lalloc (.agg [.int .i64 0,.str [],.nils]))] (sr [oM 0 3 0,oP 1 4 (.build (.agg [.int .i64 0,.str [],.nils]) [(0,1,.c (.int .i64 2)),(1,1,.t 3)]),oS 2 2 0 3 4] .ret)⟩
def qLG:List qA:=[oM 0 8 0,oD1 1 9 720 8,oD1 2 10 911 9,oS 3 2 0 3 10]
def qLH:List qA:=[oM 0 14 0,oD1 1 15 335 14,oP 2 3 (.lalloc (.agg [.int .i64 0,.str [],.nils])),oS 3 3 0 3 15]
def qLE:qF:=sr [oM 0 12 0,oP 1 13 (.call 721 [.t 12,.c (.str [40])]),oM 2 11 13] (.cond (.t 11) (sr qLH (sr [oM 0 16 0,oP 1 17 (.call 876 [.t 16,.c (.str [41])])] (sr [oY 0 18 3 0 3,oS 1 2 0 3 18] .ret))) .skip)
def qLF:qF:=sr [oM 0 19 0,oP 1 20 (.call 875 [.t 19,.c (.int .i64 2)]),oM 2 4 20] (sr [oM 0 21 4,oP 1 22 (.sop .neq (.t 21) (.c (.str [73,110,116])))] (.cond (.t 22) (sr [oM 0 23 4,oD1 1 24 1102 23,oS 2 2 0 3 24] .ret) .skip))
def V6:qH:=⟨1,26,[.l 2 (some 3)],sr [oP 0 2 (.lalloc (.agg [.int .i64 0,.str [],.nils]))] (.seq (.blk 0 (sr [oM 0 6 0,oP 1 7 (.call 721 [.t 6,.c (.str [33])]),oM 2 5 7] (.cond (.t 5) (sr qLG .ret) qLE))) (.seq qLF (sr [oP 0 25 (.call 908 []),oS 1 2 0 3 25] .ret)))⟩
def qLK:List qA:=[oY 0 5 2 0 3,oY 1 6 3 0 3,oP 2 7 (.bslice 3 (.agg [.int .i64 0,.str [],.nils]) 2 [(0,.t 5),(1,.t 6)]),oP 3 8 (.build (.agg [.int .i64 0,.str [],.nils]) [(0,1,.c (.int .i64 3)),(2,1,.t 7)]),oS 4 4 0 3 8]
def V8:qH:=⟨2,9,[.l 4 (some 3)],sr [oP 0 2 (.lbox 3 (.t 0)),oP 1 3 (.lbox 3 (.t 1)),oP 2 4 (.lalloc (.agg [.int .i64 0,.str [],.nils]))] (sr qLK .ret)⟩
def qH5:List qA:=[oM 0 4 0,oD1 1 5 720 4,oP 2 3 (.lalloc (.agg [.int .i64 0,.str [],.nils])),oS 3 3 0 3 5]
def qH6:List qA:=[oY 0 8 3 0 3,oM 1 9 0,oD1 2 10 335 9,oD2 3 11 722 8 10,oS 4 2 0 3 11]
def Vk:qH:=⟨1,13,[.l 2 (some 3)],sr [oP 0 2 (.lalloc (.agg [.int .i64 0,.str [],.nils]))] (sr qH5 (.seq (sr [oM 0 6 0,oP 1 7 (.call 721 [.t 6,.c (.str [45,62])])] (.cond (.t 7) (sr qH6 .ret) .skip)) (sr [oY 0 12 3 0 3,oS 1 2 0 3 12] .ret)))⟩
def qH9:List qA:=[oM 0 7 0,oM 1 8 1,oB 2 9 .geq 7 8,oM 3 10 9,oH 4 11 10 true 0,oH 5 12 10 true 2,oG 6 13 10 true (.bin .leq (.t 11) (.t 12)),oPf 7 14 10 13,oM 8 6 14]
def Vl:qH:=⟨3,15,[.t 6],sr [oQ 0 6 false] (sr qH9 .ret)⟩
def qEL:List qA:=[oM 0 3 0,oP 1 4 (.bin .geq (.t 3) (.c (.int .u8 97))),oM 2 5 4,oH 3 6 5 true 0,oG 4 7 5 true (.bin .leq (.t 6) (.c (.int .u8 122))),oPf 5 8 5 7,oM 6 9 8,oH 7 10 9 false 0,oG 8 11 9 false (.bin .geq (.t 10) (.c (.int .u8 65))),oH 9 12 9 false 11,oH 10 13 12 true 0,oG 11 14 12 true (.bin .leq (.t 13) (.c (.int .u8 90))),oG 12 15 9 false (.pick (.t 12) (.t 14) (.c (.bool false))),oPt 13 16 9 15,oM 14 2 16]
def Y9:qH:=⟨1,17,[.t 2],sr [oQ 0 2 false] (sr qEL .ret)⟩
def VI:qH:=⟨0,2,[.t 0],sr [oP 0 0 (.mov (.c (.nils)))] (sr [oP 0 1 (.bslice 1 (.str []) 8 [(0,.c (.str [100,97,116,97])),(1,.c (.str [100,101,102])),(2,.c (.str [108,101,116])),(3,.c (.str [105,110])),(4,.c (.str [109,97,116,99,104])),(5,.c (.str [105,102])),(6,.c (.str [116,104,101,110])),(7,.c (.str [101,108,115,101]))]),oM 1 0 1] .ret)⟩
def qEN:List qA:=[oM 0 4 3,oP 1 5 (.call 1513 []),oW 2 6 5,oB 3 7 .lss 4 6]
def qEO:List qA:=[oP 0 10 (.call 1513 []),oM 1 11 3,oA 2 12 1 10 11,oL 3 13 12,oM 4 14 0,oP 5 15 (.sop .eql (.t 13) (.t 14))]
def qEM:qF:=.loop (.seq (sr qEN (.cond (.t 7) .skip (.exit 0))) (.seq (.blk 1 (sr qEO (.cond (.t 15) (sr [oQ 0 2 true] .ret) .skip))) (.reg true [oM 0 8 3,oE 1 9 .add 8 1,oM 2 3 9])))
def VA:qH:=⟨1,16,[.t 2],sr [oQ 0 2 false] (.seq (sr [oC 0 3 0] (.blk 0 qEM)) (sr [oQ 0 2 false] .ret))⟩
def qEP:List qA:=[oM 0 3 0,oP 1 4 (.bin .geq (.t 3) (.c (.int .u8 48))),oM 2 5 4,oH 3 6 5 true 0,oG 4 7 5 true (.bin .leq (.t 6) (.c (.int .u8 57))),oPf 5 8 5 7,oM 6 2 8]
def VB:qH:=⟨1,9,[.t 2],sr [oQ 0 2 false] (sr qEP .ret)⟩
def qC6:List qA:=[oM 0 4 0,oP 1 5 (.slen (.t 4)),oE 2 6 .lss 5 1,oM 3 7 6,oH 4 8 7 false 0,oG 5 9 7 false (.slen (.t 8)),oG 6 10 7 false (.bin .gtr (.t 9) (.c (.int .i64 12))),oPt 7 11 7 10,oM 8 12 11,oH 9 13 12 false 0,oG 10 14 12 false (.sidx (.t 13) (.c (.int .i64 0))),oG 11 15 12 false (.call 1440 [.t 14]),oG 12 16 12 false (.not (.t 15)),oPt 13 17 12 16,oM 14 18 17,oH 15 19 18 false 0,oG 16 20 18 false (.call 1441 [.t 19]),oPt 17 21 18 20]
def qC7:List qA:=[oM 0 22 3,oM 1 23 0,oP 2 24 (.slen (.t 23)),oB 3 25 .lss 22 24]
def qC8:List qA:=[oM 0 28 0,oM 1 29 3,oP 2 30 (.sidx (.t 28) (.t 29)),oD1 3 31 1440 30,oJ 4 32 31,oM 5 33 32,oH 6 34 33 true 0,oH 7 35 33 true 3,oG 8 36 33 true (.sidx (.t 34) (.t 35)),oG 9 37 33 true (.call 1442 [.t 36]),oG 10 38 33 true (.not (.t 37)),oPf 11 39 33 38]
def qC5:qF:=.loop (.seq (sr qC7 (.cond (.t 25) .skip (.exit 0))) (.seq (.blk 1 (sr qC8 (.cond (.t 39) (sr [oQ 0 2 false] .ret) .skip))) (.reg true [oM 0 26 3,oE 1 27 .add 26 1,oM 2 3 27])))
def Yp:qH:=⟨1,40,[.t 2],sr [oQ 0 2 false] (.seq (sr qC6 (.cond (.t 21) (sr [oQ 0 2 false] .ret) .skip)) (.seq (sr [oC 0 3 0] (.blk 0 qC5)) (sr [oQ 0 2 true] .ret)))⟩
def qN5:List qA:=[oM 0 3 0,oD1 1 4 1241 3,oM 2 5 4,oH 3 6 5 true 0,oG 4 7 5 true (.sidx (.t 6) (.c (.int .i64 0))),oG 5 8 5 true (.bin .leq (.t 7) (.c (.int .u8 90))),oPf 6 9 5 8,oM 7 2 9]
def UV:qH:=⟨1,10,[.t 2],sr [oQ 0 2 false] (sr qN5 .ret)⟩
def qJU:List qA:=[oU 0 17 2,oX 1 18 2 1,oD1 2 19 921 18,oJ 3 20 19,oM 4 21 20,oG 5 22 21 false (.nop 2),oG 6 23 21 false (.lload 2 1 none),oG 7 24 21 false (.sop .eql (.t 23) (.c (.str [73,110,116]))),oPt 8 25 21 24]
def qJP:qF:=.cond (.t 26) (.reg true [oC 0 5 2]) (sr [oE 0 29 .eql 12 4,oM 1 28 29] (.cond (.t 28) (.reg true [oC 0 5 1]) (sr [oP 0 4 (.mov (.c (.int .i64 (-1))))] .ret)))
def qJQ:qF:=sr [oE 0 16 .eql 12 2,oM 1 15 16] (.cond (.t 15) (sr qJU (.cond (.t 25) (sr [oP 0 4 (.mov (.c (.int .i64 (-1))))] .ret) .skip)) (sr [oE 0 27 .eql 12 3,oM 1 26 27] qJP))
def qJV:List qA:=[oU 0 30 2,oX 1 31 2 2,oW 2 32 31,oM 3 33 5,oB 4 34 .neq 32 33,oM 5 35 34,oG 6 36 35 false (.nop 2),oG 7 37 35 false (.lload 2 0 none),oG 8 38 35 false (.bin .neq (.t 37) (.c (.int .i64 2))),oH 9 39 35 false 38,oG 10 40 39 true (.nop 2),oG 11 41 39 true (.lload 2 1 none),oG 12 42 39 true (.sop .neq (.t 41) (.c (.str []))),oG 13 43 35 false (.pick (.t 39) (.t 42) (.c (.bool false))),oPt 14 44 35 43]
def qJW:List qA:=[oM 0 45 7,oU 1 46 2,oX 2 47 2 2,oW 3 48 47,oB 4 49 .lss 45 48]
def qJX:List qA:=[oU 0 52 2,oX 1 53 2 2,oM 2 54 7,oA 3 55 3 53 54,oP 4 56 (.load (some 3) (.t 55)),oM 5 57 1,oE 6 58 .sub 57 1,oD2 7 59 541 56 58,oM 8 8 59]
def qJY:List qA:=[oM 0 62 6,oM 1 63 8,oB 2 64 .add 62 63,oM 3 6 64]
def qJR:qF:=.seq (.blk 2 (sr qJX (.seq (sr [oM 0 60 8,oE 1 61 .lss 60 0] (.cond (.t 61) (sr [oP 0 4 (.mov (.c (.int .i64 (-1))))] .ret) .skip)) (.reg true qJY)))) (.reg true [oM 0 50 7,oE 1 51 .add 50 1,oM 2 7 51])
def qJS:qF:=sr [oC 0 6 1] (.seq (sr [oC 0 7 0] (.blk 1 (.loop (.seq (sr qJW (.cond (.t 49) .skip (.exit 1))) qJR)))) (sr [oM 0 65 6,oM 1 4 65] .ret))
def qJT:qF:=.seq (sr [oU 0 11 2,oX 1 12 2 0] (.blk 0 (sr [oE 0 14 .eql 12 1,oM 1 13 14] (.cond (.t 13) .skip qJQ)))) (.seq (sr qJV (.cond (.t 44) (sr [oP 0 4 (.mov (.c (.int .i64 (-1))))] .ret) .skip)) qJS)
def Vt:qH:=⟨2,66,[.t 4],sr [oP 0 2 (.lbox 3 (.t 0)),oC 1 4 0] (.seq (sr [oM 0 9 1,oE 1 10 .lss 9 1] (.cond (.t 10) (sr [oP 0 4 (.mov (.c (.int .i64 (-1))))] .ret) .skip)) (sr [oC 0 5 0] qJT))⟩
def qGU:List qA:=[oY 0 3 1 0 3,oP 1 4 (.call 541 [.t 3,.c (.int .i64 6)]),oP 2 5 (.call 340 [.t 4,.c (.int .i64 1),.c (.int .i64 16)]),oM 3 2 5]
def VY:qH:=⟨1,6,[.t 2],sr [oP 0 1 (.lbox 3 (.t 0)),oQ 1 2 false] (sr qGU .ret)⟩
def qDR:List qA:=[oM 0 3 0,oP 1 4 (.bin .eql (.t 3) (.c (.int .u8 32))),oM 2 5 4,oH 3 6 5 false 0,oG 4 7 5 false (.bin .eql (.t 6) (.c (.int .u8 10))),oPt 5 8 5 7,oM 6 9 8,oH 7 10 9 false 0,oG 8 11 9 false (.bin .eql (.t 10) (.c (.int .u8 9))),oPt 9 12 9 11,oM 10 2 12]
def Y0:qH:=⟨1,13,[.t 2],sr [oQ 0 2 false] (sr qDR .ret)⟩
def qC1:List qA:=[oM 0 3 0,oD1 1 4 1241 3,oM 2 5 4,oH 3 6 5 true 0,oG 4 7 5 true (.sidx (.t 6) (.c (.int .i64 0))),oG 5 8 5 true (.bin .geq (.t 7) (.c (.int .u8 97))),oPf 6 9 5 8,oM 7 2 9]
def Yn:qH:=⟨1,10,[.t 2],sr [oQ 0 2 false] (sr qC1 .ret)⟩
def qET:List qA:=[oM 0 5 1,oM 1 6 0,oP 2 7 (.slen (.t 6)),oB 3 8 .lss 5 7,oM 4 9 8,oH 5 10 9 true 0,oH 6 11 9 true 1,oG 7 12 9 true (.sidx (.t 10) (.t 11)),oG 8 13 9 true (.call 1440 [.t 12]),oH 9 14 9 true 13,oH 10 15 14 false 0,oH 11 16 14 false 1,oG 12 17 14 false (.sidx (.t 15) (.t 16)),oG 13 18 14 false (.call 1442 [.t 17]),oG 14 19 9 true (.pick (.t 14) (.c (.bool true)) (.t 18)),oPf 15 20 9 19]
def qES:qF:=.seq (.blk 0 (.loop (.seq (sr qET (.cond (.t 20) .skip (.exit 0))) (.blk 1 (.reg true [oM 0 21 1,oE 1 22 .add 21 1,oM 2 1 22]))))) (sr [oM 0 23 1,oM 1 4 23] .ret)
def VD:qH:=⟨2,24,[.t 4],sr [oC 0 4 0] qES⟩
def qEW:List qA:=[oM 0 5 0,oP 1 6 (.slen (.t 5)),oE 2 7 .gtr 6 10,oM 3 8 7,oH 4 9 8 false 0,oG 5 10 8 false (.slen (.t 9)),oG 6 11 8 false (.bin .gtr (.t 10) (.c (.int .i64 1))),oH 7 12 8 false 11,oH 8 13 12 true 0,oG 9 14 12 true (.sidx (.t 13) (.c (.int .i64 0))),oG 10 15 12 true (.bin .eql (.t 14) (.c (.int .u8 48))),oG 11 16 8 false (.pick (.t 12) (.t 15) (.c (.bool false))),oPt 12 17 8 16]
def qEX:List qA:=[oM 0 18 4,oM 1 19 0,oP 2 20 (.slen (.t 19)),oB 3 21 .lss 18 20]
def qEY:List qA:=[oM 0 24 0,oM 1 25 4,oP 2 26 (.sidx (.t 24) (.t 25)),oD1 3 27 1442 26,oJ 4 28 27]
def qEZ:List qA:=[oM 0 29 3,oP 1 30 (.bin .mul (.c (.int .i64 10)) (.t 29)),oM 2 31 0,oM 3 32 4,oP 4 33 (.sidx (.t 31) (.t 32)),oP 5 34 (.bin .sub (.t 33) (.c (.int .u8 48))),oP 6 35 (.conv .i64 (.t 34)),oB 7 36 .add 30 35,oM 8 3 36]
def qEU:qF:=.seq (sr qEX (.cond (.t 21) .skip (.exit 0))) (.seq (.blk 1 (.seq (sr qEY (.cond (.t 28) (sr [oQ 0 2 false] .ret) .skip)) (.reg true qEZ))) (.reg true [oM 0 22 4,oE 1 23 .add 22 1,oM 2 4 23]))
def qEV:qF:=sr [oC 0 3 0] (.seq (sr [oC 0 4 0] (.blk 0 (.loop qEU))) (sr [oM 0 37 3,oE 1 38 .leq 37 2147483648,oM 2 2 38] .ret))
def VE:qH:=⟨1,39,[.t 2],sr [oQ 0 2 false] (.seq (sr qEW (.cond (.t 17) (sr [oQ 0 2 false] .ret) .skip)) qEV)⟩
def qE1:List qA:=[oM 0 5 4,oM 1 6 3,oP 2 7 (.slen (.t 6)),oB 3 8 .lss 5 7]
def qE2:List qA:=[oM 0 11 3,oM 1 12 4,oP 2 13 (.sidx (.t 11) (.t 12)),oM 3 14 0,oB 4 15 .eql 13 14]
def qE0:qF:=.loop (.seq (sr qE1 (.cond (.t 8) .skip (.exit 0))) (.seq (.blk 1 (sr qE2 (.cond (.t 15) (sr [oQ 0 2 true] .ret) .skip))) (.reg true [oM 0 9 4,oE 1 10 .add 9 1,oM 2 4 10])))
def VF:qH:=⟨1,16,[.t 2],sr [oQ 0 2 false] (sr [oP 0 3 (.mov (.c (.str [43,45,42,47,60,61,40,41,91,93,123,125,44,59,58,46,124,33,92])))] (.seq (sr [oC 0 4 0] (.blk 0 qE0)) (sr [oQ 0 2 false] .ret)))⟩
def qDW:List qA:=[oM 0 8 0,oM 1 9 1,oP 2 10 (.sidx (.t 8) (.t 9)),oM 3 5 10]
def qDX:List qA:=[oM 0 11 5,oD1 1 12 1440 11,oM 2 13 12,oH 3 14 13 false 5,oG 4 15 13 false (.call 1442 [.t 14]),oPt 5 16 13 15]
def qDY:List qA:=[oM 0 17 0,oM 1 18 1,oM 2 19 0,oM 3 20 1,oD2 4 21 1496 19 20,oP 5 22 (.sslc (.t 17) (some (.t 18)) (some (.t 21))),oM 6 6 22]
def qDZ:List qA:=[oM 0 23 6,oM 1 24 1,oP 2 25 (.build (.agg [.int .i64 0,.str [],.int .i64 0]) [(1,1,.t 23),(2,1,.t 24)]),oP 3 7 (.lalloc (.agg [.int .i64 0,.str [],.int .i64 0])),oS 4 7 0 3 25]
def qDS:qF:=.seq (sr [oM 0 35 6,oD1 1 36 1497 35] (.cond (.t 36) (.reg true [oU 0 37 7,oN 1 (.lstore 7 0 1 (.c (.int .i64 4)))]) .skip)) (sr [oY 0 38 7 0 3,oS 1 4 0 3 38] .ret)
def qDT:qF:=.seq (sr [oM 0 29 6,oD1 1 30 1237 29] (.cond (.t 30) (.reg true [oU 0 31 7,oN 1 (.lstore 7 0 1 (.c (.int .i64 1)))]) .skip)) (.seq (sr [oM 0 32 6,oD1 1 33 921 32] (.cond (.t 33) (.reg true [oU 0 34 7,oN 1 (.lstore 7 0 1 (.c (.int .i64 2)))]) .skip)) qDS)
def qDU:qF:=sr qDX (.cond (.t 16) (sr qDY (sr qDZ (.seq (sr [oM 0 26 6,oD1 1 27 1441 26] (.cond (.t 27) (.reg true [oU 0 28 7,oN 1 (.lstore 7 0 1 (.c (.int .i64 3)))]) .skip)) qDT))) .skip)
def qD0:List qA:=[oM 0 39 5,oP 1 40 (.bin .eql (.t 39) (.c (.int .u8 45))),oM 2 41 40,oH 3 42 41 true 1,oG 4 43 41 true (.bin .add (.t 42) (.c (.int .i64 1))),oH 5 44 41 true 0,oG 6 45 41 true (.slen (.t 44)),oG 7 46 41 true (.bin .lss (.t 43) (.t 45)),oPf 8 47 41 46,oM 9 48 47,oH 10 49 48 true 0,oH 11 50 48 true 1,oG 12 51 48 true (.bin .add (.t 50) (.c (.int .i64 1))),oG 13 52 48 true (.sidx (.t 49) (.t 51)),oG 14 53 48 true (.bin .eql (.t 52) (.c (.int .u8 62))),oPf 15 54 48 53]
def qD1:List qA:=[oM 0 59 0,oM 1 60 1,oM 2 61 1,oE 3 62 .add 61 1,oP 4 63 (.sslc (.t 59) (some (.t 60)) (some (.t 62))),oM 5 64 1,oP 6 65 (.build (.agg [.int .i64 0,.str [],.int .i64 0]) [(0,1,.c (.int .i64 5)),(1,1,.t 63),(2,1,.t 64)]),oS 7 4 0 3 65]
def qDV:qF:=.seq (sr qD0 (.cond (.t 54) (sr [oM 0 55 1,oP 1 56 (.build (.agg [.int .i64 0,.str [],.int .i64 0]) [(0,1,.c (.int .i64 5)),(1,1,.c (.str [45,62])),(2,1,.t 55)]),oS 2 4 0 3 56] .ret) .skip)) (.seq (sr [oM 0 57 5,oD1 1 58 1498 57] (.cond (.t 58) (sr qD1 .ret) .skip)) (sr [oP 0 66 (.build (.agg [.int .i64 0,.str [],.int .i64 0]) []),oS 1 4 0 3 66] .ret))
def Y1:qH:=⟨2,67,[.l 4 (some 3)],sr [oP 0 4 (.lalloc (.agg [.int .i64 0,.str [],.int .i64 0]))] (sr qDW (.seq qDU qDV))⟩
def qBN:List qA:=[oM 0 9 6,oM 1 10 0,oP 2 11 (.slen (.t 10)),oB 3 12 .lss 9 11]
def qBO:List qA:=[oM 0 13 0,oM 1 14 6,oP 2 15 (.sidx (.t 13) (.t 14)),oD1 3 16 1393 15]
def qBP:List qA:=[oM 0 19 0,oM 1 20 6,oD2 2 21 1394 19 20,oP 3 7 (.lalloc (.agg [.int .i64 0,.str [],.int .i64 0])),oS 4 7 0 3 21]
def qBQ:List qA:=[oM 0 25 6,oP 1 2 (.mov (.c (.nils))),oM 2 3 25,oQ 3 4 false]
def qBR:List qA:=[oM 0 26 5,oY 1 27 7 0 3,oP 2 28 (.bslice 3 (.agg [.int .i64 0,.str [],.int .i64 0]) 1 [(0,.t 27)]),oP 3 29 (.app 3 (.t 26) (.t 28)),oM 4 5 29]
def qBS:List qA:=[oM 0 30 6,oU 1 31 7,oX 2 32 7 1,oP 3 33 (.slen (.t 32)),oB 4 34 .add 30 33,oM 5 6 34]
def qBL:qF:=.seq (sr qBO (.cond (.t 16) (sr [oM 0 17 6,oE 1 18 .add 17 1,oM 2 6 18] (.exit 1)) .skip)) (sr qBP (.seq (sr [oU 0 22 7,oX 1 23 7 0,oE 2 24 .eql 23 0] (.cond (.t 24) (sr qBQ .ret) .skip)) (sr qBR (.reg true qBS))))
def qBT:List qA:=[oM 0 35 5,oM 1 2 35,oC 2 3 0,oQ 3 4 true]
def qBM:qF:=sr [oP 0 8 (.mov (.c (.lst 3 [] true))),oM 1 5 8] (sr [oC 0 6 0] (.seq (.blk 0 (.loop (.seq (sr qBN (.cond (.t 12) .skip (.exit 0))) (.blk 1 qBL)))) (sr qBT .ret)))
def YW:qH:=⟨1,36,[.t 2,.t 3,.t 4],sr [oP 0 2 (.mov (.c (.nils))),oC 1 3 0,oQ 2 4 false] qBM⟩
def qLW:List qA:=[oM 0 12 0,oD1 1 13 1107 12,oM 2 11 13,oV 3 14 11 0,oV 4 15 11 1,oV 5 16 11 2,oM 6 5 14,oM 7 6 15,oM 8 7 16]
def qLX:List qA:=[oM 0 19 6,oP 1 2 (.mov (.c (.nils))),oM 2 3 19,oC 3 4 6]
def qLY:List qA:=[oM 0 20 5,oM 1 2 20,oC 2 3 0,oC 3 4 0]
def qLV:qF:=.seq (sr [oM 0 8 0,oP 1 9 (.slen (.t 8)),oE 2 10 .gtr 9 20000] (.cond (.t 10) (sr [oP 0 2 (.mov (.c (.nils))),oC 1 3 0,oC 2 4 2] .ret) .skip)) (sr qLW (.seq (sr [oM 0 17 7,oJ 1 18 17] (.cond (.t 18) (sr qLX .ret) .skip)) (sr qLY .ret)))
def UC:qH:=⟨1,21,[.t 2,.t 3,.t 4],sr [oP 0 2 (.mov (.c (.nils))),oC 1 3 0,oC 2 4 0] qLV⟩
def qIB:List qA:=[oM 0 9 0,oD1 1 10 735 9,oM 2 8 10,oV 3 11 8 0,oV 4 12 8 1,oV 5 13 8 2,oM 6 5 11,oM 7 6 12,oM 8 7 13]
def qIC:List qA:=[oM 0 16 6,oM 1 17 7,oP 2 2 (.mov (.c (.nilp))),oM 3 3 16,oM 4 4 17]
def qID:List qA:=[oM 0 18 5,oP 1 19 (.build (.agg [.nils,.int .i64 0,.bool false]) [(0,1,.t 18)]),oP 2 20 (.hbox 3 (.t 19)),oM 3 2 20,oC 4 3 0,oC 5 4 0]
def Vn:qH:=⟨1,21,[.t 2,.t 3,.t 4],sr [oP 0 2 (.mov (.c (.nilp))),oC 1 3 0,oC 2 4 0] (sr qIB (.seq (sr [oM 0 14 7,oE 1 15 .neq 14 0] (.cond (.t 15) (sr qIC .ret) .skip)) (sr qID .ret)))⟩
def qHK:List qA:=[oY 0 5 2 0 3,oY 1 6 3 0 3,oP 2 7 (.bslice 3 (.agg [.int .i64 0,.str [],.nils]) 2 [(0,.t 5),(1,.t 6)]),oP 3 8 (.build (.agg [.int .i64 0,.str [],.nils]) [(0,1,.c (.int .i64 3)),(2,1,.t 7)]),oS 4 4 0 3 8]
def Vf:qH:=⟨2,9,[.l 4 (some 3)],sr [oP 0 2 (.lbox 3 (.t 0)),oP 1 3 (.lbox 3 (.t 1)),oP 2 4 (.lalloc (.agg [.int .i64 0,.str [],.nils]))] (sr qHK .ret)⟩
def qHJ:List qA:=[oY 0 3 1 0 3,oP 1 4 (.bslice 3 (.agg [.int .i64 0,.str [],.nils]) 1 [(0,.t 3)]),oP 2 5 (.build (.agg [.int .i64 0,.str [],.nils]) [(0,1,.c (.int .i64 4)),(2,1,.t 4)]),oS 3 2 0 3 5]
def Ve:qH:=⟨1,6,[.l 2 (some 3)],sr [oP 0 1 (.lbox 3 (.t 0)),oP 1 2 (.lalloc (.agg [.int .i64 0,.str [],.nils]))] (sr qHJ .ret)⟩
def Vg:qH:=⟨0,2,[.l 0 (some 3)],sr [oP 0 0 (.lalloc (.agg [.int .i64 0,.str [],.nils]))] (sr [oP 0 1 (.build (.agg [.int .i64 0,.str [],.nils]) [(0,1,.c (.int .i64 1))]),oS 1 0 0 3 1] .ret)⟩
def Vh:qH:=⟨1,5,[.l 2 (some 3)],sr [oP 0 2 (.lalloc (.agg [.int .i64 0,.str [],.nils]))] (sr [oM 0 3 0,oP 1 4 (.build (.agg [.int .i64 0,.str [],.nils]) [(0,1,.c (.int .i64 2)),(1,1,.t 3)]),oS 2 2 0 3 4] .ret)⟩
def qBU:List qA:=[oM 0 5 0,oK 1 6 5,oF 2 7 2 6,oL 3 8 7,oJ 4 9 8,oM 5 10 9,oH 6 11 10 true 0,oG 7 12 10 true (.nilchk (.t 11)),oG 8 13 10 true (.faddr 1 (.t 12)),oG 9 14 10 true (.load none (.t 13)),oH 10 15 10 true 0,oG 11 16 10 true (.nilchk (.t 15)),oG 12 17 10 true (.faddr 0 (.t 16)),oG 13 18 10 true (.load none (.t 17)),oG 14 19 10 true (.len (.t 18)),oG 15 20 10 true (.bin .lss (.t 14) (.t 19)),oPf 16 21 10 20,oM 17 22 21,oH 18 23 22 true 0,oG 19 24 22 true (.nilchk (.t 23)),oG 20 25 22 true (.faddr 0 (.t 24)),oG 21 26 22 true (.load none (.t 25)),oH 22 27 22 true 0,oG 23 28 22 true (.nilchk (.t 27)),oG 24 29 22 true (.faddr 1 (.t 28)),oG 25 30 22 true (.load none (.t 29)),oG 26 31 22 true (.iaddr 3 (.t 26) (.t 30)),oG 27 32 22 true (.faddr 1 (.t 31)),oG 28 33 22 true (.load none (.t 32)),oH 29 34 22 true 1,oG 30 35 22 true (.sop .eql (.t 33) (.t 34)),oPf 31 36 22 35,oM 32 4 36]
def YX:qH:=⟨2,37,[.t 4],sr [oQ 0 4 false] (sr qBU .ret)⟩
def qL3:List qA:=[oM 0 5 0,oM 1 6 1,oD2 2 7 1108 5 6,oJ 3 8 7]
def qL4:List qA:=[oM 0 9 0,oK 1 10 9,oF 2 11 1 10,oL 3 12 11,oE 4 13 .add 12 1,oK 5 14 9,oF 6 15 1 14,oT 7 1 15 13]
def UD:qH:=⟨2,16,[.t 4],sr [oQ 0 4 false] (.seq (sr qL3 (.cond (.t 8) (sr [oQ 0 4 false] .ret) .skip)) (sr qL4 (sr [oQ 0 4 true] .ret)))⟩
def qB0:List qA:=[oM 0 5 0,oK 1 6 5,oF 2 7 2 6,oL 3 8 7,oJ 4 9 8,oM 5 10 9,oH 6 11 10 true 0,oG 7 12 10 true (.nilchk (.t 11)),oG 8 13 10 true (.faddr 1 (.t 12)),oG 9 14 10 true (.load none (.t 13)),oH 10 15 10 true 0,oG 11 16 10 true (.nilchk (.t 15)),oG 12 17 10 true (.faddr 0 (.t 16)),oG 13 18 10 true (.load none (.t 17)),oG 14 19 10 true (.len (.t 18)),oG 15 20 10 true (.bin .lss (.t 14) (.t 19)),oPf 16 21 10 20,oM 17 22 21,oH 18 23 22 true 0,oG 19 24 22 true (.nilchk (.t 23)),oG 20 25 22 true (.faddr 0 (.t 24)),oG 21 26 22 true (.load none (.t 25)),oH 22 27 22 true 0,oG 23 28 22 true (.nilchk (.t 27)),oG 24 29 22 true (.faddr 1 (.t 28)),oG 25 30 22 true (.load none (.t 29)),oG 26 31 22 true (.iaddr 3 (.t 26) (.t 30)),oG 27 32 22 true (.faddr 0 (.t 31)),oG 28 33 22 true (.load none (.t 32)),oH 29 34 22 true 1,oG 30 35 22 true (.bin .eql (.t 33) (.t 34)),oPf 31 36 22 35,oM 32 4 36]
def Ya:qH:=⟨2,37,[.t 4],sr [oQ 0 4 false] (sr qB0 .ret)⟩
def qMU:List qA:=[oM 0 5 0,oM 1 6 1,oD2 2 7 1185 5 6,oJ 3 8 7]
def qMV:List qA:=[oM 0 9 0,oK 1 10 9,oF 2 11 2 10,oN 3 (.store 1 (.t 11) (.c (.bool true)))]
def qMW:List qA:=[oM 0 12 0,oK 1 13 12,oF 2 14 1 13,oL 3 15 14,oE 4 16 .add 15 1,oK 5 17 12,oF 6 18 1 17,oT 7 1 18 16]
def qMX:List qA:=[oM 0 19 0,oK 1 20 19,oF 2 21 0 20,oL 3 22 21,oM 4 23 0,oK 5 24 23,oF 6 25 1 24,oL 7 26 25,oE 8 27 .sub 26 1,oA 9 28 3 22 27,oF 10 29 1 28,oL 11 30 29,oM 12 4 30]
def UG:qH:=⟨2,31,[.t 4],sr [oP 0 4 (.mov (.c (.str [])))] (.seq (sr qMU (.cond (.t 8) (sr qMV (sr [oP 0 4 (.mov (.c (.str [])))] .ret)) .skip)) (sr qMW (sr qMX .ret)))⟩
def qMY:List qA:=[oM 0 4 0,oM 1 5 1,oD2 2 6 737 4 5,oJ 3 7 6]
def qMZ:List qA:=[oM 0 8 0,oK 1 9 8,oF 2 10 2 9,oN 3 (.store 1 (.t 10) (.c (.bool true)))]
def UH:qH:=⟨2,11,[],sr qMY (.cond (.t 7) (.reg true qMZ) .skip)⟩
def qL1:List qA:=[oM 0 7 0,oD1 1 8 736 7,oD1 2 9 326 8,oS 3 2 0 3 9]
def qL2:List qA:=[oM 0 12 0,oD1 1 13 359 12,oP 2 3 (.lalloc (.agg [.int .i64 0,.str [],.nils])),oS 3 3 0 3 13]
def qLZ:qF:=sr [oM 0 10 0,oP 1 11 (.call 737 [.t 10,.c (.str [40])])] (.cond (.t 11) (sr qL2 (sr [oM 0 14 0,oP 1 15 (.call 872 [.t 14,.c (.str [41])])] (sr [oY 0 16 3 0 3,oS 1 2 0 3 16] .ret))) .skip)
def qL0:qF:=.seq (sr [oM 0 19 4,oP 1 20 (.sop .eql (.t 19) (.c (.str [73,110,116])))] (.cond (.t 20) (sr [oP 0 21 (.call 328 []),oS 1 2 0 3 21] .ret) .skip)) (sr [oM 0 22 4,oD1 1 23 329 22,oS 2 2 0 3 23] .ret)
def Zr:qH:=⟨1,24,[.l 2 (some 3)],sr [oP 0 2 (.lalloc (.agg [.int .i64 0,.str [],.nils]))] (.seq (sr [oM 0 5 0,oP 1 6 (.call 737 [.t 5,.c (.str [33])])] (.cond (.t 6) (sr qL1 .ret) .skip)) (.seq qLZ (sr [oM 0 17 0,oP 1 18 (.call 871 [.t 17,.c (.int .i64 2)]),oM 2 4 18] qL0)))⟩
def qIE:List qA:=[oM 0 4 0,oD1 1 5 736 4,oP 2 3 (.lalloc (.agg [.int .i64 0,.str [],.nils])),oS 3 3 0 3 5]
def qIF:List qA:=[oY 0 8 3 0 3,oM 1 9 0,oD1 2 10 359 9,oD2 3 11 327 8 10,oS 4 2 0 3 11]
def Zq:qH:=⟨1,13,[.l 2 (some 3)],sr [oP 0 2 (.lalloc (.agg [.int .i64 0,.str [],.nils]))] (sr qIE (.seq (sr [oM 0 6 0,oP 1 7 (.call 737 [.t 6,.c (.str [45,62])])] (.cond (.t 7) (sr qIF .ret) .skip)) (sr [oY 0 12 3 0 3,oS 1 2 0 3 12] .ret)))⟩
def qL5:List qA:=[oM 0 5 0,oK 1 6 5,oF 2 7 1 6,oL 3 8 7,oM 4 9 0,oK 5 10 9,oF 6 11 0 10,oL 7 12 11,oW 8 13 12,oB 9 14 .lss 8 13]
def qL6:List qA:=[oM 0 15 0,oK 1 16 15,oF 2 17 0 16,oL 3 18 17,oM 4 19 0,oK 5 20 19,oF 6 21 1 20,oL 7 22 21,oA 8 23 3 18 22,oF 9 24 2 23,oL 10 25 24,oM 11 4 25]
def UE:qH:=⟨2,28,[.t 4],sr [oC 0 4 0] (.seq (sr qL5 (.cond (.t 14) (sr qL6 .ret) .skip)) (sr [oM 0 26 1,oP 1 27 (.slen (.t 26)),oM 2 4 27] .ret))⟩
def qIG:List qA:=[oM 0 6 0,oK 1 7 6,oF 2 8 2 7,oL 3 9 8,oM 4 10 9,oH 5 11 10 false 0,oG 6 12 10 false (.nilchk (.t 11)),oG 7 13 10 false (.faddr 1 (.t 12)),oG 8 14 10 false (.load none (.t 13)),oH 9 15 10 false 0,oG 10 16 10 false (.nilchk (.t 15)),oG 11 17 10 false (.faddr 0 (.t 16)),oG 12 18 10 false (.load none (.t 17)),oG 13 19 10 false (.len (.t 18)),oG 14 20 10 false (.bin .lss (.t 14) (.t 19)),oPt 15 21 10 20]
def qIH:List qA:=[oM 0 22 0,oM 1 23 1,oD2 2 24 738 22 23,oM 3 4 24,oC 4 5 6]
def Vo:qH:=⟨2,25,[.t 4,.t 5],sr [oC 0 4 0,oC 1 5 0] (.seq (sr qIG (.cond (.t 21) (sr qIH .ret) .skip)) (sr [oC 0 4 0,oC 1 5 0] .ret))⟩
def qH1:List qA:=[oM 0 10 0,oW 1 11 10,oM 2 12 1,oW 3 13 12,oB 4 14 .neq 11 13]
def qH2:List qA:=[oM 0 19 17,oA 1 20 3 15 17,oP 2 21 (.load (some 3) (.t 20)),oP 3 8 (.lalloc (.agg [.int .i64 0,.str [],.nils])),oM 4 7 19,oS 5 8 0 3 21]
def qH3:List qA:=[oM 0 22 1,oM 1 23 7,oA 2 24 3 22 23,oP 3 25 (.load (some 3) (.t 24)),oP 4 9 (.lalloc (.agg [.int .i64 0,.str [],.nils])),oS 5 9 0 3 25]
def qH4:List qA:=[oM 0 26 2,oY 1 27 8 0 3,oY 2 28 9 0 3,oP 3 29 (.callv (.t 26) [.t 27,.t 28]),oJ 4 30 29]
def qHZ:qF:=sr [oB 0 18 .lss 17 16] (.seq (.cond (.t 18) .skip (.exit 0)) (.seq (.blk 1 (sr qH2 (sr qH3 (sr qH4 (.cond (.t 30) (sr [oQ 0 6 false] .ret) .skip))))) (.reg true [oE 0 31 .add 17 1,oM 1 17 31])))
def qH0:qF:=.seq (sr qH1 (.cond (.t 14) (sr [oQ 0 6 false] .ret) .skip)) (.seq (sr [oM 0 15 0,oW 1 16 15,oC 2 17 0] (.blk 0 (.loop qHZ))) (sr [oQ 0 6 true] .ret))
def Vj:qH:=⟨3,32,[.t 6],sr [oQ 0 6 false] qH0⟩
def qL7:List qA:=[oU 0 5 2,oX 1 6 2 0,oU 2 7 3,oX 3 8 3 0,oB 4 9 .eql 6 8,oM 5 10 9,oG 6 11 10 true (.nop 2),oG 7 12 10 true (.lload 2 1 none),oG 8 13 10 true (.nop 3),oG 9 14 10 true (.lload 3 1 none),oG 10 15 10 true (.sop .eql (.t 12) (.t 14)),oPf 11 16 10 15,oM 12 17 16,oG 13 18 17 true (.nop 2),oG 14 19 17 true (.lload 2 2 none),oG 15 20 17 true (.nop 3),oG 16 21 17 true (.lload 3 2 none),oG 17 22 17 true (.call 332 [.t 19,.t 21,.f 73]),oPf 18 23 17 22,oM 19 4 23]
def F73:qH:=⟨2,24,[.t 4],sr [oP 0 2 (.lbox 3 (.t 0)),oP 1 3 (.lbox 3 (.t 1)),oQ 2 4 false] (sr qL7 .ret)⟩
def qAZ:qF:=sr [oE 0 9 .eql 4 4,oM 1 8 9] (.cond (.t 8) .skip (sr [oE 0 10 .eql 4 6,oM 1 8 10] (.cond (.t 8) .skip (.reg true [oE 0 11 .eql 4 10,oM 1 8 11]))))
def qA0:qF:=sr [oE 0 13 .eql 4 3,oM 1 12 13] (.cond (.t 12) .skip (sr [oE 0 14 .eql 4 5,oM 1 12 14] (.cond (.t 12) .skip (.reg true [oE 0 15 .eql 4 7,oM 1 12 15]))))
def qA1:qF:=.cond (.t 18) (sr [oC 0 2 2,oC 1 3 5] .ret) (sr [oE 0 21 .eql 4 11,oM 1 20 21] (.cond (.t 20) (sr [oC 0 2 3,oC 1 3 3] .ret) .skip))
def qA2:qF:=sr [oE 0 17 .eql 4 8,oM 1 16 17] (.cond (.t 16) (sr [oC 0 2 0,oC 1 3 3] .ret) (sr [oE 0 19 .eql 4 9,oM 1 18 19] qA1))
def qA3:qF:=.cond (.t 5) (sr [oC 0 2 0,oC 1 3 0] .ret) (.seq qAZ (.cond (.t 8) (sr [oC 0 2 1,oC 1 3 1] .ret) (.seq qA0 (.cond (.t 12) (sr [oC 0 2 2,oC 1 3 2] .ret) qA2))))
def qA4:qF:=.seq (sr [oM 0 4 0] (.blk 0 (.seq (sr [oE 0 6 .eql 4 1,oM 1 5 6] (.cond (.t 5) .skip (.reg true [oE 0 7 .eql 4 2,oM 1 5 7]))) qA3))) (sr [oC 0 2 0,oP 1 3 (.mov (.c (.int .i64 (-1))))] .ret)
def YT:qH:=⟨1,22,[.t 2,.t 3],sr [oC 0 2 0,oC 1 3 0] qA4⟩
def qDN:List qA:=[oU 0 3 1,oX 1 4 1 0,oE 2 5 .eql 4 0,oM 3 6 5,oG 4 7 6 true (.nop 1),oG 5 8 6 true (.lload 1 1 none),oG 6 9 6 true (.sop .eql (.t 8) (.c (.str []))),oPf 7 10 6 9,oM 8 11 10,oG 9 12 11 true (.nop 1),oG 10 13 11 true (.lload 1 2 none),oG 11 14 11 true (.len (.t 13)),oG 12 15 11 true (.bin .eql (.t 14) (.c (.int .i64 0))),oPf 13 16 11 15,oM 14 2 16]
def Yy:qH:=⟨1,17,[.t 2],sr [oP 0 1 (.lbox 3 (.t 0)),oQ 1 2 false] (sr qDN .ret)⟩
def qLT:List qA:=[oM 0 6 0,oW 1 7 6,oE 2 8 .sub 7 1,oM 3 5 8]
def qLU:List qA:=[oM 0 13 0,oM 1 14 5,oA 2 15 1 13 14,oL 3 16 15,oM 4 17 1,oP 5 18 (.sop .eql (.t 16) (.t 17))]
def qLS:qF:=.seq (sr [oM 0 9 5,oE 1 10 .geq 9 0] (.cond (.t 10) .skip (.exit 0))) (.seq (.blk 1 (sr qLU (.cond (.t 18) (sr [oM 0 19 5,oM 1 4 19] .ret) .skip))) (.reg true [oM 0 11 5,oE 1 12 .sub 11 1,oM 2 5 12]))
def UA:qH:=⟨2,20,[.t 4],sr [oC 0 4 0] (.seq (sr qLT (.blk 0 (.loop qLS))) (sr [oP 0 4 (.mov (.c (.int .i64 (-1))))] .ret))⟩
def qDP:List qA:=[oM 0 4 3,oM 1 5 0,oW 2 6 5,oB 3 7 .lss 4 6]
def qDQ:List qA:=[oM 0 10 0,oM 1 11 3,oA 2 12 1 10 11,oL 3 13 12,oD1 4 14 1237 13,oJ 5 15 14,oM 6 16 15,oH 7 17 16 false 0,oH 8 18 16 false 3,oG 9 19 16 false (.slc 1 (.t 17) none (some (.t 18)) none),oH 10 20 16 false 0,oH 11 21 16 false 3,oG 12 22 16 false (.iaddr 1 (.t 20) (.t 21)),oG 13 23 16 false (.load none (.t 22)),oG 14 24 16 false (.call 729 [.t 19,.t 23]),oG 15 25 16 false (.bin .geq (.t 24) (.c (.int .i64 0))),oPt 16 26 16 25]
def qDO:qF:=.loop (.seq (sr qDP (.cond (.t 7) .skip (.exit 0))) (.seq (.blk 1 (sr qDQ (.cond (.t 26) (sr [oQ 0 2 false] .ret) .skip))) (.reg true [oM 0 8 3,oE 1 9 .add 8 1,oM 2 3 9])))
def Yz:qH:=⟨1,27,[.t 2],sr [oQ 0 2 false] (.seq (sr [oC 0 3 0] (.blk 0 qDO)) (sr [oQ 0 2 true] .ret))⟩
def qA7:List qA:=[oM 0 5 0,oK 1 6 5,oF 2 7 0 6,oL 3 8 7,oE 4 9 .eql 8 1,oM 5 10 9,oH 6 11 10 false 0,oG 7 12 10 false (.nilchk (.t 11)),oG 8 13 10 false (.faddr 0 (.t 12)),oG 9 14 10 false (.load none (.t 13)),oG 10 15 10 false (.bin .eql (.t 14) (.c (.int .i64 4))),oPt 11 16 10 15,oM 12 17 16,oH 13 18 17 false 0,oG 14 19 17 false (.nilchk (.t 18)),oG 15 20 17 false (.faddr 0 (.t 19)),oG 16 21 17 false (.load none (.t 20)),oG 17 22 17 false (.bin .eql (.t 21) (.c (.int .i64 7))),oPt 18 23 17 22,oM 19 3 23]
def qA8:List qA:=[oM 0 24 0,oK 1 25 24,oF 2 26 0 25,oL 3 27 26,oE 4 28 .eql 27 8,oM 5 29 28,oH 6 30 29 false 0,oG 7 31 29 false (.nilchk (.t 30)),oG 8 32 29 false (.faddr 0 (.t 31)),oG 9 33 29 false (.load none (.t 32)),oG 10 34 29 false (.bin .eql (.t 33) (.c (.int .i64 10))),oPt 11 35 29 34,oM 12 4 35]
def qBA:List qA:=[oM 0 36 3,oM 1 37 36,oH 2 38 37 true 0,oG 3 39 37 true (.nilchk (.t 38)),oG 4 40 37 true (.faddr 2 (.t 39)),oG 5 41 37 true (.load none (.t 40)),oG 6 42 37 true (.call 1237 [.t 41]),oG 7 43 37 true (.not (.t 42)),oPf 8 44 37 43,oM 9 45 44,oH 10 46 45 false 4,oH 11 47 45 false 46,oH 12 48 47 true 0,oG 13 49 47 true (.nilchk (.t 48)),oG 14 50 47 true (.faddr 2 (.t 49)),oG 15 51 47 true (.load none (.t 50)),oG 16 52 47 true (.call 921 [.t 51]),oG 17 53 47 true (.not (.t 52)),oG 18 54 45 false (.pick (.t 47) (.t 53) (.c (.bool false))),oPt 19 55 45 54,oM 20 56 55,oH 21 57 56 false 3,oG 22 58 56 false (.not (.t 57)),oH 23 59 56 false 58,oH 24 60 59 true 4,oG 25 61 59 true (.not (.t 60)),oG 26 62 56 false (.pick (.t 59) (.t 61) (.c (.bool false))),oH 27 63 56 false 62,oH 28 64 63 true 0,oG 29 65 63 true (.nilchk (.t 64)),oG 30 66 63 true (.faddr 2 (.t 65)),oG 31 67 63 true (.load none (.t 66)),oG 32 68 63 true (.sop .neq (.t 67) (.c (.str []))),oG 33 69 56 false (.pick (.t 63) (.t 68) (.c (.bool false))),oPt 34 70 56 69]
def qBB:List qA:=[oM 0 71 0,oK 1 72 71,oF 2 73 0 72,oL 3 74 73,oE 4 75 .eql 74 4,oM 5 76 75,oH 6 77 76 true 0,oG 7 78 76 true (.nilchk (.t 77)),oG 8 79 76 true (.faddr 3 (.t 78)),oG 9 80 76 true (.load (some 3) (.t 79)),oG 10 81 76 true (.call 208 [.t 80]),oG 11 82 76 true (.not (.t 81)),oPf 12 83 76 82,oM 13 84 83,oH 14 85 84 false 0,oG 15 86 84 false (.nilchk (.t 85)),oG 16 87 84 false (.faddr 0 (.t 86)),oG 17 88 84 false (.load none (.t 87)),oG 18 89 84 false (.bin .neq (.t 88) (.c (.int .i64 4))),oH 19 90 84 false 89,oH 20 91 90 true 0,oG 21 92 90 true (.nilchk (.t 91)),oG 22 93 90 true (.faddr 3 (.t 92)),oG 23 94 90 true (.load (some 3) (.t 93)),oG 24 95 90 true (.call 1391 [.t 94]),oG 25 96 90 true (.not (.t 95)),oG 26 97 84 false (.pick (.t 90) (.t 96) (.c (.bool false))),oPt 27 98 84 97]
def qBC:List qA:=[oM 0 99 0,oK 1 100 99,oF 2 101 0 100,oL 3 102 101,oE 4 103 .eql 102 10]
def qBD:List qA:=[oM 0 104 0,oK 1 105 104,oF 2 106 6 105,oL 3 107 106,oW 4 108 107,oE 5 109 .gtr 108 3,oM 6 110 109,oH 7 111 110 false 0,oG 8 112 110 false (.nilchk (.t 111)),oG 9 113 110 false (.faddr 6 (.t 112)),oG 10 114 110 false (.load none (.t 113)),oG 11 115 110 false (.call 1392 [.t 114]),oG 12 116 110 false (.not (.t 115)),oPt 13 117 110 116]
def qBE:List qA:=[oM 0 118 0,oK 1 119 118,oF 2 120 6 119,oL 3 121 120,oW 4 122 121,oE 5 123 .gtr 122 0]
def qBF:List qA:=[oM 0 124 0,oK 1 125 124,oF 2 126 0 125,oL 3 127 126]
def qBG:List qA:=[oM 0 130 0,oK 1 131 130,oF 2 132 1 131,oL 3 133 132,oP 4 134 (.call 340 [.t 133,.c (.int .i64 (-2147483648)),.c (.int .i64 2147483647)]),oM 5 2 134]
def qBH:List qA:=[oM 0 137 0,oK 1 138 137,oF 2 139 1 138,oL 3 140 139,oP 4 141 (.call 340 [.t 140,.c (.int .i64 1),.c (.int .i64 6)]),oM 5 2 141]
def qA5:qF:=sr qBF (.blk 0 (sr [oE 0 129 .eql 127 2,oM 1 128 129] (.cond (.t 128) (sr qBG .ret) (sr [oE 0 136 .eql 127 3,oM 1 135 136] (.cond (.t 135) (sr qBH .ret) .skip)))))
def qA9:List qA:=[oM 0 142 0,oK 1 143 142,oF 2 144 1 143,oL 3 145 144,oE 4 146 .eql 145 0,oM 5 2 146]
def qA6:qF:=.seq (sr qBB (.cond (.t 98) (sr [oQ 0 2 false] .ret) .skip)) (.seq (sr qBC (.cond (.t 103) (sr qBD (.cond (.t 117) (sr [oQ 0 2 false] .ret) .skip)) (sr qBE (.cond (.t 123) (sr [oQ 0 2 false] .ret) .skip)))) (.seq qA5 (sr qA9 .ret)))
def YU:qH:=⟨1,147,[.t 2],sr [oQ 0 2 false] (sr qA7 (sr qA8 (.seq (sr qBA (.cond (.t 70) (sr [oQ 0 2 false] .ret) .skip)) qA6)))⟩
def qLN:List qA:=[oM 0 15 0,oK 1 16 15,oF 2 17 0 16,oL 3 18 17,oD1 4 19 1104 18,oM 5 14 19,oV 6 20 14 0,oV 7 21 14 1,oM 8 9 20,oM 9 10 21]
def qLO:List qA:=[oM 0 22 1,oE 1 23 .lss 22 1,oM 2 24 23,oH 3 25 24 false 3,oG 4 26 24 false (.bin .lss (.t 25) (.c (.int .i64 1))),oPt 5 27 24 26,oM 6 28 27,oH 7 29 28 false 0,oG 8 30 28 false (.nilchk (.t 29)),oG 9 31 28 false (.faddr 0 (.t 30)),oG 10 32 28 false (.load none (.t 31)),oG 11 33 28 false (.bin .eql (.t 32) (.c (.int .i64 10))),oH 12 34 28 false 2,oG 13 35 28 false (.beq true (.t 33) (.t 34)),oPt 14 36 28 35,oM 15 37 36,oH 16 38 37 false 0,oG 17 39 37 false (.nilchk (.t 38)),oG 18 40 37 false (.faddr 7 (.t 39)),oG 19 41 37 false (.load none (.t 40)),oG 20 42 37 false (.len (.t 41)),oH 21 43 37 false 9,oH 22 44 37 false 10,oG 23 45 37 false (.call 340 [.t 42,.t 43,.t 44]),oG 24 46 37 false (.not (.t 45)),oPt 25 47 37 46,oM 26 48 47,oH 27 49 48 false 0,oG 28 50 48 false (.call 1105 [.t 49]),oG 29 51 48 false (.not (.t 50)),oPt 30 52 48 51]
def qLP:List qA:=[oM 0 53 12,oM 1 54 0,oK 2 55 54,oF 3 56 7 55,oL 4 57 56,oW 5 58 57,oB 6 59 .lss 53 58]
def qLQ:List qA:=[oM 0 62 0,oK 1 63 62,oF 2 64 7 63,oL 3 65 64,oM 4 66 12,oA 5 67 8 65 66,oM 6 68 1,oE 7 69 .sub 68 1,oM 8 70 0,oK 9 71 70,oF 10 72 0 71,oL 11 73 72,oE 12 74 .eql 73 9,oM 13 75 74,oH 14 76 75 true 12,oG 15 77 75 true (.bin .gtr (.t 76) (.c (.int .i64 0))),oPf 16 78 75 77,oM 17 79 3,oM 18 80 11,oB 19 81 .sub 79 80,oP 20 82 (.call 728 [.t 67,.t 69,.t 78,.t 81]),oM 21 13 82]
def qLR:List qA:=[oM 0 85 11,oM 1 86 13,oB 2 87 .add 85 86,oM 3 11 87]
def qLL:qF:=.seq (.blk 1 (sr qLQ (.seq (sr [oM 0 83 13,oE 1 84 .lss 83 0] (.cond (.t 84) (sr [oP 0 8 (.mov (.c (.int .i64 (-1))))] .ret) .skip)) (.reg true qLR)))) (.reg true [oM 0 60 12,oE 1 61 .add 60 1,oM 2 12 61])
def qLM:qF:=sr [oC 0 11 1] (.seq (sr [oC 0 12 0] (.blk 0 (.loop (.seq (sr qLP (.cond (.t 59) .skip (.exit 0))) qLL)))) (sr [oM 0 88 11,oM 1 8 88] .ret))
def V9:qH:=⟨4,89,[.t 8],sr [oC 0 8 0] (sr qLN (.seq (sr qLO (.cond (.t 52) (sr [oP 0 8 (.mov (.c (.int .i64 (-1))))] .ret) .skip)) qLM))⟩
def qIA:List qA:=[oM 0 3 0,oP 1 4 (.call 728 [.t 3,.c (.int .i64 24),.c (.bool false),.c (.int .i64 160)]),oE 2 5 .gtr 4 0,oM 3 2 5]
def Vm:qH:=⟨1,6,[.t 2],sr [oQ 0 2 false] (sr qIA .ret)⟩
def VC:qH:=⟨0,2,[.t 0],sr [oP 0 0 (.mov (.c (.nils)))] (sr [oP 0 1 (.bslice 1 (.str []) 6 [(0,.c (.str [43])),(1,.c (.str [45])),(2,.c (.str [42])),(3,.c (.str [47])),(4,.c (.str [60])),(5,.c (.str [61]))]),oM 1 0 1] .ret)⟩
def qD6:List qA:=[oM 0 4 3,oP 1 5 (.call 1470 []),oW 2 6 5,oB 3 7 .lss 4 6]
def qD7:List qA:=[oP 0 10 (.call 1470 []),oM 1 11 3,oA 2 12 1 10 11,oL 3 13 12,oM 4 14 0,oP 5 15 (.sop .eql (.t 13) (.t 14))]
def qD5:qF:=.seq (.blk 1 (sr qD7 (.cond (.t 15) (sr [oM 0 16 3,oE 1 17 .add 16 1,oM 2 2 17] .ret) .skip))) (.reg true [oM 0 8 3,oE 1 9 .add 8 1,oM 2 3 9])
def Y3:qH:=⟨1,18,[.t 2],sr [oC 0 2 0] (.seq (sr [oC 0 3 0] (.blk 0 (.loop (.seq (sr qD6 (.cond (.t 7) .skip (.exit 0))) qD5)))) (sr [oC 0 2 0] .ret))⟩
def qB5:List qA:=[oM 0 8 0,oK 1 9 8,oF 2 10 2 9,oL 3 11 10,oM 4 12 11,oH 5 13 12 false 0,oG 6 14 12 false (.nilchk (.t 13)),oG 7 15 12 false (.faddr 1 (.t 14)),oG 8 16 12 false (.load none (.t 15)),oH 9 17 12 false 0,oG 10 18 12 false (.nilchk (.t 17)),oG 11 19 12 false (.faddr 0 (.t 18)),oG 12 20 12 false (.load none (.t 19)),oG 13 21 12 false (.len (.t 20)),oG 14 22 12 false (.bin .geq (.t 16) (.t 21)),oPt 15 23 12 22]
def qB6:List qA:=[oM 0 24 0,oK 1 25 24,oF 2 26 0 25,oL 3 27 26,oM 4 28 0,oK 5 29 28,oF 6 30 1 29,oL 7 31 30,oA 8 32 3 27 31,oF 9 33 1 32,oL 10 34 33,oD1 11 35 1424 34,oM 12 7 35]
def qB7:List qA:=[oM 0 36 7,oM 1 37 1,oM 2 38 2,oP 3 39 (.call 340 [.t 36,.t 37,.t 38]),oJ 4 40 39]
def qB8:List qA:=[oM 0 41 0,oK 1 42 41,oF 2 43 1 42,oL 3 44 43,oE 4 45 .add 44 1,oK 5 46 41,oF 6 47 1 46,oT 7 1 47 45]
def qB4:qF:=.seq (sr qB5 (.cond (.t 23) (sr [oC 0 6 0] .ret) .skip)) (sr qB6 (.seq (sr qB7 (.cond (.t 40) (sr [oC 0 6 0] .ret) .skip)) (sr qB8 (sr [oM 0 48 7,oM 1 6 48] .ret))))
def Yc:qH:=⟨3,49,[.t 6],sr [oC 0 6 0] qB4⟩
def qDK:List qA:=[oM 0 3 0,oK 1 4 3,oF 2 5 2 4,oL 3 6 5]
def Yw:qH:=⟨1,10,[.l 2 (some 8)],sr [oP 0 2 (.lalloc (.agg [.int .i64 0,.int .i64 0,.str [],.int .i64 0,.str [],.nils,.nils,.nils]))] (.seq (sr qDK (.cond (.t 6) (sr [oP 0 7 (.build (.agg [.int .i64 0,.int .i64 0,.str [],.int .i64 0,.str [],.nils,.nils,.nils]) []),oS 1 2 0 8 7] .ret) .skip)) (sr [oM 0 8 0,oD1 1 9 509 8,oS 2 2 0 8 9] .ret))⟩
def qFV:List qA:=[oM 0 4 0,oP 1 5 (.call 871 [.t 4,.c (.int .i64 2)]),oP 2 6 (.build (.agg [.int .i64 0,.int .i64 0,.str [],.int .i64 0,.str [],.nils,.nils,.nils]) [(0,1,.c (.int .i64 8)),(2,1,.t 5)]),oP 3 3 (.lalloc (.agg [.int .i64 0,.int .i64 0,.str [],.int .i64 0,.str [],.nils,.nils,.nils])),oS 4 3 0 8 6]
def qFW:List qA:=[oU 0 11 3,oX 1 12 3 7,oM 2 13 0,oD1 3 14 509 13,oP 4 15 (.bslice 8 (.agg [.int .i64 0,.int .i64 0,.str [],.int .i64 0,.str [],.nils,.nils,.nils]) 1 [(0,.t 14)]),oP 5 16 (.app 8 (.t 12) (.t 15)),oU 6 17 3,oS 7 3 7 1 16]
def qFX:List qA:=[oU 0 20 3,oX 1 21 3 7,oM 2 22 0,oD1 3 23 509 22,oP 4 24 (.bslice 8 (.agg [.int .i64 0,.int .i64 0,.str [],.int .i64 0,.str [],.nils,.nils,.nils]) 1 [(0,.t 23)]),oP 5 25 (.app 8 (.t 21) (.t 24)),oU 6 26 3,oS 7 3 7 1 25]
def qFT:qF:=.seq (.blk 0 (.loop (.seq (sr [oM 0 18 0,oP 1 19 (.call 737 [.t 18,.c (.str [44])])] (.cond (.t 19) .skip (.exit 0))) (.blk 1 (.reg true qFX))))) (sr [oM 0 27 0,oP 1 28 (.call 872 [.t 27,.c (.str [93])])] (sr [oY 0 29 3 0 8,oS 1 2 0 8 29] .ret))
def qFU:qF:=sr qFV (.seq (sr [oM 0 7 0,oP 1 8 (.call 737 [.t 7,.c (.str [91])]),oJ 2 9 8] (.cond (.t 9) (sr [oY 0 10 3 0 8,oS 1 2 0 8 10] .ret) .skip)) (sr qFW qFT))
def VN:qH:=⟨1,30,[.l 2 (some 8)],sr [oP 0 2 (.lalloc (.agg [.int .i64 0,.int .i64 0,.str [],.int .i64 0,.str [],.nils,.nils,.nils]))] qFU⟩
def qF0:List qA:=[oM 0 10 7,oM 1 11 5,oP 2 12 (.slen (.t 11)),oB 3 13 .lss 10 12]
def qF1:List qA:=[oM 0 16 6,oP 1 17 (.bin .mul (.c (.int .i64 10)) (.t 16)),oM 2 18 5,oM 3 19 7,oP 4 20 (.sidx (.t 18) (.t 19)),oP 5 21 (.bin .sub (.t 20) (.c (.int .u8 48))),oP 6 22 (.conv .i64 (.t 21)),oB 7 23 .add 17 22,oM 8 6 23]
def qFY:qF:=sr [oC 0 7 0] (.blk 0 (.loop (.seq (sr qF0 (.cond (.t 13) .skip (.exit 0))) (.seq (.blk 1 (.reg true qF1)) (.reg true [oM 0 14 7,oE 1 15 .add 14 1,oM 2 7 15])))))
def qF2:List qA:=[oM 0 27 0,oK 1 28 27,oF 2 29 1 28,oL 3 30 29,oE 4 31 .sub 30 1,oK 5 32 27,oF 6 33 1 32,oT 7 1 33 31]
def qF3:List qA:=[oM 0 34 0,oK 1 35 34,oF 2 36 2 35,oN 3 (.store 1 (.t 36) (.c (.bool true)))]
def qFZ:qF:=.seq (sr [oM 0 24 6,oM 1 25 1,oB 2 26 .gtr 24 25] (.cond (.t 26) (sr qF2 (.reg true qF3)) .skip)) (sr [oM 0 37 6,oM 1 4 37] .ret)
def VO:qH:=⟨2,38,[.t 4],sr [oC 0 4 0] (sr [oM 0 8 0,oP 1 9 (.call 871 [.t 8,.c (.int .i64 4)]),oM 2 5 9] (sr [oC 0 6 0] (.seq qFY qFZ)))⟩
def qGM:List qA:=[oM 0 4 0,oP 1 5 (.call 871 [.t 4,.c (.int .i64 2)]),oP 2 6 (.build (.agg [.int .i64 0,.int .i64 0,.str [],.int .i64 0,.str [],.nils,.nils,.nils]) [(0,1,.c (.int .i64 10)),(2,1,.t 5)]),oP 3 3 (.lalloc (.agg [.int .i64 0,.int .i64 0,.str [],.int .i64 0,.str [],.nils,.nils,.nils])),oS 4 3 0 8 6]
def qGN:List qA:=[oU 0 9 3,oX 1 10 3 6,oM 2 11 0,oP 3 12 (.call 871 [.t 11,.c (.int .i64 1)]),oP 4 13 (.bslice 1 (.str []) 1 [(0,.t 12)]),oP 5 14 (.app 1 (.t 10) (.t 13)),oU 6 15 3,oS 7 3 6 1 14]
def qGO:List qA:=[oU 0 18 3,oX 1 19 3 6,oM 2 20 0,oP 3 21 (.call 871 [.t 20,.c (.int .i64 1)]),oP 4 22 (.bslice 1 (.str []) 1 [(0,.t 21)]),oP 5 23 (.app 1 (.t 19) (.t 22)),oU 6 24 3,oS 7 3 6 1 23]
def qGK:qF:=.seq (.blk 0 (.loop (.seq (sr [oM 0 16 0,oP 1 17 (.call 737 [.t 16,.c (.str [44])])] (.cond (.t 17) .skip (.exit 0))) (.blk 1 (.reg true qGO))))) (.reg true [oM 0 25 0,oP 1 26 (.call 872 [.t 25,.c (.str [93])])])
def qGP:List qA:=[oM 0 29 0,oD1 1 30 1333 29,oP 2 31 (.bslice 8 (.agg [.int .i64 0,.int .i64 0,.str [],.int .i64 0,.str [],.nils,.nils,.nils]) 1 [(0,.t 30)]),oU 3 32 3,oS 4 3 7 1 31]
def qGL:qF:=.seq (sr [oM 0 7 0,oP 1 8 (.call 737 [.t 7,.c (.str [91])])] (.cond (.t 8) (sr qGN qGK) .skip)) (sr [oM 0 27 0,oP 1 28 (.call 872 [.t 27,.c (.str [45,62])])] (sr qGP (sr [oY 0 33 3 0 8,oS 1 2 0 8 33] .ret)))
def VV:qH:=⟨1,34,[.l 2 (some 8)],sr [oP 0 2 (.lalloc (.agg [.int .i64 0,.int .i64 0,.str [],.int .i64 0,.str [],.nils,.nils,.nils]))] (sr qGM qGL)⟩
def qF5:List qA:=[oM 0 6 0,oD1 1 7 509 6,oP 2 8 (.bslice 8 (.agg [.int .i64 0,.int .i64 0,.str [],.int .i64 0,.str [],.nils,.nils,.nils]) 1 [(0,.t 7)]),oP 3 9 (.build (.agg [.int .i64 0,.int .i64 0,.str [],.int .i64 0,.str [],.nils,.nils,.nils]) [(0,1,.c (.int .i64 9)),(7,1,.t 8)]),oP 4 3 (.lalloc (.agg [.int .i64 0,.int .i64 0,.str [],.int .i64 0,.str [],.nils,.nils,.nils])),oS 5 3 0 8 9]
def qF6:List qA:=[oU 0 12 3,oX 1 13 3 7,oM 2 14 0,oD1 3 15 1559 14,oP 4 16 (.bslice 8 (.agg [.int .i64 0,.int .i64 0,.str [],.int .i64 0,.str [],.nils,.nils,.nils]) 1 [(0,.t 15)]),oP 5 17 (.app 8 (.t 13) (.t 16)),oU 6 18 3,oS 7 3 7 1 17]
def qF7:List qA:=[oU 0 21 3,oX 1 22 3 7,oM 2 23 0,oD1 3 24 1559 23,oP 4 25 (.bslice 8 (.agg [.int .i64 0,.int .i64 0,.str [],.int .i64 0,.str [],.nils,.nils,.nils]) 1 [(0,.t 24)]),oP 5 26 (.app 8 (.t 22) (.t 25)),oU 6 27 3,oS 7 3 7 1 26]
def qF4:qF:=.seq (.blk 0 (.loop (.seq (sr [oM 0 19 0,oP 1 20 (.call 737 [.t 19,.c (.str [59])])] (.cond (.t 20) .skip (.exit 0))) (.blk 1 (.reg true qF7))))) (sr [oM 0 28 0,oP 1 29 (.call 872 [.t 28,.c (.str [125])])] (sr [oY 0 30 3 0 8,oS 1 2 0 8 30] .ret))
def VP:qH:=⟨1,31,[.l 2 (some 8)],sr [oP 0 2 (.lalloc (.agg [.int .i64 0,.int .i64 0,.str [],.int .i64 0,.str [],.nils,.nils,.nils]))] (sr [oM 0 4 0,oP 1 5 (.call 872 [.t 4,.c (.str [109,97,116,99,104])])] (sr qF5 (sr [oM 0 10 0,oP 1 11 (.call 872 [.t 10,.c (.str [123])])] (sr qF6 qF4))))⟩
def qFE:List qA:=[oM 0 7 0,oD1 1 8 1537 7,oP 2 9 (.bslice 8 (.agg [.int .i64 0,.int .i64 0,.str [],.int .i64 0,.str [],.nils,.nils,.nils]) 1 [(0,.t 8)]),oP 3 10 (.build (.agg [.int .i64 0,.int .i64 0,.str [],.int .i64 0,.str [],.nils,.nils,.nils]) [(0,1,.c (.int .i64 6)),(7,1,.t 9)]),oS 4 2 0 8 10]
def qFF:List qA:=[oM 0 14 0,oP 1 15 (.call 871 [.t 14,.c (.int .i64 1)]),oP 2 16 (.build (.agg [.int .i64 0,.int .i64 0,.str [],.int .i64 0,.str [],.nils,.nils,.nils]) [(0,1,.c (.int .i64 1)),(2,1,.t 15)]),oS 3 2 0 8 16]
def qFG:List qA:=[oM 0 25 0,oP 1 26 (.call 1551 [.t 25,.c (.int .i64 2147483647)]),oP 2 27 (.build (.agg [.int .i64 0,.int .i64 0,.str [],.int .i64 0,.str [],.nils,.nils,.nils]) [(0,1,.c (.int .i64 2)),(1,1,.t 26)]),oS 3 2 0 8 27]
def qE9:qF:=.cond (.t 22) (sr qFG .ret) (sr [oM 0 29 0,oP 1 30 (.call 1108 [.t 29,.c (.str [109,97,116,99,104])]),oM 2 28 30] (.cond (.t 28) (sr [oM 0 31 0,oD1 1 32 1552 31,oS 2 2 0 8 32] .ret) .skip))
def qFA:qF:=sr [oM 0 18 0,oP 1 19 (.call 1185 [.t 18,.c (.int .i64 2)]),oM 2 17 19] (.cond (.t 17) (sr [oM 0 20 0,oD1 1 21 1550 20,oS 2 2 0 8 21] .ret) (sr [oM 0 23 0,oP 1 24 (.call 1185 [.t 23,.c (.int .i64 4)]),oM 2 22 24] qE9))
def qFH:List qA:=[oM 0 41 3,oP 1 42 (.neg (.t 41)),oP 2 43 (.build (.agg [.int .i64 0,.int .i64 0,.str [],.int .i64 0,.str [],.nils,.nils,.nils]) [(0,1,.c (.int .i64 2)),(1,1,.t 42)]),oS 3 2 0 8 43]
def qFB:qF:=sr [oM 0 35 0,oP 1 36 (.call 737 [.t 35,.c (.str [45])])] (.cond (.t 36) (sr [oM 0 37 0,oP 1 38 (.call 1551 [.t 37,.c (.int .i64 2147483648)]),oM 2 3 38] (sr [oM 0 39 0,oP 1 40 (.call 872 [.t 39,.c (.str [41])])] (sr qFH .ret))) .skip)
def qFI:List qA:=[oM 0 44 0,oD1 1 45 1333 44,oP 2 4 (.lalloc (.agg [.int .i64 0,.int .i64 0,.str [],.int .i64 0,.str [],.nils,.nils,.nils])),oS 3 4 0 8 45]
def qFC:qF:=sr [oM 0 33 0,oP 1 34 (.call 872 [.t 33,.c (.str [40])])] (.seq qFB (sr qFI (sr [oM 0 46 0,oP 1 47 (.call 872 [.t 46,.c (.str [41])])] (sr [oY 0 48 4 0 8,oS 1 2 0 8 48] .ret))))
def qFD:qF:=.seq (sr [oM 0 5 0,oP 1 6 (.call 737 [.t 5,.c (.str [33])])] (.cond (.t 6) (sr qFE .ret) .skip)) (.seq (.blk 0 (sr [oM 0 12 0,oP 1 13 (.call 1185 [.t 12,.c (.int .i64 1)]),oM 2 11 13] (.cond (.t 11) (sr qFF .ret) qFA))) qFC)
def VJ:qH:=⟨1,49,[.l 2 (some 8)],sr [oP 0 2 (.lalloc (.agg [.int .i64 0,.int .i64 0,.str [],.int .i64 0,.str [],.nils,.nils,.nils]))] qFD⟩
def qFJ:List qA:=[oM 0 3 0,oP 1 4 (.call 1185 [.t 3,.c (.int .i64 1)]),oM 2 5 4,oH 3 6 5 false 0,oG 4 7 5 false (.call 1185 [.t 6,.c (.int .i64 2)]),oPt 5 8 5 7,oM 6 9 8,oH 7 10 9 false 0,oG 8 11 9 false (.call 1185 [.t 10,.c (.int .i64 4)]),oPt 9 12 9 11,oM 10 13 12,oH 11 14 13 false 0,oG 12 15 13 false (.call 1108 [.t 14,.c (.str [40])]),oPt 13 16 13 15,oM 14 17 16,oH 15 18 17 false 0,oG 16 19 17 false (.call 1108 [.t 18,.c (.str [33])]),oPt 17 20 17 19,oM 18 21 20,oH 19 22 21 false 0,oG 20 23 21 false (.call 1108 [.t 22,.c (.str [109,97,116,99,104])]),oPt 21 24 21 23,oM 22 2 24]
def VK:qH:=⟨1,25,[.t 2],sr [oQ 0 2 false] (sr qFJ .ret)⟩
def qE4:List qA:=[oM 0 4 0,oD1 1 5 1537 4,oP 2 3 (.lalloc (.agg [.int .i64 0,.int .i64 0,.str [],.int .i64 0,.str [],.nils,.nils,.nils])),oS 3 3 0 8 5]
def qE5:List qA:=[oY 0 8 3 0 8,oM 1 9 0,oD1 2 10 1537 9,oP 3 11 (.bslice 8 (.agg [.int .i64 0,.int .i64 0,.str [],.int .i64 0,.str [],.nils,.nils,.nils]) 2 [(0,.t 8),(1,.t 10)]),oP 4 12 (.build (.agg [.int .i64 0,.int .i64 0,.str [],.int .i64 0,.str [],.nils,.nils,.nils]) [(0,1,.c (.int .i64 5)),(7,1,.t 11)]),oS 5 3 0 8 12]
def qE3:qF:=.seq (.blk 0 (.loop (.seq (sr [oM 0 6 0,oD1 1 7 1538 6] (.cond (.t 7) .skip (.exit 0))) (.blk 1 (.reg true qE5))))) (sr [oY 0 13 3 0 8,oS 1 2 0 8 13] .ret)
def VG:qH:=⟨1,14,[.l 2 (some 8)],sr [oP 0 2 (.lalloc (.agg [.int .i64 0,.int .i64 0,.str [],.int .i64 0,.str [],.nils,.nils,.nils]))] (sr qE4 qE3)⟩
def qD3:List qA:=[oM 0 5 0,oD1 1 6 1510 5,oP 2 3 (.lalloc (.agg [.int .i64 0,.int .i64 0,.str [],.int .i64 0,.str [],.nils,.nils,.nils])),oS 3 3 0 8 6]
def qD4:List qA:=[oM 0 12 4,oY 1 13 3 0 8,oM 2 14 0,oD1 3 15 1510 14,oP 4 16 (.bslice 8 (.agg [.int .i64 0,.int .i64 0,.str [],.int .i64 0,.str [],.nils,.nils,.nils]) 2 [(0,.t 13),(1,.t 15)]),oP 5 17 (.build (.agg [.int .i64 0,.int .i64 0,.str [],.int .i64 0,.str [],.nils,.nils,.nils]) [(0,1,.c (.int .i64 3)),(1,1,.t 12),(7,1,.t 16)]),oS 6 3 0 8 17]
def qD2:qF:=sr [oM 0 7 0,oP 1 8 (.call 1187 [.t 7,.c (.int .i64 3),.c (.int .i64 4)]),oM 2 4 8] (.seq (sr [oM 0 9 4,oE 1 10 .eql 9 0] (.cond (.t 10) (sr [oY 0 11 3 0 8,oS 1 2 0 8 11] .ret) .skip)) (.reg true qD4))
def Y2:qH:=⟨1,18,[.l 2 (some 8)],sr [oP 0 2 (.lalloc (.agg [.int .i64 0,.int .i64 0,.str [],.int .i64 0,.str [],.nils,.nils,.nils]))] (sr qD3 (.blk 0 (.loop (.blk 1 qD2))))⟩
def qB2:List qA:=[oM 0 5 0,oD1 1 6 1423 5,oP 2 3 (.lalloc (.agg [.int .i64 0,.int .i64 0,.str [],.int .i64 0,.str [],.nils,.nils,.nils])),oS 3 3 0 8 6]
def qB3:List qA:=[oM 0 12 4,oY 1 13 3 0 8,oM 2 14 0,oD1 3 15 1423 14,oP 4 16 (.bslice 8 (.agg [.int .i64 0,.int .i64 0,.str [],.int .i64 0,.str [],.nils,.nils,.nils]) 2 [(0,.t 13),(1,.t 15)]),oP 5 17 (.build (.agg [.int .i64 0,.int .i64 0,.str [],.int .i64 0,.str [],.nils,.nils,.nils]) [(0,1,.c (.int .i64 3)),(1,1,.t 12),(7,1,.t 16)]),oS 6 3 0 8 17]
def qB1:qF:=sr [oM 0 7 0,oP 1 8 (.call 1187 [.t 7,.c (.int .i64 1),.c (.int .i64 2)]),oM 2 4 8] (.seq (sr [oM 0 9 4,oE 1 10 .eql 9 0] (.cond (.t 10) (sr [oY 0 11 3 0 8,oS 1 2 0 8 11] .ret) .skip)) (.reg true qB3))
def Yb:qH:=⟨1,18,[.l 2 (some 8)],sr [oP 0 2 (.lalloc (.agg [.int .i64 0,.int .i64 0,.str [],.int .i64 0,.str [],.nils,.nils,.nils]))] (sr qB2 (.blk 0 (.loop (.blk 1 qB1))))⟩
def qM1:List qA:=[oM 0 5 0,oD1 1 6 1186 5,oP 2 3 (.lalloc (.agg [.int .i64 0,.int .i64 0,.str [],.int .i64 0,.str [],.nils,.nils,.nils])),oS 3 3 0 8 6]
def qM2:List qA:=[oM 0 12 4,oY 1 13 3 0 8,oM 2 14 0,oD1 3 15 1186 14,oP 4 16 (.bslice 8 (.agg [.int .i64 0,.int .i64 0,.str [],.int .i64 0,.str [],.nils,.nils,.nils]) 2 [(0,.t 13),(1,.t 15)]),oP 5 17 (.build (.agg [.int .i64 0,.int .i64 0,.str [],.int .i64 0,.str [],.nils,.nils,.nils]) [(0,1,.c (.int .i64 3)),(1,1,.t 12),(7,1,.t 16)]),oS 6 2 0 8 17]
def qM0:qF:=sr [oM 0 7 0,oP 1 8 (.call 1187 [.t 7,.c (.int .i64 5),.c (.int .i64 6)]),oM 2 4 8] (.seq (sr [oM 0 9 4,oE 1 10 .eql 9 0] (.cond (.t 10) (sr [oY 0 11 3 0 8,oS 1 2 0 8 11] .ret) .skip)) (sr qM2 .ret))
def UI:qH:=⟨1,18,[.l 2 (some 8)],sr [oP 0 2 (.lalloc (.agg [.int .i64 0,.int .i64 0,.str [],.int .i64 0,.str [],.nils,.nils,.nils]))] (sr qM1 qM0)⟩
def qIX:List qA:=[oM 0 9 0,oP 1 10 (.call 871 [.t 9,.c (.int .i64 1)]),oP 2 11 (.build (.agg [.int .i64 0,.int .i64 0,.str [],.int .i64 0,.str [],.nils,.nils,.nils]) [(0,1,.c (.int .i64 4)),(2,1,.t 10)]),oP 3 3 (.lalloc (.agg [.int .i64 0,.int .i64 0,.str [],.int .i64 0,.str [],.nils,.nils,.nils])),oS 4 3 0 8 11]
def qIY:List qA:=[oM 0 14 0,oD1 1 15 359 14,oU 2 16 3,oS 3 3 3 3 15]
def qI0:List qA:=[oM 0 19 0,oD1 1 20 509 19,oP 2 21 (.bslice 8 (.agg [.int .i64 0,.int .i64 0,.str [],.int .i64 0,.str [],.nils,.nils,.nils]) 1 [(0,.t 20)]),oU 3 22 3,oS 4 3 7 1 21]
def qIV:qF:=sr [oM 0 12 0,oP 1 13 (.call 872 [.t 12,.c (.str [58])])] (sr qIY (sr [oM 0 17 0,oP 1 18 (.call 872 [.t 17,.c (.str [46])])] (sr qI0 (sr [oY 0 23 3 0 8,oS 1 2 0 8 23] .ret))))
def qI1:List qA:=[oM 0 27 0,oP 1 28 (.call 871 [.t 27,.c (.int .i64 1)]),oP 2 29 (.build (.agg [.int .i64 0,.int .i64 0,.str [],.int .i64 0,.str [],.nils,.nils,.nils]) [(0,1,.c (.int .i64 7)),(2,1,.t 28)]),oP 3 4 (.lalloc (.agg [.int .i64 0,.int .i64 0,.str [],.int .i64 0,.str [],.nils,.nils,.nils])),oS 4 4 0 8 29]
def qI2:List qA:=[oU 0 32 4,oX 1 33 4 7,oM 2 34 0,oD1 3 35 509 34,oP 4 36 (.bslice 8 (.agg [.int .i64 0,.int .i64 0,.str [],.int .i64 0,.str [],.nils,.nils,.nils]) 1 [(0,.t 35)]),oP 5 37 (.app 8 (.t 33) (.t 36)),oU 6 38 4,oS 7 4 7 1 37]
def qI3:List qA:=[oU 0 41 4,oX 1 42 4 7,oM 2 43 0,oD1 3 44 509 43,oP 4 45 (.bslice 8 (.agg [.int .i64 0,.int .i64 0,.str [],.int .i64 0,.str [],.nils,.nils,.nils]) 1 [(0,.t 44)]),oP 5 46 (.app 8 (.t 42) (.t 45)),oU 6 47 4,oS 7 4 7 1 46]
def qIW:qF:=sr [oM 0 30 0,oP 1 31 (.call 872 [.t 30,.c (.str [61])])] (sr qI2 (sr [oM 0 39 0,oP 1 40 (.call 872 [.t 39,.c (.str [105,110])])] (sr qI3 (sr [oY 0 48 4 0 8,oS 1 2 0 8 48] .ret))))
def qI4:List qA:=[oU 0 53 5,oX 1 54 5 7,oM 2 55 0,oD1 3 56 509 55,oP 4 57 (.bslice 8 (.agg [.int .i64 0,.int .i64 0,.str [],.int .i64 0,.str [],.nils,.nils,.nils]) 1 [(0,.t 56)]),oP 5 58 (.app 8 (.t 54) (.t 57)),oU 6 59 5,oS 7 5 7 1 58]
def qI5:List qA:=[oU 0 62 5,oX 1 63 5 7,oM 2 64 0,oD1 3 65 509 64,oP 4 66 (.bslice 8 (.agg [.int .i64 0,.int .i64 0,.str [],.int .i64 0,.str [],.nils,.nils,.nils]) 1 [(0,.t 65)]),oP 5 67 (.app 8 (.t 63) (.t 66)),oU 6 68 5,oS 7 5 7 1 67]
def qIZ:List qA:=[oU 0 71 5,oX 1 72 5 7,oM 2 73 0,oD1 3 74 509 73,oP 4 75 (.bslice 8 (.agg [.int .i64 0,.int .i64 0,.str [],.int .i64 0,.str [],.nils,.nils,.nils]) 1 [(0,.t 74)]),oP 5 76 (.app 8 (.t 72) (.t 75)),oU 6 77 5,oS 7 5 7 1 76]
def qIS:qF:=sr [oM 0 60 0,oP 1 61 (.call 872 [.t 60,.c (.str [116,104,101,110])])] (sr qI5 (sr [oM 0 69 0,oP 1 70 (.call 872 [.t 69,.c (.str [101,108,115,101])])] (sr qIZ (sr [oY 0 78 5 0 8,oS 1 2 0 8 78] .ret))))
def qIT:qF:=sr [oM 0 50 0,oP 1 51 (.call 737 [.t 50,.c (.str [105,102])]),oM 2 49 51] (.cond (.t 49) (sr [oP 0 52 (.build (.agg [.int .i64 0,.int .i64 0,.str [],.int .i64 0,.str [],.nils,.nils,.nils]) [(0,1,.c (.int .i64 11))]),oP 1 5 (.lalloc (.agg [.int .i64 0,.int .i64 0,.str [],.int .i64 0,.str [],.nils,.nils,.nils])),oS 2 5 0 8 52] (sr qI4 qIS)) .skip)
def qIU:qF:=sr [oM 0 7 0,oP 1 8 (.call 737 [.t 7,.c (.str [92])]),oM 2 6 8] (.cond (.t 6) (sr qIX qIV) (sr [oM 0 25 0,oP 1 26 (.call 737 [.t 25,.c (.str [108,101,116])]),oM 2 24 26] (.cond (.t 24) (sr qI1 qIW) qIT)))
def Vq:qH:=⟨1,81,[.l 2 (some 8)],sr [oP 0 2 (.lalloc (.agg [.int .i64 0,.int .i64 0,.str [],.int .i64 0,.str [],.nils,.nils,.nils]))] (.seq (.blk 0 qIU) (sr [oM 0 79 0,oD1 1 80 873 79,oS 2 2 0 8 80] .ret))⟩
def qAK:List qA:=[oM 0 3 0,oE 1 4 .geq 3 1,oM 2 5 4,oH 3 6 5 true 0,oG 4 7 5 true (.bin .leq (.t 6) (.c (.int .i64 6))),oPf 5 8 5 7,oM 6 2 8]
def YL:qH:=⟨1,9,[.t 2],sr [oQ 0 2 false] (sr qAK .ret)⟩
def qBV:List qA:=[oY 0 3 1 0 3,oP 1 4 (.build (.agg [.int .i64 0,.str [],.nils]) []),oD2 2 5 73 3 4,oM 3 2 5]
def YY:qH:=⟨1,6,[.t 2],sr [oP 0 1 (.lbox 3 (.t 0)),oQ 1 2 false] (sr qBV .ret)⟩
def qBX:List qA:=[oM 0 9 7,oA 1 10 1 5 7,oL 2 11 10,oM 3 3 9,oM 4 4 11]
def qBY:List qA:=[oM 0 12 4,oD1 1 13 889 12,oJ 2 14 13,oM 3 15 14,oH 4 16 15 false 0,oH 5 17 15 false 3,oG 6 18 15 false (.slc 1 (.t 16) none (some (.t 17)) none),oH 7 19 15 false 4,oG 8 20 15 false (.call 732 [.t 18,.t 19]),oPt 9 21 15 20]
def qBW:qF:=sr [oB 0 8 .lss 7 6] (.seq (.cond (.t 8) .skip (.exit 0)) (.seq (.blk 1 (sr qBX (sr qBY (.cond (.t 21) (sr [oQ 0 2 false] .ret) .skip)))) (.reg true [oE 0 22 .add 7 1,oM 1 7 22])))
def qBZ:List qA:=[oM 0 23 0,oW 1 24 23,oE 2 25 .leq 24 3,oM 3 2 25]
def YZ:qH:=⟨1,26,[.t 2],sr [oQ 0 2 false] (.seq (sr [oM 0 5 0,oW 1 6 5,oC 2 7 0] (.blk 0 (.loop qBW))) (sr qBZ .ret))⟩
def qMF:List qA:=[oU 0 8 1,oY 1 9 1 3 3,oD1 2 10 1143 9,oM 3 3 10]
def qMG:List qA:=[oU 0 11 1,oX 1 12 1 0,oE 2 13 .neq 12 10,oM 3 14 13,oG 4 15 14 true (.nop 1),oG 5 16 14 true (.lload 1 6 none),oG 6 17 14 true (.len (.t 16)),oG 7 18 14 true (.bin .gtr (.t 17) (.c (.int .i64 0))),oPf 8 19 14 18,oM 9 20 19,oG 10 21 20 false (.nop 1),oG 11 22 20 false (.lload 1 0 none),oG 12 23 20 false (.bin .neq (.t 22) (.c (.int .i64 4))),oH 13 24 20 false 23,oH 14 25 24 true 3,oG 15 26 24 true (.not (.t 25)),oG 16 27 20 false (.pick (.t 24) (.t 26) (.c (.bool false))),oPt 17 28 20 27,oM 18 29 28,oG 19 30 29 false (.nop 1),oG 20 31 29 false (.lload 1 0 none),oG 21 32 29 false (.bin .neq (.t 31) (.c (.int .i64 2))),oH 22 33 29 false 32,oG 23 34 33 true (.nop 1),oG 24 35 33 true (.lload 1 0 none),oG 25 36 33 true (.bin .neq (.t 35) (.c (.int .i64 3))),oG 26 37 29 false (.pick (.t 33) (.t 36) (.c (.bool false))),oH 27 38 29 false 37,oG 28 39 38 true (.nop 1),oG 29 40 38 true (.lload 1 1 none),oG 30 41 38 true (.bin .neq (.t 40) (.c (.int .i64 0))),oG 31 42 29 false (.pick (.t 38) (.t 41) (.c (.bool false))),oPt 32 43 29 42]
def qMM:List qA:=[oU 0 44 1,oX 1 45 1 2,oP 2 46 (.sop .eql (.t 45) (.c (.str []))),oU 3 47 1,oX 4 48 1 2,oU 6 50 1,oX 7 51 1 2,oD1 5 49 889 48,oD1 8 52 717 51,oM 9 4 46,oM 10 5 49,oM 11 6 52]
def qMN:List qA:=[oU 0 53 1,oX 1 54 1 7,oW 2 55 54,oM 3 7 55]
def qMO:List qA:=[oM 0 60 5,oM 1 61 60,oH 2 62 61 true 7,oG 3 63 61 true (.bin .eql (.t 62) (.c (.int .i64 0))),oPf 4 64 61 63,oM 5 2 64]
def qMP:List qA:=[oM 0 67 4,oM 1 68 67,oH 2 69 68 true 7,oG 3 70 68 true (.bin .eql (.t 69) (.c (.int .i64 0))),oPf 4 71 68 70,oM 5 72 71,oG 6 73 72 true (.nop 1),oG 7 74 72 true (.lload 1 1 none),oG 8 75 72 true (.call 1051 [.t 74]),oPf 9 76 72 75,oM 10 2 76]
def qMQ:List qA:=[oM 0 79 4,oM 1 80 79,oH 2 81 80 true 7,oG 3 82 80 true (.bin .eql (.t 81) (.c (.int .i64 2))),oPf 4 83 80 82,oM 5 84 83,oG 6 85 84 true (.nop 1),oG 7 86 84 true (.lload 1 1 none),oG 8 87 84 true (.call 1050 [.t 86]),oPf 9 88 84 87,oM 10 2 88]
def qMR:List qA:=[oM 0 91 5,oM 1 92 91,oH 2 93 92 true 7,oG 3 94 92 true (.bin .eql (.t 93) (.c (.int .i64 1))),oPf 4 95 92 94,oM 5 96 95,oG 6 97 96 true (.nop 1),oG 7 98 96 true (.lload 1 3 (some 3)),oG 8 99 96 true (.call 74 [.t 98]),oPf 9 100 96 99,oM 10 2 100]
def qMS:List qA:=[oM 0 103 4,oM 1 104 103,oH 2 105 104 true 7,oG 3 106 104 true (.bin .eql (.t 105) (.c (.int .i64 2))),oPf 4 107 104 106,oM 5 2 107]
def qMT:List qA:=[oM 0 110 4,oM 1 111 110,oH 2 112 111 true 7,oG 3 113 111 true (.bin .eql (.t 112) (.c (.int .i64 1))),oPf 4 114 111 113,oM 5 2 114]
def qMH:List qA:=[oM 0 117 5,oM 1 118 117,oH 2 119 118 true 7,oG 3 120 118 true (.bin .eql (.t 119) (.c (.int .i64 2))),oPf 4 121 118 120,oM 5 2 121]
def qMI:List qA:=[oM 0 124 6,oM 1 125 124,oH 2 126 125 true 7,oG 3 127 125 true (.bin .leq (.t 126) (.c (.int .i64 3))),oPf 4 128 125 127,oM 5 2 128]
def qMJ:List qA:=[oM 0 131 4,oM 1 132 131,oH 2 133 132 true 7,oG 3 134 132 true (.bin .geq (.t 133) (.c (.int .i64 2))),oPf 4 135 132 134,oM 5 136 135,oH 6 137 136 true 7,oG 7 138 136 true (.bin .leq (.t 137) (.c (.int .i64 5))),oPf 8 139 136 138,oM 9 2 139]
def qMK:List qA:=[oM 0 142 6,oM 1 143 142,oH 2 144 143 true 7,oG 3 145 143 true (.bin .eql (.t 144) (.c (.int .i64 1))),oPf 4 146 143 145,oM 5 147 146,oG 6 148 147 true (.nop 1),oG 7 149 147 true (.lload 1 6 none),oG 8 150 147 true (.call 1144 [.t 149]),oPf 9 151 147 150,oM 10 2 151]
def qML:List qA:=[oM 0 154 4,oM 1 155 154,oH 2 156 155 true 7,oG 3 157 155 true (.bin .eql (.t 156) (.c (.int .i64 3))),oPf 4 158 155 157,oM 5 2 158]
def qMA:qF:=.cond (.t 129) (sr qMJ .ret) (sr [oE 0 141 .eql 57 10,oM 1 140 141] (.cond (.t 140) (sr qMK .ret) (sr [oE 0 153 .eql 57 11,oM 1 152 153] (.cond (.t 152) (sr qML .ret) .skip))))
def qMB:qF:=sr [oE 0 116 .eql 57 7,oM 1 115 116] (.cond (.t 115) (sr qMH .ret) (sr [oE 0 123 .eql 57 8,oM 1 122 123] (.cond (.t 122) (sr qMI .ret) (sr [oE 0 130 .eql 57 9,oM 1 129 130] qMA))))
def qMC:qF:=.cond (.t 89) (sr qMR .ret) (sr [oE 0 102 .eql 57 5,oM 1 101 102] (.cond (.t 101) (sr qMS .ret) (sr [oE 0 109 .eql 57 6,oM 1 108 109] (.cond (.t 108) (sr qMT .ret) qMB))))
def qMD:qF:=sr [oE 0 66 .eql 57 2,oM 1 65 66] (.cond (.t 65) (sr qMP .ret) (sr [oE 0 78 .eql 57 3,oM 1 77 78] (.cond (.t 77) (sr qMQ .ret) (sr [oE 0 90 .eql 57 4,oM 1 89 90] qMC))))
def qME:qF:=.seq (sr [oU 0 56 1,oX 1 57 1 0] (.blk 0 (sr [oE 0 59 .eql 57 1,oM 1 58 59] (.cond (.t 58) (sr qMO .ret) qMD)))) (sr [oQ 0 2 false] .ret)
def UF:qH:=⟨1,159,[.t 2],sr [oP 0 1 (.lbox 8 (.t 0)),oQ 1 2 false] (sr qMF (.seq (sr qMG (.cond (.t 43) (sr [oQ 0 2 false] .ret) .skip)) (sr qMM (sr qMN qME))))⟩
def qIL:List qA:=[oP 0 1 (.lbox 8 (.t 0)),oC 1 2 0,oC 2 3 0,oQ 3 4 false]
def qIM:List qA:=[oU 0 13 1,oX 1 14 1 7,oW 2 15 14,oC 3 16 0]
def qIN:List qA:=[oM 0 18 16,oA 1 19 8 14 16,oP 2 20 (.load (some 8) (.t 19)),oP 3 6 (.lalloc (.agg [.int .i64 0,.int .i64 0,.str [],.int .i64 0,.str [],.nils,.nils,.nils])),oM 4 5 18,oS 5 6 0 8 20]
def qIO:List qA:=[oU 0 21 6,oX 1 22 6 0,oE 2 23 .eql 22 10,oU 3 24 1,oX 4 25 1 0,oE 5 26 .eql 25 9,oM 6 27 26,oH 7 28 27 true 5,oG 8 29 27 true (.bin .gtr (.t 28) (.c (.int .i64 0))),oPf 9 30 27 29,oP 10 31 (.beq true (.t 23) (.t 30))]
def qIP:List qA:=[oY 0 33 6 0 8,oD1 1 34 445 33,oM 2 32 34,oV 3 35 32 0,oV 4 36 32 1,oV 5 37 32 2,oM 6 7 35,oM 7 8 36,oM 8 9 37]
def qIQ:List qA:=[oM 0 40 2,oM 1 41 7,oE 2 42 .add 41 1,oP 3 43 (.max (.t 40) (.t 42)),oM 4 44 3,oM 5 45 8,oB 6 46 .add 44 45,oM 7 2 43,oM 8 3 46]
def qII:qF:=sr qIP (.seq (sr [oM 0 38 9,oJ 1 39 38] (.cond (.t 39) (sr [oC 0 2 0,oC 1 3 0,oQ 2 4 false] .ret) .skip)) (.reg true qIQ))
def qIJ:qF:=.seq (.blk 1 (sr qIN (.seq (sr qIO (.cond (.t 31) (sr [oC 0 2 0,oC 1 3 0,oQ 2 4 false] .ret) .skip)) qII))) (.reg true [oE 0 47 .add 16 1,oM 1 16 47])
def qIR:List qA:=[oM 0 48 2,oM 1 49 3,oM 2 2 48,oM 3 3 49,oQ 4 4 true]
def qIK:qF:=sr [oC 0 2 1,oC 1 3 1] (.seq (sr qIM (.blk 0 (.loop (sr [oB 0 17 .lss 16 15] (.seq (.cond (.t 17) .skip (.exit 0)) qIJ))))) (sr qIR .ret))
def Vp:qH:=⟨1,50,[.t 2,.t 3,.t 4],sr qIL (.seq (sr [oY 0 10 1 0 8,oD1 1 11 807 10,oJ 2 12 11] (.cond (.t 12) (sr [oC 0 2 0,oC 1 3 0,oQ 2 4 false] .ret) .skip)) qIK)⟩
def qEQ:List qA:=[oY 0 7 1 0 8,oD1 1 8 445 7,oM 2 6 8,oV 3 9 6 0,oV 4 10 6 1,oV 5 11 6 2,oM 6 3 9,oM 7 4 10,oM 8 5 11]
def qER:List qA:=[oM 0 12 5,oM 1 13 12,oG 2 14 13 true (.nop 1),oG 3 15 13 true (.lload 1 0 none),oG 4 16 13 true (.bin .neq (.t 15) (.c (.int .i64 10))),oPf 5 17 13 16,oM 6 18 17,oH 7 19 18 true 3,oG 8 20 18 true (.bin .leq (.t 19) (.c (.int .i64 24))),oPf 9 21 18 20,oM 10 22 21,oH 11 23 22 true 4,oG 12 24 22 true (.bin .leq (.t 23) (.c (.int .i64 160))),oPf 13 25 22 24,oM 14 2 25]
def Y8:qH:=⟨1,26,[.t 2],sr [oP 0 1 (.lbox 8 (.t 0)),oQ 1 2 false] (sr qEQ (sr qER .ret))⟩
def kq:List qA:=[oM 0 6 0,oE 1 7 .sub 6 1,oM 2 8 0,oP 3 9 (.sslc (.c (.str [43,45,42,47,60,61])) (some (.t 7)) (some (.t 8))),oM 4 2 9]
def YD:qH:=⟨1,10,[.t 2],sr [oP 0 2 (.mov (.c (.str [])))] (.seq (sr [oM 0 3 0,oD1 1 4 1050 3,oJ 2 5 4] (.cond (.t 5) (sr [oP 0 2 (.mov (.c (.str [])))] .ret) .skip)) (sr kq .ret))⟩
def qDM:List qA:=[oM 0 8 3,oD1 1 9 1002 8,oM 2 10 0,oP 3 11 (.sop .eql (.t 9) (.t 10))]
def qDL:qF:=.seq (sr [oM 0 4 3,oE 1 5 .leq 4 6] (.cond (.t 5) .skip (.exit 0))) (.seq (.blk 1 (sr qDM (.cond (.t 11) (sr [oM 0 12 3,oM 1 2 12] .ret) .skip))) (.reg true [oM 0 6 3,oE 1 7 .add 6 1,oM 2 3 7]))
def Yx:qH:=⟨1,13,[.t 2],sr [oC 0 2 0] (.seq (sr [oC 0 3 1] (.blk 0 (.loop qDL))) (sr [oC 0 2 0] .ret))⟩
def qCE:qF:=sr [oA 0 11 1 7 9,oL 1 12 11,oM 2 6 12] (sr [oM 0 13 0,oM 1 14 6,oD2 2 15 721 13 14] (.cond (.t 15) (sr [oM 0 16 6,oD1 1 17 1383 16,oM 2 4 17] .ret) .skip))
def qCF:qF:=sr [oM 0 7 1,oW 1 8 7,oC 2 9 0] (.blk 0 (.loop (sr [oB 0 10 .lss 9 8] (.seq (.cond (.t 10) .skip (.exit 0)) (.seq (.blk 1 qCE) (.reg true [oE 0 18 .add 9 1,oM 1 9 18]))))))
def Ye:qH:=⟨2,19,[.t 4],sr [oC 0 4 0] (.seq qCF (sr [oC 0 4 0] .ret))⟩
def qCG:List qA:=[oM 0 7 0,oY 1 8 4 0 8,oY 2 9 5 0 8,oP 3 10 (.bslice 8 (.agg [.int .i64 0,.int .i64 0,.str [],.int .i64 0,.str [],.nils,.nils,.nils]) 2 [(0,.t 8),(1,.t 9)]),oP 4 11 (.build (.agg [.int .i64 0,.int .i64 0,.str [],.int .i64 0,.str [],.nils,.nils,.nils]) [(0,1,.c (.int .i64 3)),(1,1,.t 7),(7,1,.t 10)]),oS 5 6 0 8 11]
def Yf:qH:=⟨3,12,[.l 6 (some 8)],sr [oP 0 4 (.lbox 8 (.t 1)),oP 1 5 (.lbox 8 (.t 2)),oP 2 6 (.lalloc (.agg [.int .i64 0,.int .i64 0,.str [],.int .i64 0,.str [],.nils,.nils,.nils]))] (sr qCG .ret)⟩
def qDC:qF:=.seq (.blk 0 (.loop (.seq (sr [oM 0 9 0,oP 1 10 (.call 721 [.t 9,.c (.str [44])])] (.cond (.t 10) .skip (.exit 0))) (.blk 1 (.reg true [oM 0 11 1,oP 1 12 (.callv (.t 11) [])]))))) (.reg true [oM 0 13 0,oP 1 14 (.call 876 [.t 13,.c (.str [93])])])
def QV:qH:=⟨2,15,[],.seq (sr [oM 0 4 0,oP 1 5 (.call 721 [.t 4,.c (.str [91])]),oJ 2 6 5] (.cond (.t 6) .ret .skip)) (sr [oM 0 7 1,oP 1 8 (.callv (.t 7) [])] qDC)⟩
def qGF:List qA:=[oM 0 8 0,oD1 1 9 1101 8,oP 2 10 (.fld 1 none (.t 9)),oM 3 5 10]
def qGG:List qA:=[oM 0 11 0,oD1 1 12 1101 11,oP 2 13 (.fld 0 none (.t 12)),oE 3 14 .neq 13 4,oM 4 15 14,oH 5 16 15 false 1,oG 6 17 15 false (.not (.t 16)),oH 7 18 15 false 17,oH 8 19 18 true 5,oG 9 20 18 true (.sop .eql (.t 19) (.c (.str [50,49,52,55,52,56,51,54,52,56]))),oG 10 21 15 false (.pick (.t 18) (.t 20) (.c (.bool false))),oPt 11 22 15 21]
def qGH:List qA:=[oM 0 25 0,oK 1 26 25,oF 2 27 1 26,oL 3 28 27,oE 4 29 .add 28 1,oK 5 30 25,oF 6 31 1 30,oT 7 1 31 29]
def qGI:List qA:=[oM 0 32 1,oM 1 33 32,oH 2 34 33 true 5,oG 3 35 33 true (.sop .neq (.t 34) (.c (.str [48]))),oPf 4 36 33 35]
def qGJ:List qA:=[oM 0 40 5,oD1 1 41 1091 40,oM 2 39 41,oV 3 42 39 0,oV 4 43 39 1,oM 5 6 42,oM 6 7 43]
def qGE:qF:=.seq (sr qGI (.cond (.t 36) (.reg true [oM 0 37 5,oP 1 38 (.sop .add (.c (.str [45])) (.t 37)),oM 2 5 38]) .skip)) (sr qGJ (sr [oM 0 44 6,oP 1 45 (.build (.agg [.int .i64 0,.int .i64 0,.str [],.int .i64 0,.str [],.nils,.nils,.nils]) [(0,1,.c (.int .i64 2)),(1,1,.t 44)]),oS 2 4 0 8 45] .ret))
def VU:qH:=⟨2,46,[.l 4 (some 8)],sr [oP 0 4 (.lalloc (.agg [.int .i64 0,.int .i64 0,.str [],.int .i64 0,.str [],.nils,.nils,.nils]))] (sr qGF (.seq (sr qGG (.cond (.t 22) (.reg true [oM 0 23 0,oD1 1 24 719 23]) .skip)) (sr qGH qGE)))⟩
def qF8:qF:=sr [oM 0 4 0,oP 1 5 (.call 721 [.t 4,.c (.str [45])])] (.cond (.t 5) (.reg true [oM 0 6 0,oP 1 7 (.call 1556 [.t 6,.c (.bool true)]),oS 2 3 0 8 7]) (.reg true [oM 0 8 0,oD1 1 9 511 8,oS 2 3 0 8 9]))
def VQ:qH:=⟨1,13,[.l 2 (some 8)],sr [oP 0 2 (.lalloc (.agg [.int .i64 0,.int .i64 0,.str [],.int .i64 0,.str [],.nils,.nils,.nils]))] (sr [oP 0 3 (.lalloc (.agg [.int .i64 0,.int .i64 0,.str [],.int .i64 0,.str [],.nils,.nils,.nils]))] (.seq qF8 (sr [oM 0 10 0,oP 1 11 (.call 876 [.t 10,.c (.str [41])])] (sr [oY 0 12 3 0 8,oS 1 2 0 8 12] .ret))))⟩
def qGT:List qA:=[oF 0 2 6 0,oL 1 3 2,oL 2 4 1,⟨3,some 5,none,.call 875 [.t 4,.c (.int .i64 1)],[⟨1,some 3,none,.load none (.t 2),[]⟩]⟩,oP 4 6 (.bslice 1 (.str []) 1 [(0,.t 5)]),oP 5 7 (.app 1 (.t 3) (.t 6)),oF 6 8 6 0,oT 7 1 8 7]
def VX:qH:=⟨2,9,[],.reg true qGT⟩
def qGR:List qA:=[oL 0 4 1,oP 1 5 (.call 875 [.t 4,.c (.int .i64 2)]),oP 2 6 (.build (.agg [.int .i64 0,.int .i64 0,.str [],.int .i64 0,.str [],.nils,.nils,.nils]) [(0,1,.c (.int .i64 10)),(2,1,.t 5)]),oP 3 3 (.halloc 8 (.agg [.int .i64 0,.int .i64 0,.str [],.int .i64 0,.str [],.nils,.nils,.nils])),oT 4 8 3 6]
def qGS:List qA:=[oL 0 12 1,oD1 1 13 511 12,oP 2 14 (.bslice 8 (.agg [.int .i64 0,.int .i64 0,.str [],.int .i64 0,.str [],.nils,.nils,.nils]) 1 [(0,.t 13)]),oF 3 15 7 3,oT 4 1 15 14]
def qGQ:qF:=sr [oL 0 7 1,oP 1 8 (.mkfn 1561 [.t 3,.t 1]),oD2 2 9 1327 7 8] (sr [oL 0 10 1,oP 1 11 (.call 876 [.t 10,.c (.str [45,62])])] (sr qGS (sr [oP 0 16 (.load (some 8) (.t 3)),oS 1 2 0 8 16] .ret)))
def VW:qH:=⟨1,17,[.l 2 (some 8)],sr [oP 0 1 (.hbox 1 (.t 0)),oP 1 2 (.lalloc (.agg [.int .i64 0,.int .i64 0,.str [],.int .i64 0,.str [],.nils,.nils,.nils]))] (sr qGR qGQ)⟩
def qGA:List qA:=[oM 0 4 0,oD1 1 5 511 4,oP 2 6 (.bslice 8 (.agg [.int .i64 0,.int .i64 0,.str [],.int .i64 0,.str [],.nils,.nils,.nils]) 1 [(0,.t 5)]),oP 3 7 (.build (.agg [.int .i64 0,.int .i64 0,.str [],.int .i64 0,.str [],.nils,.nils,.nils]) [(0,1,.c (.int .i64 9)),(7,1,.t 6)]),oP 4 3 (.lalloc (.agg [.int .i64 0,.int .i64 0,.str [],.int .i64 0,.str [],.nils,.nils,.nils])),oS 5 3 0 8 7]
def qGB:List qA:=[oU 0 10 3,oX 1 11 3 7,oM 2 12 0,oD1 3 13 1560 12,oP 4 14 (.bslice 8 (.agg [.int .i64 0,.int .i64 0,.str [],.int .i64 0,.str [],.nils,.nils,.nils]) 1 [(0,.t 13)]),oP 5 15 (.app 8 (.t 11) (.t 14)),oU 6 16 3,oS 7 3 7 1 15]
def qGC:List qA:=[oU 0 19 3,oX 1 20 3 7,oM 2 21 0,oD1 3 22 1560 21,oP 4 23 (.bslice 8 (.agg [.int .i64 0,.int .i64 0,.str [],.int .i64 0,.str [],.nils,.nils,.nils]) 1 [(0,.t 22)]),oP 5 24 (.app 8 (.t 20) (.t 23)),oU 6 25 3,oS 7 3 7 1 24]
def qF9:qF:=.seq (.blk 0 (.loop (.seq (sr [oM 0 17 0,oP 1 18 (.call 721 [.t 17,.c (.str [59])])] (.cond (.t 18) .skip (.exit 0))) (.blk 1 (.reg true qGC))))) (sr [oM 0 26 0,oP 1 27 (.call 876 [.t 26,.c (.str [125])])] (sr [oY 0 28 3 0 8,oS 1 2 0 8 28] .ret))
def VS:qH:=⟨1,29,[.l 2 (some 8)],sr [oP 0 2 (.lalloc (.agg [.int .i64 0,.int .i64 0,.str [],.int .i64 0,.str [],.nils,.nils,.nils]))] (sr qGA (sr [oM 0 8 0,oP 1 9 (.call 876 [.t 8,.c (.str [123])])] (sr qGB qF9)))⟩
def qGD:List qA:=[oF 0 2 7 0,oL 1 3 2,oL 2 4 1,oW 4 6 3,oP 5 7 (.mov (.c (.lst 8 [.agg [.int .i64 0,.int .i64 0,.str [],.int .i64 0,.str [],.nils,.nils,.nils]] false))),⟨3,some 5,none,.call 511 [.t 4],[⟨1,some 3,none,.load none (.t 2),[]⟩]⟩,oP 6 8 (.app 8 (.t 3) (.t 7)),oA 7 9 8 8 6,oF 9 10 7 0,oT 8 8 9 5,oN 10 (.store2 1 (.t 10) (.t 8) (.t 9))]
def VT:qH:=⟨2,11,[],.reg true qGD⟩
def qFO:List qA:=[oL 0 7 1,oD1 1 8 1539 7,oP 2 9 (.bslice 8 (.agg [.int .i64 0,.int .i64 0,.str [],.int .i64 0,.str [],.nils,.nils,.nils]) 1 [(0,.t 8)]),oP 3 10 (.build (.agg [.int .i64 0,.int .i64 0,.str [],.int .i64 0,.str [],.nils,.nils,.nils]) [(0,1,.c (.int .i64 6)),(7,1,.t 9)]),oS 4 2 0 8 10]
def qFK:qF:=.cond (.t 11) (sr [oL 0 14 1,oD1 1 15 1553 14,oS 2 2 0 8 15] .ret) (sr [oL 0 17 1,oP 1 18 (.call 721 [.t 17,.c (.str [109,97,116,99,104])]),oM 2 16 18] (.cond (.t 16) (sr [oL 0 19 1,oD1 1 20 1554 19,oS 2 2 0 8 20] .ret) .skip))
def qFL:qF:=sr [oL 0 5 1,oP 1 6 (.call 721 [.t 5,.c (.str [33])]),oM 2 4 6] (.cond (.t 4) (sr qFO .ret) (sr [oL 0 12 1,oP 1 13 (.call 721 [.t 12,.c (.str [40])]),oM 2 11 13] qFK))
def qFP:List qA:=[oL 0 26 1,oP 1 27 (.call 875 [.t 26,.c (.int .i64 1)]),oP 2 28 (.build (.agg [.int .i64 0,.int .i64 0,.str [],.int .i64 0,.str [],.nils,.nils,.nils]) [(0,1,.c (.int .i64 1)),(2,1,.t 27)]),oS 3 2 0 8 28]
def qFQ:List qA:=[oL 0 31 1,oP 1 32 (.call 875 [.t 31,.c (.int .i64 2)]),oP 2 33 (.build (.agg [.int .i64 0,.int .i64 0,.str [],.int .i64 0,.str [],.nils,.nils,.nils]) [(0,1,.c (.int .i64 8)),(2,1,.t 32)]),oP 3 3 (.halloc 8 (.agg [.int .i64 0,.int .i64 0,.str [],.int .i64 0,.str [],.nils,.nils,.nils])),oT 4 8 3 33]
def qFM:qF:=sr [oE 0 30 .eql 23 2,oM 1 29 30] (.cond (.t 29) (sr qFQ (sr [oL 0 34 1,oP 1 35 (.mkfn 1555 [.t 3,.t 1]),oD2 2 36 1327 34 35] (sr [oP 0 37 (.load (some 8) (.t 3)),oS 1 2 0 8 37] .ret))) .skip)
def qFN:qF:=.seq (sr [oL 0 21 1,oD1 1 22 1101 21,oP 2 23 (.fld 0 none (.t 22))] (.blk 1 (sr [oE 0 25 .eql 23 1,oM 1 24 25] (.cond (.t 24) (sr qFP .ret) qFM)))) (sr [oL 0 38 1,oP 1 39 (.call 1556 [.t 38,.c (.bool false)]),oS 2 2 0 8 39] .ret)
def VL:qH:=⟨1,40,[.l 2 (some 8)],sr [oP 0 1 (.hbox 1 (.t 0)),oP 1 2 (.lalloc (.agg [.int .i64 0,.int .i64 0,.str [],.int .i64 0,.str [],.nils,.nils,.nils]))] (.seq (.blk 0 qFL) qFN)⟩
def qFR:List qA:=[oM 0 4 0,oD1 1 5 1101 4,oP 2 3 (.lalloc (.agg [.int .i64 0,.str [],.int .i64 0])),oS 3 3 0 3 5]
def qFS:List qA:=[oU 0 6 3,oX 1 7 3 0,oE 2 8 .eql 7 1,oM 3 9 8,oG 4 10 9 false (.nop 3),oG 5 11 9 false (.lload 3 0 none),oG 6 12 9 false (.bin .eql (.t 11) (.c (.int .i64 2))),oPt 7 13 9 12,oM 8 14 13,oG 9 15 14 false (.nop 3),oG 10 16 14 false (.lload 3 0 none),oG 11 17 14 false (.bin .eql (.t 16) (.c (.int .i64 4))),oPt 12 18 14 17,oM 13 19 18,oH 14 20 19 false 0,oG 15 21 19 false (.call 1103 [.t 20,.c (.str [33])]),oPt 16 22 19 21,oM 17 23 22,oH 18 24 23 false 0,oG 19 25 23 false (.call 1103 [.t 24,.c (.str [40])]),oPt 20 26 23 25,oM 21 27 26,oH 22 28 27 false 0,oG 23 29 27 false (.call 1103 [.t 28,.c (.str [109,97,116,99,104])]),oPt 24 30 27 29,oM 25 2 30]
def VM:qH:=⟨1,31,[.t 2],sr [oQ 0 2 false] (sr qFR (sr qFS .ret))⟩
def qE7:List qA:=[oM 0 4 0,oD1 1 5 1539 4,oP 2 3 (.lalloc (.agg [.int .i64 0,.int .i64 0,.str [],.int .i64 0,.str [],.nils,.nils,.nils])),oS 3 3 0 8 5]
def qE8:List qA:=[oY 0 8 3 0 8,oM 1 9 0,oD1 2 10 1539 9,oP 3 11 (.bslice 8 (.agg [.int .i64 0,.int .i64 0,.str [],.int .i64 0,.str [],.nils,.nils,.nils]) 2 [(0,.t 8),(1,.t 10)]),oP 4 12 (.build (.agg [.int .i64 0,.int .i64 0,.str [],.int .i64 0,.str [],.nils,.nils,.nils]) [(0,1,.c (.int .i64 5)),(7,1,.t 11)]),oS 5 3 0 8 12]
def qE6:qF:=.seq (.blk 0 (.loop (.seq (sr [oM 0 6 0,oD1 1 7 1540 6] (.cond (.t 7) .skip (.exit 0))) (.blk 1 (.reg true qE8))))) (sr [oY 0 13 3 0 8,oS 1 2 0 8 13] .ret)
def VH:qH:=⟨1,14,[.l 2 (some 8)],sr [oP 0 2 (.lalloc (.agg [.int .i64 0,.int .i64 0,.str [],.int .i64 0,.str [],.nils,.nils,.nils]))] (sr qE7 qE6)⟩
def qD9:List qA:=[oM 0 5 0,oD1 1 6 1511 5,oP 2 3 (.lalloc (.agg [.int .i64 0,.int .i64 0,.str [],.int .i64 0,.str [],.nils,.nils,.nils])),oS 3 3 0 8 6]
def qEA:List qA:=[oM 0 7 0,oP 1 8 (.bslice 1 (.str []) 2 [(0,.c (.str [42])),(1,.c (.str [47]))]),oD2 2 9 1189 7 8,oM 3 4 9]
def qEB:List qA:=[oM 0 15 4,oY 1 16 3 0 8,oM 2 17 0,oD1 3 18 1511 17,oP 4 19 (.call 1190 [.t 15,.t 16,.t 18]),oS 5 3 0 8 19]
def qEC:List qA:=[oM 0 12 0,oP 1 13 (.bslice 1 (.str []) 2 [(0,.c (.str [42])),(1,.c (.str [47]))]),oD2 2 14 1189 12 13,oM 3 4 14]
def qD8:qF:=.seq (sr qEA (.blk 0 (.loop (.seq (sr [oM 0 10 4,oE 1 11 .neq 10 0] (.cond (.t 11) .skip (.exit 0))) (.seq (.blk 1 (.reg true qEB)) (.reg true qEC)))))) (sr [oY 0 20 3 0 8,oS 1 2 0 8 20] .ret)
def Y4:qH:=⟨1,21,[.l 2 (some 8)],sr [oP 0 2 (.lalloc (.agg [.int .i64 0,.int .i64 0,.str [],.int .i64 0,.str [],.nils,.nils,.nils]))] (sr qD9 qD8)⟩
def qCA:List qA:=[oM 0 5 0,oD1 1 6 1425 5,oP 2 3 (.lalloc (.agg [.int .i64 0,.int .i64 0,.str [],.int .i64 0,.str [],.nils,.nils,.nils])),oS 3 3 0 8 6]
def qCB:List qA:=[oM 0 7 0,oP 1 8 (.bslice 1 (.str []) 2 [(0,.c (.str [43])),(1,.c (.str [45]))]),oD2 2 9 1189 7 8,oM 3 4 9]
def qCC:List qA:=[oM 0 15 4,oY 1 16 3 0 8,oM 2 17 0,oD1 3 18 1425 17,oP 4 19 (.call 1190 [.t 15,.t 16,.t 18]),oS 5 3 0 8 19]
def qCD:List qA:=[oM 0 12 0,oP 1 13 (.bslice 1 (.str []) 2 [(0,.c (.str [43])),(1,.c (.str [45]))]),oD2 2 14 1189 12 13,oM 3 4 14]
def qB9:qF:=.seq (sr qCB (.blk 0 (.loop (.seq (sr [oM 0 10 4,oE 1 11 .neq 10 0] (.cond (.t 11) .skip (.exit 0))) (.seq (.blk 1 (.reg true qCC)) (.reg true qCD)))))) (sr [oY 0 20 3 0 8,oS 1 2 0 8 20] .ret)
def Yd:qH:=⟨1,21,[.l 2 (some 8)],sr [oP 0 2 (.lalloc (.agg [.int .i64 0,.int .i64 0,.str [],.int .i64 0,.str [],.nils,.nils,.nils]))] (sr qCA qB9)⟩
def qM9:List qA:=[oM 0 5 0,oD1 1 6 1188 5,oP 2 3 (.lalloc (.agg [.int .i64 0,.int .i64 0,.str [],.int .i64 0,.str [],.nils,.nils,.nils])),oS 3 3 0 8 6]
def qNA:List qA:=[oM 0 7 0,oP 1 8 (.bslice 1 (.str []) 2 [(0,.c (.str [60])),(1,.c (.str [61]))]),oD2 2 9 1189 7 8,oM 3 4 9]
def qNB:List qA:=[oM 0 12 4,oY 1 13 3 0 8,oM 2 14 0,oD1 3 15 1188 14,oP 4 16 (.call 1190 [.t 12,.t 13,.t 15]),oS 5 2 0 8 16]
def qM8:qF:=sr qM9 (.seq (sr qNA (sr [oM 0 10 4,oE 1 11 .neq 10 0] (.cond (.t 11) (sr qNB .ret) .skip))) (sr [oY 0 17 3 0 8,oS 1 2 0 8 17] .ret))
def UL:qH:=⟨1,18,[.l 2 (some 8)],sr [oP 0 2 (.lalloc (.agg [.int .i64 0,.int .i64 0,.str [],.int .i64 0,.str [],.nils,.nils,.nils]))] qM8⟩
def qJB:List qA:=[oM 0 11 0,oP 1 12 (.call 875 [.t 11,.c (.int .i64 1)]),oP 2 13 (.build (.agg [.int .i64 0,.int .i64 0,.str [],.int .i64 0,.str [],.nils,.nils,.nils]) [(0,1,.c (.int .i64 4)),(2,1,.t 12)]),oP 3 3 (.lalloc (.agg [.int .i64 0,.int .i64 0,.str [],.int .i64 0,.str [],.nils,.nils,.nils])),oS 4 3 0 8 13]
def qJC:List qA:=[oM 0 16 0,oD1 1 17 335 16,oU 2 18 3,oS 3 3 3 3 17]
def qJE:List qA:=[oM 0 21 0,oD1 1 22 511 21,oP 2 23 (.bslice 8 (.agg [.int .i64 0,.int .i64 0,.str [],.int .i64 0,.str [],.nils,.nils,.nils]) 1 [(0,.t 22)]),oU 3 24 3,oS 4 3 7 1 23]
def qI9:qF:=sr [oM 0 14 0,oP 1 15 (.call 876 [.t 14,.c (.str [58])])] (sr qJC (sr [oM 0 19 0,oP 1 20 (.call 876 [.t 19,.c (.str [46])])] (sr qJE (sr [oY 0 25 3 0 8,oS 1 2 0 8 25] .ret))))
def qJF:List qA:=[oM 0 29 0,oP 1 30 (.call 875 [.t 29,.c (.int .i64 1)]),oP 2 31 (.build (.agg [.int .i64 0,.int .i64 0,.str [],.int .i64 0,.str [],.nils,.nils,.nils]) [(0,1,.c (.int .i64 7)),(2,1,.t 30)]),oP 3 4 (.lalloc (.agg [.int .i64 0,.int .i64 0,.str [],.int .i64 0,.str [],.nils,.nils,.nils])),oS 4 4 0 8 31]
def qJG:List qA:=[oM 0 34 0,oD1 1 35 511 34,oP 2 5 (.lalloc (.agg [.int .i64 0,.int .i64 0,.str [],.int .i64 0,.str [],.nils,.nils,.nils])),oS 3 5 0 8 35]
def qJH:List qA:=[oY 0 38 5 0 8,oM 1 39 0,oD1 2 40 511 39,oP 3 41 (.bslice 8 (.agg [.int .i64 0,.int .i64 0,.str [],.int .i64 0,.str [],.nils,.nils,.nils]) 2 [(0,.t 38),(1,.t 40)]),oU 4 42 4,oS 5 4 7 1 41]
def qJA:qF:=sr [oM 0 32 0,oP 1 33 (.call 876 [.t 32,.c (.str [61])])] (sr qJG (sr [oM 0 36 0,oP 1 37 (.call 876 [.t 36,.c (.str [105,110])])] (sr qJH (sr [oY 0 43 4 0 8,oS 1 2 0 8 43] .ret))))
def qJI:List qA:=[oM 0 47 0,oD1 1 48 511 47,oP 2 6 (.lalloc (.agg [.int .i64 0,.int .i64 0,.str [],.int .i64 0,.str [],.nils,.nils,.nils])),oS 3 6 0 8 48]
def qJJ:List qA:=[oM 0 51 0,oD1 1 52 511 51,oP 2 7 (.lalloc (.agg [.int .i64 0,.int .i64 0,.str [],.int .i64 0,.str [],.nils,.nils,.nils])),oS 3 7 0 8 52]
def qJD:List qA:=[oY 0 55 6 0 8,oY 1 56 7 0 8,oM 2 57 0,oD1 3 58 511 57,oP 4 59 (.bslice 8 (.agg [.int .i64 0,.int .i64 0,.str [],.int .i64 0,.str [],.nils,.nils,.nils]) 3 [(0,.t 55),(1,.t 56),(2,.t 58)]),oP 5 60 (.build (.agg [.int .i64 0,.int .i64 0,.str [],.int .i64 0,.str [],.nils,.nils,.nils]) [(0,1,.c (.int .i64 11)),(7,1,.t 59)]),oS 6 2 0 8 60]
def qI6:qF:=sr qJI (sr [oM 0 49 0,oP 1 50 (.call 876 [.t 49,.c (.str [116,104,101,110])])] (sr qJJ (sr [oM 0 53 0,oP 1 54 (.call 876 [.t 53,.c (.str [101,108,115,101])])] (sr qJD .ret))))
def qI7:qF:=sr [oM 0 27 0,oP 1 28 (.call 721 [.t 27,.c (.str [108,101,116])]),oM 2 26 28] (.cond (.t 26) (sr qJF qJA) (sr [oM 0 45 0,oP 1 46 (.call 721 [.t 45,.c (.str [105,102])]),oM 2 44 46] (.cond (.t 44) qI6 .skip)))
def qI8:qF:=.seq (.blk 0 (sr [oM 0 9 0,oP 1 10 (.call 721 [.t 9,.c (.str [92])]),oM 2 8 10] (.cond (.t 8) (sr qJB qI9) qI7))) (sr [oM 0 61 0,oD1 1 62 877 61,oS 2 2 0 8 62] .ret)
def Vr:qH:=⟨1,63,[.l 2 (some 8)],sr [oP 0 2 (.lalloc (.agg [.int .i64 0,.int .i64 0,.str [],.int .i64 0,.str [],.nils,.nils,.nils]))] qI8⟩
def qED:qH:=ZK 2 (some 2)
def qEE:List qA:=[oU 0 4 2,oX 1 5 2 0,oL 2 6 1,oP 3 7 (.sop .eql (.t 5) (.t 6)),oM 4 3 7]
def Y5:qH:=⟨2,8,[.t 3],sr [oP 0 2 (.lbox 2 (.t 0)),oQ 1 3 false] (sr qEE .ret)⟩
def qCH:List qA:=[oM 0 5 0,oP 1 6 (.mkfn 1430 [.t 3]),oD2 2 7 1429 5 6,oM 3 4 7]
def Yg:qH:=⟨2,8,[.t 4],sr [oP 0 3 (.hbox 1 (.t 1)),oC 1 4 0] (sr qCH .ret)⟩
def qEG:qH:=ZK 3 (some 3)
def qCM:qH:=Z5 1432
def qCN:List qA:=[oL 0 4 1,oY 1 5 2 0 3,oD2 2 6 892 4 5,oJ 3 7 6,oM 4 3 7]
def Yl:qH:=⟨2,8,[.t 3],sr [oP 0 2 (.lbox 3 (.t 0)),oQ 1 3 false] (sr qCN .ret)⟩
def qNO:List qA:=[oU 0 5 3,oX 1 6 3 0,oE 2 7 .eql 6 2,oM 3 8 7,oG 4 9 8 true (.load none (.t 2)),oG 5 10 8 true (.nop 3),oG 6 11 8 true (.lload 3 1 none),oG 7 12 8 true (.call 1204 [.t 9,.t 11]),oG 8 13 8 true (.bin .lss (.t 12) (.c (.int .i64 0))),oPf 9 14 8 13]
def qNP:List qA:=[oU 0 15 3,oX 1 16 3 2,oP 2 17 (.mkfn 1209 [.t 2]),oD2 3 18 1208 16 17,oJ 4 19 18,oM 5 4 19]
def UP:qH:=⟨2,20,[.t 4],sr [oP 0 2 (.hbox 1 (.t 0)),oP 1 3 (.lbox 3 (.t 1)),oQ 2 4 false] (.seq (sr qNO (.cond (.t 14) (sr [oQ 0 4 false] .ret) .skip)) (sr qNP .ret))⟩
def qEF:List qA:=[oY 0 4 2 0 3,oD1 1 5 74 4,oJ 2 6 5,oM 3 7 6,oG 4 8 7 false (.load none (.t 1)),oG 5 9 7 false (.lload 2 0 (some 3)),oG 6 10 7 false (.call 892 [.t 8,.t 9]),oG 7 11 7 false (.not (.t 10)),oPt 8 12 7 11,oM 9 3 12]
def Y6:qH:=⟨2,13,[.t 3],sr [oP 0 2 (.lbox 3 (.t 0)),oQ 1 3 false] (sr qEF .ret)⟩
def qCI:List qA:=[oU 0 5 3,oX 1 6 3 0,oD1 2 7 717 6,oJ 3 8 7,oM 4 9 8,oG 5 10 9 false (.nop 3),oG 6 11 9 false (.lload 3 1 none),oG 7 12 9 false (.len (.t 11)),oG 8 13 9 false (.bin .gtr (.t 12) (.c (.int .i64 3))),oPt 9 14 9 13]
def qCJ:List qA:=[oU 0 15 3,oX 1 16 3 1,oP 2 17 (.mkfn 1431 [.t 2]),oD2 3 18 1208 16 17,oJ 4 19 18,oM 5 4 19]
def Yh:qH:=⟨2,20,[.t 4],sr [oP 0 2 (.hbox 1 (.t 0)),oP 1 3 (.lbox 2 (.t 1)),oQ 2 4 false] (.seq (sr qCI (.cond (.t 14) (sr [oQ 0 4 false] .ret) .skip)) (sr qCJ .ret))⟩
def qNG:List qA:=[oM 0 16 14,oA 1 17 2 12 14,oP 2 18 (.load (some 2) (.t 17)),oP 3 5 (.lalloc (.agg [.str [],.nils])),oM 4 4 16,oS 5 5 0 2 18]
def qNH:List qA:=[oU 0 19 5,oX 1 20 5 0,oD1 2 21 717 20,oJ 3 22 21,oM 4 23 22,oG 5 24 23 false (.nop 5),oG 6 25 23 false (.lload 5 0 none),oG 7 26 23 false (.sop .eql (.t 25) (.c (.str [73,110,116]))),oPt 8 27 23 26,oM 9 28 27,oH 10 29 28 false 0,oH 11 30 28 false 4,oG 12 31 28 false (.slc 2 (.t 29) none (some (.t 30)) none),oG 13 32 28 false (.nop 5),oG 14 33 28 false (.lload 5 0 none),oG 15 34 28 false (.call 1204 [.t 31,.t 33]),oG 16 35 28 false (.bin .geq (.t 34) (.c (.int .i64 0))),oPt 17 36 28 35,oM 18 37 36,oG 19 38 37 false (.nop 5),oG 20 39 37 false (.lload 5 1 none),oG 21 40 37 false (.len (.t 39)),oG 22 41 37 false (.bin .lss (.t 40) (.c (.int .i64 1))),oPt 23 42 37 41,oM 24 43 42,oG 25 44 43 false (.nop 5),oG 26 45 43 false (.lload 5 1 none),oG 27 46 43 false (.len (.t 45)),oG 28 47 43 false (.bin .gtr (.t 46) (.c (.int .i64 4))),oPt 29 48 43 47]
def qNI:List qA:=[oU 0 49 5,oX 1 50 5 1,oW 2 51 50,oC 3 52 0]
def qNJ:List qA:=[oA 0 54 2 50 52,oP 1 55 (.load (some 2) (.t 54)),oP 2 7 (.lalloc (.agg [.str [],.nils])),oS 3 7 0 2 55]
def qNK:List qA:=[oM 0 56 0,oY 1 57 7 0 2,oD2 2 58 1205 56 57,oJ 3 59 58,oM 4 60 59,oH 5 61 60 false 3,oG 6 62 60 false (.nop 7),oG 7 63 60 false (.lload 7 0 none),oG 8 64 60 false (.looks (.bool false) (.t 61) (.t 63) false),oPt 9 65 60 64]
def qNL:List qA:=[oM 0 66 3,oU 1 67 7,oX 2 68 7 0,oN 3 (.mupds (.t 66) (.t 68) (.c (.bool true)))]
def qNC:qF:=sr [oB 0 53 .lss 52 51] (.seq (.cond (.t 53) .skip (.exit 2)) (.seq (.blk 3 (sr qNJ (.seq (sr qNK (.cond (.t 65) (sr [oQ 0 2 false] .ret) .skip)) (.reg true qNL)))) (.reg true [oE 0 69 .add 52 1,oM 1 52 69])))
def qND:qF:=.seq (.blk 1 (sr qNG (.seq (sr qNH (.cond (.t 48) (sr [oQ 0 2 false] .ret) .skip)) (sr qNI (.blk 2 (.loop qNC)))))) (.reg true [oE 0 70 .add 14 1,oM 1 14 70])
def qNE:qF:=.seq (sr [oM 0 12 0,oW 1 13 12,oC 2 14 0] (.blk 0 (.loop (sr [oB 0 15 .lss 14 13] (.seq (.cond (.t 15) .skip (.exit 0)) qND))))) (sr [oQ 0 2 true] .ret)
def qNF:qF:=.seq (sr [oM 0 8 0,oW 1 9 8,oE 2 10 .gtr 9 4] (.cond (.t 10) (sr [oQ 0 2 false] .ret) .skip)) (sr [oP 0 11 (.mkmap),oM 1 3 11] qNE)
def UM:qH:=⟨1,71,[.t 2],sr [oQ 0 2 false] qNF⟩
def F891:qH:=ZK 12 (some 12)
def qCL:List qA:=[oU 0 4 2,oX 1 5 2 0,oL 2 6 1,oP 3 7 (.sop .eql (.t 5) (.t 6)),oM 4 3 7]
def Yj:qH:=⟨2,8,[.t 3],sr [oP 0 2 (.lbox 12 (.t 0)),oQ 1 3 false] (sr qCL .ret)⟩
def qNN:List qA:=[oU 0 5 2,oX 1 6 2 1,oP 2 7 (.mkfn 1207 [.t 3]),oD2 3 8 891 6 7,oM 4 4 8]
def UO:qH:=⟨2,9,[.t 4],sr [oP 0 2 (.lbox 2 (.t 0)),oP 1 3 (.hbox 1 (.t 1)),oC 2 4 0] (sr qNN .ret)⟩
def qJL:List qA:=[oU 0 5 1,oX 1 6 1 0,oD1 2 7 888 6,oJ 3 8 7,oM 4 9 8,oG 5 10 9 false (.nop 1),oG 6 11 9 false (.lload 1 1 none),oG 7 12 9 false (.len (.t 11)),oG 8 13 9 false (.bin .lss (.t 12) (.c (.int .i64 1))),oPt 9 14 9 13,oM 10 15 14,oG 11 16 15 false (.nop 1),oG 12 17 15 false (.lload 1 1 none),oG 13 18 15 false (.len (.t 17)),oG 14 19 15 false (.bin .gtr (.t 18) (.c (.int .i64 8))),oPt 15 20 15 19]
def qJM:List qA:=[oU 0 21 1,oX 1 22 1 1,oW 2 23 22,oC 3 24 0]
def qJN:List qA:=[oM 0 26 24,oA 1 27 12 22 24,oP 2 28 (.load (some 12) (.t 27)),oP 3 4 (.lalloc (.agg [.str [],.int .i64 0,.str [],.nils,.int .i64 0,.int .i64 0,.str [],.int .i64 0,.str [],.nils,.nils,.nils])),oM 4 3 26,oS 5 4 0 12 28]
def qJO:List qA:=[oU 0 29 4,oX 1 30 4 0,oD1 2 31 889 30,oJ 3 32 31,oM 4 33 32,oG 5 34 33 false (.lload 1 0 (some 2)),oG 6 35 33 false (.nop 4),oG 7 36 33 false (.lload 4 0 none),oG 8 37 33 false (.call 890 [.t 34,.t 36]),oH 9 38 33 false 3,oG 10 39 33 false (.bin .lss (.t 37) (.t 38)),oPt 11 40 33 39,oM 12 41 40,oG 13 42 41 false (.nop 4),oG 14 43 41 false (.lload 4 1 (some 3)),oG 15 44 41 false (.call 74 [.t 43]),oG 16 45 41 false (.not (.t 44)),oPt 17 46 41 45,oM 18 47 46,oG 19 48 47 false (.nop 4),oG 20 49 47 false (.lload 4 4 (some 8)),oG 21 50 47 false (.call 144 [.t 49]),oG 22 51 47 false (.not (.t 50)),oPt 23 52 47 51]
def qJK:qF:=sr [oB 0 25 .lss 24 23] (.seq (.cond (.t 25) .skip (.exit 0)) (.seq (.blk 1 (sr qJN (sr qJO (.cond (.t 52) (sr [oQ 0 2 false] .ret) .skip)))) (.reg true [oE 0 53 .add 24 1,oM 1 24 53])))
def Vs:qH:=⟨1,54,[.t 2],sr [oP 0 1 (.lbox 2 (.t 0)),oQ 1 2 false] (.seq (sr qJL (.cond (.t 20) (sr [oQ 0 2 false] .ret) .skip)) (.seq (sr qJM (.blk 0 (.loop qJK))) (sr [oQ 0 2 true] .ret)))⟩
def Ws:zr:=⟨3,47,
 .reg true [⟨0,some 6,none,.lalloc (.agg [.nils,.nils]),[]⟩,
⟨1,some 7,none,.lalloc (.int .i64 0),[]⟩,
⟨2,some 8,none,.lalloc (.int .i64 0),[]⟩],
 .reg true [⟨0,some 9,none,.lalloc (.agg [.nils,.nils]),[]⟩],
 .reg true [⟨0,some 13,none,.mov (.t 0),[]⟩,
⟨1,some 14,none,.call 266 [.t 13],[]⟩,
⟨2,some 12,none,.mov (.t 14),[]⟩,
⟨3,some 15,none,.ext (.t 12) 0,[]⟩,
⟨4,some 16,none,.ext (.t 12) 1,[]⟩,
⟨5,some 17,none,.ext (.t 12) 2,[]⟩,
⟨6,some 10,none,.mov (.t 15),[]⟩,
⟨7,none,none,.lstore 7 0 1 (.t 16),[]⟩,
⟨8,none,none,.lstore 8 0 1 (.t 17),[]⟩],
 sr [⟨0,some 18,none,.lload 8 0 none,[]⟩,
⟨1,some 19,none,.bin .neq (.t 18) (.c (.int .i64 0)),[]⟩] (.cond (.t 19) (sr [⟨0,some 20,none,.lload 9 0 (some 2),[]⟩,
⟨1,some 21,none,.lload 7 0 none,[]⟩,
⟨2,some 22,none,.lload 8 0 none,[]⟩,
⟨3,none,none,.lstore 6 0 2 (.t 20),[]⟩,
⟨4,none,none,.lstore 7 0 1 (.t 21),[]⟩,
⟨5,none,none,.lstore 8 0 1 (.t 22),[]⟩] .ret) .skip),
 .reg true [⟨0,some 24,none,.mov (.t 10),[]⟩,
⟨1,some 25,none,.mov (.t 0),[]⟩,
⟨2,some 26,none,.slen (.t 25),[]⟩,
⟨3,some 27,none,.build (.agg [.nils,.int .i64 0,.int .i64 0]) [(0,1,.t 24),(2,1,.t 26)],[]⟩,
⟨4,some 28,none,.hbox 3 (.t 27),[]⟩,
⟨5,some 11,none,.mov (.t 28),[]⟩],
 [⟨0,some 29,none,.mov (.t 1),[]⟩,
⟨1,some 30,none,.mov (.t 11),[]⟩,
⟨2,some 31,none,.callv (.t 29) [.t 30],[]⟩,
⟨3,none,none,.lstore 6 0 2 (.t 31),[]⟩],
 .reg true [⟨0,some 32,none,.mov (.t 11),[]⟩,
⟨1,some 33,none,.nilchk (.t 32),[]⟩,
⟨2,some 34,none,.faddr 1 (.t 33),[]⟩,
⟨3,some 35,none,.load none (.t 34),[]⟩,
⟨4,some 36,none,.mov (.t 10),[]⟩,
⟨5,some 37,none,.len (.t 36),[]⟩,
⟨6,some 38,none,.bin .lss (.t 35) (.t 37),[]⟩],.t 38,
 [⟨0,some 39,none,.mov (.t 11),[]⟩,
⟨1,some 40,none,.call 719 [.t 39],[]⟩],
 .seq (sr [⟨0,some 41,none,.mov (.t 2),[]⟩,
⟨1,some 42,none,.lload 6 0 (some 2),[]⟩,
⟨2,some 43,none,.callv (.t 41) [.t 42],[]⟩,
⟨3,some 44,none,.not (.t 43),[]⟩] (.cond (.t 44) (sr [⟨0,some 45,none,.lload 9 0 (some 2),[]⟩,
⟨1,none,none,.lstore 6 0 2 (.t 45),[]⟩,
⟨2,none,none,.lstore 7 0 1 (.c (.int .i64 0)),[]⟩,
⟨3,none,none,.lstore 8 0 1 (.c (.int .i64 1)),[]⟩] .ret) .skip)) (sr [⟨0,some 46,none,.lload 6 0 (some 2),[]⟩,
⟨1,none,none,.lstore 6 0 2 (.t 46),[]⟩,
⟨2,none,none,.lstore 7 0 1 (.c (.int .i64 0)),[]⟩,
⟨3,none,none,.lstore 8 0 1 (.c (.int .i64 0)),[]⟩] .ret),
 sr [⟨0,some 5,none,.lalloc (.agg [.int .i64 0]),[]⟩,
⟨1,none,none,.lstore 5 0 1 (.t 12),[]⟩] (.reg true [⟨0,some 13,none,.lload 0 0 (some 2),[]⟩,
⟨1,some 14,none,.nop 5,[]⟩,
⟨2,some 15,none,.lload 5 0 none,[]⟩,
⟨3,none,none,.lstore 1 0 2 (.t 13),[]⟩,
⟨4,none,none,.lstore 2 0 1 (.t 15),[]⟩,
⟨5,none,none,.lstore 3 0 1 (.c (.int .i64 6)),[]⟩]),
 751,23,12,[9,6,7,8],[.l 6 (some 2),.l 7 none,.l 8 none],[.l 1 (some 2),.l 2 none,.l 3 none]⟩
def qDD:List qA:=[oF 0 2 1 0,oL 1 3 2,oL 2 4 1,oW 4 6 3,oP 5 7 (.mov (.c (.lst 3 [.agg [.int .i64 0,.str [],.nils]] false))),⟨3,some 5,none,.call 335 [.t 4],[⟨1,some 3,none,.load none (.t 2),[]⟩]⟩,oP 6 8 (.app 3 (.t 3) (.t 7)),oA 7 9 3 8 6,oF 9 10 1 0,oT 8 3 9 5,oN 10 (.store2 1 (.t 10) (.t 8) (.t 9))]
def Yr:qH:=⟨2,11,[],.reg true qDD⟩
def ku:List qA:=[oL 0 4 1,oP 1 5 (.call 875 [.t 4,.c (.int .i64 2)]),oP 2 6 (.build (.agg [.str [],.nils]) [(0,1,.t 5)]),oP 3 3 (.halloc 2 (.agg [.str [],.nils])),oT 4 2 3 6]
def YE:qH:=⟨1,11,[.l 2 (some 2)],sr [oP 0 1 (.hbox 1 (.t 0)),oP 1 2 (.lalloc (.agg [.str [],.nils]))] (sr ku (sr [oL 0 7 1,oP 1 8 (.mkfn 1328 [.t 3,.t 1]),oD2 2 9 1327 7 8] (sr [oP 0 10 (.load (some 2) (.t 3)),oS 1 2 0 2 10] .ret)))⟩
def qKO:List qA:=[oM 0 8 0,oP 1 9 (.call 875 [.t 8,.c (.int .i64 2)]),oP 2 10 (.build (.agg [.str [],.nils]) [(0,1,.t 9)]),oP 3 4 (.lalloc (.agg [.str [],.nils])),oS 4 4 0 2 10]
def qKP:List qA:=[oU 0 13 4,oX 1 14 4 1,oM 2 15 0,oD1 3 16 1009 15,oP 4 17 (.bslice 2 (.agg [.str [],.nils]) 1 [(0,.t 16)]),oP 5 18 (.app 2 (.t 14) (.t 17)),oU 6 19 4,oS 7 4 1 1 18]
def qKQ:List qA:=[oU 0 22 4,oX 1 23 4 1,oM 2 24 0,oD1 3 25 1009 24,oP 4 26 (.bslice 2 (.agg [.str [],.nils]) 1 [(0,.t 25)]),oP 5 27 (.app 2 (.t 23) (.t 26)),oU 6 28 4,oS 7 4 1 1 27]
def qKR:List qA:=[oU 0 29 3,oX 1 30 3 0,oY 2 31 4 0 2,oP 3 32 (.bslice 2 (.agg [.str [],.nils]) 1 [(0,.t 31)]),oP 4 33 (.app 2 (.t 30) (.t 32)),oU 5 34 3,oS 6 3 0 1 33]
def qKM:qF:=sr [oM 0 11 0,oP 1 12 (.call 876 [.t 11,.c (.str [61])])] (sr qKP (.seq (.blk 2 (.loop (.seq (sr [oM 0 20 0,oP 1 21 (.call 721 [.t 20,.c (.str [124])])] (.cond (.t 21) .skip (.exit 2))) (.blk 3 (.reg true qKQ))))) (.reg true qKR)))
def qKS:List qA:=[oM 0 37 0,oP 1 38 (.call 875 [.t 37,.c (.int .i64 1)]),oP 2 39 (.build (.agg [.str [],.int .i64 0,.str [],.nils,.int .i64 0,.int .i64 0,.str [],.int .i64 0,.str [],.nils,.nils,.nils]) [(0,1,.t 38)]),oP 3 5 (.lalloc (.agg [.str [],.int .i64 0,.str [],.nils,.int .i64 0,.int .i64 0,.str [],.int .i64 0,.str [],.nils,.nils,.nils])),oS 4 5 0 12 39]
def qKT:List qA:=[oM 0 42 0,oD1 1 43 335 42,oU 2 44 5,oS 3 5 1 3 43]
def qKU:List qA:=[oM 0 47 0,oD1 1 48 511 47,oU 2 49 5,oS 3 5 4 8 48]
def qKV:List qA:=[oU 0 50 3,oX 1 51 3 1,oY 2 52 5 0 12,oP 3 53 (.bslice 12 (.agg [.str [],.int .i64 0,.str [],.nils,.int .i64 0,.int .i64 0,.str [],.int .i64 0,.str [],.nils,.nils,.nils]) 1 [(0,.t 52)]),oP 4 54 (.app 12 (.t 51) (.t 53)),oU 5 55 3,oS 6 3 1 1 54]
def qKN:qF:=sr [oM 0 40 0,oP 1 41 (.call 876 [.t 40,.c (.str [58])])] (sr qKT (sr [oM 0 45 0,oP 1 46 (.call 876 [.t 45,.c (.str [61])])] (sr qKU (.reg true qKV))))
def qKL:qF:=.seq (.blk 4 (.loop (.seq (sr [oM 0 35 0,oP 1 36 (.call 721 [.t 35,.c (.str [100,101,102])])] (.cond (.t 36) .skip (.exit 4))) (.blk 5 (sr qKS qKN))))) (sr [oY 0 56 3 0 2,oS 1 2 0 2 56] .ret)
def V1:qH:=⟨1,57,[.l 2 (some 2)],sr [oP 0 2 (.lalloc (.agg [.nils,.nils]))] (sr [oP 0 3 (.lalloc (.agg [.nils,.nils]))] (.seq (.blk 0 (.loop (.seq (sr [oM 0 6 0,oP 1 7 (.call 721 [.t 6,.c (.str [100,97,116,97])])] (.cond (.t 7) .skip (.exit 0))) (.blk 1 (sr qKO qKM))))) qKL))⟩
def qG1:List qA:=[oM 0 5 0,oP 1 6 (.call 628 [.t 5,.f 629,.f 527]),oV 2 7 6 0,oV 3 8 6 1,oV 4 9 6 2,oS 5 2 0 2 7,oM 6 3 8,oM 7 4 9]
def Vb:qH:=⟨1,10,[.l 2 (some 2),.t 3,.t 4],sr [oP 0 2 (.lalloc (.agg [.nils,.nils])),oC 1 3 0,oC 2 4 0] (sr qG1 .ret)⟩
def qNY:List qA:=[oM 0 6 5,oM 1 7 0,oW 2 8 7,oB 3 9 .lss 6 8]
def qNZ:List qA:=[oM 0 12 0,oM 1 13 5,oA 2 14 12 12 13,oF 3 15 0 14,oL 4 16 15,oM 5 17 1,oP 6 18 (.sop .eql (.t 16) (.t 17))]
def qNX:qF:=.seq (sr qNY (.cond (.t 9) .skip (.exit 0))) (.seq (.blk 1 (sr qNZ (.cond (.t 18) (sr [oM 0 19 5,oM 1 4 19] .ret) .skip))) (.reg true [oM 0 10 5,oE 1 11 .add 10 1,oM 2 5 11]))
def UT:qH:=⟨2,20,[.t 4],sr [oC 0 4 0] (.seq (sr [oC 0 5 0] (.blk 0 (.loop qNX))) (sr [oP 0 4 (.mov (.c (.int .i64 (-1))))] .ret))⟩
def qC3:List qA:=[oM 0 6 5,oM 1 7 0,oW 2 8 7,oB 3 9 .lss 6 8]
def qC4:List qA:=[oM 0 12 0,oM 1 13 5,oA 2 14 2 12 13,oF 3 15 0 14,oL 4 16 15,oM 5 17 1,oP 6 18 (.sop .eql (.t 16) (.t 17))]
def qC2:qF:=.seq (sr qC3 (.cond (.t 9) .skip (.exit 0))) (.seq (.blk 1 (sr qC4 (.cond (.t 18) (sr [oM 0 19 5,oM 1 4 19] .ret) .skip))) (.reg true [oM 0 10 5,oE 1 11 .add 10 1,oM 2 5 11]))
def Yo:qH:=⟨2,20,[.t 4],sr [oC 0 4 0] (.seq (sr [oC 0 5 0] (.blk 0 (.loop qC2))) (sr [oP 0 4 (.mov (.c (.int .i64 (-1))))] .ret))⟩
def qN2:List qA:=[oM 0 9 0,oU 1 10 3,oX 2 11 3 1,oD2 3 12 1238 9 11,oE 4 13 .geq 12 0,oM 5 4 13]
def qN3:List qA:=[oM 0 14 5,oU 1 15 3,oX 2 16 3 2,oW 3 17 16,oB 4 18 .lss 14 17]
def qN4:List qA:=[oM 0 21 0,oU 1 22 3,oX 2 23 3 2,oM 3 24 5,oA 4 25 3 23 24,oP 5 26 (.load (some 3) (.t 25)),oD2 6 27 917 21 26,oJ 7 28 27]
def qN0:qF:=.loop (.seq (sr qN3 (.cond (.t 18) .skip (.exit 0))) (.seq (.blk 1 (sr qN4 (.cond (.t 28) (sr [oQ 0 4 false] .ret) .skip))) (.reg true [oM 0 19 5,oE 1 20 .add 19 1,oM 2 5 20])))
def qN1:qF:=.seq (sr [oU 0 6 3,oX 1 7 3 0,oE 2 8 .eql 7 2] (.cond (.t 8) (sr qN2 .ret) .skip)) (.seq (sr [oC 0 5 0] (.blk 0 qN0)) (sr [oQ 0 4 true] .ret))
def UU:qH:=⟨2,29,[.t 4],sr [oP 0 3 (.lbox 3 (.t 1)),oQ 1 4 false] qN1⟩
def qEI:List qA:=[oU 0 6 3,oX 1 7 3 0,oD1 2 8 921 7,oJ 3 9 8,oM 4 10 9,oG 5 11 10 false (.nop 3),oG 6 12 10 false (.lload 3 1 none),oG 7 13 10 false (.len (.t 12)),oG 8 14 10 false (.bin .gtr (.t 13) (.c (.int .i64 3))),oPt 9 15 10 14]
def qEJ:List qA:=[oM 0 16 5,oU 1 17 3,oX 2 18 3 1,oW 3 19 18,oB 4 20 .lss 16 19]
def qEK:List qA:=[oU 0 23 3,oX 1 24 3 1,oM 2 25 5,oA 3 26 3 24 25,oP 4 27 (.load (some 3) (.t 26)),oD1 5 28 208 27,oJ 6 29 28,oM 7 30 29,oH 8 31 30 false 0,oG 9 32 30 false (.nop 3),oG 10 33 30 false (.lload 3 1 none),oH 11 34 30 false 5,oG 12 35 30 false (.iaddr 3 (.t 33) (.t 34)),oG 13 36 30 false (.load (some 3) (.t 35)),oG 14 37 30 false (.call 917 [.t 31,.t 36]),oG 15 38 30 false (.not (.t 37)),oPt 16 39 30 38]
def qEH:qF:=.loop (.seq (sr qEJ (.cond (.t 20) .skip (.exit 0))) (.seq (.blk 1 (sr qEK (.cond (.t 39) (sr [oQ 0 4 false] .ret) .skip))) (.reg true [oM 0 21 5,oE 1 22 .add 21 1,oM 2 5 22])))
def Y7:qH:=⟨2,40,[.t 4],sr [oP 0 3 (.lbox 2 (.t 1)),oQ 1 4 false] (.seq (sr qEI (.cond (.t 15) (sr [oQ 0 4 false] .ret) .skip)) (.seq (sr [oC 0 5 0] (.blk 0 qEH)) (sr [oQ 0 4 true] .ret)))⟩
def qCT:List qA:=[oM 0 12 4,oM 1 13 0,oW 2 14 13,oB 3 15 .lss 12 14]
def qCU:List qA:=[oM 0 18 0,oM 1 19 4,oA 2 20 2 18 19,oP 3 21 (.load (some 2) (.t 20)),oP 4 5 (.lalloc (.agg [.str [],.nils])),oS 5 5 0 2 21]
def qCV:List qA:=[oU 0 22 5,oX 1 23 5 0,oD1 2 24 921 23,oJ 3 25 24,oM 4 26 25,oG 5 27 26 false (.nop 5),oG 6 28 26 false (.lload 5 0 none),oG 7 29 26 false (.sop .eql (.t 28) (.c (.str [73,110,116]))),oPt 8 30 26 29,oM 9 31 30,oH 10 32 31 false 0,oG 11 33 31 false (.nop 5),oG 12 34 31 false (.lload 5 0 none),oG 13 35 31 false (.call 1238 [.t 32,.t 34]),oH 14 36 31 false 4,oG 15 37 31 false (.bin .neq (.t 35) (.t 36)),oPt 16 38 31 37,oM 17 39 38,oG 18 40 39 false (.nop 5),oG 19 41 39 false (.lload 5 1 none),oG 20 42 39 false (.len (.t 41)),oG 21 43 39 false (.bin .lss (.t 42) (.c (.int .i64 1))),oPt 22 44 39 43,oM 23 45 44,oG 24 46 45 false (.nop 5),oG 25 47 45 false (.lload 5 1 none),oG 26 48 45 false (.len (.t 47)),oG 27 49 45 false (.bin .gtr (.t 48) (.c (.int .i64 4))),oPt 28 50 45 49]
def qCW:List qA:=[oM 0 51 6,oU 1 52 5,oX 2 53 5 1,oW 3 54 53,oB 4 55 .lss 51 54]
def qCX:List qA:=[oM 0 58 0,oU 1 59 5,oX 2 60 5 1,oM 3 61 6,oA 4 62 2 60 61,oP 5 63 (.load (some 2) (.t 62)),oD2 6 64 1439 58 63,oJ 7 65 64]
def qCY:List qA:=[oM 0 66 7,oM 1 67 3,oW 2 68 67,oB 3 69 .lss 66 68]
def qCZ:List qA:=[oM 0 72 3,oM 1 73 7,oA 2 74 1 72 73,oL 3 75 74,oU 4 76 5,oX 5 77 5 1,oM 6 78 6,oA 7 79 2 77 78,oF 8 80 0 79,oL 9 81 80,oP 10 82 (.sop .eql (.t 75) (.t 81))]
def qCR:qF:=.loop (.seq (sr qCY (.cond (.t 69) .skip (.exit 4))) (.seq (.blk 5 (sr qCZ (.cond (.t 82) (sr [oQ 0 2 false] .ret) .skip))) (.reg true [oM 0 70 7,oE 1 71 .add 70 1,oM 2 7 71])))
def qC0:List qA:=[oM 0 83 3,oU 1 84 5,oX 2 85 5 1,oM 3 86 6,oA 4 87 2 85 86,oF 5 88 0 87,oL 6 89 88,oP 7 90 (.bslice 1 (.str []) 1 [(0,.t 89)]),oP 8 91 (.app 1 (.t 83) (.t 90)),oM 9 3 91]
def qCS:qF:=.seq (.blk 3 (.seq (sr qCX (.cond (.t 65) (sr [oQ 0 2 false] .ret) .skip)) (.seq (sr [oC 0 7 0] (.blk 4 qCR)) (.reg true qC0)))) (.reg true [oM 0 56 6,oE 1 57 .add 56 1,oM 2 6 57])
def qCO:qF:=sr qCU (.seq (sr qCV (.cond (.t 50) (sr [oQ 0 2 false] .ret) .skip)) (sr [oC 0 6 0] (.blk 2 (.loop (.seq (sr qCW (.cond (.t 55) .skip (.exit 2))) qCS)))))
def qCP:qF:=sr [oC 0 4 0] (.blk 0 (.loop (.seq (sr qCT (.cond (.t 15) .skip (.exit 0))) (.seq (.blk 1 qCO) (.reg true [oM 0 16 4,oE 1 17 .add 16 1,oM 2 4 17])))))
def qCQ:qF:=.seq (sr [oM 0 8 0,oW 1 9 8,oE 2 10 .gtr 9 4] (.cond (.t 10) (sr [oQ 0 2 false] .ret) .skip)) (sr [oP 0 11 (.mov (.c (.lst 1 [] true))),oM 1 3 11] (.seq qCP (sr [oQ 0 2 true] .ret)))
def Ym:qH:=⟨1,92,[.t 2],sr [oQ 0 2 false] qCQ⟩
def qNT:List qA:=[oM 0 5 0,oK 1 6 5,oF 2 7 0 6,oL 3 8 7,oD1 4 9 1236 8,oJ 5 10 9,oM 6 11 10,oH 7 12 11 false 0,oG 8 13 11 false (.nilchk (.t 12)),oG 9 14 11 false (.faddr 1 (.t 13)),oG 10 15 11 false (.load none (.t 14)),oG 11 16 11 false (.len (.t 15)),oG 12 17 11 false (.call 340 [.t 16,.c (.int .i64 1),.c (.int .i64 8)]),oG 13 18 11 false (.not (.t 17)),oPt 14 19 11 18]
def qNU:List qA:=[oM 0 20 3,oM 1 21 0,oK 2 22 21,oF 3 23 1 22,oL 4 24 23,oW 5 25 24,oB 6 26 .lss 20 25]
def qNV:List qA:=[oM 0 29 0,oK 1 30 29,oF 2 31 1 30,oL 3 32 31,oM 4 33 3,oA 5 34 12 32 33,oM 6 4 34]
def qNW:List qA:=[oM 0 35 4,oK 1 36 35,oF 2 37 0 36,oL 3 38 37,oD1 4 39 1237 38,oJ 5 40 39,oM 6 41 40,oH 7 42 41 false 0,oG 8 43 41 false (.nilchk (.t 42)),oG 9 44 41 false (.faddr 1 (.t 43)),oG 10 45 41 false (.load none (.t 44)),oH 11 46 41 false 4,oG 12 47 41 false (.nilchk (.t 46)),oG 13 48 41 false (.faddr 0 (.t 47)),oG 14 49 41 false (.load none (.t 48)),oH 16 51 41 false 3,oG 15 50 41 false (.call 916 [.t 45,.t 49]),oG 17 52 41 false (.bin .neq (.t 50) (.t 51)),oPt 18 53 41 52,oM 19 54 53,oH 20 55 54 false 4,oG 21 56 54 false (.nilchk (.t 55)),oG 22 57 54 false (.faddr 1 (.t 56)),oG 23 58 54 false (.load (some 3) (.t 57)),oG 24 59 54 false (.call 208 [.t 58]),oG 25 60 54 false (.not (.t 59)),oPt 26 61 54 60,oM 27 62 61,oH 28 63 62 false 4,oG 29 64 62 false (.nilchk (.t 63)),oG 30 65 62 false (.faddr 4 (.t 64)),oG 31 66 62 false (.call 350 [.t 65]),oG 32 67 62 false (.not (.t 66)),oPt 33 68 62 67]
def qNR:qF:=.seq (sr qNU (.cond (.t 26) .skip (.exit 0))) (.seq (.blk 1 (sr qNV (sr qNW (.cond (.t 68) (sr [oQ 0 2 false] .ret) .skip)))) (.reg true [oM 0 27 3,oE 1 28 .add 27 1,oM 2 3 28]))
def qNS:qF:=.seq (sr qNT (.cond (.t 19) (sr [oQ 0 2 false] .ret) .skip)) (.seq (sr [oC 0 3 0] (.blk 0 (.loop qNR))) (sr [oQ 0 2 true] .ret))
def US:qH:=⟨1,69,[.t 2],sr [oQ 0 2 false] qNS⟩
def V0:qH:=⟨1,4,[.t 2],sr [oP 0 1 (.hbox 2 (.t 0)),oQ 1 2 false] (sr [oD1 0 3 915 1,oM 1 2 3] .ret)⟩
def qDI:List qA:=[oM 0 9 3,oM 1 10 0,oD1 2 11 359 10,oP 3 12 (.bslice 3 (.agg [.int .i64 0,.str [],.nils]) 1 [(0,.t 11)]),oP 4 13 (.app 3 (.t 9) (.t 12)),oM 5 3 13]
def qDJ:List qA:=[oM 0 16 3,oM 1 17 0,oD1 2 18 359 17,oP 3 19 (.bslice 3 (.agg [.int .i64 0,.str [],.nils]) 1 [(0,.t 18)]),oP 4 20 (.app 3 (.t 16) (.t 19)),oM 5 3 20]
def qDG:qF:=.seq (.blk 0 (.loop (.seq (sr [oM 0 14 0,oP 1 15 (.call 737 [.t 14,.c (.str [44])])] (.cond (.t 15) .skip (.exit 0))) (.blk 1 (.reg true qDJ))))) (sr [oM 0 21 0,oP 1 22 (.call 872 [.t 21,.c (.str [93])])] (sr [oM 0 23 3,oM 1 2 23] .ret))
def qDH:qF:=sr [oP 0 4 (.mov (.c (.lst 3 [] true))),oM 1 3 4] (.seq (sr [oM 0 5 0,oP 1 6 (.call 737 [.t 5,.c (.str [91])]),oJ 2 7 6] (.cond (.t 7) (sr [oM 0 8 3,oM 1 2 8] .ret) .skip)) (sr qDI qDG))
def Yu:qH:=⟨1,24,[.t 2],sr [oP 0 2 (.mov (.c (.nils)))] qDH⟩
def qAD:List qA:=[oM 0 4 0,oP 1 5 (.call 871 [.t 4,.c (.int .i64 2)]),oP 2 6 (.build (.agg [.str [],.nils]) [(0,1,.t 5)]),oP 3 3 (.lalloc (.agg [.str [],.nils])),oS 4 3 0 2 6]
def qAE:List qA:=[oU 0 9 3,oX 1 10 3 1,oM 2 11 0,oM 4 13 0,oP 3 12 (.call 871 [.t 11,.c (.int .i64 2)]),oD1 5 14 1332 13,oP 6 15 (.build (.agg [.str [],.nils]) [(0,1,.t 12),(1,1,.t 14)]),oP 7 16 (.bslice 2 (.agg [.str [],.nils]) 1 [(0,.t 15)]),oP 8 17 (.app 2 (.t 10) (.t 16)),oU 9 18 3,oS 10 3 1 1 17]
def qAF:List qA:=[oU 0 21 3,oX 1 22 3 1,oM 2 23 0,oM 4 25 0,oP 3 24 (.call 871 [.t 23,.c (.int .i64 2)]),oD1 5 26 1332 25,oP 6 27 (.build (.agg [.str [],.nils]) [(0,1,.t 24),(1,1,.t 26)]),oP 7 28 (.bslice 2 (.agg [.str [],.nils]) 1 [(0,.t 27)]),oP 8 29 (.app 2 (.t 22) (.t 28)),oU 9 30 3,oS 10 3 1 1 29]
def qAC:qF:=.seq (.blk 0 (.loop (.seq (sr [oM 0 19 0,oP 1 20 (.call 737 [.t 19,.c (.str [124])])] (.cond (.t 20) .skip (.exit 0))) (.blk 1 (.reg true qAF))))) (sr [oY 0 31 3 0 2,oS 1 2 0 2 31] .ret)
def YJ:qH:=⟨1,32,[.l 2 (some 2)],sr [oP 0 2 (.lalloc (.agg [.str [],.nils]))] (sr qAD (sr [oM 0 7 0,oP 1 8 (.call 872 [.t 7,.c (.str [61])])] (sr qAE qAC)))⟩
def qAH:List qA:=[oM 0 4 0,oP 1 5 (.call 871 [.t 4,.c (.int .i64 1)]),oP 2 6 (.build (.agg [.str [],.int .i64 0,.str [],.nils,.int .i64 0,.int .i64 0,.str [],.int .i64 0,.str [],.nils,.nils,.nils]) [(0,1,.t 5)]),oP 3 3 (.lalloc (.agg [.str [],.int .i64 0,.str [],.nils,.int .i64 0,.int .i64 0,.str [],.int .i64 0,.str [],.nils,.nils,.nils])),oS 4 3 0 12 6]
def qAI:List qA:=[oM 0 9 0,oD1 1 10 359 9,oU 2 11 3,oS 3 3 1 3 10]
def qAJ:List qA:=[oM 0 14 0,oD1 1 15 1333 14,oU 2 16 3,oS 3 3 4 8 15]
def qAG:qF:=sr [oM 0 7 0,oP 1 8 (.call 872 [.t 7,.c (.str [58])])] (sr qAI (sr [oM 0 12 0,oP 1 13 (.call 872 [.t 12,.c (.str [61])])] (sr qAJ (sr [oY 0 17 3 0 12,oS 1 2 0 12 17] .ret))))
def YK:qH:=⟨1,18,[.l 2 (some 12)],sr [oP 0 2 (.lalloc (.agg [.str [],.int .i64 0,.str [],.nils,.int .i64 0,.int .i64 0,.str [],.int .i64 0,.str [],.nils,.nils,.nils]))] (sr qAH qAG)⟩
def qLA:List qA:=[oU 0 7 3,oX 1 8 3 0,oM 2 9 0,oD1 3 10 1016 9,oP 4 11 (.bslice 2 (.agg [.str [],.nils]) 1 [(0,.t 10)]),oP 5 12 (.app 2 (.t 8) (.t 11)),oU 6 13 3,oS 7 3 0 1 12]
def qLB:List qA:=[oU 0 16 3,oX 1 17 3 1,oM 2 18 0,oD1 3 19 1017 18,oP 4 20 (.bslice 12 (.agg [.str [],.int .i64 0,.str [],.nils,.int .i64 0,.int .i64 0,.str [],.int .i64 0,.str [],.nils,.nils,.nils]) 1 [(0,.t 19)]),oP 5 21 (.app 12 (.t 17) (.t 20)),oU 6 22 3,oS 7 3 1 1 21]
def qK8:qF:=.seq (.blk 2 (.loop (.seq (sr [oM 0 14 0,oP 1 15 (.call 737 [.t 14,.c (.str [100,101,102])])] (.cond (.t 15) .skip (.exit 2))) (.blk 3 (.reg true qLB))))) (sr [oY 0 23 3 0 2,oS 1 2 0 2 23] .ret)
def qK9:qF:=sr [oP 0 4 (.build (.agg [.nils,.nils]) []),oP 1 3 (.lalloc (.agg [.nils,.nils])),oS 2 3 0 2 4] (.seq (.blk 0 (.loop (.seq (sr [oM 0 5 0,oP 1 6 (.call 737 [.t 5,.c (.str [100,97,116,97])])] (.cond (.t 6) .skip (.exit 0))) (.blk 1 (.reg true qLA))))) qK8)
def V3:qH:=⟨1,24,[.l 2 (some 2)],sr [oP 0 2 (.lalloc (.agg [.nils,.nils]))] qK9⟩
def qHC:List qA:=[oM 0 10 0,oD1 1 11 358 10,oM 2 9 11,oV 3 12 9 0,oV 4 13 9 1,oV 5 14 9 2,oM 6 5 12,oM 7 6 13,oM 8 7 14]
def qHD:List qA:=[oP 0 17 (.build (.agg [.nils,.nils]) []),oM 1 18 6,oM 2 19 7,oS 3 2 0 2 17,oM 4 3 18,oM 5 4 19]
def qHE:List qA:=[oM 0 20 5,oD1 1 21 633 20,oP 2 8 (.lalloc (.agg [.nils,.nils])),oS 3 8 0 2 21]
def qHF:List qA:=[oM 0 23 5,oM 1 24 0,oD2 2 25 360 23 24,oM 3 22 25,oV 4 26 22 0,oV 5 27 22 1,oM 6 6 26,oM 7 7 27]
def qHG:List qA:=[oP 0 30 (.build (.agg [.nils,.nils]) []),oM 1 31 6,oM 2 32 7,oS 3 2 0 2 30,oM 4 3 31,oM 5 4 32]
def qHH:List qA:=[oP 0 36 (.build (.agg [.nils,.nils]) []),oS 1 2 0 2 36,oC 2 3 0,oC 3 4 1]
def qHI:List qA:=[oY 0 37 8 0 2,oS 1 2 0 2 37,oC 2 3 0,oC 3 4 0]
def qHB:qF:=.seq (sr [oM 0 28 7,oE 1 29 .neq 28 0] (.cond (.t 29) (sr qHG .ret) .skip)) (.seq (sr [oY 0 33 8 0 2,oD1 1 34 624 33,oJ 2 35 34] (.cond (.t 35) (sr qHH .ret) .skip)) (sr qHI .ret))
def Vd:qH:=⟨1,38,[.l 2 (some 2),.t 3,.t 4],sr [oP 0 2 (.lalloc (.agg [.nils,.nils])),oC 1 3 0,oC 2 4 0] (sr qHC (.seq (sr [oM 0 15 7,oE 1 16 .neq 15 0] (.cond (.t 16) (sr qHD .ret) .skip)) (sr qHE (sr qHF qHB))))⟩
def qJ2:List qA:=[oM 0 9 1,oM 1 10 0,oP 2 11 (.slen (.t 10)),oP 3 12 (.call 340 [.t 9,.c (.int .i64 0),.t 11]),oJ 4 13 12]
def qJ3:List qA:=[oM 0 21 0,oM 1 22 8,oP 2 23 (.sidx (.t 21) (.t 22)),oP 3 24 (.bin .eql (.t 23) (.c (.int .u8 10)))]
def qJZ:qF:=sr [oM 0 19 7,oE 1 20 .add 19 1,oM 2 7 20] (sr qJ3 (.cond (.t 24) (sr [oM 0 25 6,oE 1 26 .add 25 1,oM 2 6 26] (.reg true [oC 0 7 1])) .skip))
def qJ0:qF:=.loop (.seq (sr [oM 0 14 8,oM 1 15 1,oB 2 16 .lss 14 15] (.cond (.t 16) .skip (.exit 0))) (.seq (.blk 1 qJZ) (.reg true [oM 0 17 8,oE 1 18 .add 17 1,oM 2 8 18])))
def qJ4:List qA:=[oM 0 27 6,oM 1 28 7,oM 2 4 27,oM 3 5 28]
def qJ1:qF:=.seq (sr qJ2 (.cond (.t 13) (sr [oC 0 4 0,oC 1 5 0] .ret) .skip)) (sr [oC 0 6 1] (sr [oC 0 7 1] (.seq (sr [oC 0 8 0] (.blk 0 qJ0)) (sr qJ4 .ret))))
def Vu:qH:=⟨2,29,[.t 4,.t 5],sr [oC 0 4 0,oC 1 5 0] qJ1⟩
def qKA:List qA:=[oM 0 18 3,oM 1 19 5,oP 2 20 (.bin .add (.c (.int .i64 48)) (.t 19)),oP 3 21 (.conv .u8 (.t 20)),oP 4 22 (.bslice 1 (.int .u8 0) 1 [(0,.t 21)]),oP 5 23 (.app 1 (.t 18) (.t 22)),oM 6 3 23]
def qJ5:qF:=.seq (sr [oM 0 14 5,oE 1 15 .lss 14 0] (.cond (.t 15) (.reg true [oM 0 16 5,oP 1 17 (.neg (.t 16)),oM 2 5 17]) .skip)) (sr qKA (.reg true [oM 0 24 4,oE 1 25 .quo 24 10,oM 2 4 25]))
def qJ6:qF:=.loop (.seq (sr [oM 0 10 4,oE 1 11 .neq 10 0] (.cond (.t 11) .skip (.exit 0))) (.blk 1 (sr [oM 0 12 4,oE 1 13 .rem 12 10,oM 2 5 13] qJ5)))
def qKB:List qA:=[oM 0 28 3,oP 1 29 (.bslice 1 (.int .u8 0) 1 [(0,.c (.int .u8 48))]),oP 2 30 (.app 1 (.t 28) (.t 29)),oM 3 3 30]
def qKC:List qA:=[oM 0 33 3,oP 1 34 (.bslice 1 (.int .u8 0) 1 [(0,.c (.int .u8 45))]),oP 2 35 (.app 1 (.t 33) (.t 34)),oM 3 3 35]
def qKD:List qA:=[oM 0 37 3,oW 1 38 37,oE 2 39 .sub 38 1,oM 3 7 39]
def qKE:List qA:=[oM 0 44 6,oM 1 45 3,oM 2 46 7,oA 3 47 1 45 46,oL 4 48 47,oP 5 49 (.bslice 1 (.int .u8 0) 1 [(0,.t 48)]),oP 6 50 (.app 1 (.t 44) (.t 49)),oM 7 6 50]
def qJ7:qF:=.loop (.seq (sr [oM 0 40 7,oE 1 41 .geq 40 0] (.cond (.t 41) .skip (.exit 2))) (.seq (.blk 3 (.reg true qKE)) (.reg true [oM 0 42 7,oE 1 43 .sub 42 1,oM 2 7 43])))
def qJ8:qF:=.seq (sr [oM 0 31 0,oE 1 32 .lss 31 0] (.cond (.t 32) (.reg true qKC) .skip)) (sr [oP 0 36 (.mov (.c (.lst 1 [] true))),oM 1 6 36] (.seq (sr qKD (.blk 2 qJ7)) (sr [oM 0 51 6,oP 1 52 (.b2s (.t 51)),oM 2 2 52] .ret)))
def qJ9:qF:=sr [oP 0 8 (.mov (.c (.lst 1 [] true))),oM 1 3 8] (sr [oM 0 9 0,oM 1 4 9] (.seq (.blk 0 qJ6) (.seq (sr [oM 0 26 0,oE 1 27 .eql 26 0] (.cond (.t 27) (.reg true qKB) .skip)) qJ8)))
def Vv:qH:=⟨1,53,[.t 2],sr [oP 0 2 (.mov (.c (.str [])))] qJ9⟩
def UW:qH:=⟨0,2,[.t 0],sr [oP 0 0 (.mov (.c (.nils)))] (sr [oP 0 1 (.bslice 1 (.str []) 15 [(0,.c (.str [111,107])),(1,.c (.str [105,110,118,97,108,105,100])),(2,.c (.str [114,97,110,103,101])),(3,.c (.str [110,111,116,102,111,117,110,100])),(4,.c (.str [102,117,108,108])),(5,.c (.str [115,116,97,116,101])),(6,.c (.str [115,121,110,116,97,120])),(7,.c (.str [110,97,109,101])),(8,.c (.str [116,121,112,101])),(9,.c (.str [108,101,118,101,108])),(10,.c (.str [108,105,110,101,97,114])),(11,.c (.str [99,108,97,115,104])),(12,.c (.str [98,117,100,103,101,116])),(13,.c (.str [114,101,97,100])),(14,.c (.str [102,111,114,109,97,116]))]),oM 1 0 1] .ret)⟩
def qKF:List qA:=[oP 0 6 (.call 954 []),oM 1 7 0,oA 2 8 1 6 7,oL 3 9 8,oM 4 2 9]
def Vw:qH:=⟨1,10,[.t 2],sr [oP 0 2 (.mov (.c (.str [])))] (.seq (sr [oM 0 3 0,oP 1 4 (.call 340 [.t 3,.c (.int .i64 0),.c (.int .i64 14)]),oJ 2 5 4] (.cond (.t 5) (sr [oP 0 2 (.mov (.c (.str [])))] .ret) .skip)) (sr qKF .ret))⟩
def qGV:List qA:=[oM 0 9 0,oD1 1 10 267 9,oM 2 8 10,oV 3 11 8 0,oV 4 12 8 1,oV 5 13 8 2,oP 6 3 (.lalloc (.agg [.nils,.nils])),oS 7 3 0 2 11,oM 8 4 12,oM 9 5 13]
def qGW:List qA:=[oM 0 17 0,oM 1 18 4,oD2 2 19 573 17 18,oM 3 16 19,oV 4 20 16 0,oV 5 21 16 1,oM 6 6 20,oM 7 7 21]
def qGX:List qA:=[oM 0 22 6,oD1 1 23 574 22,oP 2 24 (.sop .add (.t 23) (.c (.str [58]))),oM 3 25 7,oD1 4 26 574 25,oP 5 27 (.sop .add (.t 24) (.t 26)),oP 6 28 (.sop .add (.t 27) (.c (.str [58,32]))),oM 7 29 5,oD1 8 30 575 29,oP 9 31 (.sop .add (.t 28) (.t 30)),oM 10 2 31]
def VZ:qH:=⟨1,32,[.t 2],sr [oP 0 2 (.mov (.c (.str [])))] (sr qGV (.seq (sr [oM 0 14 5,oE 1 15 .eql 14 0] (.cond (.t 15) (sr [oP 0 2 (.mov (.c (.str [])))] .ret) .skip)) (sr qGW (sr qGX .ret))))⟩
def qDA:List qA:=[oM 0 6 0,oP 1 7 (.slen (.t 6)),oE 2 8 .sub 7 1,oM 3 5 8]
def qDB:List qA:=[oM 0 13 0,oM 1 14 5,oP 2 15 (.sidx (.t 13) (.t 14)),oM 3 16 1,oB 4 17 .eql 15 16]
def qC9:qF:=.seq (sr [oM 0 9 5,oE 1 10 .geq 9 0] (.cond (.t 10) .skip (.exit 0))) (.seq (.blk 1 (sr qDB (.cond (.t 17) (sr [oM 0 18 5,oM 1 4 18] .ret) .skip))) (.reg true [oM 0 11 5,oE 1 12 .sub 11 1,oM 2 5 12]))
def Yq:qH:=⟨2,19,[.t 4],sr [oC 0 4 0] (.seq (sr qDA (.blk 0 (.loop qC9))) (sr [oP 0 4 (.mov (.c (.int .i64 (-1))))] .ret))⟩
def qN6:List qA:=[oM 0 5 0,oM 1 6 1,oD2 2 7 1261 5 6,oM 3 4 7]
def UX:qH:=⟨2,8,[.t 4],sr [oC 0 4 0] (sr qN6 .ret)⟩
def qKG:List qA:=[oM 0 7 1,oE 1 8 .lss 7 0,oM 2 9 8,oH 3 10 9 false 1,oH 4 11 9 false 0,oG 5 12 9 false (.slen (.t 11)),oG 6 13 9 false (.bin .gtr (.t 10) (.t 12)),oPt 7 14 9 13]
def qKH:List qA:=[oM 0 15 0,oM 1 16 1,oP 2 17 (.sslc (.t 15) none (some (.t 16))),oM 3 6 17]
def qKI:List qA:=[oM 0 18 6,oP 1 19 (.call 955 [.t 18,.c (.str [10])]),oP 2 20 (.bin .add (.c (.int .i64 1)) (.t 19)),oM 3 21 1,oM 4 22 6,oP 5 23 (.call 956 [.t 22,.c (.int .u8 10)]),oB 6 24 .sub 21 23,oM 7 4 20,oM 8 5 24]
def Vx:qH:=⟨2,25,[.t 4,.t 5],sr [oC 0 4 0,oC 1 5 0] (.seq (sr qKG (.cond (.t 14) (sr [oC 0 4 0,oC 1 5 0] .ret) .skip)) (sr qKH (sr qKI .ret)))⟩
def qKJ:List qA:=[oM 0 5 0,oE 1 6 .lss 5 0,oM 2 7 6,oH 3 8 7 false 0,oG 4 9 7 false (.bin .geq (.t 8) (.c (.int .i64 15))),oPt 5 10 7 9]
def qKK:List qA:=[oM 0 11 0,oP 1 12 (.aaddr 15 1 (.t 3) (.t 11)),oL 2 13 12,oM 3 2 13]
def Vz:qH:=⟨1,14,[.t 2],sr [oP 0 2 (.mov (.c (.str [])))] (sr [oP 0 4 (.build (.agg [.str [],.str [],.str [],.str [],.str [],.str [],.str [],.str [],.str [],.str [],.str [],.str [],.str [],.str [],.str []]) [(0,1,.c (.str [111,107])),(1,1,.c (.str [105,110,118,97,108,105,100])),(2,1,.c (.str [114,97,110,103,101])),(3,1,.c (.str [110,111,116,102,111,117,110,100])),(4,1,.c (.str [102,117,108,108])),(5,1,.c (.str [115,116,97,116,101])),(6,1,.c (.str [115,121,110,116,97,120])),(7,1,.c (.str [110,97,109,101])),(8,1,.c (.str [116,121,112,101])),(9,1,.c (.str [108,101,118,101,108])),(10,1,.c (.str [108,105,110,101,97,114])),(11,1,.c (.str [99,108,97,115,104])),(12,1,.c (.str [98,117,100,103,101,116])),(13,1,.c (.str [114,101,97,100])),(14,1,.c (.str [102,111,114,109,97,116]))]),oP 1 3 (.halloc 15 (.agg [.str [],.str [],.str [],.str [],.str [],.str [],.str [],.str [],.str [],.str [],.str [],.str [],.str [],.str [],.str []])),oT 2 15 3 4] (.seq (sr qKJ (.cond (.t 10) (sr [oP 0 2 (.mov (.c (.str [])))] .ret) .skip)) (sr qKK .ret)))⟩
def qGY:List qA:=[oM 0 9 0,oD1 1 10 264 9,oM 2 8 10,oV 3 11 8 0,oV 4 12 8 1,oV 5 13 8 2,oP 6 3 (.lalloc (.agg [.nils,.nils])),oS 7 3 0 2 11,oM 8 4 12,oM 9 5 13]
def qGZ:List qA:=[oM 0 17 0,oM 1 18 4,oD2 2 19 576 17 18,oM 3 16 19,oV 4 20 16 0,oV 5 21 16 1,oM 6 6 20,oM 7 7 21]
def qG0:List qA:=[oM 0 22 6,oD1 1 23 577 22,oP 2 24 (.sop .add (.t 23) (.c (.str [58]))),oM 3 25 7,oD1 4 26 577 25,oP 5 27 (.sop .add (.t 24) (.t 26)),oP 6 28 (.sop .add (.t 27) (.c (.str [58,32]))),oM 7 29 5,oD1 8 30 578 29,oP 9 31 (.sop .add (.t 28) (.t 30)),oM 10 2 31]
def Va:qH:=⟨1,32,[.t 2],sr [oP 0 2 (.mov (.c (.str [])))] (sr qGY (.seq (sr [oM 0 14 5,oE 1 15 .eql 14 0] (.cond (.t 15) (sr [oP 0 2 (.mov (.c (.str [])))] .ret) .skip)) (sr qGZ (sr qG0 .ret))))⟩
def qH7:qF:=sr [oM 0 10 0,oD1 1 11 227 10,oM 2 4 11] (.seq (sr [oM 0 12 4,oM 1 13 3,oP 2 14 (.sop .neq (.t 12) (.t 13))] (.cond (.t 14) (sr [oQ 0 2 false] .ret) .skip)) (sr [oQ 0 2 true] .ret))
def qH8:qF:=.seq (sr [oM 0 5 0,oP 1 6 (.slen (.t 5)),oE 2 7 .gtr 6 1048576] (.cond (.t 7) (sr [oQ 0 2 true] .ret) .skip)) (sr [oM 0 8 0,oD1 1 9 226 8,oM 2 3 9] qH7)
def F33:qH:=⟨1,15,[.t 2],sr [oQ 0 2 false] qH8⟩
@[go_sem] theorem rR0:OE qAT.eq_1/\OE qCK.eq_1/\OE qDE.eq_1/\OE kw.eq_1/\OE qBK.eq_1/\CE qBI.eq_1/\CE qBJ.eq_1/\OE kx.eq_1/\OE qAR.eq_1/\OE qAS.eq_1/\CE qAP.eq_1/\CE qAQ.eq_1/\OE qLC.eq_1/\OE qHP.eq_1/\OE qHQ.eq_1/\OE qHT.eq_1/\OE qHU.eq_1/\OE qHV.eq_1/\CE qHN.eq_1/\CE qHO.eq_1/\OE qHW.eq_1/\OE qHX.eq_1/\OE qHY.eq_1/\OE qHR.eq_1/\CE qHL.eq_1/\CE qHM.eq_1/\OE qHS.eq_1/\OE qL8.eq_1/\OE qL9.eq_1/\OE qNM.eq_1/\OE qAL.eq_1/\OE qAN.eq_1/\OE qAO.eq_1/\CE qAM.eq_1/\OE kz.eq_1/\OE qAA.eq_1/\OE qDF.eq_1/\OE qAB.eq_1/\OE qK1.eq_1/\OE qK2.eq_1/\OE qK3.eq_1/\CE qKY.eq_1/\CE qKZ.eq_1/\CE qK0.eq_1/\OE qK4.eq_1/\OE qK5.eq_1/\OE qK6.eq_1/\OE qK7.eq_1/\CE qKW.eq_1/\CE qKX.eq_1/\OE qG5.eq_1/\OE qG6.eq_1/\OE qG7.eq_1/\OE qG8.eq_1/\OE qG9.eq_1/\CE qG2.eq_1/\CE qG3.eq_1/\OE qHA.eq_1/\CE qG4.eq_1/\OE qAU.eq_1:=by and_intros<;>first|exact OEM _|exact CEM _
@[go_sem] theorem rR1:OE qAV.eq_1/\OE qAW.eq_1/\OE qLD.eq_1/\OE qAX.eq_1/\OE qAY.eq_1/\OE qLI.eq_1/\OE qLJ.eq_1/\OE qM4.eq_1/\OE qM5.eq_1/\OE qM6.eq_1/\CE qM3.eq_1/\OE qM7.eq_1/\OE qNQ.eq_1/\OE qLG.eq_1/\OE qLH.eq_1/\CE qLE.eq_1/\CE qLF.eq_1/\OE qLK.eq_1/\OE qH5.eq_1/\OE qH6.eq_1/\OE qH9.eq_1/\OE qEL.eq_1/\OE qEN.eq_1/\OE qEO.eq_1/\CE qEM.eq_1/\OE qEP.eq_1/\OE qC6.eq_1/\OE qC7.eq_1/\OE qC8.eq_1/\CE qC5.eq_1/\OE qN5.eq_1/\OE qJU.eq_1/\CE qJP.eq_1/\CE qJQ.eq_1/\OE qJV.eq_1/\OE qJW.eq_1/\OE qJX.eq_1/\OE qJY.eq_1/\CE qJR.eq_1/\CE qJS.eq_1/\CE qJT.eq_1/\OE qGU.eq_1/\OE qDR.eq_1/\OE qC1.eq_1/\OE qET.eq_1/\CE qES.eq_1/\OE qEW.eq_1/\OE qEX.eq_1/\OE qEY.eq_1/\OE qEZ.eq_1/\CE qEU.eq_1/\CE qEV.eq_1/\OE qE1.eq_1/\OE qE2.eq_1/\CE qE0.eq_1/\OE qDW.eq_1/\OE qDX.eq_1/\OE qDY.eq_1/\OE qDZ.eq_1/\CE qDS.eq_1:=by and_intros<;>first|exact OEM _|exact CEM _
@[go_sem] theorem rR2:CE qDT.eq_1/\CE qDU.eq_1/\OE qD0.eq_1/\OE qD1.eq_1/\CE qDV.eq_1/\OE qBN.eq_1/\OE qBO.eq_1/\OE qBP.eq_1/\OE qBQ.eq_1/\OE qBR.eq_1/\OE qBS.eq_1/\CE qBL.eq_1/\OE qBT.eq_1/\CE qBM.eq_1/\OE qLW.eq_1/\OE qLX.eq_1/\OE qLY.eq_1/\CE qLV.eq_1/\OE qIB.eq_1/\OE qIC.eq_1/\OE qID.eq_1/\OE qHK.eq_1/\OE qHJ.eq_1/\OE qBU.eq_1/\OE qL3.eq_1/\OE qL4.eq_1/\OE qB0.eq_1/\OE qMU.eq_1/\OE qMV.eq_1/\OE qMW.eq_1/\OE qMX.eq_1/\OE qMY.eq_1/\OE qMZ.eq_1/\OE qL1.eq_1/\OE qL2.eq_1/\CE qLZ.eq_1/\CE qL0.eq_1/\OE qIE.eq_1/\OE qIF.eq_1/\OE qL5.eq_1/\OE qL6.eq_1/\OE qIG.eq_1/\OE qIH.eq_1/\OE qH1.eq_1/\OE qH2.eq_1/\OE qH3.eq_1/\OE qH4.eq_1/\CE qHZ.eq_1/\CE qH0.eq_1/\OE qL7.eq_1/\CE qAZ.eq_1/\CE qA0.eq_1/\CE qA1.eq_1/\CE qA2.eq_1/\CE qA3.eq_1/\CE qA4.eq_1/\OE qDN.eq_1/\OE qLT.eq_1/\OE qLU.eq_1/\CE qLS.eq_1:=by and_intros<;>first|exact OEM _|exact CEM _
@[go_sem] theorem rR3:OE qDP.eq_1/\OE qDQ.eq_1/\CE qDO.eq_1/\OE qA7.eq_1/\OE qA8.eq_1/\OE qBA.eq_1/\OE qBB.eq_1/\OE qBC.eq_1/\OE qBD.eq_1/\OE qBE.eq_1/\OE qBF.eq_1/\OE qBG.eq_1/\OE qBH.eq_1/\CE qA5.eq_1/\OE qA9.eq_1/\CE qA6.eq_1/\OE qLN.eq_1/\OE qLO.eq_1/\OE qLP.eq_1/\OE qLQ.eq_1/\OE qLR.eq_1/\CE qLL.eq_1/\CE qLM.eq_1/\OE qIA.eq_1/\OE qD6.eq_1/\OE qD7.eq_1/\CE qD5.eq_1/\OE qB5.eq_1/\OE qB6.eq_1/\OE qB7.eq_1/\OE qB8.eq_1/\CE qB4.eq_1/\OE qDK.eq_1/\OE qFV.eq_1/\OE qFW.eq_1/\OE qFX.eq_1/\CE qFT.eq_1/\CE qFU.eq_1/\OE qF0.eq_1/\OE qF1.eq_1/\CE qFY.eq_1/\OE qF2.eq_1/\OE qF3.eq_1/\CE qFZ.eq_1/\OE qGM.eq_1/\OE qGN.eq_1/\OE qGO.eq_1/\CE qGK.eq_1/\OE qGP.eq_1/\CE qGL.eq_1/\OE qF5.eq_1/\OE qF6.eq_1/\OE qF7.eq_1/\CE qF4.eq_1/\OE qFE.eq_1/\OE qFF.eq_1/\OE qFG.eq_1/\CE qE9.eq_1/\CE qFA.eq_1/\OE qFH.eq_1:=by and_intros<;>first|exact OEM _|exact CEM _
@[go_sem] theorem rR4:CE qFB.eq_1/\OE qFI.eq_1/\CE qFC.eq_1/\CE qFD.eq_1/\OE qFJ.eq_1/\OE qE4.eq_1/\OE qE5.eq_1/\CE qE3.eq_1/\OE qD3.eq_1/\OE qD4.eq_1/\CE qD2.eq_1/\OE qB2.eq_1/\OE qB3.eq_1/\CE qB1.eq_1/\OE qM1.eq_1/\OE qM2.eq_1/\CE qM0.eq_1/\OE qIX.eq_1/\OE qIY.eq_1/\OE qI0.eq_1/\CE qIV.eq_1/\OE qI1.eq_1/\OE qI2.eq_1/\OE qI3.eq_1/\CE qIW.eq_1/\OE qI4.eq_1/\OE qI5.eq_1/\OE qIZ.eq_1/\CE qIS.eq_1/\CE qIT.eq_1/\CE qIU.eq_1/\OE qAK.eq_1/\OE qBV.eq_1/\OE qBX.eq_1/\OE qBY.eq_1/\CE qBW.eq_1/\OE qBZ.eq_1/\OE qMF.eq_1/\OE qMG.eq_1/\OE qMM.eq_1/\OE qMN.eq_1/\OE qMO.eq_1/\OE qMP.eq_1/\OE qMQ.eq_1/\OE qMR.eq_1/\OE qMS.eq_1/\OE qMT.eq_1/\OE qMH.eq_1/\OE qMI.eq_1/\OE qMJ.eq_1/\OE qMK.eq_1/\OE qML.eq_1/\CE qMA.eq_1/\CE qMB.eq_1/\CE qMC.eq_1/\CE qMD.eq_1/\CE qME.eq_1/\OE qIL.eq_1/\OE qIM.eq_1/\OE qIN.eq_1:=by and_intros<;>first|exact OEM _|exact CEM _
@[go_sem] theorem rR5:OE qIO.eq_1/\OE qIP.eq_1/\OE qIQ.eq_1/\CE qII.eq_1/\CE qIJ.eq_1/\OE qIR.eq_1/\CE qIK.eq_1/\OE qEQ.eq_1/\OE qER.eq_1/\OE kq.eq_1/\OE qDM.eq_1/\CE qDL.eq_1/\CE qCE.eq_1/\CE qCF.eq_1/\OE qCG.eq_1/\CE qDC.eq_1/\OE qGF.eq_1/\OE qGG.eq_1/\OE qGH.eq_1/\OE qGI.eq_1/\OE qGJ.eq_1/\CE qGE.eq_1/\CE qF8.eq_1/\OE qGT.eq_1/\OE qGR.eq_1/\OE qGS.eq_1/\CE qGQ.eq_1/\OE qGA.eq_1/\OE qGB.eq_1/\OE qGC.eq_1/\CE qF9.eq_1/\OE qGD.eq_1/\OE qFO.eq_1/\CE qFK.eq_1/\CE qFL.eq_1/\OE qFP.eq_1/\OE qFQ.eq_1/\CE qFM.eq_1/\CE qFN.eq_1/\OE qFR.eq_1/\OE qFS.eq_1/\OE qE7.eq_1/\OE qE8.eq_1/\CE qE6.eq_1/\OE qD9.eq_1/\OE qEA.eq_1/\OE qEB.eq_1/\OE qEC.eq_1/\CE qD8.eq_1/\OE qCA.eq_1/\OE qCB.eq_1/\OE qCC.eq_1/\OE qCD.eq_1/\CE qB9.eq_1/\OE qM9.eq_1/\OE qNA.eq_1/\OE qNB.eq_1/\CE qM8.eq_1/\OE qJB.eq_1/\OE qJC.eq_1:=by and_intros<;>first|exact OEM _|exact CEM _
@[go_sem] theorem rR6:OE qJE.eq_1/\CE qI9.eq_1/\OE qJF.eq_1/\OE qJG.eq_1/\OE qJH.eq_1/\CE qJA.eq_1/\OE qJI.eq_1/\OE qJJ.eq_1/\OE qJD.eq_1/\CE qI6.eq_1/\CE qI7.eq_1/\CE qI8.eq_1/\OE qEE.eq_1/\OE qCH.eq_1/\OE qCN.eq_1/\OE qNO.eq_1/\OE qNP.eq_1/\OE qEF.eq_1/\OE qCI.eq_1/\OE qCJ.eq_1/\OE qNG.eq_1/\OE qNH.eq_1/\OE qNI.eq_1/\OE qNJ.eq_1/\OE qNK.eq_1/\OE qNL.eq_1/\CE qNC.eq_1/\CE qND.eq_1/\CE qNE.eq_1/\CE qNF.eq_1/\OE qCL.eq_1/\OE qNN.eq_1/\OE qJL.eq_1/\OE qJM.eq_1/\OE qJN.eq_1/\OE qJO.eq_1/\CE qJK.eq_1/\OE qDD.eq_1/\OE ku.eq_1/\OE qKO.eq_1/\OE qKP.eq_1/\OE qKQ.eq_1/\OE qKR.eq_1/\CE qKM.eq_1/\OE qKS.eq_1/\OE qKT.eq_1/\OE qKU.eq_1/\OE qKV.eq_1/\CE qKN.eq_1/\CE qKL.eq_1/\OE qG1.eq_1/\OE qNY.eq_1/\OE qNZ.eq_1/\CE qNX.eq_1/\OE qC3.eq_1/\OE qC4.eq_1/\CE qC2.eq_1/\OE qN2.eq_1/\OE qN3.eq_1/\OE qN4.eq_1:=by and_intros<;>first|exact OEM _|exact CEM _
@[go_sem] theorem rR7:CE qN0.eq_1/\CE qN1.eq_1/\OE qEI.eq_1/\OE qEJ.eq_1/\OE qEK.eq_1/\CE qEH.eq_1/\OE qCT.eq_1/\OE qCU.eq_1/\OE qCV.eq_1/\OE qCW.eq_1/\OE qCX.eq_1/\OE qCY.eq_1/\OE qCZ.eq_1/\CE qCR.eq_1/\OE qC0.eq_1/\CE qCS.eq_1/\CE qCO.eq_1/\CE qCP.eq_1/\CE qCQ.eq_1/\OE qNT.eq_1/\OE qNU.eq_1/\OE qNV.eq_1/\OE qNW.eq_1/\CE qNR.eq_1/\CE qNS.eq_1/\OE qDI.eq_1/\OE qDJ.eq_1/\CE qDG.eq_1/\CE qDH.eq_1/\OE qAD.eq_1/\OE qAE.eq_1/\OE qAF.eq_1/\CE qAC.eq_1/\OE qAH.eq_1/\OE qAI.eq_1/\OE qAJ.eq_1/\CE qAG.eq_1/\OE qLA.eq_1/\OE qLB.eq_1/\CE qK8.eq_1/\CE qK9.eq_1/\OE qHC.eq_1/\OE qHD.eq_1/\OE qHE.eq_1/\OE qHF.eq_1/\OE qHG.eq_1/\OE qHH.eq_1/\OE qHI.eq_1/\CE qHB.eq_1/\OE qJ2.eq_1/\OE qJ3.eq_1/\CE qJZ.eq_1/\CE qJ0.eq_1/\OE qJ4.eq_1/\CE qJ1.eq_1/\OE qKA.eq_1/\CE qJ5.eq_1/\CE qJ6.eq_1/\OE qKB.eq_1/\OE qKC.eq_1:=by and_intros<;>first|exact OEM _|exact CEM _
@[go_sem] theorem rR8:OE qKD.eq_1/\OE qKE.eq_1/\CE qJ7.eq_1/\CE qJ8.eq_1/\CE qJ9.eq_1/\OE qKF.eq_1/\OE qGV.eq_1/\OE qGW.eq_1/\OE qGX.eq_1/\OE qDA.eq_1/\OE qDB.eq_1/\CE qC9.eq_1/\OE qN6.eq_1/\OE qKG.eq_1/\OE qKH.eq_1/\OE qKI.eq_1/\OE qKJ.eq_1/\OE qKK.eq_1/\OE qGY.eq_1/\OE qGZ.eq_1/\OE qG0.eq_1/\CE qH7.eq_1/\CE qH8.eq_1:=by and_intros<;>first|exact OEM _|exact CEM _
def kQ:List (Nat×qH):=[(1100,YP),(1206,Yi),(1330,Ys),(1012,YF),(1106,YV),(732,UB),(1013,YG),(1099,YO),(717,V4),(331,Vi),(74,F74),(889,UN),(577,Vy),(1051,YM),(1091,YN),(1014,YH),(1331,Yt),(1015,YI),(632,V2),(266,Vc),(1101,YQ),(719,V5),(1103,YS),(721,V7),(875,UJ),(876,UK),(908,UQ),(911,UR),(1102,YR),(720,V6),(722,V8),(335,Vk),(340,Vl),(1440,Y9),(1513,VI),(1441,VA),(1442,VB),(1241,Yp),(921,UV),(541,Vt),(208,VY),(1393,Y0),(1237,Yn),(1496,VD),(1497,VE),(1498,VF),(1394,Y1),(1107,YW),(735,UC),(358,Vn),(327,Vf),(326,Ve),(328,Vg),(329,Vh),(1108,YX),(737,UD),(1185,Ya),(871,UG),(872,UH),(736,Zr),(359,Zq),(738,UE),(360,Vo),(332,Vj),(73,F73),(1104,YT),(1391,Yy),(729,UA),(1392,Yz),(1105,YU),(728,V9),(350,Vm),(1470,VC),(1424,Y3),(1187,Yc),(1333,Yw),(1550,VN),(1551,VO),(1559,VV),(1552,VP),(1537,VJ),(1538,VK),(1510,VG),(1423,Y2),(1186,Yb),(873,UI),(509,Vq),(1050,YL),(1143,YY),(1144,YZ),(807,UF),(445,Vp),(144,Y8),(1002,YD),(1383,Yx),(1189,Ye),(1190,Yf),(1327,QV),(1556,VU),(1553,VQ),(1561,VX),(1560,VW),(1554,VS),(1555,VT),(1539,VL),(1540,VM),(1511,VH),(1425,Y4),(1188,Yd),(877,UL),(511,Vr),(1429,qED),(1430,Y5),(1204,Yg),(1432,qEG),(1208,qCM),(1209,Yl),(892,UP),(1431,Y6),(1205,Yh),(888,UM),(891,F891),(1207,Yj),(890,UO),(527,Vs),(1328,Yr),(1009,YE),(629,V1),(264,Vb),(916,UT),(1238,Yo),(917,UU),(1439,Y7),(1236,Ym),(915,US),(624,V0),(1332,Yu),(1016,YJ),(1017,YK),(633,V3),(267,Vd),(573,Vu),(574,Vv),(954,UW),(575,Vw),(226,VZ),(1261,Yq),(956,UX),(576,Vx),(578,Vz),(227,Va),(33,F33)]
def Ub:List AV->AV->Prop:=fun as v=>∃(s:List UInt8)(c:UInt8),as=[.str s,.str [c]]/\v=.int .i64 (Lib.countByte s c:Nat)
def kR:List (Nat×AFn):=[(628,.try Ws),(631,.ext (JM Ua)),(955,.ext (JM Ub)),(957,.ext (JM Uc)),(1382,.ext (JM UZ))]
def Gm(g:Nat):Option AFn:=JV g kR kQ
theorem g631:Gm 631=some (.ext (JM Ua)):=by kernel_rfl
theorem g955:Gm 955=some (.ext (JM Ub)):=by kernel_rfl
theorem g957:Gm 957=some (.ext (JM Uc)):=by kernel_rfl
theorem qWY:Gm 1382=some (.ext (JM UZ)):=by kernel_rfl
theorem g628:Gm 628=some (.try Ws):=by kernel_rfl
theorem gk(g:Nat)(F:qH)(h:Gm g=some (.fn F):=by kernel_rfl):Gm g=some (.fn F):=h
end Go.Ab
namespace Go.Ab
open Go
section
variable {E:Ev} {ks:List Fr1} {s m:qj} {h:List qB} {Q:qR->VSt->Prop} {l:List qA} {a b:List UInt8}
def qQ0(t:Nat):Option AV->Option AV
 | some v=>some (.iface t v)
 | none=>none
@[go_sem] theorem qe5{t:Nat}{v:AV}:qQ0 t (some v)=some (.iface t v):=rfl
@[go_sem] theorem qdQ{i t:Nat}{d:Option Nat}{g:Option (Nat×Bool)}{x:Ao}{ck:List qA}:Go1 E (.mk i d g (.mkif t x) ck) l ks ⟨s,m,h⟩ Q=Put E (qQ0 t (ev (toE s) x)) d l ks ⟨s,m,h⟩ Q:=by
 rw[zZ rfl fun _=>rfl];congr 1;show (ev (toE s) x).map (AV.iface t)=_;cases ev (toE s) x<;>rfl
def KX:Bool->Option AV->Option AV
 | n,some (.iface _ _)=>some (.bool n)
 | n,some .nili=>some (.bool !n)
 | _,_=>none
@[go_sem] theorem qeP{n:Bool}{t:Nat}{v:AV}:KX n (some (.iface t v))=some (.bool n):=rfl
@[go_sem] theorem qeQ{n:Bool}:KX n (some .nili)=some (.bool !n):=rfl
@[go_sem] theorem qdG{i:Nat}{d:Option Nat}{g:Option (Nat×Bool)}{n:Bool}{x:Ao}{ck:List qA}:Go1 E (.mk i d g (.isnil 4 n x) ck) l ks ⟨s,m,h⟩ Q=Put E (KX n (ev (toE s) x)) d l ks ⟨s,m,h⟩ Q:=by
 rw[zZ rfl fun _=>rfl];congr 1;show ((ev (toE s) x).bind (AV.isNil 4)).map (fun b=>AV.bool (if n then !b else b))=_;generalize ev (toE s) x=o;rcases o with _ | v
 ·rfl
 ·cases v<;>cases n<;>rfl
@[go_sem] theorem qg8:wY .eql a b=some (.bool (a==b)):=rfl
@[go_sem] theorem qg9:wY .neq a b=some (.bool (!(a==b))):=rfl
@[go_sem] theorem qg2{k:IntKind}:Xt (some (.str a)) (some (.int k 0))=(a[0]?).map fun b=>.int .u8 b.toNat:=qaE (n:=0)
theorem Jv(h:a.length+b.length<=9223372036854775807):wY .add a b=some (.str (a++b)):=if_pos h
theorem Wb{x lo hi:Ao}{k1 k2:IntKind}{n e:Nat}{hh:AH}{mm:Env}(h1:ev (toE s) x=some (.str a))(h2:ev (toE s) lo=some (.int k1 (n:Int)))(h3:ev (toE s) hi=some (.int k2 (e:Int)))(he:e<=a.length)(hb:n<=e):
  val (.sslc x (some lo) (some hi)) (toE s) mm hh=some (.str ((a.drop n).take (e-n))):=by
 simp only[val,h1,bnd,h3];rw[if_pos ⟨by omega,by omega⟩];simp only[h2];rw[if_pos ⟨by omega,by simpa using hb⟩];simp
theorem qaJ{x lo:Ao}{k1:IntKind}{n:Nat}{hh:AH}{mm:Env}(h1:ev (toE s) x=some (.str a))(h2:ev (toE s) lo=some (.int k1 (n:Int)))(hb:n<=a.length):
  val (.sslc x (some lo) none) (toE s) mm hh=some (.str (a.drop n)):=by
 simp only[val,h1,bnd,h2];rw[if_pos ⟨by omega,by simpa using hb⟩];show some (AV.str (List.take (a.length-((n:Int)).toNat) (List.drop ((n:Int)).toNat a)))=_;rw[Int.toNat_natCast,List.take_of_length_le (by simp)]
end
abbrev Str:=List UInt8
def zu(b:UInt8):Bool:=decide (97<=b.toNat)&&decide (b.toNat<=122)
def zy(b:UInt8):Bool:=decide (65<=b.toNat)&&decide (b.toNat<=90)
def zI(b:UInt8):Bool:=decide (48<=b.toNat)&&decide (b.toNat<=57)
def qz(b:UInt8):Bool:=zu b || (zy b || zI b)
def kws:List Str:=[[100,97,116,97],[100,101,102],[108,101,116],[105,110],[109,97,116,99,104],[105,102],[116,104,101,110],[101,108,115,101]]
def za(s:Str):Bool:=kws.contains s
def zp(s:Str):Bool:=match s with
 |[]=>false
 | c::_=>decide (s.length<=12)&&(!zI c&&(!za s&&s.all qz))
def zT(s:Str):Bool:=zp s&&zy (s.headD 0)
def zY(s:Str):Bool:=zp s&&zu (s.headD 0)
def qg(t:Str)(i:Nat):Str:=(t.drop i).takeWhile qz
end Go.Ab
namespace Go.Ab
open Go
set_option maxRecDepth 10000
end Go.Ab
namespace Go.Ab
open Go
set_option maxRecDepth 10000
set_option maxHeartbeats 2000000
theorem qOP{b:UInt8}:Pure Gm 1100 [.int .u8 (b.toNat:Nat)] (.bool (zy b)):=by
 refine pJ YP ?_;simp only[YP,qI,go_sem]
 first | (apply QA<;>intro hc<;>simp only[hc,go_sem]) | (apply zd<;>intro hc<;>simp only[hc,go_sem])
 ·exact qE rfl (by first | (simp[zy]at hc|-;omega) | (simp only[dTe,decide_eq_false_iff_not]at hc;congr 1;rw[Bool.eq_iff_iff];simp[zy];omega))
 ·exact qE rfl (by first | (simp[zy]at hc|-;omega) | (simp only[dTe,decide_eq_false_iff_not]at hc;congr 1;rw[Bool.eq_iff_iff];simp[zy];omega))
theorem qOR{b:UInt8}:Pure Gm 1206 [.int .u8 (b.toNat:Nat)] (.bool (zu b)):=by
 refine pJ Yi ?_;simp only[Yi,qI,go_sem]
 first | (apply QA<;>intro hc<;>simp only[hc,go_sem]) | (apply zd<;>intro hc<;>simp only[hc,go_sem])
 ·exact qE rfl (by first | (simp[zu]at hc|-;omega) | (simp only[dTe,decide_eq_false_iff_not]at hc;congr 1;rw[Bool.eq_iff_iff];simp[zu];omega))
 ·exact qE rfl (by first | (simp[zu]at hc|-;omega) | (simp only[dTe,decide_eq_false_iff_not]at hc;congr 1;rw[Bool.eq_iff_iff];simp[zu];omega))
theorem qOV{b:UInt8}:Pure Gm 1330 [.int .u8 (b.toNat:Nat)] (.bool (zI b)):=by
 refine pJ Ys ?_;simp only[Ys,qI,go_sem]
 first | (apply QA<;>intro hc<;>simp only[hc,go_sem]) | (apply zd<;>intro hc<;>simp only[hc,go_sem])
 ·exact qE rfl (by first | (simp[zI]at hc|-;omega) | (simp only[dTe,decide_eq_false_iff_not]at hc;congr 1;rw[Bool.eq_iff_iff];simp[zI];omega))
 ·exact qE rfl (by first | (simp[zI]at hc|-;omega) | (simp only[dTe,decide_eq_false_iff_not]at hc;congr 1;rw[Bool.eq_iff_iff];simp[zI];omega))
theorem Uv{b:UInt8}:Pure Gm 1012 [.int .u8 (b.toNat:Nat)] (.bool (qz b)):=by
 refine pJ YF ?_;simp only[YF,qI,go_sem];refine qG qOR ?_;simp only[go_sem];cases h1:zu b<;>simp only[go_sem]
 ·refine qG qOP ?_;simp only[go_sem];cases h2:zy b<;>simp only[go_sem]
  ·refine qG qOV ?_;simp only[go_sem];exact qE rfl (by simp[qz,h1,h2])
  ·exact qE rfl (by simp[qz,h1,h2])
 ·exact qE rfl (by simp[qz,h1])
end Go.Ab
namespace Go.Ab
open Go
set_option maxRecDepth 10000
set_option maxHeartbeats 2000000
theorem qUL{xs:List Str}{v:Str}(hl:xs.length<=1048576):Pure Gm 1106 [.lst 1 (xs.map qW) false,.str v] (.int .i64 (qw (fun x=>v==x) xs 0)):=by
 refine pI YV (by simp[AV.trees,AV.tree,zM shS.tree]) rfl ?_;simp only[YV,qI,go_sem];refine Sem.loop (fun i:Nat=>i<=xs.length/\qw (fun x=>v==x) xs 0=qw (fun x=>v==x) (xs.drop i) i) (fun i=>(⟨[(0,.lst 1 (xs.map qW) false),(1,.str v),(7,.int .i64 xs.length),(8,.int .i64 (i:Nat))],[],[]⟩:VSt)) (fun i=>xs.length-i) 0 (by kernel_rfl) ⟨nZl _,by simp⟩ (Can.sub (by simp[go_sem]) (by simp[go_sem])) ?_;rintro i ⟨hi,hI⟩;simp only[go_sem];apply zd<;>intro hc<;>simp only[hc,go_sem]
 ·have hlt:i<xs.length:=by have:=odT hc;omega
  simp only[gMp,gEg hlt,oMs,shS.part,qW,go_sem];have hd:xs.drop i=xs[i]::xs.drop (i+1):=by simp
  apply zd<;>intro hc<;>simp only[hc,go_sem]
  ·refine qE rfl ?_;have hq:=odT hc;rw[hI,hd];simp[qw,<-hq]
  ·simp only[zC (show i<4611686018427387904 by omega)];refine qf (i+1) ⟨by omega, ?_⟩ (by omega) (Can.sub (by simp[go_sem]) (by simp[go_sem]));have hq:=odF hc;rw[hI,hd];simp only[qw];rw[if_neg (by simpa using hq)]
 ·obtain rfl:i=xs.length:=by have:=odF hc;omega
  refine qE rfl ?_;rw[hI];simp[qw]
theorem c732{xs:List Str}{v:Str}(hl:xs.length<=1048576):Pure Gm 732 [.lst 1 (xs.map qW) false,.str v] (.bool (xs.any fun x=>v==x)):=by
 refine pI UB (by simp[AV.trees,AV.tree,zM shS.tree]) rfl ?_;simp only[UB,qI,go_sem];simp only[Z5,qI];simp only[go_sem];refine qG (qUL hl) ?_;simp only[go_sem];exact qE rfl (by rw[<-ZL _ xs 0])
theorem qOL{v:Str}:Pure Gm 1013 [.str v] (.bool (za v)):=by
 refine pJ YG ?_;simp only[YG,qI,go_sem];rw[show zA _ _ _ _=some (kws.map qW)from rfl];simp only[go_sem];refine Uz (vs':=[.lst 1 (kws.map qW) false,.str v]) (Cvs.cons (Cv.row rfl rfl rfl (by decide)) (Cvs.cons (.refl rfl) Cvs.nil)) (c732 (by decide)) rfl ?_;simp only[go_sem];exact qE rfl (by simp only[za,List.contains_eq_any_beq])
theorem qOO{v:Str}(hl:v.length<=4611686018427387904):Pure Gm 1099 [.str v] (.bool (zp v)):=by
 refine pJ YO ?_;simp only[YO,qI,go_sem];by_cases h0:v.length<1
 ·have e0:decide ((v.length:Int)<1)=true:=decide_eq_true (by omega);simp only[e0,go_sem];exact qE rfl (by have:v=[]:=List.length_eq_zero_iff.1 (by omega);subst this;rfl)
 have e0:decide ((v.length:Int)<1)=false:=decide_eq_false (by omega);simp only[e0,go_sem];obtain⟨c,r,hv⟩:∃c r,v=c::r:=by cases v with
  | nil=>simp at h0
  | cons c r=>exact⟨c,r,rfl⟩
 by_cases h12:v.length<=12
 case neg=>
  have e1:decide ((v.length:Int)>12)=true:=decide_eq_true (by omega);simp only[gt_iff_lt]at e1;simp only[e1,go_sem];exact qE rfl (by subst hv;simp only[zp,decide_eq_false h12,Bool.false_and])
 have e1:decide ((v.length:Int)>12)=false:=decide_eq_false (by omega);simp only[gt_iff_lt]at e1;have eh:v[0]?=some c:=by rw[hv];rfl
 simp only[e1,go_sem,eh,oMs];refine qG qOV ?_;simp only[go_sem];cases hd:zI c
 case true=>
  simp only[go_sem];exact qE rfl (by subst hv;simp[zp,hd])
 simp only[go_sem];refine qG qOL ?_;simp only[go_sem];cases hk:za v
 case true=>
  simp only[go_sem];exact qE rfl (by subst hv;simp[zp,hk])
 simp only[go_sem];have hn:zp v=v.all qz:=by subst hv;simp only[zp,hd,hk,decide_eq_true h12,Bool.not_false,Bool.true_and]
 refine Sem.loop (fun i:Nat=>i<=v.length/\v.all qz=(v.drop i).all qz) (fun i=>(⟨[(0,.str v),(22,.int .i64 v.length),(23,.int .i64 (i:Nat))],[],[]⟩:VSt)) (fun i=>v.length-i) 0 (by kernel_rfl) ⟨nZl _,by simp⟩ (Can.sub (by simp[go_sem]) (by simp[go_sem])) ?_;rintro i ⟨hi,hI⟩;simp only[go_sem];apply zd<;>intro hc<;>simp only[hc,go_sem]
 ·have hlt:i<v.length:=by have:=odT hc;omega
  have hq:v.drop i=v[i]::v.drop (i+1):=by simp
  simp only[gEg hlt,oMs,go_sem];refine qG Uv ?_;simp only[go_sem];cases hw:qz v[i]
  ·simp only[Bool.not_false];simp only[go_sem];refine qE rfl ?_;rw[hn,hI,hq,lAc,hw,Bool.false_and]
  ·simp only[Bool.not_true];simp only[go_sem];simp only[zC (show i<4611686018427387904 by omega)];refine qf (i+1) ⟨by omega, ?_⟩ (by omega) (Can.sub (by simp[go_sem]) (by simp[go_sem]));rw[hI,hq,lAc,hw,Bool.true_and]
 ·obtain rfl:i=v.length:=by have:=odF hc;omega
  refine qE rfl ?_;rw[hn,hI];simp
theorem jm{v:Str}(hl:v.length<=4611686018427387904):Pure Gm 717 [.str v] (.bool (zT v)):=by
 refine pJ V4 ?_;simp only[V4,qI,go_sem];refine qG (qOO hl) ?_;simp only[go_sem];cases hn:zp v
 ·simp only[go_sem];exact qE rfl (by simp[zT,hn])
 ·cases v with
  | nil=>cases hn
  | cons c r=>
  simp only[List.getElem?_cons_zero,oMs,go_sem];refine qG qOP ?_;simp only[go_sem];exact qE rfl (by simp[zT,hn])
theorem jz{v:Str}(hl:v.length<=4611686018427387904):Pure Gm 889 [.str v] (.bool (zY v)):=by
 refine pJ UN ?_;simp only[UN,qI,go_sem];refine qG (qOO hl) ?_;simp only[go_sem];cases hn:zp v
 ·simp only[go_sem];exact qE rfl (by simp[zY,hn])
 ·cases v with
  | nil=>cases hn
  | cons c r=>
  simp only[List.getElem?_cons_zero,oMs,go_sem];refine qG qOR ?_;simp only[go_sem];exact qE rfl (by simp[zY,hn])
end Go.Ab
namespace Go.Ab
open Go
structure qJ where
 Kind:Int
 Text:List UInt8
 At:Int
def qJ.enc(x:qJ):AV:=.agg [.int .i64 x.Kind,.str x.Text,.int .i64 x.At]
theorem qJ.isSh:Sh qJ.enc 3 (some 3):=⟨fun x=>by simp[qJ.enc,AV.tree,AV.trees],fun _=>rfl,fun _=>rfl,by decide,fun x=>by simp[qJ.enc]⟩
section
variable {x:qJ}
@[go_sem] theorem qJ.tr:x.enc.tree=true:=qJ.isSh.tree x
@[go_sem] theorem qJ.ln:x.enc.cells.length=3:=nr rfl
@[go_sem] theorem qJ.all:x.enc.part 0 (some 3)=some x.enc:=nr rfl
@[go_sem] theorem qJ.p0:x.enc.part 0 none=some (.int .i64 x.Kind):=nr rfl
@[go_sem] theorem qJ.p1:x.enc.part 1 none=some (.str x.Text):=nr rfl
@[go_sem] theorem qJ.p2:x.enc.part 2 none=some (.int .i64 x.At):=nr rfl
end
def qJ.sz(x:qJ):Nat:=x.Text.length
def qJ.bd(x:qJ):Prop:=x.Text.length<=140737488355328
def pfx(p s:Str):Bool:=decide (p.length<=s.length)&&decide (s.take p.length=p)
def zo:Str:=[43,45,42,47,60,61,40,41,91,93,123,125,44,59,58,46,124,33,92]
def ZG:Str:=[32,10,9]
def wh:Str:=[50,49,52,55,52,56,51,54,52,56]
def jq(s:Str):Option Int:=match Lib.parseIntB 64 s with
 |.ok n=>if (-2147483648<=n/\n<=2147483647)/\Lib.itoa n=s then some n else none
 | _=>none
def Jq(s:Str):Bool:=match jq s with
 | some n=>decide (0<=n)
 | none=>false
def zE(t:Str)(i:Nat):Int×Nat:=
 if 0<(qg t i).length then
  if za (qg t i)then(3,i+(qg t i).length)else if zY (qg t i)then(1,i+(qg t i).length)else if zT (qg t i)then(2,i+(qg t i).length)
  else if decide (qg t i=wh) || Jq (qg t i)then(4,i+(qg t i).length)else(0,i)
 else if pfx [45,62] (t.drop i)then(5,i+2)else if 0<=Lib.indexByte zo (t.getD i 0).toNat.toUInt8 then(5,i+1)else(0,i)
def jZ(t:Str):Nat->Nat->List qJ->Except Nat (List qJ)
 | 0,_,acc=>.ok acc
 | f+1,i,acc=>if i<t.length then
   if 0<=Lib.indexByte ZG (t.getD i 0).toNat.toUInt8 then jZ t f (i+1) acc
   else if (zE t i).1=0 then .error i
   else jZ t f (zE t i).2 (acc++[⟨(zE t i).1,(t.drop i).take ((zE t i).2-i),i⟩])
  else .ok acc
def Ja(t:Str):Except Nat (List qJ):=jZ t t.length 0 []
theorem qTM{p:UInt8->Bool}:∀{l:Str}{k:Nat},k<=(l.takeWhile p).length->((∃c,l[k]?=some c/\p c=true)↔k<(l.takeWhile p).length)
 |[],k,h=>by simp
 | x::l,k,h=>by
  by_cases hx:p x=true
  ·rw[List.takeWhile_cons_of_pos hx]at h|-;cases k with
   | zero=>simp[hx]
   | succ k=>
    simp only[lCo,Nat.add_le_add_iff_right]at h;have:=qTM (p:=p) h;simpa using this
  ·rw[List.takeWhile_cons_of_neg hx]at h|-;have:k=0:=by simpa using h
   subst this;simp[hx]
theorem kY{p:UInt8->Bool}:∀{l:Str},l.take (l.takeWhile p).length=l.takeWhile p
 |[]=>rfl
 | x::l=>by
  by_cases hx:p x=true
  ·rw[List.takeWhile_cons_of_pos hx];simp[kY]
  ·rw[List.takeWhile_cons_of_neg hx];rfl
theorem qbB{p:UInt8->Bool}{l:Str}:(l.takeWhile p).length<=l.length:=by
 rw[<-kY (p:=p) (l:=l),lLt];omega
theorem ka{t:Str}{i k:Nat}(h:k<=(qg t i).length):(∃c,t[i+k]?=some c/\qz c=true)↔k<(qg t i).length:=by
 have:=qTM (p:=qz) (l:=t.drop i) (k:=k) h;rw[gDr]at this;exact this
theorem kb{t:Str}{i:Nat}:(t.drop i).take (qg t i).length=qg t i:=kY
theorem YA{t:Str}{i:Nat}:i<=t.length->i+(qg t i).length<=t.length:=fun h=>by
 have:=qbB (p:=qz) (l:=t.drop i);rw[List.length_drop]at this;unfold qg;omega
theorem We{t:Str}{i:Nat}(h:i<t.length):i<=(zE t i).2/\(zE t i).2<=t.length/\((zE t i).1≠0->i<(zE t i).2):=by
 have hw:=YA (t:=t) (i:=i) (by omega);have hp:pfx [45,62] (t.drop i)=true->i+2<=t.length:=fun q=>by
  simp only[pfx,bAt,dTe,List.length_drop,lCo,lNi]at q;omega
 unfold zE
 repeat' split
 all_goals first
  | (rename_i q;have:=hp q;refine⟨?_, ?_,fun _=> ?_⟩<;>simp only<;>omega)
  | (refine⟨?_, ?_,fun q=> ?_⟩<;>simp only at* <;>first | omega | exact absurd rfl q)
end Go.Ab
namespace Go.Ab
open Go
set_option maxRecDepth 10000
set_option maxHeartbeats 2000000
theorem qS4{E:Ev}{s:qj}{a:Str}{x hi:Ao}{k1:IntKind}{n:Nat}{hh:AH}{mm:Env}(h1:ev (toE s) x=some (.str a))(h2:ev (toE s) hi=some (.int k1 (n:Int)))(hb:n<=a.length):
  val (.sslc x none (some hi)) (toE s) mm hh=some (.str (a.take n)):=by
 simp only[val,h1,bnd,h2];rw[if_pos ⟨by omega,by omega⟩];simp
theorem qP9{s:Str}{c:UInt8}:Pure Gm 631 [.str s,.int .u8 (c.toNat:Nat)] (.int .i64 (Lib.indexByte s (c.toNat:Nat).toUInt8)):=
 Pure.told g631 rfl ⟨s,_,rfl,by simp⟩ rfl rfl
theorem qWV{n:Int}(h0: -9223372036854775808<=n)(h1:n<=9223372036854775807):Pure Gm 957 [.int .i64 n,.int .i64 10] (.str (Lib.itoa n)):=
 Pure.told g957 rfl ⟨n,rfl,h0,h1,rfl⟩ rfl rfl
theorem qZG{s:Str}{h:List qB}(hl:s.length<=140737488355328):SCallP Gm 1382 [.str s,.int .i64 10,.int .i64 64] h fun v=>v=Qt s:=
 SCallP.told qWY rfl ⟨s,rfl,hl,rfl⟩ (fun ρ=>by unfold Qt;split<;>simp only[RelV,RelVs]<;>simp)
theorem qUU{p s:Str}(hl:p.length<=1000000):Pure Gm 1331 [.str s,.str p] (.bool (pfx p s)):=by
 refine pJ Yt ?_;simp only[Yt,qI,go_sem];by_cases hp:p.length<=s.length
 ·have e:decide ((s.length:Int)≥p.length)=true:=decide_eq_true (by omega);simp only[ge_iff_le]at e;simp only[e,go_sem];refine JH (qS4 (E:=⟨Gm,0,[],[]⟩) rfl rfl hp) ?_;simp only[go_sem];exact qE rfl (by simp[pfx,hp])
 ·have e:decide ((s.length:Int)≥p.length)=false:=decide_eq_false (by omega);simp only[ge_iff_le]at e;simp only[e,go_sem];exact qE rfl (by simp[pfx,hp])
theorem qUI{p s:Str}(hl:p.length<=1000000):Pure Gm 1015 [.str s,.str p] (.bool (pfx p s)):=by
 refine pJ YI ?_;simp only[YI,qI,go_sem]
 repeat' (first | (refine zV rfl ?_;simp only[go_sem]) | (first | (apply QA<;>intro hc<;>simp only[hc,go_sem]) | (apply zd<;>intro hc<;>simp only[hc,go_sem])) | (refine qG (qUU hl) ?_;simp only[go_sem]) | refine qE rfl ?_ | refine zJ (by rfl) ?_)
 all_goals (simp_all<;>omega)
theorem qON{n:Int}:Pure Gm 1051 [.int .i64 n] (.bool (decide (-2147483648<=n)&&decide (n<=2147483647))):=by
 refine pJ YM ?_;simp only[YM,qI,go_sem]
 first | (apply QA<;>intro hc<;>simp only[hc,go_sem]) | (apply zd<;>intro hc<;>simp only[hc,go_sem])
 ·exact qE rfl (by have hq:=odT hc;simp<;>omega)
 ·exact qE rfl (by have hq:=odF hc;simp<;>omega)
theorem Ux{n:Int}(h0: -9223372036854775808<=n)(h1:n<=9223372036854775807):Pure Gm 577 [.int .i64 n] (.str (Lib.itoa n)):=by
 refine pJ Vy ?_;simp only[Vy,qI,go_sem]
 repeat' (first | (refine zV rfl ?_;simp only[go_sem]) | (first | (apply QA<;>intro hc<;>simp only[hc,go_sem]) | (apply zd<;>intro hc<;>simp only[hc,go_sem])) | (refine qG (qWV h0 h1) ?_;simp only[go_sem]) | refine qE rfl ?_ | refine zJ (by rfl) ?_)
 all_goals (simp_all<;>omega)
theorem Wz{s:Str}(hl:s.length<=140737488355328):Pure Gm 1091 [.str s] (.tup [.int .i64 ((jq s).getD 0),.bool (jq s).isSome]):=by
 refine pJ YN ?_;simp only[YN,qI,go_sem];refine qU8 (qZG hl) ?_;unfold Qt;cases hp:Lib.parseIntB 64 s with
 | range=>
  simp only[go_sem];exact zJ rfl (by simp[jq,hp])
 | ok n=>
  simp only[go_sem];refine qG qON ?_;simp only[go_sem];cases hb:(decide (-2147483648<=n)&&decide (n<=2147483647))
  ·simp only[Bool.not_false,Bool.not_true];simp only[go_sem];have hn:¬(-2147483648<=n/\n<=2147483647):=by intro q;rw[decide_eq_true q.1,decide_eq_true q.2]at hb;cases hb
   exact zJ rfl (by simp[jq,hp,hn])
  ·simp only[Bool.not_false,Bool.not_true];simp only[go_sem];simp only[bAt,dTe]at hb;refine qG (Ux (by omega) (by omega)) ?_;simp only[go_sem];by_cases he:Lib.itoa n=s
   ·simp only[he,decide_true,Bool.not_true];simp only[go_sem];exact zJ rfl (by simp[jq,hp,hb,he])
   ·simp only[he,decide_false,Bool.not_false];simp only[go_sem];exact zJ rfl (by simp[jq,hp,he])
 | _=>
  simp only[go_sem];exact zJ rfl (by simp[jq,hp])
theorem qUH{s:Str}(hl:s.length<=140737488355328):Pure Gm 1014 [.str s] (.bool (Jq s)):=by
 refine pJ YH ?_;simp only[YH,qI,go_sem];refine qG (Wz hl) ?_;simp only[go_sem];cases hr:jq s with
 | none=>
  simp only[Option.isSome_none];simp only[go_sem];exact qE rfl (by simp[Jq,hr])
 | some n=>
  simp only[Option.isSome_some,Option.getD_some];simp only[go_sem];exact qE rfl (by simp[Jq,hr])
end Go.Ab
namespace Go.Ab
open Go
set_option maxRecDepth 10000
set_option maxHeartbeats 2000000
theorem c632{t:Str}{i:Nat}(hi:i<t.length)(hl:t.length<=20000):Pure Gm 632 [.str t,.int .i64 (i:Nat)] (.tup [.int .i64 (zE t i).1,.int .i64 ((zE t i).2:Nat)]):=by
 refine pJ V2 ?_;simp only[V2,qI,go_sem];refine Sem.loop (fun k:Nat=>k<=(qg t i).length) (fun k=>(⟨[(0,.str t),(1,.int .i64 (i:Nat)),(6,.int .i64 ((i+k:Nat):Int))],[],[]⟩:VSt)) (fun k=>(qg t i).length-k) 0 (by kernel_rfl) (nZl _) (Can.sub (by simp[go_sem]) (by simp[go_sem])) ?_;intro k hk;have ws:=ka hk;have wl:=YA (t:=t) (i:=i) (by omega);simp only[go_sem];have hcase:(k<(qg t i).length/\∃h:i+k<t.length,qz t[i+k]=true)\/(k=(qg t i).length/\(¬i+k<t.length\/∃h:i+k<t.length,qz t[i+k]=false)):=by
  by_cases h1:i+k<t.length
  ·rcases hb:qz t[i+k]with _ | _
   ·have h2:=hb;right;refine⟨?_,.inr ⟨h1,h2⟩⟩;have:¬k<(qg t i).length:=fun q=>by
     obtain⟨c,e1,e2⟩:=ws.2 q;rw[gEg h1]at e1;cases e1;rw[h2]at e2;cases e2
    omega
   ·exact .inl ⟨ws.1 ⟨_,gEg h1,hb⟩,h1,hb⟩
  ·right;exact⟨by omega,.inl h1⟩
 rcases hcase with⟨h1,hlt,hw⟩ | ⟨rfl,hx⟩
 ·have e:decide (((i+k:Nat):Int)<t.length)=true:=decide_eq_true (by omega);simp only[e,gEg hlt,oMs,go_sem];refine qG Uv ?_;simp only[go_sem];simp only[hw];simp only[go_sem];simp only[zC (show i+k<4611686018427387904 by omega)];exact qf (k+1) h1 (by omega) (Can.sub (by simp[go_sem,Nat.add_assoc]) (by simp[go_sem]))
 rcases hx with hx | ⟨hlt,hw⟩
 case' inl=>
  have e:decide (((i+(qg t i).length:Nat):Int)<t.length)=false:=decide_eq_false (by omega);simp only[e,go_sem]
 case' inr=>
  have e:decide (((i+(qg t i).length:Nat):Int)<t.length)=true:=decide_eq_true (by omega);simp only[e,gEg hlt,oMs,go_sem];refine qG Uv ?_;simp only[go_sem];simp only[hw];simp only[go_sem]
 all_goals
  by_cases hp:0<(qg t i).length
  ·have e:decide ((i:Int)<((i+(qg t i).length:Nat):Int))=true:=decide_eq_true (by omega);simp only[e,go_sem];refine JH (Wb rfl rfl rfl (by omega) (by omega)) ?_;rw[Nat.add_sub_cancel_left,kb];have hwl:(qg t i).length<=20000:=by omega
   generalize hW:qg t i=W at*;have r1:zE t i=if za W then(3,i+W.length)else if zY W then(1,i+W.length)else if zT W then(2,i+W.length)else if decide (W=wh) || Jq W then(4,i+W.length)else(0,i):=by
    unfold zE;rw[hW,if_pos hp]
   simp only[go_sem];refine qG qOL ?_;simp only[go_sem];cases k1:za W
   case true=>simp only[go_sem];exact zJ rfl (by simp[r1,k1])
   simp only[go_sem];refine qG (jz (by omega)) ?_;simp only[go_sem];cases k2:zY W
   case true=>simp only[go_sem];exact zJ rfl (by simp[r1,k1,k2])
   simp only[go_sem];refine qG (jm (by omega)) ?_;simp only[go_sem];cases k3:zT W
   case true=>simp only[go_sem];exact zJ rfl (by simp[r1,k1,k2,k3])
   simp only[go_sem];by_cases k4:W=wh
   ·have e4:decide (W=[50,49,52,55,52,56,51,54,52,56])=true:=decide_eq_true k4;simp only[e4,go_sem];exact zJ rfl (by rw[r1];simp only[k1,k2,k3,decide_eq_true k4,Bool.true_or,bFt,if_false,if_true])
   ·have e4:decide (W=[50,49,52,55,52,56,51,54,52,56])=false:=decide_eq_false k4;simp only[e4,go_sem];refine qG (qUH (by omega)) ?_;simp only[go_sem];cases k5:Jq W
    ·simp only[go_sem];exact zJ rfl (by simp[r1,k1,k2,k3,k4,k5])
    ·simp only[go_sem];exact zJ rfl (by simp[r1,k1,k2,k3,k4,k5])
  ·have e:decide ((i:Int)<((i+(qg t i).length:Nat):Int))=false:=decide_eq_false (by omega);have r1:zE t i=if pfx [45,62] (t.drop i)then(5,i+2)else if 0<=Lib.indexByte zo (t.getD i 0).toNat.toUInt8 then(5,i+1)else(0,i):=by
    unfold zE;rw[if_neg hp]
   simp only[e,go_sem];refine JH (qaJ rfl rfl (by omega)) ?_;simp only[go_sem];refine qG (qUI (by simp)) ?_;simp only[go_sem];cases k1:pfx [45,62] (t.drop i)
   case true=>
    simp only[go_sem];simp only[zF (n:=(i:Int)+2) (by omega) (by omega)];exact zJ rfl (by simp[r1,k1])
   simp only[gEg hi,oMs,go_sem];refine qG qP9 ?_;simp only[go_sem];have eg:t.getD i 0=t[i]:=by simp[List.getD,gEg hi]
   by_cases k2:0<=Lib.indexByte zo t[i].toNat.toUInt8
   ·have e2:decide (0<=Lib.indexByte [43,45,42,47,60,61,40,41,91,93,123,125,44,59,58,46,124,33,92] t[i].toNat.toUInt8)=true:=decide_eq_true k2;simp only[e2,go_sem];simp only[zF (n:=(i:Int)+1) (by omega) (by omega)];exact zJ rfl (by simp only[r1,k1,eg,if_pos k2];simp)
   ·have e2:decide (0<=Lib.indexByte [43,45,42,47,60,61,40,41,91,93,123,125,44,59,58,46,124,33,92] t[i].toNat.toUInt8)=false:=decide_eq_false k2;simp only[e2,go_sem];exact zJ rfl (by simp only[r1,k1,eg,if_neg k2];simp)
end Go.Ab
namespace Go.Ab
open Go
set_option maxRecDepth 10000
set_option maxHeartbeats 2000000
theorem zG{E:Ev}{d:Option Nat}{w:Nat}{z v:AV}{x:Ao}{l:List qA}{ks:List Fr1}{s m:qj}{h:List qB}{Q:qR->VSt->Prop}(hx:ev (toE s) x=some v)(hl:v.cells.length=w)
  (hr:wZ E d (.row w [v] true) (.slice w h.length 0 1 false) l ks ⟨s,m,h⟩ Q):Bsl E d w 1 (zA (toE s) w (List.replicate 1 z) [(0,x)]) l ks ⟨s,m,h⟩ Q:=by
 have e:zA (toE s) w (List.replicate 1 z) [(0,x)]=some [v]:=by simp[zA,hx,hl,List.replicate]
 rw[e,qUE];exact hr
theorem JA{h:List qB}{a b v:AV}{vs:List AV}(hc:Cv h (.tup (a::b::vs)) v):Fin (some (a::b::vs)) h v:=by unfold Fin;exact hc
theorem Cvs.tup{h:List qB}{as bs:List AV}(x:Cvs h as bs):Cv h (.tup as) (.tup bs):=.tup x.1 x.2
def jI(t:Str)(i:Nat):qJ:=⟨(zE t i).1,(t.drop i).take ((zE t i).2-i),i⟩
theorem qTD{t:Str}:∀(f:Nat){i:Nat}{acc:List qJ},t.length-i<=f->jZ t f i acc=jZ t (t.length-i) i acc:=by
 intro f
 induction f using Nat.strongRecOn with
 | _ f ih=>
 intro i acc hf;cases f with
 | zero=>rw[show t.length-i=0 by omega]
 | succ f=>
  by_cases hi:i<t.length
  ·obtain⟨g,hg⟩:∃g,t.length-i=g+1:=⟨t.length-i-1,by omega⟩;rw[hg];obtain⟨h1,h2,h3⟩:=We hi;simp only[jZ,if_pos hi];split
   ·rw[ih f (by omega) (by omega),ih g (by omega) (by omega)]
   ·split
    ·rfl
    ·rename_i hk;have:=h3 hk;rw[ih f (by omega) (by omega),ih g (by omega) (by omega)]
  ·rw[show t.length-i=0 by omega];simp only[jZ,if_neg hi]
def QT(t:Str)(i:Nat)(acc:List qJ):Except Nat (List qJ):=jZ t (t.length-i) i acc
theorem qTE{t:Str}{i:Nat}{acc:List qJ}(hi:¬i<t.length):QT t i acc=.ok acc:=by
 unfold QT;rw[show t.length-i=0 by omega];rfl
theorem qTF{t:Str}{i:Nat}{acc:List qJ}(hi:i<t.length):QT t i acc=if 0<=Lib.indexByte ZG (t.getD i 0).toNat.toUInt8 then QT t (i+1) acc else if (zE t i).1=0 then .error i else QT t (zE t i).2 (acc++[jI t i]):=by
 obtain⟨g,hg⟩:∃g,t.length-i=g+1:=⟨t.length-i-1,by omega⟩;obtain⟨h1,h2,h3⟩:=We hi;unfold QT;rw[hg];simp only[jZ,if_pos hi];split
 ·rw[qTD g (by omega)]
 ·split
  ·rfl
  ·rename_i hk;have:=h3 hk;rw[qTD g (by omega)];rfl
def qn(t:Str):List qJ×Int×Int:=if 20000<t.length then([],0,2)else match Ja t with
 |.error i=>([],i,6)
 |.ok l=>(l,0,0)
theorem c266{t:Str}:Pure Gm 266 [.str t] (.tup [.lst 3 ((qn t).1.map qJ.enc) false,.int .i64 (qn t).2.1,.int .i64 (qn t).2.2]):=by
 refine pI Vc (by simp[AV.trees,AV.tree,go_sem]) (by simp[AV.tree,AV.trees,zM qJ.isSh.tree]) ?_;simp only[Vc,qI,go_sem];by_cases hl:20000<t.length
 ·have e:decide ((20000:Int)<t.length)=true:=decide_eq_true (by omega);simp only[e,go_sem];have er:qn t=([],0,2):=by rw[qn,if_pos hl]
  rw[er];refine JA (Cvs.tup (Cvs.cons .nils (Cvs.cons (.refl rfl) (Cvs.cons (.refl rfl) Cvs.nil))))
 have e:decide ((20000:Int)<t.length)=false:=decide_eq_false (by omega);simp only[e,go_sem];have er:qn t=match Ja t with
  |.error i=>([],i,6)
  |.ok l=>(l,0,0):=by rw[qn,if_neg hl]
 refine Sem.loop (fun a:Nat×List qJ=>a.1<=t.length/\a.2.length<=a.1/\Ja t=QT t a.1 a.2) (fun a=>(⟨[(0,.str t),(5,.slice 3 0 0 a.2.length false),(6,.int .i64 (a.1:Nat))],[],[.row 3 (a.2.map qJ.enc) true]⟩:VSt)) (fun a=>t.length-a.1) (0,[]) (by kernel_rfl) ⟨nZl _,nZl _,rfl⟩ (Can.renum [none] rfl ⟨.ph,trivial⟩ ⟨⟨_,rfl,.tree rfl⟩,⟨_,rfl,.ph rfl⟩,⟨_,rfl,.tree rfl⟩,trivial⟩ trivial) ?_;rintro⟨i,acc⟩ ⟨hi,ha,hI⟩;simp only at hi ha hI;simp only[go_sem];by_cases hlt:i<t.length
 case neg=>
  have e:decide ((i:Int)<t.length)=false:=decide_eq_false (by omega);simp only[e,go_sem];rw[hI,qTE hlt]at er;rw[er];refine JA (Cvs.tup (Cvs.cons (Cv.row rfl (by simp) (zM qJ.isSh.tree _) (by decide)) (Cvs.cons (.refl rfl) (Cvs.cons (.refl rfl) Cvs.nil))))
 have e:decide ((i:Int)<t.length)=true:=decide_eq_true (by omega);simp only[e,gEg hlt,oMs,go_sem];refine qG qP9 ?_;simp only[go_sem];rw[qTF hlt]at hI;have eg:t.getD i 0=t[i]:=by simp[List.getD,gEg hlt]
 rw[eg]at hI;by_cases hb:0<=Lib.indexByte ZG t[i].toNat.toUInt8
 ·have e:decide (0<=Lib.indexByte [32,10,9] t[i].toNat.toUInt8)=true:=decide_eq_true hb;simp only[e,go_sem];simp only[zC (show i<4611686018427387904 by omega)];rw[if_pos hb]at hI;exact qf (i+1,acc) ⟨by simp only;omega,by simp only;omega,hI⟩ (by simp only;omega) (Can.sub (by simp[go_sem]) (by simp[go_sem]))
 have e:decide (0<=Lib.indexByte [32,10,9] t[i].toNat.toUInt8)=false:=decide_eq_false hb;simp only[e,go_sem];rw[if_neg hb]at hI;refine qG (c632 hlt (by omega)) ?_;simp only[go_sem];obtain⟨t1,t2,t3⟩:=We hlt;by_cases hk:(zE t i).1=0
 ·simp only[hk,decide_true,go_sem];rw[if_pos hk]at hI;rw[hI]at er;rw[er];refine JA (Cvs.tup (Cvs.cons .nils (Cvs.cons (.refl rfl) (Cvs.cons (.refl rfl) Cvs.nil))))
 have t4:=t3 hk;rw[if_neg hk]at hI;simp only[decide_eq_false hk,go_sem];refine JH (Wb rfl rfl rfl (by omega) (by omega)) ?_;simp only[go_sem];refine zG (v:=(jI t i).enc) rfl rfl ?_;simp only[go_sem];refine Zy (el:=acc.map qJ.enc) rfl rfl (by simp) (by omega) ?_;simp only[go_sem];refine qf ((zE t i).2,acc++[jI t i]) ⟨by simp only;omega,by simp only[lAp,lCo,lNi];omega,hI⟩ (by simp only;omega) ?_;simp only[lAp,lCo,lNi,nZa];refine Can.renum [some 2] rfl ⟨.row rfl ?_,trivial⟩ ⟨⟨_,rfl,.tree rfl⟩,⟨_,rfl,.slice rfl⟩,⟨_,rfl,.tree rfl⟩,trivial⟩ trivial;rw[lMa];have tt:=zM qJ.isSh.tree (acc++[jI t i]);rw[lMa]at tt;exact VR2s.trees tt
end Go.Ab
namespace Go.Ab
open Go
set_option maxRecDepth 10000
set_option maxHeartbeats 2000000
section
variable {E:Ev} {l:List qA} {ks:List Fr1} {s m:qj} {h h0:List qB} {Q:qR->VSt->Prop} {k e:Nat} {vs:List AV} {v0:AV}
theorem qZ{ck:List qA}(hck:ck=[])(hp:SCall E.Γ k vs h fun v h'=>v=v0/\h'=h0)(hr:R E (.ops l::ks) ⟨(e,v0)::s,m,h0⟩ Q):jk E (some (k,vs)) ck (some e) l ks ⟨s,m,h⟩ Q:=by
 subst hck;exact qN (hp.mono fun v h' ⟨h1,h2⟩=>by subst h1;subst h2;exact hr)
end
@[go_sem] theorem qcQ{off:Nat}{sh:Option Nat}{x:qJ}:fld1 off sh (some x.enc)=x.enc.part off sh:=rfl
def prI(toks:List qJ)(a:Nat)(e:Int):qB:=.row 3 [.agg [.lst 3 (toks.map qJ.enc) false,.int .i64 (a:Nat),.int .i64 e]] true
def nxt(toks:List qJ)(a:Nat)(e:Int):qJ:=(toks[a]?).getD ⟨0,[],e⟩
def isI(toks:List qJ)(a:Nat)(e:Int)(s:Str):Bool:=decide ((nxt toks a e).Text=s)&&(decide ((nxt toks a e).Kind=5) || decide ((nxt toks a e).Kind=3))
def wE(i:Int):AV:=.iface 751 (.agg [.int .i64 i])
section
variable {h:List qB} {id a:Nat} {toks:List qJ} {e:Int}
theorem Qo(ho:h[id]?=some (prI toks a e)):SCall Gm 1101 [.ptr id 0 0] h fun v h'=>v=(nxt toks a e).enc/\h'=h:=by
 refine sI YQ ?_;unfold prI at ho;simp only[YQ,qI,go_sem,ho,oMs,lMp];by_cases hlt:a<toks.length
 ·have e1:decide ((a:Int)<toks.length)=true:=decide_eq_true (by omega);simp only[e1,go_sem,ho,gMp,gEg hlt,oMs];refine qK rfl rfl ⟨_,rfl⟩ (by decide) ?_;simp only[go_sem];exact⟨by simp[nxt,gEg hlt],trivial⟩
 ·have e1:decide ((a:Int)<toks.length)=false:=decide_eq_false (by omega);simp only[e1,go_sem,ho];refine qK rfl rfl ⟨_,rfl⟩ (by decide) ?_;simp only[go_sem];exact⟨by simp[nxt,gEn (show toks.length<=a by omega),qJ.enc],trivial⟩
theorem WM(ho:h[id]?=some (prI toks a e)):SCallX Gm 719 [.ptr id 0 0] h (fun _ _=>False) fun v h'=>v=wE (nxt toks a e).At/\h'=h:=by
 refine xI V5 ?_;simp only[V5,qI,go_sem];refine qZ rfl (Qo ho) ?_;simp only[go_sem];exact⟨rfl,rfl,rfl,trivial⟩
theorem XW{s:Str}(ho:h[id]?=some (prI toks a e)):SCall Gm 1103 [.ptr id 0 0,.str s] h fun v h'=>v=.bool (isI toks a e s)/\h'=h:=by
 refine sI YS ?_;simp only[YS,qI,go_sem];refine qZ rfl (Qo ho) ?_;simp only[go_sem];refine qK rfl rfl ⟨_,rfl⟩ (by decide) ?_;simp only[go_sem];by_cases h1:(nxt toks a e).Text=s
 case neg=>
  simp only[decide_eq_false h1,go_sem];exact⟨by simp[isI,h1],trivial⟩
 simp only[decide_eq_true h1,go_sem];by_cases h2:(nxt toks a e).Kind=5
 ·simp only[decide_eq_true h2,go_sem];exact⟨by simp[isI,h1,h2],trivial⟩
 ·simp only[decide_eq_false h2,go_sem];exact⟨by simp[isI,h1,h2],trivial⟩
theorem qXJ{s:Str}(hs:s≠[])(q:isI toks a e s=true):a<toks.length:=by
 rcases Nat.lt_or_ge a toks.length with h1 | h1
 ·exact h1
 ·exfalso;simp only[isI,nxt,gEn h1,Option.getD_none,bAt,dTe]at q;exact hs q.1.symm
theorem QK{k:Int}(hk:k≠0)(q:(nxt toks a e).Kind=k):a<toks.length:=by
 rcases Nat.lt_or_ge a toks.length with h1 | h1
 ·exact h1
 ·exfalso;simp only[nxt,gEn h1,Option.getD_none]at q;exact hk q.symm
theorem jA{s:Str}(ho:h[id]?=some (prI toks a e))(hl:toks.length<=1048576)(hs:s≠[]):SCall Gm 721 [.ptr id 0 0,.str s] h fun v h'=>v=.bool (isI toks a e s)/\h'=if isI toks a e s then h.set id (prI toks (a+1) e)else h:=by
 refine sI V7 ?_;simp only[V7,qI,go_sem];refine qZ rfl (XW ho) ?_;simp only[go_sem];cases hi:isI toks a e s
 ·simp only[Bool.not_false,go_sem];exact⟨trivial,by simp⟩
 ·have hlt:=qXJ hs hi;have ho':=ho;unfold prI at ho';simp only[Bool.not_true,go_sem,ho',oMs];simp only[zC (show a<4611686018427387904 by omega)];refine jK rfl ho' rfl rfl ?_;simp only[go_sem];exact⟨trivial,rfl⟩
theorem jT{s:Str}(ho:h[id]?=some (prI toks a e))(hl:toks.length<=1048576)(hs:s≠[]):SCallX Gm 876 [.ptr id 0 0,.str s] h (fun _ h'=>isI toks a e s=true/\h'=h.set id (prI toks (a+1) e)) fun v h'=>isI toks a e s=false/\v=wE (nxt toks a e).At/\h'=h:=by
 refine xI UK ?_;simp only[UK,qI,go_sem];refine qZ rfl (jA ho hl hs) ?_;simp only[go_sem];cases hi:isI toks a e s
 ·simp only[Bool.not_false,bFt,if_false,go_sem];refine qT ((WM ho).mono (fun _ _ q=>q.elim) ?_);rintro v h' ⟨rfl,rfl⟩;exact⟨rfl,trivial,rfl,rfl⟩
 ·simp only[Bool.not_true,if_true,go_sem];exact⟨trivial,trivial⟩
theorem JY{k:Int}(ho:h[id]?=some (prI toks a e))(hl:toks.length<=1048576)(hk:k≠0):SCallX Gm 875 [.ptr id 0 0,.int .i64 k] h (fun v h'=>(nxt toks a e).Kind=k/\v=.str (nxt toks a e).Text/\h'=h.set id (prI toks (a+1) e)) fun v h'=>(nxt toks a e).Kind≠k/\v=wE (nxt toks a e).At/\h'=h:=by
 refine xI UJ ?_;simp only[UJ,qI,go_sem];refine qZ rfl (Qo ho) ?_;simp only[go_sem];refine qK rfl rfl ⟨_,rfl⟩ (by decide) ?_;simp only[go_sem];by_cases hi:(nxt toks a e).Kind=k
 ·have hlt:=QK hk hi;have ho':=ho;unfold prI at ho';simp only[hi,decide_true,Bool.not_true,go_sem,ho',oMs];simp only[zC (show a<4611686018427387904 by omega)];refine jK rfl ho' rfl rfl ?_;simp only[go_sem];exact⟨trivial,trivial,rfl⟩
 ·simp only[decide_eq_false hi,Bool.not_false,go_sem];refine qT ((WM ho).mono (fun _ _ q=>q.elim) ?_);rintro v h' ⟨rfl,rfl⟩;exact⟨rfl,hi,rfl,rfl⟩
end
end Go.Ab
namespace Go.Ab
open Go
set_option maxRecDepth 10000
set_option maxHeartbeats 2000000
structure PS(h:List qB)(id:Nat)(o:qB)(h':List qB):Prop where
 at':h'[id]?=some o
 len:h.length<=h'.length
 old:∀j,j≠id->j<h.length->h'[j]?=h[j]?
theorem PS.set{h:List qB}{id:Nat}{o0 o:qB}(ho:h[id]?=some o0):PS h id o (h.set id o) where
 at':=by rw[gSs (gSi.1 ho).1]
 len:=by simp
 old:=fun j hj _=>gSn (Ne.symm hj)
theorem PS.refl{h:List qB}{id:Nat}{o:qB}(ho:h[id]?=some o):PS h id o h:=⟨ho,nLr _,fun _ _ _=>rfl⟩
theorem PS.trans{h h1 h2:List qB}{id:Nat}{o1 o2:qB}(a:PS h id o1 h1)(b:PS h1 id o2 h2):PS h id o2 h2:=
 ⟨b.at',nLt a.len b.len,fun j hj hl=>(b.old j hj (Nat.lt_of_lt_of_le hl a.len)).trans (a.old j hj hl)⟩
theorem PS.push{h h1:List qB}{id:Nat}{o x:qB}(a:PS h id o h1):PS h id o (h1++[x]):=
 ⟨by rw[gAl (gSi.1 a.at').1];exact a.at',by have:=a.len;simp;omega,fun j hj hl=>by rw[gAl (Nat.lt_of_lt_of_le hl a.len)];exact a.old j hj hl⟩
def Bh(b:Nat)(S:List (Option Nat))(h:List qB):Prop:=∀j,some j∈S->b<=j/\j<h.length
theorem qq.ps{S:List (Option Nat)}{h1 h2:List qB}{id b:Nat}{o:qB}{v t:AV}(x:qq S h1 v t)(hb:Bh b S h1)(hid:id<b)(a:PS h1 id o h2):qq S h2 v t/\Bh b S h2:=
 ⟨x.heap fun j hj=>a.old j (by have:=(hb j hj).1;omega) (hb j hj).2,fun j hj=>⟨(hb j hj).1,Nat.lt_of_lt_of_le (hb j hj).2 a.len⟩⟩
theorem qq.push{S:List (Option Nat)}{h1:List qB}{b:Nat}{v t:AV}{y:qB}(x:qq S h1 v t)(hb:Bh b S h1):qq S (h1++[y]) v t/\Bh b S (h1++[y]):=
 ⟨x.heap fun j hj=>gAl (hb j hj).2,fun j hj=>⟨(hb j hj).1,by have:=(hb j hj).2;simp;omega⟩⟩
theorem WR{S:List (Option Nat)}{h:List qB}{k:Int}{n:Str}{v2:AV}{ks:List qC}(x:qq S h v2 (.lst 3 (ks.map qC.enc) false)):qq S h (.agg [.int .i64 k,.str n,v2]) (qC.mk k n ks).enc:=by
 have h1:=(zP.nil (h:=h)).scal (a:=.int .i64 k) (fun _=>rfl) rfl rfl;have h2:=h1.scal (a:=.str n) (fun _=>rfl) rfl rfl;have h3:=(h2.snoc x (fun j hj=>by cases hj)).agg;rw[qC.enc_eq];exact h3
theorem Zc{h:List qB}{k:Int}{n:Str}:qq [none] h (.agg [.int .i64 k,.str n,.nils]) (qC.mk k n []).enc:=WR (ks:=[]) (qq.nils (c:=false))
theorem QN{S:List (Option Nat)}{h:List qB}{v:AV}{t:qC}(x:qq S h v t.enc):∃a b c,v=.agg [a,b,c]:=by
 rw[qC.enc_eq]at x;obtain⟨vs,rfl,y⟩:=x.aggs;have:=y.cnt
 match vs,this with
 |[a,b,c],_=>exact⟨a,b,c,rfl⟩
theorem qRZ{S:List (Option Nat)}{h:List qB}{b:Nat}{v:AV}{t:qC}(x:qq S h v t.enc)(hb:Bh b S h)(hl:b<=h.length):
  qq (some h.length::S) (h++[.row 3 [v] true]) (.slice 3 h.length 0 1 false) (.lst 3 ([t].map qC.enc) false)/\Bh b (some h.length::S) (h++[.row 3 [v] true]):=by
 obtain⟨x1,b1⟩:=x.push (y:=.row 3 [v] true) hb;refine⟨x1.one.row (by simp) (fun hj=>by have:=(hb _ hj).2;omega),fun j hj=> ?_⟩;rcases List.mem_cons.1 hj with e | hj
 ·cases e;exact⟨hl,by simp⟩
 ·exact b1 j hj
theorem qR0{S S':List (Option Nat)}{h:List qB}{b c:Nat}{v u:AV}{t r:qC}(x:qq S h v t.enc)(y:qq S' h u r.enc)(hb:Bh b S h)(hc:Bh c S' h)(hl:b<=h.length)(hl':b<=c)(hbc:∀j,some j∈S->j<c):
  qq (some h.length::(S++S')) (h++[.row 3 [v,u] true]) (.slice 3 h.length 0 2 false) (.lst 3 ([t,r].map qC.enc) false)/\Bh b (some h.length::(S++S')) (h++[.row 3 [v,u] true]):=by
 obtain⟨x1,b1⟩:=x.push (y:=.row 3 [v,u] true) hb;obtain⟨y1,c1⟩:=y.push (y:=.row 3 [v,u] true) hc;have z:=x1.one.app y1.one (fun j hj hk=>by have:=hbc j hj;have:=(hc j hk).1;omega);refine⟨z.row (by simp) (fun hj=> ?_),fun j hj=> ?_⟩
 ·rcases jR.1 hj with hj | hj
  ·have:=(hb _ hj).2;omega
  ·have:=(hc _ hj).2;omega
 ·rcases List.mem_cons.1 hj with e | hj
  ·cases e;exact⟨hl,by simp⟩
  ·rcases jR.1 hj with hj | hj
   ·exact b1 j hj
   ·have:=c1 j hj;exact⟨by omega,this.2⟩
def Qg:qC:=.mk 1 [] []
def Jg(s:Str):qC:=.mk 2 s []
def J9(a b:qC):qC:=.mk 3 [] [a,b]
def QY(a:qC):qC:=.mk 4 [] [a]
section
variable {h:List qB} {a0 a1 a2 b0 b1 b2:AV} {s:Str}
theorem n908:SCall Gm 908 [] h fun v h'=>v=.agg [.int .i64 1,.str [],.nils]/\h'=h:=by
 refine sI UQ ?_;simp only[UQ,qI,go_sem];refine qK rfl rfl ⟨_,rfl⟩ (by decide) ?_;simp only[go_sem];exact⟨trivial,trivial⟩
theorem qYP:SCall Gm 1102 [.str s] h fun v h'=>v=.agg [.int .i64 2,.str s,.nils]/\h'=h:=by
 refine sI YR ?_;simp only[YR,qI,go_sem];refine qK rfl rfl ⟨_,rfl⟩ (by decide) ?_;simp only[go_sem];exact⟨trivial,trivial⟩
theorem n911:SCall Gm 911 [.agg [a0,a1,a2]] h fun v h'=>v=.agg [.int .i64 4,.str [],.slice 3 h.length 0 1 false]/\h'=h++[.row 3 [.agg [a0,a1,a2]] true]:=by
 refine sI UR ?_;simp only[UR,qI,go_sem];refine zV rfl ?_;simp only[go_sem];refine zG (v:=.agg [a0,a1,a2]) rfl rfl ?_;simp only[go_sem];refine qK rfl rfl ⟨_,rfl⟩ (by decide) ?_;simp only[go_sem];exact⟨trivial,trivial⟩
theorem n722:SCall Gm 722 [.agg [a0,a1,a2],.agg [b0,b1,b2]] h fun v h'=>v=.agg [.int .i64 3,.str [],.slice 3 h.length 0 2 false]/\h'=h++[.row 3 [.agg [a0,a1,a2],.agg [b0,b1,b2]] true]:=by
 refine sI V8 ?_;simp only[V8,qI,go_sem];refine zV rfl ?_;simp only[go_sem];refine zV rfl ?_;simp only[go_sem];rw[show zA _ 3 _ _=some [.agg [a0,a1,a2],.agg [b0,b1,b2]]from rfl];simp only[go_sem];refine qK rfl rfl ⟨_,rfl⟩ (by decide) ?_;simp only[go_sem];exact⟨trivial,trivial⟩
end
end Go.Ab
namespace Go.Ab
open Go
set_option maxRecDepth 10000
set_option maxHeartbeats 2000000
def isP(toks:List qJ)(a:Nat)(s:Str):Bool:=match toks[a]? with
 | some t=>decide (t.Text=s)&&(decide (t.Kind=5) || decide (t.Kind=3))
 | none=>false
theorem qi{toks:List qJ}{a:Nat}{e:Int}{s:Str}(hs:s≠[]):isI toks a e s=isP toks a s:=by
 unfold isI isP nxt;cases h:toks[a]? with
 | none=>
  have:¬([]:Str)=s:=fun q=>hs q.symm;simp[this]
 | some t=>simp
theorem qV{toks:List qJ}{a:Nat}{s:Str}(q:isP toks a s=true):a<toks.length:=by
 rcases Nat.lt_or_ge a toks.length with h1 | h1
 ·exact h1
 ·rw[isP,gEn h1]at q;cases q
def pT(toks:List qJ):Nat->Bool->Nat->Except Nat (qC×Nat)
 | 0,_,a=>.error a
 | f+1,true,a=>if isP toks a [33]then(match pT toks f true (a+1)with
   |.ok (t,b)=>.ok (QY t,b)
   |.error b=>.error b)
  else if isP toks a [40]then(match pT toks f false (a+1)with
   |.ok (t,b)=>if isP toks b [41]then .ok (t,b+1)else .error b
   |.error b=>.error b)
  else(match toks[a]? with
   | some t=>if t.Kind=2 then .ok (if t.Text=[73,110,116]then Qg else Jg t.Text,a+1)else .error a
   | none=>.error a)
 | f+1,false,a=>(match pT toks f true a with
   |.ok (t,b)=>if isP toks b [45,62]then(match pT toks f false (b+1)with
     |.ok (u,c)=>.ok (J9 t u,c)
     |.error c=>.error c)
    else .ok (t,b)
   |.error b=>.error b)
def zj(toks:List qJ)(flag:Bool)(a:Nat):Nat:=2*(toks.length-a)+(if flag then 1 else 2)
theorem jP{toks:List qJ}:∀(f:Nat)(flag:Bool)(a:Nat){t:qC}{b:Nat},pT toks f flag a=.ok (t,b)->a<b/\b<=toks.length:=by
 intro f
 induction f with
 | zero=>intro flag a t b h;simp[pT]at h
 | succ f ih=>
  intro flag a t b h;cases flag with
  | true=>
   simp only[pT]at h;split at h
   ·rename_i h1;have:=qV h1;split at h
    ·rename_i h2;have:=ih _ _ h2;cases h;omega
    ·cases h
   ·split at h
    ·rename_i h1;have:=qV h1;split at h
     ·rename_i h2;have:=ih _ _ h2;split at h
      ·rename_i h3;have:=qV h3;cases h;omega
      ·cases h
     ·cases h
    ·split at h
     ·rename_i h1;have:=(gSi.1 h1).1;split at h
      ·cases h;omega
      ·cases h
     ·cases h
  | false=>
   simp only[pT]at h;split at h
   ·rename_i h2;have:=ih _ _ h2;split at h
    ·rename_i h1;have:=qV h1;split at h
     ·rename_i h3;have:=ih _ _ h3;cases h;omega
     ·cases h
    ·cases h;omega
   ·cases h
section
variable {id:Nat} {toks:List qJ} {e:Int}
theorem qQ6(hl:toks.length<=1048576):∀(f:Nat)(flag:Bool)(a:Nat)(h:List qB),zj toks flag a<=f->a<=toks.length->h[id]?=some (prI toks a e)->
  SCallX Gm (if flag then 720 else 335) [.ptr id 0 0] h (fun v h'=>∃t b S,pT toks f flag a=.ok (t,b)/\PS h id (prI toks b e) h'/\qq S h' v t.enc/\Bh h.length S h') (fun v h'=>∃b,pT toks f flag a=.error b/\v=wE (nxt toks b e).At):=by
 intro f
 induction f with
 | zero=>intro flag a h hf;exfalso;unfold zj at hf;cases flag<;>simp at hf
 | succ f ih=>
 intro flag a h hf ha ho;have hid:id<h.length:=(gSi.1 ho).1;cases flag with
 | true=>
  refine xI V6 ?_;simp only[V6,qI,go_sem];refine qZ rfl (jA ho hl (by decide)) ?_;rw[qi (by decide)];simp only[go_sem];cases hb:isP toks a [33]
  case true=>
   have hlt:=qV hb;simp only[if_true,go_sem];refine qT ((ih true (a+1) (h.set id (prI toks (a+1) e)) (by unfold zj at hf|-;simp at hf|-;omega) (by omega) (by rw[gSs hid])).mono ?_ ?_)
   ·rintro v h1 ⟨t,b,S,q1,q2,q3,q4⟩;obtain⟨x0,x1,x2,rfl⟩:=QN q3;simp only[go_sem];refine qZ rfl n911 ?_;simp only[go_sem];refine qK rfl rfl ⟨_,rfl⟩ (by decide) ?_;simp only[go_sem];rw[lLs]at q4;obtain⟨r1,r2⟩:=qRZ q3 q4 (by have:=q2.len;rw[lLs]at this;exact this);refine⟨QY t,b,_,by simp only[pT,hb,if_true,q1],((PS.set ho).trans q2).push,WR r1,r2⟩
   ·rintro v h1 ⟨b,q1,rfl⟩;exact⟨rfl,b,by simp only[pT,hb,if_true,q1],rfl⟩
  simp only[bFt,if_false,go_sem];refine qZ rfl (jA ho hl (by decide)) ?_;rw[qi (by decide)];simp only[go_sem];cases hc:isP toks a [40]
  case true=>
   have hlt:=qV hc;simp only[if_true,go_sem];refine qT ((ih false (a+1) (h.set id (prI toks (a+1) e)) (by unfold zj at hf|-;simp at hf|-;omega) (by omega) (by rw[gSs hid])).mono ?_ ?_)
   ·rintro v h1 ⟨t,b,S,q1,q2,q3,q4⟩;have hb2:=jP _ _ _ q1;obtain⟨x0,x1,x2,rfl⟩:=QN q3;simp only[go_sem];refine qK rfl rfl ⟨_,rfl⟩ (by decide) ?_;simp only[go_sem];refine qT ((jT q2.at' hl (by decide)).mono ?_ ?_)
    ·rintro v2 h2 ⟨e1,rfl⟩;rw[qi (by decide)]at e1;simp only[go_sem];refine qK rfl rfl ⟨_,rfl⟩ (by decide) ?_;simp only[go_sem];rw[lLs]at q4;obtain⟨r1,r2⟩:=q3.ps q4 hid (PS.set q2.at' (o:=prI toks (b+1) e));exact⟨t,b+1,S,by simp only[pT,hb,hc,bFt,if_false,if_true,q1,e1],((PS.set ho).trans q2).trans (PS.set q2.at'),r1,r2⟩
    ·rintro v2 h2 ⟨e1,rfl,rfl⟩;rw[qi (by decide)]at e1;exact⟨rfl,b,by simp only[pT,hb,hc,bFt,if_false,if_true,q1,e1],rfl⟩
   ·rintro v h1 ⟨b,q1,rfl⟩;exact⟨rfl,b,by simp only[pT,hb,hc,bFt,if_false,if_true,q1],rfl⟩
  simp only[bFt,if_false,go_sem];refine qT ((JY ho hl (by decide)).mono ?_ ?_)
  ·rintro v h1 ⟨e1,rfl,rfl⟩;have hlt:=QK (by decide) e1;have en:nxt toks a e=toks[a]:=by simp[nxt,gEg hlt]
   rw[en]at e1|-;simp only[go_sem];by_cases hn:toks[a].Text=[73,110,116]
   ·simp only[decide_eq_true hn,Bool.not_true,go_sem];refine qZ rfl n908 ?_;simp only[go_sem];refine qK rfl rfl ⟨_,rfl⟩ (by decide) ?_;simp only[go_sem];exact⟨Qg,a+1,[none],by simp[pT,hb,hc,gEg hlt,e1,hn],PS.set ho,Zc,fun j hj=>by simp at hj⟩
   ·simp only[decide_eq_false hn,Bool.not_false,go_sem];refine qZ rfl qYP ?_;simp only[go_sem];refine qK rfl rfl ⟨_,rfl⟩ (by decide) ?_;simp only[go_sem];exact⟨Jg toks[a].Text,a+1,[none],by simp[pT,hb,hc,gEg hlt,e1,hn],PS.set ho,Zc,fun j hj=>by simp at hj⟩
  ·rintro v h1 ⟨e1,rfl,rfl⟩;refine⟨rfl,a, ?_,rfl⟩;simp only[pT,hb,hc,bFt,if_false];unfold nxt at e1;split
   ·rename_i t ht;rw[ht]at e1;rw[if_neg (by simpa using e1)]
   ·rfl
 | false=>
  refine xI Vk ?_;simp only[Vk,qI,go_sem];refine qT ((ih true a h (by unfold zj at hf|-;simp at hf|-;omega) ha ho).mono ?_ ?_)
  ·rintro v h1 ⟨t,b,S,q1,q2,q3,q4⟩;obtain⟨b1,b2⟩:=jP _ _ _ q1;obtain⟨x0,x1,x2,rfl⟩:=QN q3;simp only[go_sem];refine qK rfl rfl ⟨_,rfl⟩ (by decide) ?_;simp only[go_sem];refine qZ rfl (jA q2.at' hl (by decide)) ?_;rw[qi (by decide)];simp only[go_sem];cases hb:isP toks b [45,62]
   ·simp only[bFt,if_false,go_sem];refine qK rfl rfl ⟨_,rfl⟩ (by decide) ?_;simp only[go_sem];exact⟨t,b,S,by simp only[pT,q1,hb,bFt,if_false],q2,q3,q4⟩
   ·have hlt:=qV hb;simp only[if_true,go_sem];have hid1:id<h1.length:=Nat.lt_of_lt_of_le hid q2.len;have q2':=q2.trans (PS.set q2.at' (o:=prI toks (b+1) e));obtain⟨q3',q4'⟩:=q3.ps q4 hid (PS.set q2.at' (o:=prI toks (b+1) e));refine qT ((ih false (b+1) (h1.set id (prI toks (b+1) e)) (by unfold zj at hf|-;simp at hf|-;omega) (by omega) (by rw[gSs hid1])).mono ?_ ?_)
    ·rintro v2 h2 ⟨u,c,S2,p1,p2,p3,p4⟩;obtain⟨y0,y1,y2,rfl⟩:=QN p3;simp only[go_sem];refine qZ rfl n722 ?_;simp only[go_sem];refine qK rfl rfl ⟨_,rfl⟩ (by decide) ?_;simp only[go_sem];obtain⟨z3,z4⟩:=q3'.ps q4' hid p2;obtain⟨r1,r2⟩:=qR0 z3 p3 z4 p4 (by have:=q2.len;have:=p2.len;rw[lLs]at this;omega) (by have:=q2.len;rw[lLs];omega) (fun j hj=>(q4' j hj).2);exact⟨J9 t u,c,_,by simp only[pT,q1,hb,if_true,p1],(q2'.trans p2).push,WR r1,r2⟩
    ·rintro v2 h2 ⟨c,p1,rfl⟩;exact⟨rfl,c,by simp only[pT,q1,hb,if_true,p1],rfl⟩
  ·rintro v h1 ⟨b,q1,rfl⟩;exact⟨rfl,b,by simp only[pT,q1],rfl⟩
end
end Go.Ab
namespace Go.Ab
open Go
set_option maxRecDepth 10000
set_option maxHeartbeats 2000000
def okT(k:Int)(n:Str)(l:Nat):Bool:=if k=1 then decide (n=[])&&decide (l=0)else if k=2 then zT n&&(!decide (n=[73,110,116])&&decide (l=0))else if k=3 then decide (n=[])&&decide (l=2)else if k=4 then decide (n=[])&&decide (l=1)else false
mutual
def qC.shp:qC->Nat×Nat×Bool
 |.mk k n ks=>match qC.shps ks 1 1 with
  | none=>(0,0,false)
  | some (d,s)=>(d,s,okT k n ks.length)
def qC.shps:List qC->Nat->Nat->Option (Nat×Nat)
 |[],d,s=>some (d,s)
 | x::xs,d,s=>match x.shp with
  | (d',s',true)=>qC.shps xs (max d (d'+1)) (s+s')
  | (_,_,false)=>none
end
mutual
def qC.nd:qC->Nat
 |.mk _ _ ks=>1+qC.nds ks
def qC.nds:List qC->Nat
 |[]=>0
 | x::xs=>x.nd+qC.nds xs
end
theorem qC.nds_eq:∀xs,qC.nds xs=qP qC.nd xs
 |[]=>by simp[qC.nds,qP]
 | x::xs=>by simp[qC.nds,qP,qC.nds_eq xs]
theorem qC.nd_eq(x:qC):x.nd=1+qP qC.nd x.Kids:=by cases x;simp[qC.nd,qC.nds_eq,qC.Kids]
theorem qC.shp_eq(x:qC):x.shp=match qC.shps x.Kids 1 1 with
  | none=>(0,0,false)
  | some (d,s)=>(d,s,okT x.Kind x.Name x.Kids.length):=by cases x;rfl
theorem qC.shps_le{xs:List qC}(ih:∀y∈xs,y.shp.1<=y.shp.2.1/\y.shp.2.1<=y.nd):∀{d s d1 s1:Nat},d<=s->1<=s->qC.shps xs d s=some (d1,s1)->d1<=s1/\s1<=s+qP qC.nd xs:=by
 induction xs with
 | nil=>intro d s d1 s1 h1 h2 h;simp only[qC.shps,oSi,Prod.mk.injEq]at h;obtain⟨rfl,rfl⟩:=h;simp[qP];exact h1
 | cons x xs ihx=>
  intro d s d1 s1 h1 h2 h;have hx:=ih x (by simp);simp only[qC.shps]at h;split at h
  ·rename_i d' s' he;rw[he]at hx;simp only at hx;have:=ihx (fun y hy=>ih y (by simp[hy])) (by omega) (by omega) h;simp only[qP];omega
  ·cases h
theorem qC.shp_le:∀x:qC,x.shp.1<=x.shp.2.1/\x.shp.2.1<=x.nd:=qC.ind fun x ih=>by
 rw[qC.shp_eq,qC.nd_eq];split
 ·simp
 ·rename_i d s h;have:=qC.shps_le ih (nLr _) (nLr _) h;simp only;omega
def ja(x:qC):Bool:=x.shp.2.2&&(decide (x.shp.1<=6)&&decide (x.shp.2.1<=16))
theorem c331(x:qC):∀(hb:x.bd)(hn:x.nd<=1048576),Pure Gm 331 [x.enc] (.tup [.int .i64 (x.shp.1:Nat),.int .i64 (x.shp.2.1:Nat),.bool x.shp.2.2]):=by
 induction x using qC.ind with
 | _ x ih=>
 intro hb hn;refine pJ Vi ?_;simp only[Vi,qI,go_sem];refine zV qC.ln ?_;simp only[go_sem];rw[qC.nd_eq]at hn;rw[qC.bd_eq]at hb;obtain⟨b1,b2,b3⟩:=hb;have hs:=qC.shp_eq x;have e0:x.Kids.length<=1048576:=by
  have:∀xs:List qC,xs.length<=qP qC.nd xs:=fun xs=>by
   induction xs with
   | nil=>simp
   | cons y ys ihy=>have:=qC.nd_eq y;simp only[lCo,qP];omega
  have:=this x.Kids;omega
 refine Sem.loop (fun a:Nat×Nat×Nat=>a.1<=x.Kids.length/\a.2.1<=a.2.2/\1<=a.2.2/\a.2.2+qP qC.nd (x.Kids.drop a.1)<=1048576/\qC.shps x.Kids 1 1=qC.shps (x.Kids.drop a.1) a.2.1 a.2.2)
  (fun a=>(⟨[(2,.int .i64 (a.2.1:Nat)),(3,.int .i64 (a.2.2:Nat)),(4,.bool false),(11,.lst 3 (x.Kids.map qC.enc) false),(12,.int .i64 x.Kids.length),(13,.int .i64 (a.1:Nat))],[(1,x.enc)],[]⟩:VSt)) (fun a=>x.Kids.length-a.1) (0,1,1) (by kernel_rfl) ⟨nZl _,nLr _,nLr _,by simpa using hn,rfl⟩ (Can.sub (by simp[go_sem]) (by simp[go_sem])) ?_
 rintro⟨i,d,s⟩ ⟨hi,h1,h2,h3,hI⟩;simp only at hi h1 h2 h3 hI;simp only[go_sem];apply zd<;>intro hc<;>simp only[hc,go_sem]
 ·have hlt:i<x.Kids.length:=by have:=odT hc;omega
  simp only[gMp,gEg hlt,oMs,go_sem];refine qK rfl qC.ln (by exact⟨_,qC.enc_eq _⟩) (by decide) ?_;simp only[go_sem];have hm:=gMm hlt;have hd:x.Kids.drop i=x.Kids[i]::x.Kids.drop (i+1):=by simp
  rw[hd]at h3;simp only[qP]at h3;refine qG (ih _ hm (b3 _ hm) (by omega)) ?_;simp only[go_sem];have hle:=qC.shp_le x.Kids[i];cases hg:x.Kids[i].shp.2.2
  ·simp only[Bool.not_false];simp only[go_sem];refine zJ rfl ?_;have:qC.shps x.Kids 1 1=none:=by
    rw[hI,hd,qC.shps];split
    ·rename_i he;rw[he]at hg;cases hg
    ·rfl
   rw[hs,this];rfl
  ·simp only[Bool.not_true];simp only[go_sem];simp only[zF (n:=((x.Kids[i].shp.1:Nat):Int)+1) (by omega) (by omega),zF (n:=(s:Int)+((x.Kids[i].shp.2.1:Nat):Int)) (by omega) (by omega)];have em:max ((d:Nat):Int) (((x.Kids[i].shp.1:Nat):Int)+1)=((max d (x.Kids[i].shp.1+1):Nat):Int):=by omega
   have es:(s:Int)+((x.Kids[i].shp.2.1:Nat):Int)=((s+x.Kids[i].shp.2.1:Nat):Int):=by omega
   rw[em,es];simp only[zC (show i<4611686018427387904 by omega)];refine qf (i+1,max d (x.Kids[i].shp.1+1),s+x.Kids[i].shp.2.1) ⟨by simp only;omega,by simp only;omega,by simp only;omega,by simp only;omega, ?_⟩ (by simp only;omega) ?_
   ·simp only;rw[hI,hd,qC.shps];split
    ·rename_i he;rw[he]
    ·rename_i he;rw[he]at hg;cases hg
   ·exact Can.sub (by simp[go_sem]) (by simp[go_sem])
 ·obtain rfl:i=x.Kids.length:=by have:=odF hc;omega
  have hk:qC.shps x.Kids 1 1=some (d,s):=by rw[hI];simp[qC.shps]
  rw[hk]at hs;simp only at hs;rw[hs];clear hs hk;have ek:decide (((x.Kids.length:Nat):Int)=0)=decide (x.Kids.length=0):=by rw[decide_eq_decide];omega
  have ek2:decide (((x.Kids.length:Nat):Int)=2)=decide (x.Kids.length=2):=by rw[decide_eq_decide];omega
  have ek1:decide (((x.Kids.length:Nat):Int)=1)=decide (x.Kids.length=1):=by rw[decide_eq_decide];omega
  by_cases k1:x.Kind=1
  ·simp only[decide_eq_true k1,go_sem];by_cases q:x.Name=[]
   ·simp only[decide_eq_true q,go_sem];exact zJ rfl (by rw[ek];simp[okT,k1,q])
   ·simp only[decide_eq_false q,go_sem];exact zJ rfl (by simp[okT,k1,q])
  simp only[decide_eq_false k1,go_sem];by_cases k2:x.Kind=2
  ·simp only[decide_eq_true k2,go_sem];refine qG (jm (by omega)) ?_;simp only[go_sem];cases q:zT x.Name
   ·simp only[go_sem];exact zJ rfl (by simp[okT,k2,q])
   ·simp only[go_sem];by_cases q2:x.Name=[73,110,116]
    ·simp only[decide_eq_true q2,Bool.not_true,go_sem];exact zJ rfl (by simp[okT,k2,q2])
    ·simp only[decide_eq_false q2,Bool.not_false,go_sem];exact zJ rfl (by rw[ek];simp[okT,k2,q,q2])
  simp only[decide_eq_false k2,go_sem];by_cases k3:x.Kind=3
  ·simp only[decide_eq_true k3,go_sem];by_cases q:x.Name=[]
   ·simp only[decide_eq_true q,go_sem];exact zJ rfl (by rw[ek2];simp[okT,k3,q])
   ·simp only[decide_eq_false q,go_sem];exact zJ rfl (by simp[okT,k3,q])
  simp only[decide_eq_false k3,go_sem];by_cases k4:x.Kind=4
  ·simp only[decide_eq_true k4,go_sem];by_cases q:x.Name=[]
   ·simp only[decide_eq_true q,go_sem];exact zJ rfl (by rw[ek1];simp[okT,k4,q])
   ·simp only[decide_eq_false q,go_sem];exact zJ rfl (by simp[okT,k4,q])
  simp only[decide_eq_false k4,go_sem];exact zJ rfl (by simp[okT,k1,k2,k3,k4])
theorem c74{x:qC}(hb:x.bd)(hn:x.nd<=1048576):Pure Gm 74 [x.enc] (.bool (ja x)):=by
 refine pJ F74 ?_;simp only[F74,qI,go_sem];refine zV qC.ln ?_;simp only[go_sem];refine qG (c331 x hb hn) ?_;simp only[go_sem];have e1:decide (((x.shp.1:Nat):Int)<=6)=decide (x.shp.1<=6):=by rw[decide_eq_decide];omega
 have e2:decide (((x.shp.2.1:Nat):Int)<=16)=decide (x.shp.2.1<=16):=by rw[decide_eq_decide];omega
 cases h1:x.shp.2.2
 ·simp only[go_sem];exact qE rfl (by simp[ja,h1])
 ·simp only[go_sem,e1];by_cases h2:x.shp.1<=6
  ·simp only[decide_eq_true h2,go_sem,e2];exact qE rfl (by simp[ja,h1,h2])
  ·simp only[decide_eq_false h2,go_sem];exact qE rfl (by simp[ja,h1,h2])
end Go.Ab
namespace Go.Ab
open Go
set_option maxRecDepth 10000
set_option maxHeartbeats 2000000
theorem Fresh.ofS{Γ:Nat->Option AFn}{g:Nat}{as:List AV}{t:AV}(ht:AV.trees as=true)(hp:t.pl=true)(hs:SCall Γ g as [] fun v h'=>∃S,qq S h' v t):Fresh Γ g as t:=by
 unfold Fresh;refine⟨ht,hp,fun hr ar har=> ?_⟩;obtain⟨k,r,hr',ρ',v,h',hx,⟨S,own⟩,g1,g2,g3,_⟩:=hs ρ0 hr ar ⟨(fun i o h=>by simp at h),(fun i j a o o' h=>by cases h),(fun _ _=>rfl),(fun i a h=>by cases h)⟩ har;obtain⟨r1,r2⟩:=qSH own.d own.o g1;exact⟨k,r,hr',_,hx,r1,own.v.rel g2,g3.trans r2⟩
@[go_sem] theorem qe2{E:Ev}{l:List qA}{ks:List Fr1}{s m:qj}{h:List qB}{Q:qR->VSt->Prop}{t:Nat}{k k':IntKind}{a b:Int}:Lst E t 0 1 (some (.int k a)) (some (.int k' b)) l ks ⟨s,m,h⟩ Q=R E (.ops l::ks) ⟨s,(t,.int k' b)::m,h⟩ Q:=by
 unfold Lst;simp[AV.put,AV.cells]
@[go_sem] theorem qhB{E:Ev}{t:zr}{K:AV->List qB->Prop}{st:VSt}:X5 E t K .ret st=jw (q9 (jC st) t.res) st.h K:=rfl
@[go_sem] theorem qhA{E:Ev}{t:zr}{K:AV->List qB->Prop}{st:VSt}:X5 E t K .nrm st=((∀i∈t.cap,get st.l i≠none)/\get st.s t.d5=none/\R E [.code t.mid] st (JE fun st=>R E [.ops t.l7] st (X6 E t K))):=rfl
@[go_sem] theorem qhC{E:Ev}{t:zr}{K:AV->List qB->Prop}{st:VSt}:X6 E t K .nrm st=R E [.code t.r8] st (JE (Q7 E t K)):=rfl
@[go_sem] theorem qa8{E:Ev}{t:zr}{K:AV->List qB->Prop}{st:VSt}{v:AV}:X6 E t K (.pan v) st=Jw E t K v st:=rfl
theorem qa9{E:Ev}{t:zr}{K:AV->List qB->Prop}{st:VSt}(h:ev (toE st.s) t.x=some (.bool false))(hr:R E [.code t.tail] st (J8 t.res K)):Q7 E t K st:=by
 unfold Q7;rw[h];exact hr
theorem qbA{E:Ev}{t:zr}{K:AV->List qB->Prop}{st:VSt}(h:ev (toE st.s) t.x=some (.bool true))(hr:R E [.ops t.l9] st (kA (Jw E t K))):Q7 E t K st:=by
 unfold Q7;rw[h];exact hr
theorem qTL{E:Ev}{t:zr}{K:AV->List qB->Prop}{st:VSt}{T:Nat}{x:AV}(hT:T=t.T)(hl:x.leaf=true)(hr:R E [.code t.hnd] ⟨[(t.nh,x)],wS st.l 0 t.cap,st.h⟩ (JE fun s=>jw (q9 (jC s) t.resH) s.h K)):Jw E t K (.iface T x) st:=⟨hT,hl,hr⟩
@[go_sem] theorem qb0{l:qj}{n:Nat}:wS l n []=[]:=rfl
def qO1(v:Option AV)(n:Nat)(r:qj):qj:=match v with
 | some v=>(n,v)::r
 | none=>r
@[go_sem] theorem qbY{v:AV}{n:Nat}{r:qj}:qO1 (some v) n r=(n,v)::r:=rfl
@[go_sem] theorem qbZ{l:qj}{n c:Nat}{r:List Nat}:wS l n (c::r)=qO1 (get l c) n (wS l (n+1) r):=by
 rw[wS];cases get l c<;>rfl
theorem kU{t:Str}:∀(f:Nat){i:Nat}{acc l:List qJ},jZ t f i acc=.ok l->i<=t.length->acc.length<=i->(∀x∈acc,x.Text.length<=t.length)->l.length<=t.length/\∀x∈l,x.Text.length<=t.length
 | 0,i,acc,l,h,hi,ha,hx=>by simp only[jZ,Except.ok.injEq]at h;subst h;exact⟨by omega,hx⟩
 | f+1,i,acc,l,h,hi,ha,hx=>by
  simp only[jZ]at h;split at h
  ·rename_i hlt;obtain⟨t1,t2,t3⟩:=We hlt;split at h
   ·exact kU f h (by omega) (by omega) hx
   ·split at h
    ·cases h
    ·rename_i hk;have:=t3 hk;refine kU f h (by omega) (by simp;omega) fun x hm=> ?_;rcases jR.1 hm with hm | hm
     ·exact hx x hm
     ·simp only[lMg]at hm;subst hm;simp only[lLt,List.length_drop];omega
  ·simp only[Except.ok.injEq]at h;subst h;exact⟨by omega,hx⟩
theorem qTC{t:Str}:(qn t).1.length<=20000/\∀x∈(qn t).1,x.Text.length<=20000:=by
 unfold qn;split
 ·exact⟨by simp,fun x hx=>by simp at hx⟩
 ·rename_i hl;split
  ·exact⟨by simp,fun x hx=>by simp at hx⟩
  ·rename_i l h;obtain⟨h1,h2⟩:=kU _ h (nZl _) (nLr _) (fun x hx=>by simp at hx);exact⟨by simp only;omega,fun x hx=>by have:=h2 x hx;omega⟩
theorem kS{t:Str}:(qn t).1.length<=20000:=qTC.1
theorem qa5{t:Str}:∀x∈(qn t).1,x.Text.length<=20000:=qTC.2
theorem K8{toks:List qJ}(hx:∀x∈toks,x.Text.length<=20000):∀(f:Nat)(flag:Bool)(a:Nat){t:qC}{b:Nat},pT toks f flag a=.ok (t,b)->t.bd/\t.nd<=b-a:=by
 intro f
 induction f with
 | zero=>intro flag a t b h;simp[pT]at h
 | succ f ih=>
  intro flag a t b h;have hp:=jP _ _ _ h;cases flag with
  | true=>
   simp only[pT]at h;split at h
   ·split at h
    ·rename_i t1 b1 h2;obtain⟨i1,i2⟩:=ih _ _ h2;have:=jP _ _ _ h2;cases h;refine⟨by rw[qC.bd_eq];exact⟨by simp[QY,qC.Name],by simp[QY,qC.Kids],fun y hy=>by simp[QY,qC.Kids]at hy;subst hy;exact i1⟩, ?_⟩;rw[qC.nd_eq];simp only[QY,qC.Kids,qP];omega
    ·cases h
   ·split at h
    ·split at h
     ·rename_i t1 b1 h2;obtain⟨i1,i2⟩:=ih _ _ h2;have:=jP _ _ _ h2;split at h
      ·cases h;exact⟨i1,by omega⟩
      ·cases h
     ·cases h
    ·split at h
     ·rename_i tk h1;split at h
      ·cases h;split
       ·exact⟨by rw[qC.bd_eq];exact⟨by simp[Qg,qC.Name],by simp[Qg,qC.Kids],fun y hy=>by simp[Qg,qC.Kids]at hy⟩,by rw[qC.nd_eq];simp only[Qg,qC.Kids,qP];omega⟩
       ·exact⟨by rw[qC.bd_eq];exact⟨by have:=hx _ (lMo h1);simp only[Jg,qC.Name];omega,by simp[Jg,qC.Kids],fun y hy=>by simp[Jg,qC.Kids]at hy⟩,by rw[qC.nd_eq];simp only[Jg,qC.Kids,qP];omega⟩
      ·cases h
     ·cases h
  | false=>
   simp only[pT]at h;split at h
   ·rename_i t1 b1 h2;obtain⟨i1,i2⟩:=ih _ _ h2;have:=jP _ _ _ h2;split at h
    ·split at h
     ·rename_i u c h3;obtain⟨j1,j2⟩:=ih _ _ h3;have:=jP _ _ _ h3;cases h;refine⟨by rw[qC.bd_eq];exact⟨by simp[J9,qC.Name],by simp[J9,qC.Kids],fun y hy=>by simp[J9,qC.Kids]at hy;rcases hy with rfl | rfl;exact i1;exact j1⟩, ?_⟩;rw[qC.nd_eq];simp only[J9,qC.Kids,qP];omega
     ·cases h
    ·cases h;exact⟨i1,i2⟩
   ·cases h
theorem Xj{α:Type}{enc:α->AV}:∀{xs:List α},(∀x∈xs,(enc x).pl=true)->AV.pls (xs.map enc)=true
 |[],_=>rfl
 | x::xs,h=>by simp only[lMc,AV.pls,h x (by simp),Xj (xs:=xs) (fun y hy=>h y (by simp[hy])),Bool.and_self]
theorem W5{α:Type}{enc:α->AV}:∀{xs:List α},(∀x∈xs,(enc x).cn=true)->AV.cns (xs.map enc)=true
 |[],_=>rfl
 | x::xs,h=>by simp only[lMc,AV.cns,h x (by simp),W5 (xs:=xs) (fun y hy=>h y (by simp[hy])),Bool.and_self]
theorem qC.plx:∀x:qC,x.enc.pl=true:=qC.ind fun x ih=>by
 rw[qC.enc_eq];simp[AV.pl,AV.pls,Xj ih]
theorem qC.cnx:∀x:qC,x.enc.cn=true:=qC.ind fun x ih=>by
 rw[qC.enc_eq];simp[AV.cn,AV.cns,W5 ih]
end Go.Ab
namespace Go.Ab
open Go
set_option maxRecDepth 10000
set_option maxHeartbeats 2000000
theorem J1{n lo hi:Int}:Pure Gm 340 [.int .i64 n,.int .i64 lo,.int .i64 hi] (.bool (decide (lo<=n)&&decide (n<=hi))):=by
 refine pJ Vl ?_;simp only[Vl,qI,go_sem]
 first | (apply QA<;>intro hc<;>simp only[hc,go_sem]) | (apply zd<;>intro hc<;>simp only[hc,go_sem])
 ·exact qE rfl (by have hq:=odT hc;simp<;>omega)
 ·exact qE rfl (by have hq:=odF hc;simp<;>omega)
theorem W0{b:UInt8}:Pure Gm 1440 [.int .u8 (b.toNat:Nat)] (.bool (zu b || zy b)):=by
 refine pJ Y9 ?_;simp only[Y9,qI,go_sem];by_cases h1:97<=b.toNat
 ·have e1:decide ((97:Int)<=(b.toNat:Nat))=true:=decide_eq_true (by omega);simp only[ge_iff_le,e1,go_sem];by_cases h2:b.toNat<=122
  ·have e2:decide (((b.toNat:Nat):Int)<=122)=true:=decide_eq_true (by omega);simp only[e2,go_sem];exact qE rfl (by simp[zu,h1,h2])
  ·have e2:decide (((b.toNat:Nat):Int)<=122)=false:=decide_eq_false (by omega);have e3:decide ((65:Int)<=(b.toNat:Nat))=true:=decide_eq_true (by omega);have e4:decide (((b.toNat:Nat):Int)<=90)=false:=decide_eq_false (by omega);simp only[e2,e3,e4,go_sem];exact qE rfl (by simp[zu,zy,h2];omega)
 ·have e1:decide ((97:Int)<=(b.toNat:Nat))=false:=decide_eq_false (by omega);simp only[ge_iff_le,e1,go_sem];by_cases h2:65<=b.toNat
  ·have e2:decide ((65:Int)<=(b.toNat:Nat))=true:=decide_eq_true (by omega);simp only[e2,go_sem];exact qE rfl (by congr 1;rw[Bool.eq_iff_iff];simp[zu,zy];omega)
  ·have e2:decide ((65:Int)<=(b.toNat:Nat))=false:=decide_eq_false (by omega);simp only[e2,go_sem];exact qE rfl (by simp[zu,zy,h1,h2])
theorem Z1{b:UInt8}:Pure Gm 1442 [.int .u8 (b.toNat:Nat)] (.bool (zI b)):=by
 refine pJ VB ?_;simp only[VB,qI,go_sem]
 first | (apply QA<;>intro hc<;>simp only[hc,go_sem]) | (apply zd<;>intro hc<;>simp only[hc,go_sem])
 ·exact qE rfl (by first | (simp[zI]at hc|-;omega) | (simp only[dTe,decide_eq_false_iff_not]at hc;congr 1;rw[Bool.eq_iff_iff];simp[zI];omega))
 ·exact qE rfl (by first | (simp[zI]at hc|-;omega) | (simp only[dTe,decide_eq_false_iff_not]at hc;congr 1;rw[Bool.eq_iff_iff];simp[zI];omega))
theorem qOZ:Pure Gm 1513 [] (.lst 1 (kws.map qW) false):=by
 refine pJ VI ?_;simp only[VI,qI,go_sem];rw[show zA _ _ _ _=some (kws.map qW)from rfl];simp only[go_sem];exact KG (Cv.row rfl rfl rfl (by decide))
theorem qOX{v:Str}:Pure Gm 1441 [.str v] (.bool (za v)):=by
 refine pJ VA ?_;simp only[VA,qI,go_sem];have hk:za v=kws.any fun x=>v==x:=by simp only[za,List.contains_eq_any_beq]
 have h8:kws.length=8:=rfl;refine Sem.loop (fun i:Nat=>i<=kws.length/\(kws.any fun x=>v==x)=((kws.drop i).any fun x=>v==x)) (fun i=>(⟨[(0,.str v),(3,.int .i64 (i:Nat))],[],[]⟩:VSt)) (fun i=>kws.length-i) 0 (by kernel_rfl) ⟨nZl _,rfl⟩ (Can.sub (by simp[go_sem]) (by simp[go_sem])) ?_;rintro i ⟨hi,hI⟩;simp only[go_sem];refine qG qOZ ?_;simp only[go_sem];by_cases hlt:i<kws.length
 ·have e1:decide ((i:Int)<kws.length)=true:=decide_eq_true (by omega);simp only[e1,go_sem];refine qG qOZ ?_;simp only[go_sem];simp only[gMp,gEg hlt,oMs,shS.part,qW,go_sem];have hd:kws.drop i=kws[i]::kws.drop (i+1):=by simp
  rw[hd,List.any_cons]at hI;by_cases he:kws[i]=v
  ·simp only[decide_eq_true he,go_sem];refine qE rfl ?_;rw[hk,hI,he];simp
  ·simp only[decide_eq_false he,go_sem];simp only[zC (show i<4611686018427387904 by omega)];refine qf (i+1) ⟨by omega, ?_⟩ (by omega) (Can.sub (by simp[go_sem]) (by simp[go_sem]));rw[hI,show (v==kws[i])=false from by simpa using fun q=>he q.symm,Bool.false_or]
 ·have e1:decide ((i:Int)<kws.length)=false:=decide_eq_false (by omega);obtain rfl:i=kws.length:=by omega
  simp only[e1,go_sem];refine qE rfl ?_;rw[hk,hI];simp
theorem qOU{v:Str}(hl:v.length<=4611686018427387904):Pure Gm 1241 [.str v] (.bool (zp v)):=by
 refine pJ Yp ?_;simp only[Yp,qI,go_sem];by_cases h0:v.length<1
 ·have e0:decide ((v.length:Int)<1)=true:=decide_eq_true (by omega);simp only[e0,go_sem];exact qE rfl (by have:v=[]:=List.length_eq_zero_iff.1 (by omega);subst this;rfl)
 have e0:decide ((v.length:Int)<1)=false:=decide_eq_false (by omega);simp only[e0,go_sem];obtain⟨c,r,hv⟩:∃c r,v=c::r:=by cases v with
  | nil=>simp at h0
  | cons c r=>exact⟨c,r,rfl⟩
 by_cases h12:v.length<=12
 case neg=>
  have e1:decide ((v.length:Int)>12)=true:=decide_eq_true (by omega);simp only[gt_iff_lt]at e1;simp only[e1,go_sem];exact qE rfl (by subst hv;simp only[zp,decide_eq_false h12,Bool.false_and])
 have e1:decide ((v.length:Int)>12)=false:=decide_eq_false (by omega);simp only[gt_iff_lt]at e1;have eh:v[0]?=some c:=by rw[hv];rfl
 simp only[e1,go_sem,eh,oMs];refine qG W0 ?_;simp only[go_sem];cases hd:(zu c || zy c)
 case false=>
  simp only[Bool.not_false];simp only[go_sem];refine qE rfl ?_;subst hv;have:zp (c::r)=false:=by
   simp only[zp,lAc,qz];rw[Bool.or_eq_false_iff]at hd;simp only[hd.1,hd.2,Bool.false_or];cases zI c<;>simp
  rw[this]
 simp only[Bool.not_true];simp only[go_sem];have hdd:zI c=false:=by
  rw[Bool.or_eq_true]at hd;rcases hd with hd | hd<;>simp[zu,zy,zI]at hd|-<;>omega
 refine qG qOX ?_;simp only[go_sem];cases hk:za v
 case true=>
  simp only[go_sem];exact qE rfl (by subst hv;simp[zp,hk])
 simp only[go_sem];have hn:zp v=v.all qz:=by subst hv;simp only[zp,hdd,hk,decide_eq_true h12,Bool.not_false,Bool.true_and]
 refine Sem.loop (fun i:Nat=>i<=v.length/\v.all qz=(v.drop i).all qz) (fun i=>(⟨[(0,.str v),(3,.int .i64 (i:Nat))],[],[]⟩:VSt)) (fun i=>v.length-i) 0 (by kernel_rfl) ⟨nZl _,rfl⟩ (Can.sub (by simp[go_sem]) (by simp[go_sem])) ?_;rintro i ⟨hi,hI⟩;simp only[go_sem];apply zd<;>intro hc<;>simp only[hc,go_sem]
 ·have hlt:i<v.length:=by have:=odT hc;omega
  have hq:v.drop i=v[i]::v.drop (i+1):=by simp
  rw[hq,lAc]at hI;simp only[gEg hlt,oMs];simp only[go_sem];refine qG W0 ?_;simp only[go_sem];cases hw:(zu v[i] || zy v[i])
  ·simp only[Bool.not_false];simp only[go_sem];simp only[gEg hlt,oMs];simp only[go_sem];refine qG Z1 ?_;simp only[go_sem];have hw2:qz v[i]=zI v[i]:=by rw[Bool.or_eq_false_iff]at hw;simp[qz,hw.1,hw.2]
   cases hw3:zI v[i]
   ·simp only[Bool.not_false];simp only[go_sem];refine qE rfl ?_;rw[hn,hI,hw2,hw3,Bool.false_and]
   ·simp only[Bool.not_true];simp only[go_sem];simp only[zC (show i<4611686018427387904 by omega)];refine qf (i+1) ⟨by omega, ?_⟩ (by omega) (Can.sub (by simp[go_sem]) (by simp[go_sem]));rw[hI,hw2,hw3,Bool.true_and]
  ·simp only[Bool.not_true];simp only[go_sem];have hw2:qz v[i]=true:=by rw[Bool.or_eq_true]at hw;simp only[qz];rcases hw with hw | hw<;>simp[hw]
   simp only[zC (show i<4611686018427387904 by omega)];refine qf (i+1) ⟨by omega, ?_⟩ (by omega) (Can.sub (by simp[go_sem]) (by simp[go_sem]));rw[hI,hw2,Bool.true_and]
 ·obtain rfl:i=v.length:=by have:=odF hc;omega
  refine qE rfl ?_;rw[hn,hI];simp
theorem qQD{c:UInt8}{r:Str}(h:zp (c::r)=true):zu c=true\/zy c=true:=by
 simp only[zp,lAc,qz,bAt,Bool.or_eq_true,bNt]at h;obtain⟨_,h1,_,h2,_⟩:=h;rcases h2 with h2 | h2 | h2
 ·exact .inl h2
 ·exact .inr h2
 ·rw[h1]at h2;cases h2
theorem Je{v:Str}(hl:v.length<=4611686018427387904):Pure Gm 921 [.str v] (.bool (zT v)):=by
 refine pJ UV ?_;simp only[UV,qI,go_sem];refine qG (qOU hl) ?_;simp only[go_sem];cases hn:zp v
 ·simp only[go_sem];exact qE rfl (by simp[zT,hn])
 ·cases v with
  | nil=>cases hn
  | cons c r=>
  have hh:=qQD hn;simp only[List.getElem?_cons_zero,oMs,go_sem];exact qE rfl (by simp only[zT,hn,List.headD_cons,Bool.true_and];congr 1;rw[Bool.eq_iff_iff];simp[zu,zy]at hh|-;omega)
theorem Qb{v:Str}(hl:v.length<=4611686018427387904):Pure Gm 1237 [.str v] (.bool (zY v)):=by
 refine pJ Yn ?_;simp only[Yn,qI,go_sem];refine qG (qOU hl) ?_;simp only[go_sem];cases hn:zp v
 ·simp only[go_sem];exact qE rfl (by simp[zY,hn])
 ·cases v with
  | nil=>cases hn
  | cons c r=>
  have hh:=qQD hn;simp only[List.getElem?_cons_zero,oMs,go_sem];exact qE rfl (by simp only[zY,hn,List.headD_cons,Bool.true_and];congr 1;rw[Bool.eq_iff_iff];simp[zu,zy]at hh|-;omega)
theorem qUW{b:UInt8}:Pure Gm 1393 [.int .u8 (b.toNat:Nat)] (.bool (decide (0<=Lib.indexByte ZG (b.toNat:Nat).toUInt8))):=by
 refine pJ Y0 ?_;simp only[Y0,qI,go_sem];have hb:(b.toNat:Nat).toUInt8=b:=by simp
 rw[hb];by_cases h1:b=32
 ·subst h1;have e1:decide ((((32:UInt8).toNat:Nat):Int)=32)=true:=rfl;simp only[e1,go_sem];exact qE rfl rfl
 by_cases h2:b=10
 ·subst h2;have e1:decide ((((10:UInt8).toNat:Nat):Int)=32)=false:=rfl;have e2:decide ((((10:UInt8).toNat:Nat):Int)=10)=true:=rfl;simp only[e1,e2,go_sem];exact qE rfl rfl
 by_cases h3:b=9
 ·subst h3;have e1:decide ((((9:UInt8).toNat:Nat):Int)=32)=false:=rfl;have e2:decide ((((9:UInt8).toNat:Nat):Int)=10)=false:=rfl;have e3:decide ((((9:UInt8).toNat:Nat):Int)=9)=true:=rfl;simp only[e1,e2,e3,go_sem];exact qE rfl rfl
 have hne:∀c:UInt8,¬b=c->decide (((b.toNat:Nat):Int)=(c.toNat:Nat))=false:=fun c hc=>decide_eq_false fun q=>hc (UInt8.toNat_inj.1 (by omega));have e1:decide (((b.toNat:Nat):Int)=32)=false:=hne 32 h1;have e2:decide (((b.toNat:Nat):Int)=10)=false:=hne 10 h2;have e3:decide (((b.toNat:Nat):Int)=9)=false:=hne 9 h3;simp only[e1,e2,e3,go_sem];exact qE rfl (by simp[Lib.indexByte,ZG,Ne.symm h1,Ne.symm h2,Ne.symm h3])
theorem qU3{t:Str}{i:Nat}(hi:i<=t.length)(hl:t.length<=20000):Pure Gm 1496 [.str t,.int .i64 (i:Nat)] (.int .i64 ((i+(qg t i).length:Nat):Int)):=by
 refine pJ VD ?_;simp only[VD,qI,go_sem];refine Sem.loop (fun k:Nat=>k<=(qg t i).length) (fun k=>(⟨[(0,.str t),(1,.int .i64 ((i+k:Nat):Int))],[],[]⟩:VSt)) (fun k=>(qg t i).length-k) 0 (by kernel_rfl) (nZl _) (Can.sub (by simp[go_sem]) (by simp[go_sem])) ?_;intro k hk;have ws:=ka hk;simp only[go_sem];by_cases hlt:i+k<t.length
 case neg=>
  have e:decide (((i+k:Nat):Int)<t.length)=false:=decide_eq_false (by omega);simp only[e,go_sem];have:k=(qg t i).length:=by have:=YA (t:=t) (i:=i) hi;omega
  exact qE rfl (by rw[this])
 have e:decide (((i+k:Nat):Int)<t.length)=true:=decide_eq_true (by omega);simp only[e,gEg hlt,oMs,go_sem];refine qG W0 ?_;simp only[go_sem];have go:qz t[i+k]=true->k<(qg t i).length:=fun q=>ws.1 ⟨_,gEg hlt,q⟩;have no:qz t[i+k]=false->k=(qg t i).length:=fun q=>by
  have:¬k<(qg t i).length:=fun q2=>by
   obtain⟨c,e1,e2⟩:=ws.2 q2;rw[gEg hlt]at e1;cases e1;rw[q]at e2;cases e2
  omega
 cases hw:(zu t[i+k] || zy t[i+k])
 ·simp only[gEg hlt,oMs,go_sem];refine qG Z1 ?_;simp only[go_sem];have hw2:qz t[i+k]=zI t[i+k]:=by rw[Bool.or_eq_false_iff]at hw;simp[qz,hw.1,hw.2]
  cases hw3:zI t[i+k]
  ·simp only[go_sem];exact qE rfl (by rw[<-no (by rw[hw2,hw3])])
  ·simp only[go_sem];have h1:=go (by rw[hw2,hw3]);simp only[zC (show i+k<4611686018427387904 by omega)];exact qf (k+1) h1 (by omega) (Can.sub (by simp[go_sem,Nat.add_assoc]) (by simp[go_sem]))
 ·simp only[go_sem];have h1:=go (by rw[Bool.or_eq_true]at hw;simp only[qz];rcases hw with hw | hw<;>simp[hw]);simp only[zC (show i+k<4611686018427387904 by omega)];exact qf (k+1) h1 (by omega) (Can.sub (by simp[go_sem,Nat.add_assoc]) (by simp[go_sem]))
end Go.Ab
namespace Go.Ab
open Go
def jW(a:Nat)(s:Str):Nat:=s.foldl (fun a c=>10*a+(c.toNat-48)) a
def qX(s:Str):Nat:=jW 0 s
def zk(s:Str):Bool:=decide (s.length<=10)&&(!(decide (1<s.length)&&decide (s.headD 0=48))&&(s.all zI&&decide (qX s<=2147483648)))
theorem wX{a:Nat}:jW a []=a:=by unfold jW;rw[List.foldl_nil]
theorem JF{a:Nat}{c:UInt8}{s:Str}:jW a (c::s)=jW (10*a+(c.toNat-48)) s:=by unfold jW;rw[List.foldl_cons]
theorem Xb{s r:Str}{a:Nat}:jW a (s++r)=jW (jW a s) r:=List.foldl_append ..
theorem qRG{s:Str}:∀{a:Nat},a<=jW a s:=by
 induction s with
 | nil=>intro a;exact nLr _
 | cons c s ih=>intro a;rw[JF];exact nLt (by omega) ih
theorem JT{c:UInt8}:zI c=true↔48<=c.toNat/\c.toNat<=57:=by simp[zI]
theorem qRH:∀{s:Str}{a k:Nat},s.all zI=true->a<10^k->jW a s<10^(k+s.length)
 |[],a,k,_,h=>by rw[wX];exact h
 | c::s,a,k,hd,h=>by
  simp only[lAc,bAt]at hd;rw[JF,show k+(c::s).length=(k+1)+s.length by simp;omega];have:=JT.1 hd.1;exact qRH hd.2 (by rw[Nat.pow_succ];omega)
theorem qRJ{s:Str}(hd:s.all zI=true):qX s<10^s.length:=by
 have:=qRH (k:=0) (a:=0) hd (by decide);rwa[nZa]at this
theorem kC{M:Nat}(hM:M=2^64-1):∀{s:Str}{a:Nat},s.all zI=true->jW a s<=9000000000000000000->Lib.parseUintM M a s=.ok (jW a s)
 |[],a,_,_=>by rw[wX];rfl
 | c::s,a,hd,h=>by
  simp only[lAc,bAt]at hd;have h1:=JT.1 hd.1;rw[JF]at h|-;have h2:=qRG (s:=s) (a:=10*a+(c.toNat-48));rw[Lib.parseUintM,if_pos h1,if_neg (by omega),if_neg (by subst hM;omega),show a*10+(c.toNat-48)=10*a+(c.toNat-48) by omega];exact kC hM hd.2 h
theorem qR2{s:Str}(hn:s≠[])(hd:s.all zI=true)(h:qX s<=9000000000000000000):Lib.parseIntB 64 s=.ok (qX s:Int):=by
 cases s with
 | nil=>exact absurd rfl hn
 | cons c r=>
  have h1:=JT.1 (by simp only[lAc,bAt]at hd;exact hd.1);unfold Lib.parseIntB;simp only;rw[if_neg (by omega),Lib.parseUintB,if_neg (by simp),kC rfl hd h];simp only;rw[if_neg (by intro q;have:=q.2;change qX (c::r)<=_ at h;unfold qX at h;omega),if_neg (by omega),if_neg (by omega)];rfl
theorem Z6{u:Nat}(h:u<10):Lib.decDigits u=[UInt8.ofNat (48+u)]:=by rw[Lib.decDigits,dif_pos h]
theorem W8{u:Nat}(h:¬u<10):Lib.decDigits u=Lib.decDigits (u/10)++[UInt8.ofNat (48+u%10)]:=by rw[Lib.decDigits,dif_neg h]
theorem ofN{d:Nat}(h:d<10):(UInt8.ofNat (48+d)).toNat=48+d:=by
 rw[UInt8.toNat_ofNat'];omega
theorem qPH:∀u:Nat,(Lib.decDigits u).all zI=true/\qX (Lib.decDigits u)=u/\Lib.decDigits u≠[]/\(1<(Lib.decDigits u).length->(Lib.decDigits u).headD 0≠48)/\(0<u->(Lib.decDigits u).headD 0≠48):=by
 intro u
 induction u using Nat.strongRecOn with
 | _ u ih=>
 by_cases h:u<10
 ·rw[Z6 h];have hu:=ofN h;refine⟨by simp only[lAc,List.all_nil,Bool.and_true];rw[JT,hu];omega,by simp only[qX,JF,wX,hu];omega,by simp,by simp,fun h0 q=> ?_⟩;simp only[List.headD_cons]at q;rw[q]at hu;have:(48:UInt8).toNat=48:=rfl;omega
 ·rw[W8 h];obtain⟨i1,i2,i3,i4,i5⟩:=ih (u/10) (by omega);have hu:=ofN (d:=u%10) (by omega);obtain⟨c,r,e⟩:∃c r,Lib.decDigits (u/10)=c::r:=by
   cases hq:Lib.decDigits (u/10)with
   | nil=>exact absurd hq i3
   | cons c r=>exact⟨c,r,rfl⟩
  have h5:=i5 (by omega);refine⟨?_, ?_,by simp,fun _=> ?_,fun _=> ?_⟩
  ·rw[List.all_append,i1];simp only[lAc,List.all_nil,Bool.and_true,Bool.true_and];rw[JT,hu];omega
  ·unfold qX at i2|-;rw[Xb,i2,JF,wX,hu];omega
  ·rw[e]at h5|-;exact h5
  ·rw[e]at h5|-;exact h5
theorem qPI:∀(n:Nat){s:Str},s.length=n->s≠[]->s.all zI=true->(1<s.length->s.headD 0≠48)->Lib.decDigits (qX s)=s:=by
 intro n
 induction n using Nat.strongRecOn with
 | _ n ih=>
 intro s hl hn hd h0;obtain⟨l,c,rfl⟩:∃l c,s=l++[c]:=⟨s.dropLast,s.getLast hn,(List.dropLast_concat_getLast hn).symm⟩;rw[List.all_append,bAt]at hd;have hc:=JT.1 (by simpa using hd.2);have e:qX (l++[c])=10*qX l+(c.toNat-48):=by unfold qX;rw[Xb,JF,wX]
 have ec:UInt8.ofNat (48+(c.toNat-48))=c:=by
  apply UInt8.toNat_inj.1;rw[ofN (by omega)];omega
 rw[e];cases l with
 | nil=>
  simp only[qX,wX,lNa];rw[Z6 (by omega),show 48+(10*0+(c.toNat-48))=48+(c.toNat-48) by omega,ec]
 | cons x r=>
  have hx:=h0 (by simp);simp only[lCa,List.headD_cons]at hx;have hxd:=JT.1 (by have:=hd.1;simp only[lAc,bAt]at this;exact this.1);have hpos:1<=qX (x::r):=by
   unfold qX;rw[JF];refine nLt ?_ (qRG (s:=r));have:x.toNat≠48:=fun q=>hx (UInt8.toNat_inj.1 q);omega
  have hi:=ih (x::r).length (by rw[<-hl];simp) rfl (by simp) hd.1 (fun _=>by simpa using hx);rw[W8 (by omega),show (10*qX (x::r)+(c.toNat-48))/10=qX (x::r) by omega,hi,show (10*qX (x::r)+(c.toNat-48))%10=c.toNat-48 by omega,ec]
theorem qVV{u:Nat}(h:u<=2147483648):(Lib.decDigits u).length<=10:=by
 rcases Nat.lt_or_ge 10 (Lib.decDigits u).length with q | q
 ·exfalso;obtain⟨h1,h2,h3,h4,_⟩:=qPH u;obtain⟨c,r,e⟩:∃c r,Lib.decDigits u=c::r:=by
   cases hq:Lib.decDigits u with
   | nil=>exact absurd hq h3
   | cons c r=>exact⟨c,r,rfl⟩
  have h5:=h4 (by omega);rw[e]at h1 h2 h5 q;simp only[List.headD_cons]at h5;have hd:=h1;simp only[lAc,bAt]at hd;have hxd:=JT.1 hd.1;have:c.toNat≠48:=fun q=>h5 (UInt8.toNat_inj.1 q);have low:∀(s:Str)(a:Nat),a*10^s.length<=jW a s:=fun s=>by
   induction s with
   | nil=>intro a;simp[wX]
   | cons y s ihs=>
    intro a;rw[JF];refine nLt ?_ (ihs _);rw[lCo,Nat.pow_succ,Nat.mul_comm (10^s.length) 10,<-Nat.mul_assoc];exact Nat.mul_le_mul_right _ (by omega)
  have hb:=low r (10*0+(c.toNat-48));have hb2:10^10<=10^r.length:=Nat.pow_le_pow_right (by decide) (by simp at q;omega);have hb3:1*10^r.length<=(10*0+(c.toNat-48))*10^r.length:=Nat.mul_le_mul_right _ (by omega);have e2:qX (c::r)=jW (10*0+(c.toNat-48)) r:=by unfold qX;rw[JF]
  rw[e2]at h2;have:(10:Nat)^10=10000000000:=by decide
  omega
 ·exact q
theorem qY3{s:Str}(hn:s≠[]):zk s=(decide (s=wh) || Jq s):=by
 rw[Bool.eq_iff_iff];constructor
 ·intro h;simp only[zk,bAt,dTe,bNt,Bool.and_eq_false_iff,decide_eq_false_iff_not]at h;obtain⟨h1,h2,h3,h4⟩:=h;have hu:=qPI _ rfl hn h3 (fun q=>by rcases h2 with h2 | h2;exact absurd q h2;exact h2);by_cases e:qX s=2147483648
  ·rw[e]at hu;have:Lib.decDigits 2147483648=wh:=by
    repeat rw[W8 (by decide)]
    rw[Z6 (by decide)];rfl
   rw[this]at hu;simp[<-hu]
  ·have hp:=qR2 hn h3 (by omega);have hi:Lib.itoa (qX s:Int)=s:=by
    unfold Lib.itoa;rw[if_neg (by omega),Int.toNat_natCast];exact hu
   have hr:jq s=some (qX s:Int):=by
    unfold jq;rw[hp];simp only;rw[if_pos ⟨⟨by omega,by omega⟩,hi⟩]
   simp[Jq,hr]
 ·intro h;have key:∀u:Nat,u<=2147483648->zk (Lib.decDigits u)=true:=fun u hu=>by
   obtain⟨d1,d2,d3,d4,_⟩:=qPH u;have d5:=qVV hu;simp only[zk,bAt,dTe,bNt,Bool.and_eq_false_iff,decide_eq_false_iff_not];refine⟨d5, ?_,d1,by omega⟩;by_cases q:1<(Lib.decDigits u).length
   ·exact .inr (d4 q)
   ·exact .inl q
  rw[Bool.or_eq_true]at h;rcases h with h | h
  ·have e:=odT h;subst e;decide
  ·unfold Jq at h;split at h
   ·rename_i n hr;have h0:=odT h;unfold jq at hr;split at hr
    ·split at hr
     ·rename_i hq;cases hr;obtain⟨⟨q1,q2⟩,q3⟩:=hq;unfold Lib.itoa at q3;rw[if_neg (by omega)]at q3;rw[<-q3];exact key _ (by omega)
     ·cases hr
    ·cases hr
   ·cases h
end Go.Ab
namespace Go.Ab
open Go
set_option maxRecDepth 10000
set_option maxHeartbeats 2000000
theorem qP4:∀{l:Str}{c:UInt8},decide (0<=Lib.indexByte l c)=l.any fun x=>x==c
 |[],c=>by simp[Lib.indexByte]
 | b::l,c=>by
  have ih:=qP4 (l:=l) (c:=c);have hg:=Lib.indexByte_ge l c;unfold Lib.indexByte;rw[List.any_cons,<-ih];by_cases h:(b==c)=true
  ·rw[if_pos h,h];simp
  ·rw[if_neg h];have h':(b==c)=false:=by simpa using h
   rw[h',Bool.false_or];split
   ·rename_i q;have q':Lib.indexByte l c= -1:=by simpa using q
    simp[q']
   ·rename_i q;have q':Lib.indexByte l c≠-1:=by simpa using q
    rw[decide_eq_decide];omega
theorem qY4{s:Str}(h:zk s=true):s.all zI=true:=by
 simp only[zk,bAt]at h;exact h.2.2.1
theorem qQE{s:Str}(h:zp s=true):zk s=false:=by
 cases s with
 | nil=>cases h
 | cons c r=>
  rw[<-Bool.not_eq_true];intro q;have:=qY4 q;simp only[lAc,bAt]at this;simp only[zp,bAt,bNt]at h;rw[h.2.1]at this;cases this.1
theorem qXK{s:Str}(h:za s=true):zY s=false/\zT s=false/\zk s=false:=by
 have hn:zp s=false:=by
  cases s with
  | nil=>rfl
  | cons c r=>simp only[zp,h,Bool.not_true,Bool.false_and,Bool.and_false]
 refine⟨by simp[zY,hn],by simp[zT,hn], ?_⟩;have:s∈kws:=by simpa[za]using h
 simp only[kws,List.mem_cons,List.not_mem_nil,or_false]at this;rcases this with rfl | rfl | rfl | rfl | rfl | rfl | rfl | rfl<;>decide
theorem qXM{s:Str}(h:zY s=true):zT s=false/\zk s=false:=by
 simp only[zY,bAt]at h;refine⟨?_,qQE h.1⟩;simp only[zT,Bool.and_eq_false_iff];right;have:=h.2;simp[zu]at this;simp[zy];omega
theorem qXQ{s:Str}(h:zT s=true):zk s=false:=by
 simp only[zT,bAt]at h;exact qQE h.1
def wG(t:Str)(i:Nat):qJ:=if (zE t i).1=0 then(if 0<(qg t i).length then⟨0,qg t i,i⟩else⟨0,[],0⟩)else jI t i
theorem W2{s:Str}(hs:s≠[])(hl:s.length<=20000):Pure Gm 1497 [.str s] (.bool (zk s)):=by
 refine pJ VE ?_;simp only[VE,qI,go_sem];obtain⟨c,r,hv⟩:∃c r,s=c::r:=by cases s with
  | nil=>exact absurd rfl hs
  | cons c r=>exact⟨c,r,rfl⟩
 have eh:s[0]?=some c:=by rw[hv];rfl
 have ehd:s.headD 0=c:=by rw[hv];rfl
 have h1:1<=s.length:=by rw[hv];simp
 by_cases h10:s.length<=10
 case neg=>
  have e0:decide ((10:Int)<(s.length:Nat))=true:=decide_eq_true (by omega);simp only[e0,go_sem];exact qE rfl (by simp[zk,h10])
 have e0:decide ((10:Int)<(s.length:Nat))=false:=decide_eq_false (by omega);simp only[e0,go_sem];have hz:(!(decide (1<s.length)&&decide (s.headD 0=48)))=true\/(1<s.length/\c=48):=by
  rw[ehd];by_cases q1:1<s.length
  ·by_cases q2:c=48
   ·exact .inr ⟨q1,q2⟩
   ·left;simp[q2]
  ·left;simp[q1]
 have fin0:(1<s.length/\c=48)->zk s=false:=fun q=>by
  rw[zk,ehd,decide_eq_true q.1,decide_eq_true q.2];simp
 by_cases q1:1<s.length
 case' pos=>
  have e1:decide ((1:Int)<(s.length:Nat))=true:=decide_eq_true (by omega);simp only[e1,eh,oMs,go_sem];by_cases q2:c=48
  case pos=>
   have e2:decide (((c.toNat:Nat):Int)=48)=true:=by subst q2;rfl
   simp only[e2,go_sem];exact qE rfl (by rw[fin0 ⟨q1,q2⟩])
  case' neg=>
   have e2:decide (((c.toNat:Nat):Int)=48)=false:=decide_eq_false fun q=>q2 (UInt8.toNat_inj.1 (by have:(48:UInt8).toNat=48:=rfl;omega));simp only[e2,go_sem]
 case' neg=>
  have e1:decide ((1:Int)<(s.length:Nat))=false:=decide_eq_false (by omega);simp only[e1,go_sem]
 all_goals
  have hz':(!(decide (1<s.length)&&decide (s.headD 0=48)))=true:=by
   rcases hz with q | q
   ·exact q
   ·first | exact absurd q.1 q1 | exact absurd q.2 q2
  have hn:zk s=(s.all zI&&decide (qX s<=2147483648)):=by rw[zk,decide_eq_true h10,hz',Bool.true_and,Bool.true_and]
  refine Sem.loop (fun i:Nat=>i<=s.length/\(s.take i).all zI=true) (fun i=>(⟨[(0,.str s),(3,.int .i64 (qX (s.take i):Nat)),(4,.int .i64 (i:Nat))],[],[]⟩:VSt)) (fun i=>s.length-i) 0 (by kernel_rfl) ⟨nZl _,by simp⟩ (Can.sub (by simp[go_sem,qX,wX]) (by simp[go_sem])) ?_;rintro i ⟨hi,hI⟩;simp only[go_sem];by_cases hlt:i<s.length
  ·have e1:decide ((i:Int)<(s.length:Nat))=true:=decide_eq_true (by omega);simp only[e1,gEg hlt,oMs,go_sem];refine qG Z1 ?_;simp only[go_sem];have et:s.take (i+1)=s.take i++[s[i]]:=by rw[List.take_add_one,gEg hlt];rfl
   cases hd:zI s[i]
   ·simp only[Bool.not_false,go_sem];refine qE rfl ?_;have:s.all zI=false:=by
     rw[<-Bool.not_eq_true];intro q;rw[lAt]at q;rw[q _ (gMm hlt)]at hd;cases hd
    rw[hn,this,Bool.false_and]
   ·simp only[Bool.not_true,gEg hlt,oMs,go_sem];have hb:=JT.1 hd;have hv:=qRJ hI;have hp:10^(s.take i).length<=10^10:=Nat.pow_le_pow_right (by decide) (by simp;omega);have h10':(10:Nat)^10=10000000000:=by decide
    have w1:IntKind.u8.wrap (((s[i].toNat:Nat):Int)-48)=((s[i].toNat-48:Nat):Int):=by rw[IntWalk.u8_in _ ⟨by omega,by omega⟩];omega
    simp only[w1,zF (n:=((s[i].toNat-48:Nat):Int)) (by omega) (by omega),zF (n:=10*((qX (s.take i):Nat):Int)) (by omega) (by omega),zF (n:=10*((qX (s.take i):Nat):Int)+((s[i].toNat-48:Nat):Int)) (by omega) (by omega),zC (show i<4611686018427387904 by omega)];have en:qX (s.take (i+1))=10*qX (s.take i)+(s[i].toNat-48):=by rw[et];unfold qX;rw[Xb,JF,wX]
    have ee:10*((qX (s.take i):Nat):Int)+((s[i].toNat-48:Nat):Int)=((qX (s.take (i+1)):Nat):Int):=by rw[en];omega
    rw[ee];refine qf (i+1) ⟨by omega,by rw[et,List.all_append,hI];simp[hd]⟩ (by omega) ?_;exact Can.sub (by simp[go_sem]) (by simp[go_sem])
  ·have e1:decide ((i:Int)<(s.length:Nat))=false:=decide_eq_false (by omega);obtain rfl:i=s.length:=by omega
   simp only[e1,go_sem];rw[lTl]at hI|-;refine qE rfl ?_;rw[hn,hI,Bool.true_and];congr 1;rw[decide_eq_decide];omega
theorem qU4{b:UInt8}:Pure Gm 1498 [.int .u8 (b.toNat:Nat)] (.bool (decide (0<=Lib.indexByte zo b))):=by
 refine pJ VF ?_;simp only[VF,qI,go_sem];have hk:decide (0<=Lib.indexByte zo b)=zo.any fun x=>x==b:=qP4;have h8:zo.length=19:=rfl;have es:([43,45,42,47,60,61,40,41,91,93,123,125,44,59,58,46,124,33,92]:Str)=zo:=rfl;rw[es];refine Sem.loop (fun i:Nat=>i<=zo.length/\(zo.any fun x=>x==b)=((zo.drop i).any fun x=>x==b)) (fun i=>(⟨[(0,.int .u8 (b.toNat:Nat)),(3,.str zo),(4,.int .i64 (i:Nat))],[],[]⟩:VSt)) (fun i=>zo.length-i) 0 (by kernel_rfl) ⟨nZl _,rfl⟩ (Can.sub (by simp[go_sem]) (by simp[go_sem])) ?_;rintro i ⟨hi,hI⟩;simp only[go_sem];by_cases hlt:i<zo.length
 ·have e1:decide ((i:Int)<(zo.length:Nat))=true:=decide_eq_true (by omega);simp only[e1,gEg hlt,oMs,go_sem];have hd:zo.drop i=zo[i]::zo.drop (i+1):=by simp
  rw[hd,List.any_cons]at hI;by_cases he:zo[i]=b
  ·have e2:decide (((zo[i].toNat:Nat):Int)=(b.toNat:Nat))=true:=decide_eq_true (by rw[he]);simp only[e2,go_sem];refine qE rfl ?_;rw[hk,hI,he];simp
  ·have e2:decide (((zo[i].toNat:Nat):Int)=(b.toNat:Nat))=false:=decide_eq_false fun q=>he (UInt8.toNat_inj.1 (by omega));simp only[e2,go_sem];simp only[zC (show i<4611686018427387904 by omega)];refine qf (i+1) ⟨by omega, ?_⟩ (by omega) (Can.sub (by simp[go_sem]) (by simp[go_sem]));rw[hI,show (zo[i]==b)=false from by simpa using he,Bool.false_or]
 ·have e1:decide ((i:Int)<(zo.length:Nat))=false:=decide_eq_false (by omega);obtain rfl:i=zo.length:=by omega
  simp only[e1,go_sem];refine qE rfl ?_;rw[hk,hI];simp
end Go.Ab
namespace Go.Ab
open Go
set_option maxRecDepth 10000
set_option maxHeartbeats 2000000
theorem qbI{t:Str}{i:Nat}(hi:i<t.length):qz t[i]=decide (0<(qg t i).length):=by
 have:=ka (t:=t) (i:=i) (k:=0) (nZl _);rw[nAz]at this;rw[Bool.eq_iff_iff,dTe,<-this];constructor
 ·intro q;exact⟨_,gEg hi,q⟩
 ·rintro⟨c,e1,e2⟩;rw[gEg hi]at e1;cases e1;exact e2
theorem X1{t:Str}{i:Nat}(h:0<(qg t i).length):zE t i=if za (qg t i)then(3,i+(qg t i).length)else if zY (qg t i)then(1,i+(qg t i).length)else if zT (qg t i)then(2,i+(qg t i).length)else if zk (qg t i)then(4,i+(qg t i).length)else(0,i):=by
 rw[qY3 (fun q=>by rw[q]at h;simp at h)];unfold zE;rw[if_pos h]
theorem kT{t:Str}{i:Nat}(h:0<(qg t i).length):wG t i=⟨(zE t i).1,qg t i,i⟩:=by
 unfold wG jI;rw[if_pos h];have e:=X1 h;split
 ·rename_i q;rw[q]
 ·rename_i q;have:(zE t i).2=i+(qg t i).length:=by
   rw[e]at q|-
   repeat' split
   all_goals first | rfl | (simp_all;done)
  rw[this,Nat.add_sub_cancel_left,kb]
theorem qa2{t:Str}{i:Nat}(hi:i<t.length)(h:¬0<(qg t i).length):zE t i=if pfx [45,62] (t.drop i)then(5,i+2)else if 0<=Lib.indexByte zo t[i]then(5,i+1)else(0,i):=by
 have eg:t.getD i 0=t[i]:=by simp[List.getD,gEg hi]
 unfold zE;rw[if_neg h,eg];simp
theorem qZI{t:Str}{i:Nat}(hi:i<t.length):pfx [45,62] (t.drop i)=(decide (t[i]=45)&&(match t[i+1]? with | some c=>decide (c=62) | none=>false)):=by
 have e:t.drop i=t[i]::t.drop (i+1):=by simp
 unfold pfx;rw[e];by_cases h1:i+1<t.length
 ·have e1:t.drop (i+1)=t[i+1]::t.drop (i+2):=by simp
  rw[e1,gEg h1];generalize t.drop (i+2)=r;simp
 ·have e1:t.drop (i+1)=[]:=List.drop_eq_nil_of_le (by omega);rw[e1,gEn (by omega)];simp
theorem qUX{t:Str}{i:Nat}(hi:i<t.length)(hl:t.length<=20000):Pure Gm 1394 [.str t,.int .i64 (i:Nat)] ((wG t i).enc):=by
 refine pI Y1 (by simp[AV.trees,AV.tree,go_sem]) (by simp[go_sem]) ?_;simp only[Y1,qI,go_sem];have wl:=YA (t:=t) (i:=i) (by omega);have wp:=qbI hi;simp only[gEg hi,oMs,go_sem];refine qG W0 ?_;simp only[go_sem];have hw:qz t[i]=((zu t[i] || zy t[i]) || zI t[i]):=by simp[qz,Bool.or_assoc]
 by_cases hp:0<(qg t i).length
 ·rw[decide_eq_true hp]at wp;rw[wp]at hw;have er:=kT hp;have ee:=X1 hp;have hne:qg t i≠[]:=fun q=>by rw[q]at hp;simp at hp
  cases hq:(zu t[i] || zy t[i])
  case' false=>
   rw[hq,Bool.false_or]at hw;simp only[go_sem];refine qG Z1 ?_;simp only[go_sem];simp only[<-hw,go_sem]
  case' true=>
   simp only[go_sem]
  all_goals
   refine qG (qU3 (by omega) hl) ?_;simp only[go_sem];refine JH (Wb rfl rfl rfl (by omega) (by omega)) ?_;rw[Nat.add_sub_cancel_left,kb];simp only[go_sem];refine qK rfl rfl ⟨_,rfl⟩ (by decide) ?_;simp only[go_sem];refine qG qOX ?_;simp only[go_sem];cases k1:za (qg t i)
   case' true=>
    obtain⟨f1,f2,f3⟩:=qXK k1;simp only[go_sem];refine qG (Qb (by omega)) ?_;simp only[f1,go_sem];refine qG (Je (by omega)) ?_;simp only[f2,go_sem];refine qG (W2 hne (by omega)) ?_;simp only[f3,go_sem];refine qK rfl rfl ⟨_,rfl⟩ (by decide) ?_;simp only[go_sem];exact qE rfl (by rw[er,ee,k1];rfl)
   case' false=>
    simp only[go_sem];refine qG (Qb (by omega)) ?_;simp only[go_sem];cases k2:zY (qg t i)
    case' true=>
     obtain⟨f2,f3⟩:=qXM k2;simp only[go_sem];refine qG (Je (by omega)) ?_;simp only[f2,go_sem];refine qG (W2 hne (by omega)) ?_;simp only[f3,go_sem];refine qK rfl rfl ⟨_,rfl⟩ (by decide) ?_;simp only[go_sem];exact qE rfl (by rw[er,ee,k1,k2];rfl)
    case' false=>
     simp only[go_sem];refine qG (Je (by omega)) ?_;simp only[go_sem];cases k3:zT (qg t i)
     case' true=>
      have f3:=qXQ k3;simp only[go_sem];refine qG (W2 hne (by omega)) ?_;simp only[f3,go_sem];refine qK rfl rfl ⟨_,rfl⟩ (by decide) ?_;simp only[go_sem];exact qE rfl (by rw[er,ee,k1,k2,k3];rfl)
     case' false=>
      simp only[go_sem];refine qG (W2 hne (by omega)) ?_;simp only[go_sem];cases k4:zk (qg t i)
      case' true=>
       simp only[go_sem];refine qK rfl rfl ⟨_,rfl⟩ (by decide) ?_;simp only[go_sem];exact qE rfl (by rw[er,ee,k1,k2,k3,k4];rfl)
      case' false=>
       simp only[go_sem];refine qK rfl rfl ⟨_,rfl⟩ (by decide) ?_;simp only[go_sem];exact qE rfl (by rw[er,ee,k1,k2,k3,k4];rfl)
 ·rw[decide_eq_false hp]at wp;rw[wp]at hw;have hw1:(zu t[i] || zy t[i])=false/\zI t[i]=false:=by rw[<-Bool.or_eq_false_iff];exact hw.symm
  simp only[hw1.1,go_sem];refine qG Z1 ?_;simp only[go_sem];simp only[hw1.2,go_sem];have ee:=qa2 hi hp;have p2:=qZI hi;have e3:((i:Nat):Int)+1=((i+1:Nat):Int):=by omega
  have hcc:(t[i]=45/\∃h:i+1<t.length,t[i+1]=62)\/(t[i]=45/\∃h:i+1<t.length,¬t[i+1]=62)\/(t[i]=45/\¬i+1<t.length)\/¬t[i]=45:=by
   by_cases q1:t[i]=45
   ·by_cases q2:i+1<t.length
    ·by_cases q3:t[i+1]=62
     ·exact .inl ⟨q1,q2,q3⟩
     ·exact .inr (.inl ⟨q1,q2,q3⟩)
    ·exact .inr (.inr (.inl ⟨q1,q2⟩))
   ·exact .inr (.inr (.inr q1))
  have n45:t[i]=45->decide (((t[i].toNat:Nat):Int)=45)=true:=fun q=>by rw[q];rfl
  rcases hcc with⟨q1,q2,q3⟩ | ⟨q1,q2,q3⟩ | ⟨q1,q2⟩ | q1
  case inl=>
   have e2:decide ((i:Int)+1<(t.length:Nat))=true:=decide_eq_true (by omega);simp only[n45 q1,go_sem,zF (n:=(i:Int)+1) (by omega) (by omega)];simp only[e2,go_sem,zF (n:=(i:Int)+1) (by omega) (by omega)];simp only[e3,gEg q2,oMs,go_sem];have e4:decide (((t[i+1].toNat:Nat):Int)=62)=true:=by rw[q3];rfl
   simp only[e4,go_sem];refine qK rfl rfl ⟨_,rfl⟩ (by decide) ?_;simp only[go_sem];have hpf:pfx [45,62] (t.drop i)=true:=by rw[p2,gEg q2];simp[q1,q3]
   rw[hpf,if_pos rfl]at ee;have et:(t.drop i).take 2=[45,62]:=by
    unfold pfx at hpf;simp only[bAt,dTe]at hpf;exact hpf.2
   refine qE rfl ?_;unfold wG jI;rw[ee,if_neg (by simp)];simp only[Nat.add_sub_cancel_left,et];rfl
  case' inr.inl=>
   have e2:decide ((i:Int)+1<(t.length:Nat))=true:=decide_eq_true (by omega);simp only[n45 q1,go_sem,zF (n:=(i:Int)+1) (by omega) (by omega)];simp only[e2,go_sem,zF (n:=(i:Int)+1) (by omega) (by omega)];simp only[e3,gEg q2,oMs,go_sem];have e4:decide (((t[i+1].toNat:Nat):Int)=62)=false:=decide_eq_false fun q=>q3 (UInt8.toNat_inj.1 (by have:(62:UInt8).toNat=62:=rfl;omega));simp only[e4,go_sem];have hpf:pfx [45,62] (t.drop i)=false:=by rw[p2,gEg q2];simp[q3]
  case' inr.inr.inl=>
   have e2:decide ((i:Int)+1<(t.length:Nat))=false:=decide_eq_false (by omega);simp only[n45 q1,go_sem,zF (n:=(i:Int)+1) (by omega) (by omega)];simp only[e2,go_sem];have hpf:pfx [45,62] (t.drop i)=false:=by rw[p2,gEn (by omega)];simp
  case' inr.inr.inr=>
   have e1:decide (((t[i].toNat:Nat):Int)=45)=false:=decide_eq_false fun q=>q1 (UInt8.toNat_inj.1 (by have:(45:UInt8).toNat=45:=rfl;omega));simp only[e1,go_sem];have hpf:pfx [45,62] (t.drop i)=false:=by rw[p2];simp[q1]
  all_goals
   rw[hpf,if_neg (by decide)]at ee;refine qG qU4 ?_;simp only[go_sem];by_cases q5:0<=Lib.indexByte zo t[i]
   ·rw[if_pos q5]at ee;simp only[decide_eq_true q5,go_sem,zF (n:=(i:Int)+1) (by omega) (by omega)];refine JH (Wb (e:=i+1) rfl rfl (by simp only[go_sem];rfl) (by omega) (by omega)) ?_;simp only[go_sem];refine qK rfl rfl ⟨_,rfl⟩ (by decide) ?_;simp only[go_sem];refine qE rfl ?_;unfold wG jI;rw[ee,if_neg (by simp)];rfl
   ·rw[if_neg q5]at ee;simp only[decide_eq_false q5,go_sem];refine qK rfl rfl ⟨_,rfl⟩ (by decide) ?_;simp only[go_sem];refine qE rfl ?_;unfold wG;rw[ee,if_pos rfl,if_neg hp];rfl
theorem qa6{t:Str}{i:Nat}:(wG t i).Kind=(zE t i).1:=by
 unfold wG;split
 ·rename_i h;split<;>exact h.symm
 ·rfl
def Wf(t:Str):List qJ×Int×Bool:=match Ja t with
 |.error i=>([],i,false)
 |.ok l=>(l,0,true)
theorem qUM{t:Str}(hl:t.length<=20000):Pure Gm 1107 [.str t] (.tup [.lst 3 ((Wf t).1.map qJ.enc) false,.int .i64 (Wf t).2.1,.bool (Wf t).2.2]):=by
 refine pI YW (by simp[AV.trees,AV.tree,go_sem]) (by simp[AV.tree,AV.trees,zM qJ.isSh.tree]) ?_;simp only[YW,qI,go_sem];have er:Wf t=match Ja t with
  |.error i=>([],i,false)
  |.ok l=>(l,0,true):=rfl
 refine Sem.loop (fun a:Nat×List qJ=>a.1<=t.length/\a.2.length<=a.1/\Ja t=QT t a.1 a.2) (fun a=>(⟨[(0,.str t),(5,.slice 3 0 0 a.2.length false),(6,.int .i64 (a.1:Nat))],[],[.row 3 (a.2.map qJ.enc) true]⟩:VSt)) (fun a=>t.length-a.1) (0,[]) (by kernel_rfl) ⟨nZl _,nZl _,rfl⟩ (Can.renum [none] rfl ⟨.ph,trivial⟩ ⟨⟨_,rfl,.tree rfl⟩,⟨_,rfl,.ph2 rfl⟩,⟨_,rfl,.tree rfl⟩,trivial⟩ trivial) ?_;rintro⟨i,acc⟩ ⟨hi,ha,hI⟩;simp only at hi ha hI;simp only[go_sem];by_cases hlt:i<t.length
 case neg=>
  have e:decide ((i:Int)<t.length)=false:=decide_eq_false (by omega);simp only[e,go_sem];rw[hI,qTE hlt]at er;rw[er];refine JA (Cvs.tup (Cvs.cons (Cv.row rfl (by simp) (zM qJ.isSh.tree _) (by decide)) (Cvs.cons (.refl rfl) (Cvs.cons (.refl rfl) Cvs.nil))))
 have e:decide ((i:Int)<t.length)=true:=decide_eq_true (by omega);simp only[e,gEg hlt,oMs,go_sem];refine qG qUW ?_;simp only[go_sem];rw[qTF hlt]at hI;have eg:t.getD i 0=t[i]:=by simp[List.getD,gEg hlt]
 rw[eg]at hI;by_cases hb:0<=Lib.indexByte ZG t[i].toNat.toUInt8
 ·simp only[decide_eq_true hb,go_sem];simp only[zC (show i<4611686018427387904 by omega)];rw[if_pos hb]at hI;exact qf (i+1,acc) ⟨by simp only;omega,by simp only;omega,hI⟩ (by simp only;omega) (Can.sub (by simp[go_sem]) (by simp[go_sem]))
 simp only[decide_eq_false hb,go_sem];rw[if_neg hb]at hI;refine qG (qUX hlt (by omega)) ?_;simp only[go_sem];refine qK rfl rfl ⟨_,rfl⟩ (by decide) ?_;simp only[go_sem];obtain⟨t1,t2,t3⟩:=We hlt;have tk:=qa6 (t:=t) (i:=i);by_cases hk:(zE t i).1=0
 ·rw[hk]at tk;simp only[decide_eq_true tk,go_sem];rw[if_pos hk]at hI;rw[hI]at er;rw[er];refine JA (Cvs.tup (Cvs.cons .nils (Cvs.cons (.refl rfl) (Cvs.cons (.refl rfl) Cvs.nil))))
 have t4:=t3 hk;rw[if_neg hk]at hI;have hk':¬(wG t i).Kind=0:=by rw[tk];exact hk
 simp only[decide_eq_false hk',go_sem];have ets:wG t i=jI t i:=by unfold wG;rw[if_neg hk]
 rw[ets];refine zG (v:=(jI t i).enc) rfl rfl ?_;simp only[go_sem];refine Zy (el:=acc.map qJ.enc) rfl rfl (by simp) (by omega) ?_;simp only[go_sem];have elen:(jI t i).Text.length=(zE t i).2-i:=by simp only[jI,lLt,List.length_drop];omega
 simp only[elen,zF (n:=(i:Int)+(((zE t i).2-i:Nat):Int)) (by omega) (by omega)];have ee:(i:Int)+(((zE t i).2-i:Nat):Int)=(((zE t i).2:Nat):Int):=by omega
 rw[ee];refine qf ((zE t i).2,acc++[jI t i]) ⟨by simp only;omega,by simp only[lAp,lCo,lNi];omega,hI⟩ (by simp only;omega) ?_;simp only[lAp,lCo,lNi,nZa];refine Can.renum [some 2] rfl ⟨.row rfl ?_,trivial⟩ ⟨⟨_,rfl,.tree rfl⟩,⟨_,rfl,.slice rfl⟩,⟨_,rfl,.tree rfl⟩,trivial⟩ trivial;rw[lMa];have tt:=zM qJ.isSh.tree (acc++[jI t i]);rw[lMa]at tt;exact VR2s.trees tt
theorem c735{t:Str}:Pure Gm 735 [.str t] (.tup [.lst 3 ((qn t).1.map qJ.enc) false,.int .i64 (qn t).2.1,.int .i64 (qn t).2.2]):=by
 refine pI UC (by simp[AV.trees,AV.tree,go_sem]) (by simp[AV.tree,AV.trees,zM qJ.isSh.tree]) ?_;simp only[UC,qI,go_sem];by_cases hl:20000<t.length
 ·have e:decide ((20000:Int)<t.length)=true:=decide_eq_true (by omega);simp only[e,go_sem];have er:qn t=([],0,2):=by rw[qn,if_pos hl]
  rw[er];exact JA (Cvs.tup (Cvs.cons .nils (Cvs.cons (.refl rfl) (Cvs.cons (.refl rfl) Cvs.nil))))
 have e:decide ((20000:Int)<t.length)=false:=decide_eq_false (by omega);simp only[e,go_sem];refine qG (qUM (by omega)) ?_;simp only[go_sem];have er:qn t=match Ja t with
  |.error i=>([],i,6)
  |.ok l=>(l,0,0):=by unfold qn;rw[if_neg hl]<;>(cases Ja t<;>rfl)
 have eq:Wf t=match Ja t with
  |.error i=>([],i,false)
  |.ok l=>(l,0,true):=rfl
 cases ho:Ja t with
 | error i=>
  rw[ho]at er eq;simp only[eq,Bool.not_false,go_sem];rw[er];exact JA (Cvs.tup (Cvs.cons .nils (Cvs.cons (.refl rfl) (Cvs.cons (.refl rfl) Cvs.nil))))
 | ok l=>
  rw[ho]at er eq;simp only[eq,Bool.not_true,go_sem];rw[er];exact zJ (by simp[AV.tree,AV.trees,zM qJ.isSh.tree]) rfl
end Go.Ab
namespace Go.Ab
open Go
set_option maxRecDepth 10000
set_option maxHeartbeats 2000000
def prS(toks:List qJ)(a:Nat)(bad:Bool):qB:=.row 3 [.agg [.lst 3 (toks.map qJ.enc) false,.int .i64 (a:Nat),.bool bad]] true
def isS(toks:List qJ)(a:Nat)(bad:Bool)(s:Str):Bool:= !bad&&(match toks[a]? with
 | some t=>decide (t.Text=s)
 | none=>false)
def kdS(toks:List qJ)(a:Nat)(bad:Bool)(k:Int):Bool:= !bad&&(match toks[a]? with
 | some t=>decide (t.Kind=k)
 | none=>false)
def Jc(x:qJ):Prop:=x.Kind≠5->x.Kind≠3->x.Text.all qz=true/\za x.Text=false
theorem Jk{toks:List qJ}{a:Nat}{s:Str}(hw:∀x∈toks,Jc x)(hs:s.all qz=false\/za s=true):isS toks a false s=isP toks a s:=by
 unfold isS isP;cases h:toks[a]? with
 | none=>rfl
 | some t=>
  simp only[Bool.not_false,Bool.true_and];by_cases h1:t.Text=s
  ·rw[decide_eq_true h1,Bool.true_and];by_cases h5:t.Kind=5
   ·simp[h5]
   ·by_cases h3:t.Kind=3
    ·simp[h3]
    ·exfalso;obtain⟨q1,q2⟩:=hw t (lMo h) h5 h3;rw[h1]at q1 q2;rcases hs with hs | hs
     ·rw[q1]at hs;cases hs
     ·rw[q2]at hs;cases hs
  ·rw[decide_eq_false h1,Bool.false_and]
theorem qXP{toks:List qJ}{a:Nat}{b:Bool}{s:Str}(q:isS toks a b s=true):a<toks.length/\b=false:=by
 unfold isS at q;rw[bAt]at q;refine⟨?_,by simpa using q.1⟩;rcases Nat.lt_or_ge a toks.length with h1 | h1
 ·exact h1
 ·rw[gEn h1]at q;cases q.2
theorem QC{toks:List qJ}{a:Nat}{b:Bool}{k:Int}(q:kdS toks a b k=true):∃h:a<toks.length,b=false/\toks[a].Kind=k:=by
 unfold kdS at q;rw[bAt]at q;rcases Nat.lt_or_ge a toks.length with h1 | h1
 ·rw[gEg h1]at q;exact⟨h1,by simpa using q.1,by simpa using q.2⟩
 ·rw[gEn h1]at q;cases q.2
section
variable {h:List qB} {id a:Nat} {toks:List qJ} {bad:Bool}
theorem WK{s:Str}(ho:h[id]?=some (prS toks a bad)):SCall Gm 1108 [.ptr id 0 0,.str s] h fun v h'=>v=.bool (isS toks a bad s)/\h'=h:=by
 refine sI YX ?_;unfold prS at ho;simp only[YX,qI,go_sem,ho,oMs,lMp];cases bad
 ·simp only[Bool.not_false,go_sem,ho];by_cases hlt:a<toks.length
  ·have e1:decide ((a:Int)<toks.length)=true:=decide_eq_true (by omega);simp only[e1,go_sem,ho,gMp,gEg hlt,oMs];exact⟨by simp[isS,gEg hlt],trivial⟩
  ·have e1:decide ((a:Int)<toks.length)=false:=decide_eq_false (by omega);simp only[e1,go_sem];exact⟨by simp[isS,gEn (show toks.length<=a by omega)],trivial⟩
 ·simp only[Bool.not_true,go_sem];exact⟨by simp[isS],trivial⟩
theorem Qp{k:Int}(ho:h[id]?=some (prS toks a bad)):SCall Gm 1185 [.ptr id 0 0,.int .i64 k] h fun v h'=>v=.bool (kdS toks a bad k)/\h'=h:=by
 refine sI Ya ?_;unfold prS at ho;simp only[Ya,qI,go_sem,ho,oMs,lMp];cases bad
 ·simp only[Bool.not_false,go_sem,ho];by_cases hlt:a<toks.length
  ·have e1:decide ((a:Int)<toks.length)=true:=decide_eq_true (by omega);simp only[e1,go_sem,ho,gMp,gEg hlt,oMs];exact⟨by simp[kdS,gEg hlt],trivial⟩
  ·have e1:decide ((a:Int)<toks.length)=false:=decide_eq_false (by omega);simp only[e1,go_sem];exact⟨by simp[kdS,gEn (show toks.length<=a by omega)],trivial⟩
 ·simp only[Bool.not_true,go_sem];exact⟨by simp[kdS],trivial⟩
theorem QJ{s:Str}(ho:h[id]?=some (prS toks a bad))(hl:toks.length<=1048576):SCall Gm 737 [.ptr id 0 0,.str s] h fun v h'=>v=.bool (isS toks a bad s)/\h'=if isS toks a bad s then h.set id (prS toks (a+1) bad)else h:=by
 refine sI UD ?_;simp only[UD,qI,go_sem];refine qZ rfl (WK ho) ?_;simp only[go_sem];cases hi:isS toks a bad s
 ·simp only[Bool.not_false,go_sem];exact⟨trivial,by simp⟩
 ·obtain⟨hlt,rfl⟩:=qXP hi;have ho':=ho;unfold prS at ho';simp only[Bool.not_true,go_sem,ho',oMs];simp only[zC (show a<4611686018427387904 by omega)];refine jK rfl ho' rfl rfl ?_;simp only[go_sem];exact⟨trivial,rfl⟩
theorem n872{s:Str}(ho:h[id]?=some (prS toks a bad))(hl:toks.length<=1048576):SCall Gm 872 [.ptr id 0 0,.str s] h fun _ h'=>h'=if isS toks a bad s then h.set id (prS toks (a+1) bad)else h.set id (prS toks a true):=by
 refine sI UH ?_;simp only[UH,qI,go_sem];refine qZ rfl (QJ ho hl) ?_;simp only[go_sem];cases hi:isS toks a bad s
 ·simp only[Bool.not_false,bFt,if_false,go_sem];have ho':=ho;unfold prS at ho';refine jK rfl ho' rfl rfl ?_;simp only[go_sem];rfl
 ·simp only[Bool.not_true,if_true,go_sem]
theorem Kv{k:Int}(ho:h[id]?=some (prS toks a bad))(hl:toks.length<=1048576):SCall Gm 871 [.ptr id 0 0,.int .i64 k] h fun v h'=>if kdS toks a bad k then v=.str ((toks[a]?).getD ⟨0,[],0⟩).Text/\h'=h.set id (prS toks (a+1) bad)else v=.str []/\h'=h.set id (prS toks a true):=by
 refine sI UG ?_;simp only[UG,qI,go_sem];refine qZ rfl (Qp ho) ?_;simp only[go_sem];have ho':=ho;unfold prS at ho';have hid:id<h.length:=(gSi.1 ho).1;cases hi:kdS toks a bad k
 ·simp only[Bool.not_false,bFt,if_false,go_sem];refine jK rfl ho' rfl rfl ?_;simp only[go_sem];exact⟨trivial,rfl⟩
 ·obtain⟨hlt,rfl,hk⟩:=QC hi;simp only[Bool.not_true,if_true,go_sem,ho',oMs];simp only[zC (show a<4611686018427387904 by omega)];refine jK (e':=.agg [.lst 3 (toks.map qJ.enc) false,.int .i64 ((a+1:Nat):Int),.bool false]) rfl ho' rfl rfl ?_;rw[lSz];generalize hg:h.set id _=G;have hG:G[id]?=some (.row 3 [.agg [.lst 3 (toks.map qJ.enc) false,.int .i64 ((a+1:Nat):Int),.bool false]] true):=by rw[<-hg];exact gSs hid
  have e1:((a+1:Nat):Int)-1=((a:Nat):Int):=by omega
  simp only[go_sem,hG,zF (n:=((a+1:Nat):Int)-1) (by omega) (by omega)];simp only[e1,gMp,gEg hlt,oMs,go_sem];exact⟨by simp,by rw[<-hg];rfl⟩
end
section
variable {h:List qB} {a0 a1 a2 b0 b1 b2:AV} {s:Str}
theorem n328:SCall Gm 328 [] h fun v h'=>v=.agg [.int .i64 1,.str [],.nils]/\h'=h:=by
 refine sI Vg ?_;simp only[Vg,qI,go_sem];refine qK rfl rfl ⟨_,rfl⟩ (by decide) ?_;simp only[go_sem];exact⟨trivial,trivial⟩
theorem Kt:SCall Gm 329 [.str s] h fun v h'=>v=.agg [.int .i64 2,.str s,.nils]/\h'=h:=by
 refine sI Vh ?_;simp only[Vh,qI,go_sem];refine qK rfl rfl ⟨_,rfl⟩ (by decide) ?_;simp only[go_sem];exact⟨trivial,trivial⟩
theorem n326:SCall Gm 326 [.agg [a0,a1,a2]] h fun v h'=>v=.agg [.int .i64 4,.str [],.slice 3 h.length 0 1 false]/\h'=h++[.row 3 [.agg [a0,a1,a2]] true]:=by
 refine sI Ve ?_;simp only[Ve,qI,go_sem];refine zV rfl ?_;simp only[go_sem];refine zG (v:=.agg [a0,a1,a2]) rfl rfl ?_;simp only[go_sem];refine qK rfl rfl ⟨_,rfl⟩ (by decide) ?_;simp only[go_sem];exact⟨trivial,trivial⟩
theorem n327:SCall Gm 327 [.agg [a0,a1,a2],.agg [b0,b1,b2]] h fun v h'=>v=.agg [.int .i64 3,.str [],.slice 3 h.length 0 2 false]/\h'=h++[.row 3 [.agg [a0,a1,a2],.agg [b0,b1,b2]] true]:=by
 refine sI Vf ?_;simp only[Vf,qI,go_sem];refine zV rfl ?_;simp only[go_sem];refine zV rfl ?_;simp only[go_sem];rw[show zA _ 3 _ _=some [.agg [a0,a1,a2],.agg [b0,b1,b2]]from rfl];simp only[go_sem];refine qK rfl rfl ⟨_,rfl⟩ (by decide) ?_;simp only[go_sem];exact⟨trivial,trivial⟩
end
def Zt(r:Except Nat (qC×Nat))(t:qC)(b:Nat)(bad:Bool):Prop:=match r with
 |.ok (t',b')=>t=t'/\b=b'/\bad=false
 |.error b'=>b=b'/\bad=true
theorem WD{toks:List qJ}{a:Nat}{s:Str}:isS toks a true s=false:=rfl
theorem qXR{toks:List qJ}{a:Nat}{k:Int}:kdS toks a true k=false:=rfl
section
variable {id:Nat} {toks:List qJ}
theorem qZ6(hl:toks.length<=1048576)(hw:∀x∈toks,Jc x):∀(f:Nat)(flag:Bool)(a:Nat)(h:List qB),zj toks flag a<=f->a<=toks.length->h[id]?=some (prS toks a false)->
  SCall Gm (if flag then 736 else 359) [.ptr id 0 0] h (fun v h'=>∃t b bad S,Zt (pT toks f flag a) t b bad/\PS h id (prS toks b bad) h'/\qq S h' v t.enc/\Bh h.length S h'):=by
 intro f
 induction f with
 | zero=>intro flag a h hf;exfalso;unfold zj at hf;cases flag<;>simp at hf
 | succ f ih=>
 intro flag a h hf ha ho;have hid:id<h.length:=(gSi.1 ho).1;cases flag with
 | true=>
  refine sI Zr ?_;simp only[Zr,qI,go_sem];refine qZ rfl (QJ ho hl) ?_;rw[Jk hw (.inl rfl)];simp only[go_sem];cases hb:isP toks a [33]
  case true=>
   have hlt:=qV hb;simp only[if_true,go_sem];refine qN ((ih true (a+1) (h.set id (prS toks (a+1) false)) (by unfold zj at hf|-;simp at hf|-;omega) (by omega) (by rw[gSs hid])).mono ?_);rintro v h1 ⟨t,b,bad,S,q1,q2,q3,q4⟩;obtain⟨x0,x1,x2,rfl⟩:=QN q3;simp only[go_sem];refine qZ rfl n326 ?_;simp only[go_sem];refine qK rfl rfl ⟨_,rfl⟩ (by decide) ?_;simp only[go_sem];rw[lLs]at q4;obtain⟨r1,r2⟩:=qRZ q3 q4 (by have:=q2.len;rw[lLs]at this;exact this);refine⟨QY t,b,bad,_, ?_,((PS.set ho).trans q2).push,WR r1,r2⟩;simp only[pT,hb,if_true];generalize pT toks f true (a+1)=r at q1
   match r,q1 with
   |.ok (t',b'),⟨e1,e2,e3⟩=>exact⟨by rw[e1],e2,e3⟩
   |.error b',⟨e1,e2⟩=>exact⟨e1,e2⟩
  simp only[bFt,if_false,go_sem];refine qZ rfl (QJ ho hl) ?_;rw[Jk hw (.inl rfl)];simp only[go_sem];cases hc:isP toks a [40]
  case true=>
   have hlt:=qV hc;simp only[if_true,go_sem];refine qN ((ih false (a+1) (h.set id (prS toks (a+1) false)) (by unfold zj at hf|-;simp at hf|-;omega) (by omega) (by rw[gSs hid])).mono ?_);rintro v h1 ⟨t,b,bad,S,q1,q2,q3,q4⟩;obtain⟨x0,x1,x2,rfl⟩:=QN q3;simp only[go_sem];refine qK rfl rfl ⟨_,rfl⟩ (by decide) ?_;simp only[go_sem];refine qN ((n872 q2.at' hl).mono ?_);rintro v2 h2 rfl;simp only[go_sem];refine qK rfl rfl ⟨_,rfl⟩ (by decide) ?_;simp only[go_sem];rw[lLs]at q4;have hr:pT toks (f+1) true a=(match pT toks f false (a+1)with
    |.ok (t,b)=>if isP toks b [41]then .ok (t,b+1)else .error b
    |.error b=>.error b):=by simp only[pT,hb,hc,bFt,if_false,if_true]<;>(cases pT toks f false (a+1)<;>rfl)
   rw[hr];generalize pT toks f false (a+1)=r at q1
   match r,q1 with
   |.ok (t',b'),⟨e1,e2,e3⟩=>
    subst e1 e2 e3;rw[Jk hw (.inl rfl)];cases e1:isP toks b [41]
    ·simp only[bFt,if_false];obtain⟨r1,r2⟩:=q3.ps q4 hid (PS.set q2.at' (o:=prS toks b true));exact⟨t,b,true,S,by simp[Zt,e1],((PS.set ho).trans q2).trans (PS.set q2.at'),r1,r2⟩
    ·simp only[if_true];obtain⟨r1,r2⟩:=q3.ps q4 hid (PS.set q2.at' (o:=prS toks (b+1) false));exact⟨t,b+1,false,S,by simp[Zt,e1],((PS.set ho).trans q2).trans (PS.set q2.at'),r1,r2⟩
   |.error b',⟨e1,e2⟩=>
    subst e1 e2;rw[WD];simp only[bFt,if_false];obtain⟨r1,r2⟩:=q3.ps q4 hid (PS.set q2.at' (o:=prS toks b true));exact⟨t,b,true,S,⟨rfl,rfl⟩,((PS.set ho).trans q2).trans (PS.set q2.at'),r1,r2⟩
  simp only[bFt,if_false,go_sem];refine qN ((Kv ho hl).mono ?_);rintro v h1 hv;cases hk:kdS toks a false 2
  ·rw[hk]at hv;obtain⟨rfl,rfl⟩:=hv;have en:decide (([]:Str)=[73,110,116])=false:=rfl;simp only[go_sem,en];refine qZ rfl Kt ?_;simp only[go_sem];refine qK rfl rfl ⟨_,rfl⟩ (by decide) ?_;simp only[go_sem];refine⟨Jg [],a,true,[none], ?_,PS.set ho,Zc,fun j hj=>by simp at hj⟩;simp only[pT,hb,hc,bFt,if_false];unfold kdS at hk;cases ht:toks[a]? with
   | none=>exact⟨rfl,rfl⟩
   | some t=>
    rw[ht]at hk;simp only[Bool.not_false,Bool.true_and,decide_eq_false_iff_not]at hk;simp only[if_neg hk];exact⟨rfl,rfl⟩
  ·rw[hk]at hv;obtain⟨rfl,rfl⟩:=hv;obtain⟨hlt,_,hk2⟩:=QC hk;simp only[gEg hlt,Option.getD_some,go_sem];by_cases hn:toks[a].Text=[73,110,116]
   ·simp only[decide_eq_true hn,go_sem];refine qZ rfl n328 ?_;simp only[go_sem];refine qK rfl rfl ⟨_,rfl⟩ (by decide) ?_;simp only[go_sem];exact⟨Qg,a+1,false,[none],by simp[Zt,pT,hb,hc,gEg hlt,hk2,hn],PS.set ho,Zc,fun j hj=>by simp at hj⟩
   ·simp only[decide_eq_false hn,go_sem];refine qZ rfl Kt ?_;simp only[go_sem];refine qK rfl rfl ⟨_,rfl⟩ (by decide) ?_;simp only[go_sem];exact⟨Jg toks[a].Text,a+1,false,[none],by simp[Zt,pT,hb,hc,gEg hlt,hk2,hn],PS.set ho,Zc,fun j hj=>by simp at hj⟩
 | false=>
  refine sI Zq ?_;simp only[Zq,qI,go_sem];refine qN ((ih true a h (by unfold zj at hf|-;simp at hf|-;omega) ha ho).mono ?_);rintro v h1 ⟨t,b,bad,S,q1,q2,q3,q4⟩;obtain⟨x0,x1,x2,rfl⟩:=QN q3;simp only[go_sem];refine qK rfl rfl ⟨_,rfl⟩ (by decide) ?_;simp only[go_sem];refine qZ rfl (QJ q2.at' hl) ?_;have hr:pT toks (f+1) false a=(match pT toks f true a with
   |.ok (t,b)=>if isP toks b [45,62]then(match pT toks f false (b+1)with
     |.ok (u,c)=>.ok (J9 t u,c)
     |.error c=>.error c)
    else .ok (t,b)
   |.error b=>.error b):=by
    simp only[pT]<;>(cases pT toks f true a<;>first | rfl | (rename_i p;cases pT toks f false (p.2+1)<;>rfl))
  rw[hr];have hpr:=fun t b=>jP (toks:=toks) f true a (t:=t) (b:=b);generalize pT toks f true a=r at q1 hpr
  match r,q1,hpr with
  |.error b',⟨e1,e2⟩,_=>
   subst e1 e2;rw[WD];simp only[bFt,if_false,go_sem];refine qK rfl rfl ⟨_,rfl⟩ (by decide) ?_;simp only[go_sem];exact⟨t,b,true,S,⟨rfl,rfl⟩,q2,q3,q4⟩
  |.ok (t',b'),⟨e1,e2,e3⟩,hpr=>
   subst e1 e2 e3;obtain⟨b1,b2⟩:=hpr _ _ rfl;rw[Jk hw (.inl rfl)];simp only[go_sem];cases hb:isP toks b [45,62]
   ·simp only[bFt,if_false,go_sem];refine qK rfl rfl ⟨_,rfl⟩ (by decide) ?_;simp only[go_sem];exact⟨t,b,false,S,⟨rfl,rfl,rfl⟩,q2,q3,q4⟩
   ·have hlt:=qV hb;simp only[if_true,go_sem];have hid1:id<h1.length:=Nat.lt_of_lt_of_le hid q2.len;have q2':=q2.trans (PS.set q2.at' (o:=prS toks (b+1) false));obtain⟨q3',q4'⟩:=q3.ps q4 hid (PS.set q2.at' (o:=prS toks (b+1) false));refine qN ((ih false (b+1) (h1.set id (prS toks (b+1) false)) (by unfold zj at hf|-;simp at hf|-;omega) (by omega) (by rw[gSs hid1])).mono ?_);rintro v2 h2 ⟨u,c,bad2,S2,p1,p2,p3,p4⟩;obtain⟨y0,y1,y2,rfl⟩:=QN p3;simp only[go_sem];refine qZ rfl n327 ?_;simp only[go_sem];refine qK rfl rfl ⟨_,rfl⟩ (by decide) ?_;simp only[go_sem];obtain⟨z3,z4⟩:=q3'.ps q4' hid p2;obtain⟨r1,r2⟩:=qR0 z3 p3 z4 p4 (by have:=q2.len;have:=p2.len;rw[lLs]at this;omega) (by have:=q2.len;rw[lLs];omega) (fun j hj=>(q4' j hj).2);refine⟨J9 t u,c,bad2,_, ?_,(q2'.trans p2).push,WR r1,r2⟩;generalize pT toks f false (b+1)=r at p1
    match r,p1 with
    |.ok (u',c'),⟨e1,e2,e3⟩=>exact⟨by rw[e1],e2,e3⟩
    |.error c',⟨e1,e2⟩=>exact⟨e1,e2⟩
end
end Go.Ab
