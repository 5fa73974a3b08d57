/- Texts Par0 .. Par15: the abstract machine, its laws and contracts of functions: lemmas for the statement. No condition. -/
import Derived.Lib.Bytealg
import Derived.Lib.ItoaNum
import Derived.Lib.ParseIntB
import Derived.Test.YtnkciijhchfbdaaGreatDoorP5
set_option linter.unusedSimpArgs false
set_option linter.unusedVariables false
namespace Go.Ab
open Go
inductive qB where
 | mk (Kind:Int) (Name:List UInt8) (Kids:List qB)
def qB.Kind:qB->Int |.mk a _ _=>a
def qB.Name:qB->List UInt8 |.mk _ a _=>a
def qB.Kids:qB->List qB |.mk _ _ a=>a
theorem qB.ext{x y:qB}(h1:x.Kind=y.Kind)(h2:x.Name=y.Name)(h4:x.Kids=y.Kids):x=y:=by
 cases x;cases y;simp_all[qB.Kind,qB.Name,qB.Kids]
theorem qB.lt_of_mem{x:qB}{y:qB}(h:y∈x.Kids):SizeOf.sizeOf y<SizeOf.sizeOf x:=by
 cases x with
 | mk a b c=>
  have:=List.sizeOf_lt_of_mem (show y∈c from h);simp only[qB.mk.sizeOf_spec];omega
theorem qB.ind{P:qB->Prop}(h:∀x,(∀y,y∈x.Kids->P y)->P x)(x:qB):P x:=
 h x fun y hy=>qB.ind h y
termination_by SizeOf.sizeOf x
decreasing_by exact qB.lt_of_mem hy
mutual
def qB.enc:qB->AV
 |.mk k v ks=>.agg [.int .i64 k,.str v,.lst 3 (qB.encs ks) false]
def qB.encs:List qB->List AV
 |[]=>[]
 | x::xs=>x.enc::qB.encs xs
end
theorem qB.encs_eq:∀xs,qB.encs xs=xs.map qB.enc
 |[]=>by simp[qB.encs]
 | x::xs=>by simp[qB.encs,qB.encs_eq xs]
theorem qB.enc_eq(x:qB):x.enc=.agg [.int .i64 x.Kind,.str x.Name,.lst 3 (x.Kids.map qB.enc) false]:=by
 cases x;simp[qB.enc,qB.encs_eq,qB.Kind,qB.Name,qB.Kids]
theorem qB.trx:∀x:qB,x.enc.tree=true:=qB.ind fun x ih=>by
 rw[qB.enc_eq];have h:∀xs:List qB,(∀y∈xs,y.enc.tree=true)->AV.trees (xs.map qB.enc)=true:=by
  intro xs
  induction xs with
  | nil=>intro _;rfl
  | cons a xs ihx=>intro h;simp only[lMc,AV.trees,bAt];exact⟨h a (by simp),ihx fun y hy=>h y (by simp[hy])⟩
 simp[AV.tree,AV.trees,h _ ih]
theorem qB.isSh:Sh qB.enc 3 (some 3):=⟨qB.trx,fun x=>by rw[qB.enc_eq];rfl,fun x=>by rw[qB.enc_eq];rfl,by decide,fun x=>by rw[qB.enc_eq];simp⟩
section
variable {x:qB}
@[go_sem] theorem qB.tr:x.enc.tree=true:=qB.trx x
@[go_sem] theorem qB.ln:x.enc.cells.length=3:=by rw[qB.enc_eq];rfl
@[go_sem] theorem qB.all:x.enc.part 0 (some 3)=some x.enc:=by rw[qB.enc_eq];rfl
@[go_sem] theorem qB.p0:x.enc.part 0 none=some (.int .i64 x.Kind):=by rw[qB.enc_eq];rfl
@[go_sem] theorem qB.p1:x.enc.part 1 none=some (.str x.Name):=by rw[qB.enc_eq];rfl
@[go_sem] theorem qB.p2:x.enc.part 2 none=some (.lst 3 (x.Kids.map qB.enc) false):=by rw[qB.enc_eq];rfl
end
mutual
def qB.sz:qB->Nat
 |.mk _ d ks=>d.length+(ks.length+qB.szs ks)
def qB.szs:List qB->Nat
 |[]=>0
 | x::xs=>x.sz+qB.szs xs
end
mutual
def qB.bd:qB->Prop
 |.mk _ d ks=>d.length<=140737488355328/\ks.length<=140737488355328/\qB.bds ks
def qB.bds:List qB->Prop
 |[]=>True
 | x::xs=>x.bd/\qB.bds xs
end
theorem qB.bds_eq:∀xs,qB.bds xs↔∀y∈xs,qB.bd y
 |[]=>by simp[qB.bds]
 | x::xs=>by simp[qB.bds,qB.bds_eq xs]
theorem qB.bd_eq(x:qB):x.bd↔x.Name.length<=140737488355328/\x.Kids.length<=140737488355328/\∀y∈x.Kids,y.bd:=by
 cases x;simp[qB.bd,qB.bds_eq,qB.Name,qB.Kids]
abbrev TNE:Nat:=1000000
def KA:List AV->AV->Prop:=fun as v=>∃(s:List UInt8)(c:Int),as=[.str s,.int .u8 c]/\v=.int .i64 (Lib.indexByte s c.toNat.toUInt8)
def KB:List AV->AV->Prop:=fun as v=>∃n:Int,as=[.int .i64 n,.int .i64 10]/\-9223372036854775808<=n/\n<=9223372036854775807/\v=.str (Lib.itoa n)
def ZA(s:List UInt8):AV:=match Lib.parseIntB 64 s with
 |.ok n=>.tup [.int .i64 n,.nili]
 |.range=>.tup [.int .i64 (Lib.intSat 64 s),.iface TNE .any]
 | _=>.tup [.int .i64 0,.iface TNE .any]
def U9:List AV->AV->Prop:=fun as v=>∃s:List UInt8,as=[.str s,.int .i64 10,.int .i64 64]/\s.length<=140737488355328/\v=ZA s
end Go.Ab
namespace Go.Ab
open Go
set_option maxRecDepth 10000
def sr(l:List qC)(c:qI):qI:=.seq (.reg true l) c
@[go_sem] theorem qlL{l:List qC}{c:qI}:sr l c=.seq (.reg true l) c:=nr rfl
def oL(i d t:Nat):qC:=.mk i (some d) none (.load none (.t t)) []
@[go_sem] theorem qj2{i d t:Nat}:oL i d t=.mk i (some d) none (.load none (.t t)) []:=nr rfl
def oC(i d:Nat)(n:Int):qC:=.mk i (some d) none (.mov (.c (.int .i64 n))) []
@[go_sem] theorem qjT{i d:Nat}{n:Int}:oC i d n=.mk i (some d) none (.mov (.c (.int .i64 n))) []:=nr rfl
def oQ(i d:Nat)(b:Bool):qC:=.mk i (some d) none (.mov (.c (.bool b))) []
@[go_sem] theorem qj8{i d:Nat}{b:Bool}:oQ i d b=.mk i (some d) none (.mov (.c (.bool b))) []:=nr rfl
def oE(i d:Nat)(op:BinOp)(a:Nat)(n:Int):qC:=.mk i (some d) none (.bin op (.t a) (.c (.int .i64 n))) []
@[go_sem] theorem qjW{i d:Nat}{op:BinOp}{a:Nat}{n:Int}:oE i d op a n=.mk i (some d) none (.bin op (.t a) (.c (.int .i64 n))) []:=nr rfl
def oB(i d:Nat)(op:BinOp)(a b:Nat):qC:=.mk i (some d) none (.bin op (.t a) (.t b)) []
@[go_sem] theorem qjS{i d:Nat}{op:BinOp}{a b:Nat}:oB i d op a b=.mk i (some d) none (.bin op (.t a) (.t b)) []:=nr rfl
def oA(i d w a b:Nat):qC:=.mk i (some d) none (.iaddr w (.t a) (.t b)) []
@[go_sem] theorem qjR{i d w a b:Nat}:oA i d w a b=.mk i (some d) none (.iaddr w (.t a) (.t b)) []:=nr rfl
def oX(i d t k:Nat):qC:=.mk i (some d) none (.lload t k none) []
@[go_sem] theorem qkE{i d t k:Nat}:oX i d t k=.mk i (some d) none (.lload t k none) []:=nr rfl
def oY(i d t k w:Nat):qC:=.mk i (some d) none (.lload t k (some w)) []
@[go_sem] theorem qkF{i d t k w:Nat}:oY i d t k w=.mk i (some d) none (.lload t k (some w)) []:=nr rfl
def oS(i t k w x:Nat):qC:=.mk i none none (.lstore t k w (.t x)) []
@[go_sem] theorem qj9{i t k w x:Nat}:oS i t k w x=.mk i none none (.lstore t k w (.t x)) []:=nr rfl
def oT(i w a b:Nat):qC:=.mk i none none (.store w (.t a) (.t b)) []
@[go_sem] theorem qkA{i w a b:Nat}:oT i w a b=.mk i none none (.store w (.t a) (.t b)) []:=nr rfl
def oF(i d k a:Nat):qC:=.mk i (some d) none (.faddr k (.t a)) []
@[go_sem] theorem qjX{i d k a:Nat}:oF i d k a=.mk i (some d) none (.faddr k (.t a)) []:=nr rfl
def oK(i d a:Nat):qC:=.mk i (some d) none (.nilchk (.t a)) []
@[go_sem] theorem qj1{i d a:Nat}:oK i d a=.mk i (some d) none (.nilchk (.t a)) []:=nr rfl
def oV(i d a k:Nat):qC:=.mk i (some d) none (.ext (.t a) k) []
@[go_sem] theorem qkC{i d a k:Nat}:oV i d a k=.mk i (some d) none (.ext (.t a) k) []:=nr rfl
def oU(i d a:Nat):qC:=.mk i (some d) none (.nop a) []
@[go_sem] theorem qkB{i d a:Nat}:oU i d a=.mk i (some d) none (.nop a) []:=nr rfl
def oJ(i d a:Nat):qC:=.mk i (some d) none (.not (.t a)) []
@[go_sem] theorem qj0{i d a:Nat}:oJ i d a=.mk i (some d) none (.not (.t a)) []:=nr rfl
def oW(i d a:Nat):qC:=.mk i (some d) none (.len (.t a)) []
@[go_sem] theorem qkD{i d a:Nat}:oW i d a=.mk i (some d) none (.len (.t a)) []:=nr rfl
def oH(i d k:Nat)(b:Bool)(a:Nat):qC:=.mk i (some d) (some (k,b)) (.mov (.t a)) []
@[go_sem] theorem qjZ{i d k:Nat}{b:Bool}{a:Nat}:oH i d k b a=.mk i (some d) (some (k,b)) (.mov (.t a)) []:=nr rfl
def oD1(i d g a:Nat):qC:=.mk i (some d) none (.call g [.t a]) []
@[go_sem] theorem qjU{i d g a:Nat}:oD1 i d g a=.mk i (some d) none (.call g [.t a]) []:=nr rfl
def oD2(i d g a b:Nat):qC:=.mk i (some d) none (.call g [.t a,.t b]) []
@[go_sem] theorem qjV{i d g a b:Nat}:oD2 i d g a b=.mk i (some d) none (.call g [.t a,.t b]) []:=nr rfl
def oPf(i d a b:Nat):qC:=.mk i (some d) none (.pick (.t a) (.t b) (.c (.bool false))) []
@[go_sem] theorem qj6{i d a b:Nat}:oPf i d a b=.mk i (some d) none (.pick (.t a) (.t b) (.c (.bool false))) []:=nr rfl
def oPt(i d a b:Nat):qC:=.mk i (some d) none (.pick (.t a) (.c (.bool true)) (.t b)) []
@[go_sem] theorem qj7{i d a b:Nat}:oPt i d a b=.mk i (some d) none (.pick (.t a) (.c (.bool true)) (.t b)) []:=nr rfl
def qCB:List qC:=[oM 0 3 0,oP 1 4 (.bin .geq (.t 3) (.c (.int .u8 65))),oM 2 5 4,oH 3 6 5 true 0,oG 4 7 5 true (.bin .leq (.t 6) (.c (.int .u8 90))),oPf 5 8 5 7,oM 6 2 8]
def Yr:qL:=⟨1,9,[.t 2],sr [oQ 0 2 false] (sr qCB .ret)⟩
def qD2:List qC:=[oM 0 3 0,oP 1 4 (.bin .geq (.t 3) (.c (.int .u8 97))),oM 2 5 4,oH 3 6 5 true 0,oG 4 7 5 true (.bin .leq (.t 6) (.c (.int .u8 122))),oPf 5 8 5 7,oM 6 2 8]
def VB:qL:=⟨1,9,[.t 2],sr [oQ 0 2 false] (sr qD2 .ret)⟩
def qET:List qC:=[oM 0 3 0,oP 1 4 (.bin .geq (.t 3) (.c (.int .u8 48))),oM 2 5 4,oH 3 6 5 true 0,oG 4 7 5 true (.bin .leq (.t 6) (.c (.int .u8 57))),oPf 5 8 5 7,oM 6 2 8]
def VJ:qL:=⟨1,9,[.t 2],sr [oQ 0 2 false] (sr qET .ret)⟩
def qA6:List qC:=[oM 0 3 0,oD1 1 4 1206 3,oM 2 5 4,oH 3 6 5 false 0,oG 4 7 5 false (.call 1100 [.t 6]),oPt 5 8 5 7,oM 6 9 8,oH 7 10 9 false 0,oG 8 11 9 false (.call 1330 [.t 10]),oPt 9 12 9 11,oM 10 2 12]
def Yc:qL:=⟨1,13,[.t 2],sr [oQ 0 2 false] (sr qA6 .ret)⟩
def qC2:List qC:=[oM 0 11 1,oM 1 12 0,oM 2 13 5,oA 3 14 1 12 13,oL 4 15 14,oP 5 16 (.sop .eql (.t 11) (.t 15))]
def qC0:qI:=.seq (.blk 1 (sr [oM 0 10 8,oM 1 5 10] (sr qC2 (.cond (.t 16) (sr [oM 0 17 5,oM 1 4 17] .ret) .skip)))) (.reg true [oE 0 18 .add 8 1,oM 1 8 18])
def qC1:qI:=.seq (sr [oM 0 6 0,oW 1 7 6,oC 2 8 0] (.blk 0 (.loop (sr [oB 0 9 .lss 8 7] (.seq (.cond (.t 9) .skip (.exit 0)) qC0))))) (sr [oP 0 4 (.mov (.c (.int .i64 (-1))))] .ret)
def Yy:qL:=⟨2,19,[.t 4],sr [oC 0 4 0] qC1⟩
def Ul:qL:=WL 1106
def qA7:List qC:=[oP 0 3 (.bslice 1 (.str []) 8 [(0,.c (.str [100,97,116,97])),(1,.c (.str [100,101,102])),(2,.c (.str [108,101,116])),(3,.c (.str [105,110])),(4,.c (.str [109,97,116,99,104])),(5,.c (.str [105,102])),(6,.c (.str [116,104,101,110])),(7,.c (.str [101,108,115,101]))]),oM 1 4 0,oD2 2 5 732 3 4,oM 3 2 5]
def Yd:qL:=⟨1,6,[.t 2],sr [oQ 0 2 false] (sr qA7 .ret)⟩
def qB9:List qC:=[oM 0 4 0,oP 1 5 (.slen (.t 4)),oE 2 6 .lss 5 1,oM 3 7 6,oH 4 8 7 false 0,oG 5 9 7 false (.slen (.t 8)),oG 6 10 7 false (.bin .gtr (.t 9) (.c (.int .i64 12))),oPt 7 11 7 10,oM 8 12 11,oH 9 13 12 false 0,oG 10 14 12 false (.sidx (.t 13) (.c (.int .i64 0))),oG 11 15 12 false (.call 1330 [.t 14]),oPt 12 16 12 15,oM 13 17 16,oH 14 18 17 false 0,oG 15 19 17 false (.call 1013 [.t 18]),oPt 16 20 17 19]
def qCA:List qC:=[oM 0 26 0,oM 1 27 3,oP 2 28 (.sidx (.t 26) (.t 27)),oD1 3 29 1012 28,oJ 4 30 29]
def qB7:qI:=.seq (.blk 1 (sr [oM 0 25 23,oM 1 3 25] (sr qCA (.cond (.t 30) (sr [oQ 0 2 false] .ret) .skip)))) (.reg true [oE 0 31 .add 23 1,oM 1 23 31])
def qB8:qI:=.seq (sr [oM 0 21 0,oP 1 22 (.slen (.t 21)),oC 2 23 0] (.blk 0 (.loop (sr [oB 0 24 .lss 23 22] (.seq (.cond (.t 24) .skip (.exit 0)) qB7))))) (sr [oQ 0 2 true] .ret)
def Yq:qL:=⟨1,32,[.t 2],sr [oQ 0 2 false] (.seq (sr qB9 (.cond (.t 20) (sr [oQ 0 2 false] .ret) .skip)) qB8)⟩
def qPH:List qC:=[oM 0 3 0,oD1 1 4 1099 3,oM 2 5 4,oH 3 6 5 true 0,oG 4 7 5 true (.sidx (.t 6) (.c (.int .i64 0))),oG 5 8 5 true (.call 1100 [.t 7]),oPf 6 9 5 8,oM 7 2 9]
def Ue:qL:=⟨1,10,[.t 2],sr [oQ 0 2 false] (sr qPH .ret)⟩
def qJG:List qC:=[oP 0 1 (.lbox 3 (.t 0)),oC 1 2 0,oC 2 3 0,oQ 3 4 false]
def qJH:List qC:=[oU 0 10 1,oX 1 11 1 2,oW 2 12 11,oC 3 13 0]
def qJK:List qC:=[oA 0 15 3 11 13,oP 1 16 (.load (some 3) (.t 15)),oP 2 6 (.lalloc (.agg [.int .i64 0,.str [],.nils])),oS 3 6 0 3 16]
def qJL:List qC:=[oY 0 18 6 0 3,oD1 1 19 331 18,oM 2 17 19,oV 3 20 17 0,oV 4 21 17 1,oV 5 22 17 2,oM 6 7 20,oM 7 8 21,oM 8 9 22]
def qJM:List qC:=[oM 0 25 2,oM 1 26 7,oE 2 27 .add 26 1,oP 3 28 (.max (.t 25) (.t 27)),oM 4 29 3,oM 5 30 8,oB 6 31 .add 29 30,oM 7 2 28,oM 8 3 31]
def qJE:qI:=sr qJL (.seq (sr [oM 0 23 9,oJ 1 24 23] (.cond (.t 24) (sr [oC 0 2 0,oC 1 3 0,oQ 2 4 false] .ret) .skip)) (.reg true qJM))
def qJF:qI:=sr qJH (.blk 0 (.loop (sr [oB 0 14 .lss 13 12] (.seq (.cond (.t 14) .skip (.exit 0)) (.seq (.blk 1 (sr qJK qJE)) (.reg true [oE 0 32 .add 13 1,oM 1 13 32]))))))
def qJN:List qC:=[oU 0 37 1,oX 1 38 1 1,oP 2 39 (.sop .eql (.t 38) (.c (.str []))),oM 3 40 39,oG 4 41 40 true (.nop 1),oG 5 42 40 true (.lload 1 2 none),oG 6 43 40 true (.len (.t 42)),oG 7 44 40 true (.bin .eql (.t 43) (.c (.int .i64 0))),oPf 8 45 40 44,oM 9 4 45]
def qJO:List qC:=[oU 0 48 1,oX 1 49 1 1,oD1 2 50 717 49,oM 3 51 50,oG 4 52 51 true (.nop 1),oG 5 53 51 true (.lload 1 1 none),oG 6 54 51 true (.sop .neq (.t 53) (.c (.str [73,110,116]))),oPf 7 55 51 54,oM 8 56 55,oG 9 57 56 true (.nop 1),oG 10 58 56 true (.lload 1 2 none),oG 11 59 56 true (.len (.t 58)),oG 12 60 56 true (.bin .eql (.t 59) (.c (.int .i64 0))),oPf 13 61 56 60,oM 14 4 61]
def qJP:List qC:=[oU 0 64 1,oX 1 65 1 1,oP 2 66 (.sop .eql (.t 65) (.c (.str []))),oM 3 67 66,oG 4 68 67 true (.nop 1),oG 5 69 67 true (.lload 1 2 none),oG 6 70 67 true (.len (.t 69)),oG 7 71 67 true (.bin .eql (.t 70) (.c (.int .i64 2))),oPf 8 72 67 71,oM 9 4 72]
def qJI:List qC:=[oU 0 75 1,oX 1 76 1 1,oP 2 77 (.sop .eql (.t 76) (.c (.str []))),oM 3 78 77,oG 4 79 78 true (.nop 1),oG 5 80 78 true (.lload 1 2 none),oG 6 81 78 true (.len (.t 80)),oG 7 82 78 true (.bin .eql (.t 81) (.c (.int .i64 1))),oPf 8 83 78 82,oM 9 4 83]
def qJC:qI:=.cond (.t 46) (.reg true qJO) (sr [oE 0 63 .eql 34 3,oM 1 62 63] (.cond (.t 62) (.reg true qJP) (sr [oE 0 74 .eql 34 4,oM 1 73 74] (.cond (.t 73) (.reg true qJI) .skip))))
def qJD:qI:=sr [oU 0 33 1,oX 1 34 1 0] (.blk 2 (sr [oE 0 36 .eql 34 1,oM 1 35 36] (.cond (.t 35) (.reg true qJN) (sr [oE 0 47 .eql 34 2,oM 1 46 47] qJC))))
def qJJ:List qC:=[oM 0 84 2,oM 1 85 3,oM 2 86 4,oM 3 2 84,oM 4 3 85,oM 5 4 86]
def UB:qL:=⟨1,87,[.t 2,.t 3,.t 4],sr qJG (sr [oC 0 2 1,oC 1 3 1] (.seq qJF (.seq qJD (sr qJJ .ret))))⟩
def qQG:List qC:=[oY 0 7 1 0 3,oD1 1 8 331 7,oM 2 6 8,oV 3 9 6 0,oV 4 10 6 1,oV 5 11 6 2,oM 6 3 9,oM 7 4 10,oM 8 5 11]
def qQH:List qC:=[oM 0 12 5,oM 1 13 12,oH 2 14 13 true 3,oG 3 15 13 true (.bin .leq (.t 14) (.c (.int .i64 6))),oPf 4 16 13 15,oM 5 17 16,oH 6 18 17 true 4,oG 7 19 17 true (.bin .leq (.t 18) (.c (.int .i64 16))),oPf 8 20 17 19,oM 9 2 20]
def F74:qL:=⟨1,21,[.t 2],sr [oP 0 1 (.lbox 3 (.t 0)),oQ 1 2 false] (sr qQG (sr qQH .ret))⟩
def qRU:List qC:=[oM 0 3 0,oD1 1 4 1099 3,oM 2 5 4,oH 3 6 5 true 0,oG 4 7 5 true (.sidx (.t 6) (.c (.int .i64 0))),oG 5 8 5 true (.call 1206 [.t 7]),oPf 6 9 5 8,oM 7 2 9]
def Uy:qL:=⟨1,10,[.t 2],sr [oQ 0 2 false] (sr qRU .ret)⟩
def UV:qL:=⟨1,5,[.t 2],sr [oP 0 2 (.mov (.c (.str [])))] (sr [oM 0 3 0,oP 1 4 (.call 957 [.t 3,.c (.int .i64 10)]),oM 2 2 4] .ret)⟩
def qB3:List qC:=[oM 0 3 0,oP 1 4 (.bin .geq (.t 3) (.c (.int .i64 (-2147483648)))),oM 2 5 4,oH 3 6 5 true 0,oG 4 7 5 true (.bin .leq (.t 6) (.c (.int .i64 2147483647))),oPf 5 8 5 7,oM 6 2 8]
def Yo:qL:=⟨1,9,[.t 2],sr [oQ 0 2 false] (sr qB3 .ret)⟩
def qB5:List qC:=[oM 0 7 0,oP 1 8 (.call 1382 [.t 7,.c (.int .i64 10),.c (.int .i64 64)]),oM 2 6 8,oV 3 9 6 0,oV 4 10 6 1,oM 5 4 9,oM 6 5 10]
def qB6:List qC:=[oM 0 11 5,oP 1 12 (.isnil 4 true (.t 11)),oM 2 13 12,oH 3 14 13 false 4,oG 4 15 13 false (.call 1051 [.t 14]),oG 5 16 13 false (.not (.t 15)),oPt 6 17 13 16,oM 7 18 17,oH 8 19 18 false 4,oG 9 20 18 false (.call 577 [.t 19]),oH 10 21 18 false 0,oG 11 22 18 false (.sop .neq (.t 20) (.t 21)),oPt 12 23 18 22]
def qB4:qI:=sr qB5 (.seq (sr qB6 (.cond (.t 23) (sr [oC 0 2 0,oQ 1 3 false] .ret) .skip)) (sr [oM 0 24 4,oM 1 2 24,oQ 2 3 true] .ret))
def Yp:qL:=⟨1,25,[.t 2,.t 3],sr [oC 0 2 0,oQ 1 3 false] qB4⟩
def qA8:List qC:=[oM 0 6 0,oD1 1 7 1091 6,oM 2 5 7,oV 3 8 5 0,oV 4 9 5 1,oM 5 3 8,oM 6 4 9]
def qA9:List qC:=[oM 0 10 4,oM 1 11 10,oH 2 12 11 true 3,oG 3 13 11 true (.bin .geq (.t 12) (.c (.int .i64 0))),oPf 4 14 11 13,oM 5 2 14]
def Ye:qL:=⟨1,15,[.t 2],sr [oQ 0 2 false] (sr qA8 (sr qA9 .ret))⟩
def qEU:List qC:=[oM 0 5 0,oP 1 6 (.slen (.t 5)),oM 2 7 1,oP 3 8 (.slen (.t 7)),oB 4 9 .geq 6 8,oM 5 10 9,oH 6 11 10 true 0,oH 7 12 10 true 1,oG 8 13 10 true (.slen (.t 12)),oG 9 14 10 true (.sslc (.t 11) none (some (.t 13))),oH 10 15 10 true 1,oG 11 16 10 true (.sop .eql (.t 14) (.t 15)),oPf 12 17 10 16,oM 13 4 17]
def VK:qL:=⟨2,18,[.t 4],sr [oQ 0 4 false] (sr qEU .ret)⟩
def qBA:List qC:=[oM 0 5 0,oM 1 6 1,oD2 2 7 1331 5 6,oM 3 4 7]
def Yf:qL:=⟨2,8,[.t 4],sr [oQ 0 4 false] (sr qBA .ret)⟩
def qNU:List qC:=[oM 0 9 6,oM 1 10 0,oP 2 11 (.slen (.t 10)),oB 3 12 .lss 9 11,oM 4 13 12,oH 5 14 13 true 0,oH 6 15 13 true 6,oG 7 16 13 true (.sidx (.t 14) (.t 15)),oG 8 17 13 true (.call 1012 [.t 16]),oPf 9 18 13 17]
def qNV:List qC:=[oM 0 24 0,oM 1 25 1,oM 2 26 6,oP 3 27 (.sslc (.t 24) (some (.t 25)) (some (.t 26))),oM 4 7 27]
def qNW:List qC:=[oM 0 41 7,oP 1 42 (.sop .eql (.t 41) (.c (.str [50,49,52,55,52,56,51,54,52,56]))),oM 2 43 42,oH 3 44 43 false 7,oG 4 45 43 false (.call 1014 [.t 44]),oPt 5 46 43 45,oM 6 40 46]
def qNR:qI:=.cond (.t 36) (sr [oM 0 39 6,oC 1 4 2,oM 2 5 39] .ret) (sr qNW (.cond (.t 40) (sr [oM 0 47 6,oC 1 4 4,oM 2 5 47] .ret) .skip))
def qNS:qI:=sr [oM 0 33 7,oD1 1 34 889 33,oM 2 32 34] (.cond (.t 32) (sr [oM 0 35 6,oC 1 4 1,oM 2 5 35] .ret) (sr [oM 0 37 7,oD1 1 38 717 37,oM 2 36 38] qNR))
def qNT:qI:=sr qNV (.blk 2 (sr [oM 0 29 7,oD1 1 30 1013 29,oM 2 28 30] (.cond (.t 28) (sr [oM 0 31 6,oC 1 4 3,oM 2 5 31] .ret) qNS)))
def qNX:List qC:=[oM 0 49 0,oM 1 50 1,oP 2 51 (.sslc (.t 49) (some (.t 50)) none),oP 3 52 (.call 1015 [.t 51,.c (.str [45,62])])]
def qNY:List qC:=[oM 0 53 1,oE 1 54 .add 53 2,oC 2 4 5,oM 3 5 54]
def qNZ:List qC:=[oM 0 55 0,oM 1 56 1,oP 2 57 (.sidx (.t 55) (.t 56)),oP 3 58 (.call 631 [.c (.str [43,45,42,47,60,61,40,41,91,93,123,125,44,59,58,46,124,33,92]),.t 57]),oE 4 59 .geq 58 0]
def qN0:List qC:=[oM 0 60 1,oE 1 61 .add 60 1,oC 2 4 5,oM 3 5 61]
def qNP:qI:=.seq (sr [oM 0 21 6,oM 1 22 1,oB 2 23 .gtr 21 22] (.cond (.t 23) (.seq qNT (sr [oM 0 48 1,oC 1 4 0,oM 2 5 48] .ret)) .skip)) (.seq (sr qNX (.cond (.t 52) (sr qNY .ret) .skip)) (.seq (sr qNZ (.cond (.t 59) (sr qN0 .ret) .skip)) (sr [oM 0 62 1,oC 1 4 0,oM 2 5 62] .ret)))
def qNQ:qI:=sr [oM 0 8 1,oM 1 6 8] (.seq (.blk 0 (.loop (.seq (sr qNU (.cond (.t 18) .skip (.exit 0))) (.blk 1 (.reg true [oM 0 19 6,oE 1 20 .add 19 1,oM 2 6 20]))))) qNP)
def UY:qL:=⟨2,63,[.t 4,.t 5],sr [oC 0 4 0,oC 1 5 0] qNQ⟩
def qIP:List qC:=[oM 0 12 6,oM 1 13 0,oP 2 14 (.slen (.t 13)),oB 3 15 .lss 12 14]
def qIQ:List qC:=[oM 0 16 0,oM 1 17 6,oP 2 18 (.sidx (.t 16) (.t 17)),oP 3 19 (.call 631 [.c (.str [32,10,9]),.t 18]),oE 4 20 .geq 19 0]
def qIR:List qC:=[oM 0 24 0,oM 1 25 6,oD2 2 26 632 24 25,oM 3 23 26,oV 4 27 23 0,oV 5 28 23 1,oM 6 7 27,oM 7 8 28]
def qIS:List qC:=[oM 0 31 6,oP 1 2 (.mov (.c (.nils))),oM 2 3 31,oC 3 4 6]
def qIT:List qC:=[oM 0 32 5,oM 1 33 7,oM 2 34 0,oM 3 35 6,oM 4 36 8,oP 5 37 (.sslc (.t 34) (some (.t 35)) (some (.t 36))),oM 6 38 6,oP 7 39 (.build (.agg [.int .i64 0,.str [],.int .i64 0]) [(0,1,.t 33),(1,1,.t 37),(2,1,.t 38)]),oP 8 40 (.bslice 3 (.agg [.int .i64 0,.str [],.int .i64 0]) 1 [(0,.t 39)]),oP 9 41 (.app 3 (.t 32) (.t 40)),oM 10 5 41]
def qIM:qI:=sr qIR (.seq (sr [oM 0 29 7,oE 1 30 .eql 29 0] (.cond (.t 30) (sr qIS .ret) .skip)) (sr qIT (.reg true [oM 0 42 8,oM 1 6 42])))
def qIN:qI:=sr [oC 0 6 0] (.blk 0 (.loop (.seq (sr qIP (.cond (.t 15) .skip (.exit 0))) (.blk 1 (.seq (sr qIQ (.cond (.t 20) (sr [oM 0 21 6,oE 1 22 .add 21 1,oM 2 6 22] (.exit 1)) .skip)) qIM)))))
def qIU:List qC:=[oM 0 43 5,oM 1 2 43,oC 2 3 0,oC 3 4 0]
def qIO:qI:=.seq (sr [oM 0 9 0,oP 1 10 (.slen (.t 9)),oE 2 11 .gtr 10 20000] (.cond (.t 11) (sr [oP 0 2 (.mov (.c (.nils))),oC 1 3 0,oC 2 4 2] .ret) .skip)) (sr [oP 0 5 (.mov (.c (.nils)))] (.seq qIN (sr qIU .ret)))
def V2:qL:=⟨1,44,[.t 2,.t 3,.t 4],sr [oP 0 2 (.mov (.c (.nils))),oC 1 3 0,oC 2 4 0] qIO⟩
def qCC:List qC:=[oM 0 3 0,oK 1 4 3,oF 2 5 1 4,oL 3 6 5,oM 4 7 0,oK 5 8 7,oF 6 9 0 8,oL 7 10 9,oW 8 11 10,oB 9 12 .lss 6 11]
def qCD:List qC:=[oM 0 13 0,oK 1 14 13,oF 2 15 0 14,oL 3 16 15,oM 4 17 0,oK 5 18 17,oF 6 19 1 18,oL 7 20 19,oA 8 21 3 16 20,oP 9 22 (.load (some 3) (.t 21)),oS 10 2 0 3 22]
def qCE:List qC:=[oM 0 23 0,oK 1 24 23,oF 2 25 2 24,oL 3 26 25,oP 4 27 (.build (.agg [.int .i64 0,.str [],.int .i64 0]) [(2,1,.t 26)]),oS 5 2 0 3 27]
def Ys:qL:=⟨1,28,[.l 2 (some 3)],sr [oP 0 2 (.lalloc (.agg [.int .i64 0,.str [],.int .i64 0]))] (.seq (sr qCC (.cond (.t 12) (sr qCD .ret) .skip)) (sr qCE .ret))⟩
def qPI:List qC:=[oM 0 2 0,oD1 1 3 1101 2,oP 2 4 (.fld 2 none (.t 3)),oP 3 5 (.build (.agg [.int .i64 0]) [(0,1,.t 4)]),oP 4 6 (.mkif 751 (.t 5)),oN 5 (.panic (.t 6))]
def Uf:qL:=⟨1,7,[],.reg true qPI⟩
def qCF:List qC:=[oM 0 6 0,oD1 1 7 1101 6,oP 2 5 (.lalloc (.agg [.int .i64 0,.str [],.int .i64 0])),oS 3 5 0 3 7]
def qCG:List qC:=[oU 0 8 5,oX 1 9 5 1,oM 2 10 1,oP 3 11 (.sop .eql (.t 9) (.t 10)),oM 4 12 11,oG 5 13 12 true (.nop 5),oG 6 14 12 true (.lload 5 0 none),oG 7 15 12 true (.bin .eql (.t 14) (.c (.int .i64 5))),oH 8 16 12 true 15,oG 9 17 16 false (.nop 5),oG 10 18 16 false (.lload 5 0 none),oG 11 19 16 false (.bin .eql (.t 18) (.c (.int .i64 3))),oG 12 20 12 true (.pick (.t 16) (.c (.bool true)) (.t 19)),oPf 13 21 12 20,oM 14 4 21]
def Yu:qL:=⟨2,22,[.t 4],sr [oQ 0 4 false] (sr qCF (sr qCG .ret))⟩
def qPN:List qC:=[oM 0 5 0,oM 1 6 1,oD2 2 7 1103 5 6,oJ 3 8 7]
def qPO:List qC:=[oM 0 9 0,oK 1 10 9,oF 2 11 1 10,oL 3 12 11,oE 4 13 .add 12 1,oK 5 14 9,oF 6 15 1 14,oT 7 1 15 13]
def Uh:qL:=⟨2,16,[.t 4],sr [oQ 0 4 false] (.seq (sr qPN (.cond (.t 8) (sr [oQ 0 4 false] .ret) .skip)) (sr qPO (sr [oQ 0 4 true] .ret)))⟩
def qRC:List qC:=[oM 0 6 0,oD1 1 7 1101 6,oP 2 5 (.lalloc (.agg [.int .i64 0,.str [],.int .i64 0])),oS 3 5 0 3 7]
def qRD:List qC:=[oU 0 8 5,oX 1 9 5 0,oM 2 10 1,oB 3 11 .neq 9 10]
def qRE:List qC:=[oM 0 14 0,oK 1 15 14,oF 2 16 1 15,oL 3 17 16,oE 4 18 .add 17 1,oK 5 19 14,oF 6 20 1 19,oT 7 1 20 18]
def qRB:qI:=.seq (sr qRD (.cond (.t 11) (.reg true [oM 0 12 0,oD1 1 13 719 12]) .skip)) (sr qRE (sr [oU 0 21 5,oX 1 22 5 1,oM 2 4 22] .ret))
def Uu:qL:=⟨2,23,[.t 4],sr [oP 0 4 (.mov (.c (.str [])))] (sr qRC qRB)⟩
def qRF:List qC:=[oM 0 4 0,oM 1 5 1,oD2 2 6 721 4 5,oJ 3 7 6]
def Uv:qL:=⟨2,10,[],sr qRF (.cond (.t 7) (.reg true [oM 0 8 0,oD1 1 9 719 8]) .skip)⟩
def U1:qL:=⟨0,2,[.l 0 (some 3)],sr [oP 0 0 (.lalloc (.agg [.int .i64 0,.str [],.nils]))] (sr [oP 0 1 (.build (.agg [.int .i64 0,.str [],.nils]) [(0,1,.c (.int .i64 1))]),oS 1 0 0 3 1] .ret)⟩
def qRY:List qC:=[oY 0 3 1 0 3,oP 1 4 (.bslice 3 (.agg [.int .i64 0,.str [],.nils]) 1 [(0,.t 3)]),oP 2 5 (.build (.agg [.int .i64 0,.str [],.nils]) [(0,1,.c (.int .i64 4)),(2,1,.t 4)]),oS 3 2 0 3 5]
def U2:qL:=⟨1,6,[.l 2 (some 3)],sr [oP 0 1 (.lbox 3 (.t 0)),oP 1 2 (.lalloc (.agg [.int .i64 0,.str [],.nils]))] (sr qRY .ret)⟩
def Yt:qL:=⟨1,5,[.l 2 (some 3)],sr [oP 0 2 (.lalloc (.agg [.int .i64 0,.str [],.nils]))] (sr [oM 0 3 0,oP 1 4 (.build (.agg [.int .i64 0,.str [],.nils]) [(0,1,.c (.int .i64 2)),(1,1,.t 3)]),oS 2 2 0 3 4] .ret)⟩
def qPL:List qC:=[oM 0 8 0,oD1 1 9 720 8,oD1 2 10 911 9,oS 3 2 0 3 10]
def qPM:List qC:=[oM 0 14 0,oD1 1 15 335 14,oP 2 3 (.lalloc (.agg [.int .i64 0,.str [],.nils])),oS 3 3 0 3 15]
def qPJ:qI:=sr [oM 0 12 0,oP 1 13 (.call 721 [.t 12,.c (.str [40])]),oM 2 11 13] (.cond (.t 11) (sr qPM (sr [oM 0 16 0,oP 1 17 (.call 876 [.t 16,.c (.str [41])])] (sr [oY 0 18 3 0 3,oS 1 2 0 3 18] .ret))) .skip)
def qPK:qI:=sr [oM 0 19 0,oP 1 20 (.call 875 [.t 19,.c (.int .i64 2)]),oM 2 4 20] (sr [oM 0 21 4,oP 1 22 (.sop .neq (.t 21) (.c (.str [73,110,116])))] (.cond (.t 22) (sr [oM 0 23 4,oD1 1 24 1102 23,oS 2 2 0 3 24] .ret) .skip))
def Ug:qL:=⟨1,26,[.l 2 (some 3)],sr [oP 0 2 (.lalloc (.agg [.int .i64 0,.str [],.nils]))] (.seq (.blk 0 (sr [oM 0 6 0,oP 1 7 (.call 721 [.t 6,.c (.str [33])]),oM 2 5 7] (.cond (.t 5) (sr qPL .ret) qPJ))) (.seq qPK (sr [oP 0 25 (.call 908 []),oS 1 2 0 3 25] .ret)))⟩
def qPP:List qC:=[oY 0 5 2 0 3,oY 1 6 3 0 3,oP 2 7 (.bslice 3 (.agg [.int .i64 0,.str [],.nils]) 2 [(0,.t 5),(1,.t 6)]),oP 3 8 (.build (.agg [.int .i64 0,.str [],.nils]) [(0,1,.c (.int .i64 3)),(2,1,.t 7)]),oS 4 4 0 3 8]
def Ui:qL:=⟨2,9,[.l 4 (some 3)],sr [oP 0 2 (.lbox 3 (.t 0)),oP 1 3 (.lbox 3 (.t 1)),oP 2 4 (.lalloc (.agg [.int .i64 0,.str [],.nils]))] (sr qPP .ret)⟩
def qJW:List qC:=[oM 0 4 0,oD1 1 5 720 4,oP 2 3 (.lalloc (.agg [.int .i64 0,.str [],.nils])),oS 3 3 0 3 5]
def qJX:List qC:=[oY 0 8 3 0 3,oM 1 9 0,oD1 2 10 335 9,oD2 3 11 722 8 10,oS 4 2 0 3 11]
def UD:qL:=⟨1,13,[.l 2 (some 3)],sr [oP 0 2 (.lalloc (.agg [.int .i64 0,.str [],.nils]))] (sr qJW (.seq (sr [oM 0 6 0,oP 1 7 (.call 721 [.t 6,.c (.str [45,62])])] (.cond (.t 7) (sr qJX .ret) .skip)) (sr [oY 0 12 3 0 3,oS 1 2 0 3 12] .ret)))⟩
def qJY:List qC:=[oM 0 7 0,oM 1 8 1,oB 2 9 .geq 7 8,oM 3 10 9,oH 4 11 10 true 0,oH 5 12 10 true 2,oG 6 13 10 true (.bin .leq (.t 11) (.t 12)),oPf 7 14 10 13,oM 8 6 14]
def UE:qL:=⟨3,15,[.t 6],sr [oQ 0 6 false] (sr qJY .ret)⟩
def qF1:List qC:=[oM 0 3 0,oP 1 4 (.bin .geq (.t 3) (.c (.int .u8 97))),oM 2 5 4,oH 3 6 5 true 0,oG 4 7 5 true (.bin .leq (.t 6) (.c (.int .u8 122))),oPf 5 8 5 7,oM 6 9 8,oH 7 10 9 false 0,oG 8 11 9 false (.bin .geq (.t 10) (.c (.int .u8 65))),oH 9 12 9 false 11,oH 10 13 12 true 0,oG 11 14 12 true (.bin .leq (.t 13) (.c (.int .u8 90))),oG 12 15 9 false (.pick (.t 12) (.t 14) (.c (.bool false))),oPt 13 16 9 15,oM 14 2 16]
def Va:qL:=⟨1,17,[.t 2],sr [oQ 0 2 false] (sr qF1 .ret)⟩
def Vk:qL:=⟨0,2,[.t 0],sr [oP 0 0 (.mov (.c (.nils)))] (sr [oP 0 1 (.bslice 1 (.str []) 8 [(0,.c (.str [100,97,116,97])),(1,.c (.str [100,101,102])),(2,.c (.str [108,101,116])),(3,.c (.str [105,110])),(4,.c (.str [109,97,116,99,104])),(5,.c (.str [105,102])),(6,.c (.str [116,104,101,110])),(7,.c (.str [101,108,115,101]))]),oM 1 0 1] .ret)⟩
def qF3:List qC:=[oM 0 4 3,oP 1 5 (.call 1513 []),oW 2 6 5,oB 3 7 .lss 4 6]
def qF4:List qC:=[oP 0 10 (.call 1513 []),oM 1 11 3,oA 2 12 1 10 11,oL 3 13 12,oM 4 14 0,oP 5 15 (.sop .eql (.t 13) (.t 14))]
def qF2:qI:=.loop (.seq (sr qF3 (.cond (.t 7) .skip (.exit 0))) (.seq (.blk 1 (sr qF4 (.cond (.t 15) (sr [oQ 0 2 true] .ret) .skip))) (.reg true [oM 0 8 3,oE 1 9 .add 8 1,oM 2 3 9])))
def Vb:qL:=⟨1,16,[.t 2],sr [oQ 0 2 false] (.seq (sr [oC 0 3 0] (.blk 0 qF2)) (sr [oQ 0 2 false] .ret))⟩
def qF5:List qC:=[oM 0 3 0,oP 1 4 (.bin .geq (.t 3) (.c (.int .u8 48))),oM 2 5 4,oH 3 6 5 true 0,oG 4 7 5 true (.bin .leq (.t 6) (.c (.int .u8 57))),oPf 5 8 5 7,oM 6 2 8]
def Vc:qL:=⟨1,9,[.t 2],sr [oQ 0 2 false] (sr qF5 .ret)⟩
def qEO:List qC:=[oM 0 4 0,oP 1 5 (.slen (.t 4)),oE 2 6 .lss 5 1,oM 3 7 6,oH 4 8 7 false 0,oG 5 9 7 false (.slen (.t 8)),oG 6 10 7 false (.bin .gtr (.t 9) (.c (.int .i64 12))),oPt 7 11 7 10,oM 8 12 11,oH 9 13 12 false 0,oG 10 14 12 false (.sidx (.t 13) (.c (.int .i64 0))),oG 11 15 12 false (.call 1440 [.t 14]),oG 12 16 12 false (.not (.t 15)),oPt 13 17 12 16,oM 14 18 17,oH 15 19 18 false 0,oG 16 20 18 false (.call 1441 [.t 19]),oPt 17 21 18 20]
def qEP:List qC:=[oM 0 22 3,oM 1 23 0,oP 2 24 (.slen (.t 23)),oB 3 25 .lss 22 24]
def qEQ:List qC:=[oM 0 28 0,oM 1 29 3,oP 2 30 (.sidx (.t 28) (.t 29)),oD1 3 31 1440 30,oJ 4 32 31,oM 5 33 32,oH 6 34 33 true 0,oH 7 35 33 true 3,oG 8 36 33 true (.sidx (.t 34) (.t 35)),oG 9 37 33 true (.call 1442 [.t 36]),oG 10 38 33 true (.not (.t 37)),oPf 11 39 33 38]
def qEN:qI:=.loop (.seq (sr qEP (.cond (.t 25) .skip (.exit 0))) (.seq (.blk 1 (sr qEQ (.cond (.t 39) (sr [oQ 0 2 false] .ret) .skip))) (.reg true [oM 0 26 3,oE 1 27 .add 26 1,oM 2 3 27])))
def VH:qL:=⟨1,40,[.t 2],sr [oQ 0 2 false] (.seq (sr qEO (.cond (.t 21) (sr [oQ 0 2 false] .ret) .skip)) (.seq (sr [oC 0 3 0] (.blk 0 qEN)) (sr [oQ 0 2 true] .ret)))⟩
def qSD:List qC:=[oM 0 3 0,oD1 1 4 1241 3,oM 2 5 4,oH 3 6 5 true 0,oG 4 7 5 true (.sidx (.t 6) (.c (.int .i64 0))),oG 5 8 5 true (.bin .leq (.t 7) (.c (.int .u8 90))),oPf 6 9 5 8,oM 7 2 9]
def U6:qL:=⟨1,10,[.t 2],sr [oQ 0 2 false] (sr qSD .ret)⟩
def qM9:List qC:=[oU 0 17 2,oX 1 18 2 1,oD1 2 19 921 18,oJ 3 20 19,oM 4 21 20,oG 5 22 21 false (.nop 2),oG 6 23 21 false (.lload 2 1 none),oG 7 24 21 false (.sop .eql (.t 23) (.c (.str [73,110,116]))),oPt 8 25 21 24]
def qM4:qI:=.cond (.t 26) (.reg true [oC 0 5 2]) (sr [oE 0 29 .eql 12 4,oM 1 28 29] (.cond (.t 28) (.reg true [oC 0 5 1]) (sr [oP 0 4 (.mov (.c (.int .i64 (-1))))] .ret)))
def qM5:qI:=sr [oE 0 16 .eql 12 2,oM 1 15 16] (.cond (.t 15) (sr qM9 (.cond (.t 25) (sr [oP 0 4 (.mov (.c (.int .i64 (-1))))] .ret) .skip)) (sr [oE 0 27 .eql 12 3,oM 1 26 27] qM4))
def qNA:List qC:=[oU 0 30 2,oX 1 31 2 2,oW 2 32 31,oM 3 33 5,oB 4 34 .neq 32 33,oM 5 35 34,oG 6 36 35 false (.nop 2),oG 7 37 35 false (.lload 2 0 none),oG 8 38 35 false (.bin .neq (.t 37) (.c (.int .i64 2))),oH 9 39 35 false 38,oG 10 40 39 true (.nop 2),oG 11 41 39 true (.lload 2 1 none),oG 12 42 39 true (.sop .neq (.t 41) (.c (.str []))),oG 13 43 35 false (.pick (.t 39) (.t 42) (.c (.bool false))),oPt 14 44 35 43]
def qNB:List qC:=[oM 0 45 7,oU 1 46 2,oX 2 47 2 2,oW 3 48 47,oB 4 49 .lss 45 48]
def qNC:List qC:=[oU 0 52 2,oX 1 53 2 2,oM 2 54 7,oA 3 55 3 53 54,oP 4 56 (.load (some 3) (.t 55)),oM 5 57 1,oE 6 58 .sub 57 1,oD2 7 59 541 56 58,oM 8 8 59]
def qND:List qC:=[oM 0 62 6,oM 1 63 8,oB 2 64 .add 62 63,oM 3 6 64]
def qM6:qI:=.seq (.blk 2 (sr qNC (.seq (sr [oM 0 60 8,oE 1 61 .lss 60 0] (.cond (.t 61) (sr [oP 0 4 (.mov (.c (.int .i64 (-1))))] .ret) .skip)) (.reg true qND)))) (.reg true [oM 0 50 7,oE 1 51 .add 50 1,oM 2 7 51])
def qM7:qI:=sr [oC 0 6 1] (.seq (sr [oC 0 7 0] (.blk 1 (.loop (.seq (sr qNB (.cond (.t 49) .skip (.exit 1))) qM6)))) (sr [oM 0 65 6,oM 1 4 65] .ret))
def qM8:qI:=.seq (sr [oU 0 11 2,oX 1 12 2 0] (.blk 0 (sr [oE 0 14 .eql 12 1,oM 1 13 14] (.cond (.t 13) .skip qM5)))) (.seq (sr qNA (.cond (.t 44) (sr [oP 0 4 (.mov (.c (.int .i64 (-1))))] .ret) .skip)) qM7)
def UU:qL:=⟨2,66,[.t 4],sr [oP 0 2 (.lbox 3 (.t 0)),oC 1 4 0] (.seq (sr [oM 0 9 1,oE 1 10 .lss 9 1] (.cond (.t 10) (sr [oP 0 4 (.mov (.c (.int .i64 (-1))))] .ret) .skip)) (sr [oC 0 5 0] qM8))⟩
def qIK:List qC:=[oY 0 3 1 0 3,oP 1 4 (.call 541 [.t 3,.c (.int .i64 6)]),oP 2 5 (.call 340 [.t 4,.c (.int .i64 1),.c (.int .i64 16)]),oM 3 2 5]
def V0:qL:=⟨1,6,[.t 2],sr [oP 0 1 (.lbox 3 (.t 0)),oQ 1 2 false] (sr qIK .ret)⟩
def qE7:List qC:=[oM 0 3 0,oP 1 4 (.bin .eql (.t 3) (.c (.int .u8 32))),oM 2 5 4,oH 3 6 5 false 0,oG 4 7 5 false (.bin .eql (.t 6) (.c (.int .u8 10))),oPt 5 8 5 7,oM 6 9 8,oH 7 10 9 false 0,oG 8 11 9 false (.bin .eql (.t 10) (.c (.int .u8 9))),oPt 9 12 9 11,oM 10 2 12]
def VQ:qL:=⟨1,13,[.t 2],sr [oQ 0 2 false] (sr qE7 .ret)⟩
def qEJ:List qC:=[oM 0 3 0,oD1 1 4 1241 3,oM 2 5 4,oH 3 6 5 true 0,oG 4 7 5 true (.sidx (.t 6) (.c (.int .i64 0))),oG 5 8 5 true (.bin .geq (.t 7) (.c (.int .u8 97))),oPf 6 9 5 8,oM 7 2 9]
def VF:qL:=⟨1,10,[.t 2],sr [oQ 0 2 false] (sr qEJ .ret)⟩
def qGB:List qC:=[oM 0 5 1,oM 1 6 0,oP 2 7 (.slen (.t 6)),oB 3 8 .lss 5 7,oM 4 9 8,oH 5 10 9 true 0,oH 6 11 9 true 1,oG 7 12 9 true (.sidx (.t 10) (.t 11)),oG 8 13 9 true (.call 1440 [.t 12]),oH 9 14 9 true 13,oH 10 15 14 false 0,oH 11 16 14 false 1,oG 12 17 14 false (.sidx (.t 15) (.t 16)),oG 13 18 14 false (.call 1442 [.t 17]),oG 14 19 9 true (.pick (.t 14) (.c (.bool true)) (.t 18)),oPf 15 20 9 19]
def qGA:qI:=.seq (.blk 0 (.loop (.seq (sr qGB (.cond (.t 20) .skip (.exit 0))) (.blk 1 (.reg true [oM 0 21 1,oE 1 22 .add 21 1,oM 2 1 22]))))) (sr [oM 0 23 1,oM 1 4 23] .ret)
def Vf:qL:=⟨2,24,[.t 4],sr [oC 0 4 0] qGA⟩
def qGE:List qC:=[oM 0 5 0,oP 1 6 (.slen (.t 5)),oE 2 7 .gtr 6 10,oM 3 8 7,oH 4 9 8 false 0,oG 5 10 8 false (.slen (.t 9)),oG 6 11 8 false (.bin .gtr (.t 10) (.c (.int .i64 1))),oH 7 12 8 false 11,oH 8 13 12 true 0,oG 9 14 12 true (.sidx (.t 13) (.c (.int .i64 0))),oG 10 15 12 true (.bin .eql (.t 14) (.c (.int .u8 48))),oG 11 16 8 false (.pick (.t 12) (.t 15) (.c (.bool false))),oPt 12 17 8 16]
def qGF:List qC:=[oM 0 18 4,oM 1 19 0,oP 2 20 (.slen (.t 19)),oB 3 21 .lss 18 20]
def qGG:List qC:=[oM 0 24 0,oM 1 25 4,oP 2 26 (.sidx (.t 24) (.t 25)),oD1 3 27 1442 26,oJ 4 28 27]
def qGH:List qC:=[oM 0 29 3,oP 1 30 (.bin .mul (.c (.int .i64 10)) (.t 29)),oM 2 31 0,oM 3 32 4,oP 4 33 (.sidx (.t 31) (.t 32)),oP 5 34 (.bin .sub (.t 33) (.c (.int .u8 48))),oP 6 35 (.conv .i64 (.t 34)),oB 7 36 .add 30 35,oM 8 3 36]
def qGC:qI:=.seq (sr qGF (.cond (.t 21) .skip (.exit 0))) (.seq (.blk 1 (.seq (sr qGG (.cond (.t 28) (sr [oQ 0 2 false] .ret) .skip)) (.reg true qGH))) (.reg true [oM 0 22 4,oE 1 23 .add 22 1,oM 2 4 23]))
def qGD:qI:=sr [oC 0 3 0] (.seq (sr [oC 0 4 0] (.blk 0 (.loop qGC))) (sr [oM 0 37 3,oE 1 38 .leq 37 2147483648,oM 2 2 38] .ret))
def Vg:qL:=⟨1,39,[.t 2],sr [oQ 0 2 false] (.seq (sr qGE (.cond (.t 17) (sr [oQ 0 2 false] .ret) .skip)) qGD)⟩
def qGJ:List qC:=[oM 0 5 4,oM 1 6 3,oP 2 7 (.slen (.t 6)),oB 3 8 .lss 5 7]
def qGK:List qC:=[oM 0 11 3,oM 1 12 4,oP 2 13 (.sidx (.t 11) (.t 12)),oM 3 14 0,oB 4 15 .eql 13 14]
def qGI:qI:=.loop (.seq (sr qGJ (.cond (.t 8) .skip (.exit 0))) (.seq (.blk 1 (sr qGK (.cond (.t 15) (sr [oQ 0 2 true] .ret) .skip))) (.reg true [oM 0 9 4,oE 1 10 .add 9 1,oM 2 4 10])))
def Vh:qL:=⟨1,16,[.t 2],sr [oQ 0 2 false] (sr [oP 0 3 (.mov (.c (.str [43,45,42,47,60,61,40,41,91,93,123,125,44,59,58,46,124,33,92])))] (.seq (sr [oC 0 4 0] (.blk 0 qGI)) (sr [oQ 0 2 false] .ret)))⟩
def qFC:List qC:=[oM 0 8 0,oM 1 9 1,oP 2 10 (.sidx (.t 8) (.t 9)),oM 3 5 10]
def qFD:List qC:=[oM 0 11 5,oD1 1 12 1440 11,oM 2 13 12,oH 3 14 13 false 5,oG 4 15 13 false (.call 1442 [.t 14]),oPt 5 16 13 15]
def qFE:List qC:=[oM 0 17 0,oM 1 18 1,oM 2 19 0,oM 3 20 1,oD2 4 21 1496 19 20,oP 5 22 (.sslc (.t 17) (some (.t 18)) (some (.t 21))),oM 6 6 22]
def qFF:List qC:=[oM 0 23 6,oM 1 24 1,oP 2 25 (.build (.agg [.int .i64 0,.str [],.int .i64 0]) [(1,1,.t 23),(2,1,.t 24)]),oP 3 7 (.lalloc (.agg [.int .i64 0,.str [],.int .i64 0])),oS 4 7 0 3 25]
def qE8:qI:=.seq (sr [oM 0 35 6,oD1 1 36 1497 35] (.cond (.t 36) (.reg true [oU 0 37 7,oN 1 (.lstore 7 0 1 (.c (.int .i64 4)))]) .skip)) (sr [oY 0 38 7 0 3,oS 1 4 0 3 38] .ret)
def qE9:qI:=.seq (sr [oM 0 29 6,oD1 1 30 1237 29] (.cond (.t 30) (.reg true [oU 0 31 7,oN 1 (.lstore 7 0 1 (.c (.int .i64 1)))]) .skip)) (.seq (sr [oM 0 32 6,oD1 1 33 921 32] (.cond (.t 33) (.reg true [oU 0 34 7,oN 1 (.lstore 7 0 1 (.c (.int .i64 2)))]) .skip)) qE8)
def qFA:qI:=sr qFD (.cond (.t 16) (sr qFE (sr qFF (.seq (sr [oM 0 26 6,oD1 1 27 1441 26] (.cond (.t 27) (.reg true [oU 0 28 7,oN 1 (.lstore 7 0 1 (.c (.int .i64 3)))]) .skip)) qE9))) .skip)
def qFG:List qC:=[oM 0 39 5,oP 1 40 (.bin .eql (.t 39) (.c (.int .u8 45))),oM 2 41 40,oH 3 42 41 true 1,oG 4 43 41 true (.bin .add (.t 42) (.c (.int .i64 1))),oH 5 44 41 true 0,oG 6 45 41 true (.slen (.t 44)),oG 7 46 41 true (.bin .lss (.t 43) (.t 45)),oPf 8 47 41 46,oM 9 48 47,oH 10 49 48 true 0,oH 11 50 48 true 1,oG 12 51 48 true (.bin .add (.t 50) (.c (.int .i64 1))),oG 13 52 48 true (.sidx (.t 49) (.t 51)),oG 14 53 48 true (.bin .eql (.t 52) (.c (.int .u8 62))),oPf 15 54 48 53]
def qFH:List qC:=[oM 0 59 0,oM 1 60 1,oM 2 61 1,oE 3 62 .add 61 1,oP 4 63 (.sslc (.t 59) (some (.t 60)) (some (.t 62))),oM 5 64 1,oP 6 65 (.build (.agg [.int .i64 0,.str [],.int .i64 0]) [(0,1,.c (.int .i64 5)),(1,1,.t 63),(2,1,.t 64)]),oS 7 4 0 3 65]
def qFB:qI:=.seq (sr qFG (.cond (.t 54) (sr [oM 0 55 1,oP 1 56 (.build (.agg [.int .i64 0,.str [],.int .i64 0]) [(0,1,.c (.int .i64 5)),(1,1,.c (.str [45,62])),(2,1,.t 55)]),oS 2 4 0 3 56] .ret) .skip)) (.seq (sr [oM 0 57 5,oD1 1 58 1498 57] (.cond (.t 58) (sr qFH .ret) .skip)) (sr [oP 0 66 (.build (.agg [.int .i64 0,.str [],.int .i64 0]) []),oS 1 4 0 3 66] .ret))
def VS:qL:=⟨2,67,[.l 4 (some 3)],sr [oP 0 4 (.lalloc (.agg [.int .i64 0,.str [],.int .i64 0]))] (sr qFC (.seq qFA qFB))⟩
def qC5:List qC:=[oM 0 9 6,oM 1 10 0,oP 2 11 (.slen (.t 10)),oB 3 12 .lss 9 11]
def qC6:List qC:=[oM 0 13 0,oM 1 14 6,oP 2 15 (.sidx (.t 13) (.t 14)),oD1 3 16 1393 15]
def qC7:List qC:=[oM 0 19 0,oM 1 20 6,oD2 2 21 1394 19 20,oP 3 7 (.lalloc (.agg [.int .i64 0,.str [],.int .i64 0])),oS 4 7 0 3 21]
def qC8:List qC:=[oM 0 25 6,oP 1 2 (.mov (.c (.nils))),oM 2 3 25,oQ 3 4 false]
def qC9:List qC:=[oM 0 26 5,oY 1 27 7 0 3,oP 2 28 (.bslice 3 (.agg [.int .i64 0,.str [],.int .i64 0]) 1 [(0,.t 27)]),oP 3 29 (.app 3 (.t 26) (.t 28)),oM 4 5 29]
def qDA:List qC:=[oM 0 30 6,oU 1 31 7,oX 2 32 7 1,oP 3 33 (.slen (.t 32)),oB 4 34 .add 30 33,oM 5 6 34]
def qC3:qI:=.seq (sr qC6 (.cond (.t 16) (sr [oM 0 17 6,oE 1 18 .add 17 1,oM 2 6 18] (.exit 1)) .skip)) (sr qC7 (.seq (sr [oU 0 22 7,oX 1 23 7 0,oE 2 24 .eql 23 0] (.cond (.t 24) (sr qC8 .ret) .skip)) (sr qC9 (.reg true qDA))))
def qDB:List qC:=[oM 0 35 5,oM 1 2 35,oC 2 3 0,oQ 3 4 true]
def qC4:qI:=sr [oP 0 8 (.mov (.c (.lst 3 [] true))),oM 1 5 8] (sr [oC 0 6 0] (.seq (.blk 0 (.loop (.seq (sr qC5 (.cond (.t 12) .skip (.exit 0))) (.blk 1 qC3)))) (sr qDB .ret)))
def Yz:qL:=⟨1,36,[.t 2,.t 3,.t 4],sr [oP 0 2 (.mov (.c (.nils))),oC 1 3 0,oQ 2 4 false] qC4⟩
def qP1:List qC:=[oM 0 12 0,oD1 1 13 1107 12,oM 2 11 13,oV 3 14 11 0,oV 4 15 11 1,oV 5 16 11 2,oM 6 5 14,oM 7 6 15,oM 8 7 16]
def qP2:List qC:=[oM 0 19 6,oP 1 2 (.mov (.c (.nils))),oM 2 3 19,oC 3 4 6]
def qP3:List qC:=[oM 0 20 5,oM 1 2 20,oC 2 3 0,oC 3 4 0]
def qP0:qI:=.seq (sr [oM 0 8 0,oP 1 9 (.slen (.t 8)),oE 2 10 .gtr 9 20000] (.cond (.t 10) (sr [oP 0 2 (.mov (.c (.nils))),oC 1 3 0,oC 2 4 2] .ret) .skip)) (sr qP1 (.seq (sr [oM 0 17 7,oJ 1 18 17] (.cond (.t 18) (sr qP2 .ret) .skip)) (sr qP3 .ret)))
def Um:qL:=⟨1,21,[.t 2,.t 3,.t 4],sr [oP 0 2 (.mov (.c (.nils))),oC 1 3 0,oC 2 4 0] qP0⟩
def qJ0:List qC:=[oM 0 9 0,oD1 1 10 735 9,oM 2 8 10,oV 3 11 8 0,oV 4 12 8 1,oV 5 13 8 2,oM 6 5 11,oM 7 6 12,oM 8 7 13]
def qJ1:List qC:=[oM 0 16 6,oM 1 17 7,oP 2 2 (.mov (.c (.nilp))),oM 3 3 16,oM 4 4 17]
def qJ2:List qC:=[oM 0 18 5,oP 1 19 (.build (.agg [.nils,.int .i64 0,.bool false]) [(0,1,.t 18)]),oP 2 20 (.hbox 3 (.t 19)),oM 3 2 20,oC 4 3 0,oC 5 4 0]
def UG:qL:=⟨1,21,[.t 2,.t 3,.t 4],sr [oP 0 2 (.mov (.c (.nilp))),oC 1 3 0,oC 2 4 0] (sr qJ0 (.seq (sr [oM 0 14 7,oE 1 15 .neq 14 0] (.cond (.t 15) (sr qJ1 .ret) .skip)) (sr qJ2 .ret)))⟩
def qJB:List qC:=[oY 0 5 2 0 3,oY 1 6 3 0 3,oP 2 7 (.bslice 3 (.agg [.int .i64 0,.str [],.nils]) 2 [(0,.t 5),(1,.t 6)]),oP 3 8 (.build (.agg [.int .i64 0,.str [],.nils]) [(0,1,.c (.int .i64 3)),(2,1,.t 7)]),oS 4 4 0 3 8]
def V8:qL:=⟨2,9,[.l 4 (some 3)],sr [oP 0 2 (.lbox 3 (.t 0)),oP 1 3 (.lbox 3 (.t 1)),oP 2 4 (.lalloc (.agg [.int .i64 0,.str [],.nils]))] (sr qJB .ret)⟩
def qJA:List qC:=[oY 0 3 1 0 3,oP 1 4 (.bslice 3 (.agg [.int .i64 0,.str [],.nils]) 1 [(0,.t 3)]),oP 2 5 (.build (.agg [.int .i64 0,.str [],.nils]) [(0,1,.c (.int .i64 4)),(2,1,.t 4)]),oS 3 2 0 3 5]
def V7:qL:=⟨1,6,[.l 2 (some 3)],sr [oP 0 1 (.lbox 3 (.t 0)),oP 1 2 (.lalloc (.agg [.int .i64 0,.str [],.nils]))] (sr qJA .ret)⟩
def V9:qL:=⟨0,2,[.l 0 (some 3)],sr [oP 0 0 (.lalloc (.agg [.int .i64 0,.str [],.nils]))] (sr [oP 0 1 (.build (.agg [.int .i64 0,.str [],.nils]) [(0,1,.c (.int .i64 1))]),oS 1 0 0 3 1] .ret)⟩
def UA:qL:=⟨1,5,[.l 2 (some 3)],sr [oP 0 2 (.lalloc (.agg [.int .i64 0,.str [],.nils]))] (sr [oM 0 3 0,oP 1 4 (.build (.agg [.int .i64 0,.str [],.nils]) [(0,1,.c (.int .i64 2)),(1,1,.t 3)]),oS 2 2 0 3 4] .ret)⟩
def qDC:List qC:=[oM 0 5 0,oK 1 6 5,oF 2 7 2 6,oL 3 8 7,oJ 4 9 8,oM 5 10 9,oH 6 11 10 true 0,oG 7 12 10 true (.nilchk (.t 11)),oG 8 13 10 true (.faddr 1 (.t 12)),oG 9 14 10 true (.load none (.t 13)),oH 10 15 10 true 0,oG 11 16 10 true (.nilchk (.t 15)),oG 12 17 10 true (.faddr 0 (.t 16)),oG 13 18 10 true (.load none (.t 17)),oG 14 19 10 true (.len (.t 18)),oG 15 20 10 true (.bin .lss (.t 14) (.t 19)),oPf 16 21 10 20,oM 17 22 21,oH 18 23 22 true 0,oG 19 24 22 true (.nilchk (.t 23)),oG 20 25 22 true (.faddr 0 (.t 24)),oG 21 26 22 true (.load none (.t 25)),oH 22 27 22 true 0,oG 23 28 22 true (.nilchk (.t 27)),oG 24 29 22 true (.faddr 1 (.t 28)),oG 25 30 22 true (.load none (.t 29)),oG 26 31 22 true (.iaddr 3 (.t 26) (.t 30)),oG 27 32 22 true (.faddr 1 (.t 31)),oG 28 33 22 true (.load none (.t 32)),oH 29 34 22 true 1,oG 30 35 22 true (.sop .eql (.t 33) (.t 34)),oPf 31 36 22 35,oM 32 4 36]
def Y0:qL:=⟨2,37,[.t 4],sr [oQ 0 4 false] (sr qDC .ret)⟩
def qP8:List qC:=[oM 0 5 0,oM 1 6 1,oD2 2 7 1108 5 6,oJ 3 8 7]
def qP9:List qC:=[oM 0 9 0,oK 1 10 9,oF 2 11 1 10,oL 3 12 11,oE 4 13 .add 12 1,oK 5 14 9,oF 6 15 1 14,oT 7 1 15 13]
def Un:qL:=⟨2,16,[.t 4],sr [oQ 0 4 false] (.seq (sr qP8 (.cond (.t 8) (sr [oQ 0 4 false] .ret) .skip)) (sr qP9 (sr [oQ 0 4 true] .ret)))⟩
def qDI:List qC:=[oM 0 5 0,oK 1 6 5,oF 2 7 2 6,oL 3 8 7,oJ 4 9 8,oM 5 10 9,oH 6 11 10 true 0,oG 7 12 10 true (.nilchk (.t 11)),oG 8 13 10 true (.faddr 1 (.t 12)),oG 9 14 10 true (.load none (.t 13)),oH 10 15 10 true 0,oG 11 16 10 true (.nilchk (.t 15)),oG 12 17 10 true (.faddr 0 (.t 16)),oG 13 18 10 true (.load none (.t 17)),oG 14 19 10 true (.len (.t 18)),oG 15 20 10 true (.bin .lss (.t 14) (.t 19)),oPf 16 21 10 20,oM 17 22 21,oH 18 23 22 true 0,oG 19 24 22 true (.nilchk (.t 23)),oG 20 25 22 true (.faddr 0 (.t 24)),oG 21 26 22 true (.load none (.t 25)),oH 22 27 22 true 0,oG 23 28 22 true (.nilchk (.t 27)),oG 24 29 22 true (.faddr 1 (.t 28)),oG 25 30 22 true (.load none (.t 29)),oG 26 31 22 true (.iaddr 3 (.t 26) (.t 30)),oG 27 32 22 true (.faddr 0 (.t 31)),oG 28 33 22 true (.load none (.t 32)),oH 29 34 22 true 1,oG 30 35 22 true (.bin .eql (.t 33) (.t 34)),oPf 31 36 22 35,oM 32 4 36]
def Y3:qL:=⟨2,37,[.t 4],sr [oQ 0 4 false] (sr qDI .ret)⟩
def qQ2:List qC:=[oM 0 5 0,oM 1 6 1,oD2 2 7 1185 5 6,oJ 3 8 7]
def qQ3:List qC:=[oM 0 9 0,oK 1 10 9,oF 2 11 2 10,oN 3 (.store 1 (.t 11) (.c (.bool true)))]
def qQ4:List qC:=[oM 0 12 0,oK 1 13 12,oF 2 14 1 13,oL 3 15 14,oE 4 16 .add 15 1,oK 5 17 12,oF 6 18 1 17,oT 7 1 18 16]
def qQ5:List qC:=[oM 0 19 0,oK 1 20 19,oF 2 21 0 20,oL 3 22 21,oM 4 23 0,oK 5 24 23,oF 6 25 1 24,oL 7 26 25,oE 8 27 .sub 26 1,oA 9 28 3 22 27,oF 10 29 1 28,oL 11 30 29,oM 12 4 30]
def Ur:qL:=⟨2,31,[.t 4],sr [oP 0 4 (.mov (.c (.str [])))] (.seq (sr qQ2 (.cond (.t 8) (sr qQ3 (sr [oP 0 4 (.mov (.c (.str [])))] .ret)) .skip)) (sr qQ4 (sr qQ5 .ret)))⟩
def qQ6:List qC:=[oM 0 4 0,oM 1 5 1,oD2 2 6 737 4 5,oJ 3 7 6]
def qQ7:List qC:=[oM 0 8 0,oK 1 9 8,oF 2 10 2 9,oN 3 (.store 1 (.t 10) (.c (.bool true)))]
def Us:qL:=⟨2,11,[],sr qQ6 (.cond (.t 7) (.reg true qQ7) .skip)⟩
def qP6:List qC:=[oM 0 7 0,oD1 1 8 736 7,oD1 2 9 326 8,oS 3 2 0 3 9]
def qP7:List qC:=[oM 0 12 0,oD1 1 13 359 12,oP 2 3 (.lalloc (.agg [.int .i64 0,.str [],.nils])),oS 3 3 0 3 13]
def qP4:qI:=sr [oM 0 10 0,oP 1 11 (.call 737 [.t 10,.c (.str [40])])] (.cond (.t 11) (sr qP7 (sr [oM 0 14 0,oP 1 15 (.call 872 [.t 14,.c (.str [41])])] (sr [oY 0 16 3 0 3,oS 1 2 0 3 16] .ret))) .skip)
def qP5:qI:=.seq (sr [oM 0 19 4,oP 1 20 (.sop .eql (.t 19) (.c (.str [73,110,116])))] (.cond (.t 20) (sr [oP 0 21 (.call 328 []),oS 1 2 0 3 21] .ret) .skip)) (sr [oM 0 22 4,oD1 1 23 329 22,oS 2 2 0 3 23] .ret)
def Z8:qL:=⟨1,24,[.l 2 (some 3)],sr [oP 0 2 (.lalloc (.agg [.int .i64 0,.str [],.nils]))] (.seq (sr [oM 0 5 0,oP 1 6 (.call 737 [.t 5,.c (.str [33])])] (.cond (.t 6) (sr qP6 .ret) .skip)) (.seq qP4 (sr [oM 0 17 0,oP 1 18 (.call 871 [.t 17,.c (.int .i64 2)]),oM 2 4 18] qP5)))⟩
def qJ3:List qC:=[oM 0 4 0,oD1 1 5 736 4,oP 2 3 (.lalloc (.agg [.int .i64 0,.str [],.nils])),oS 3 3 0 3 5]
def qJ4:List qC:=[oY 0 8 3 0 3,oM 1 9 0,oD1 2 10 359 9,oD2 3 11 327 8 10,oS 4 2 0 3 11]
def Z7:qL:=⟨1,13,[.l 2 (some 3)],sr [oP 0 2 (.lalloc (.agg [.int .i64 0,.str [],.nils]))] (sr qJ3 (.seq (sr [oM 0 6 0,oP 1 7 (.call 737 [.t 6,.c (.str [45,62])])] (.cond (.t 7) (sr qJ4 .ret) .skip)) (sr [oY 0 12 3 0 3,oS 1 2 0 3 12] .ret)))⟩
def qQA:List qC:=[oM 0 5 0,oK 1 6 5,oF 2 7 1 6,oL 3 8 7,oM 4 9 0,oK 5 10 9,oF 6 11 0 10,oL 7 12 11,oW 8 13 12,oB 9 14 .lss 8 13]
def qQB:List qC:=[oM 0 15 0,oK 1 16 15,oF 2 17 0 16,oL 3 18 17,oM 4 19 0,oK 5 20 19,oF 6 21 1 20,oL 7 22 21,oA 8 23 3 18 22,oF 9 24 2 23,oL 10 25 24,oM 11 4 25]
def Uo:qL:=⟨2,28,[.t 4],sr [oC 0 4 0] (.seq (sr qQA (.cond (.t 14) (sr qQB .ret) .skip)) (sr [oM 0 26 1,oP 1 27 (.slen (.t 26)),oM 2 4 27] .ret))⟩
def qJ5:List qC:=[oM 0 6 0,oK 1 7 6,oF 2 8 2 7,oL 3 9 8,oM 4 10 9,oH 5 11 10 false 0,oG 6 12 10 false (.nilchk (.t 11)),oG 7 13 10 false (.faddr 1 (.t 12)),oG 8 14 10 false (.load none (.t 13)),oH 9 15 10 false 0,oG 10 16 10 false (.nilchk (.t 15)),oG 11 17 10 false (.faddr 0 (.t 16)),oG 12 18 10 false (.load none (.t 17)),oG 13 19 10 false (.len (.t 18)),oG 14 20 10 false (.bin .lss (.t 14) (.t 19)),oPt 15 21 10 20]
def qJ6:List qC:=[oM 0 22 0,oM 1 23 1,oD2 2 24 738 22 23,oM 3 4 24,oC 4 5 6]
def UH:qL:=⟨2,25,[.t 4,.t 5],sr [oC 0 4 0,oC 1 5 0] (.seq (sr qJ5 (.cond (.t 21) (sr qJ6 .ret) .skip)) (sr [oC 0 4 0,oC 1 5 0] .ret))⟩
def UI:qL:=eqS 3 (some 3) 101
def qBQ:List qC:=[oU 0 5 2,oX 1 6 2 0,oU 2 7 3,oX 3 8 3 0,oB 4 9 .neq 6 8]
def qBR:List qC:=[oU 0 10 2,oX 1 11 2 1,oU 2 12 3,oX 3 13 3 1,oP 4 14 (.sop .neq (.t 11) (.t 13))]
def qBS:List qC:=[oU 0 15 2,oX 1 16 2 2,oU 2 17 3,oX 3 18 3 2,oD2 4 19 361 16 18,oJ 5 20 19]
def qBP:qI:=.seq (sr qBQ (.cond (.t 9) (sr [oQ 0 4 false] .ret) .skip)) (.seq (sr qBR (.cond (.t 14) (sr [oQ 0 4 false] .ret) .skip)) (.seq (sr qBS (.cond (.t 20) (sr [oQ 0 4 false] .ret) .skip)) (sr [oQ 0 4 true] .ret)))
def Yb:qL:=⟨2,21,[.t 4],sr [oP 0 2 (.lbox 3 (.t 0)),oP 1 3 (.lbox 3 (.t 1)),oQ 2 4 false] qBP⟩
def qQE:List qC:=[oM 0 8 0,oE 1 9 .rem 8 10,oP 2 10 (.bin .add (.c (.int .i64 48)) (.t 9)),oP 3 11 (.conv .u8 (.t 10)),oP 4 12 (.bslice 1 (.int .u8 0) 1 [(0,.t 11)]),oP 5 13 (.b2s (.t 12)),oM 6 14 3,oP 7 15 (.sop .add (.t 13) (.t 14)),oM 8 3 15]
def qQC:qI:=.loop (.seq (sr [oM 0 6 0,oE 1 7 .gtr 6 0] (.cond (.t 7) .skip (.exit 0))) (.blk 1 (sr qQE (.reg true [oM 0 16 0,oE 1 17 .quo 16 10,oM 2 0 17]))))
def qQD:qI:=.seq (sr [oM 0 4 0,oE 1 5 .leq 4 0] (.cond (.t 5) (sr [oP 0 2 (.mov (.c (.str [109,48])))] .ret) .skip)) (sr [oP 0 3 (.mov (.c (.str [])))] (.seq (.blk 0 qQC) (sr [oM 0 18 3,oP 1 19 (.sop .add (.c (.str [109])) (.t 18)),oM 2 2 19] .ret)))
def Up:qL:=⟨1,20,[.t 2],sr [oP 0 2 (.mov (.c (.str [])))] qQD⟩
def qJ9:List qC:=[oM 0 6 5,oM 1 7 0,oW 2 8 7,oB 3 9 .lss 6 8]
def qKA:List qC:=[oM 0 12 0,oM 1 13 5,oM 2 14 1,oA 3 15 3 12 13,oF 4 16 0 15,oT 5 1 16 14]
def qKB:List qC:=[oM 0 19 0,oM 1 20 5,oM 2 21 1,oD1 3 22 739 21,oA 4 23 3 19 20,oF 5 24 1 23,oT 6 1 24 22]
def qKC:List qC:=[oM 0 27 0,oM 1 28 5,oA 2 29 3 27 28,oF 3 30 2 29,oL 4 31 30,oM 5 32 1,oD2 6 33 362 31 32,oM 7 1 33]
def qJ7:qI:=sr [oM 0 17 1,oE 1 18 .add 17 1,oM 2 1 18] (sr qKB (sr [oM 0 25 1,oE 1 26 .add 25 1,oM 2 1 26] (.reg true qKC)))
def qJ8:qI:=sr [oC 0 5 0] (.blk 0 (.loop (.seq (sr qJ9 (.cond (.t 9) .skip (.exit 0))) (.seq (.blk 1 (sr qKA qJ7)) (.reg true [oM 0 10 5,oE 1 11 .add 10 1,oM 2 5 11])))))
def UJ:qL:=⟨2,35,[.t 4],sr [oC 0 4 0] (.seq qJ8 (sr [oM 0 34 1,oM 1 4 34] .ret))⟩
def qKG:List qC:=[oM 0 6 5,oM 1 7 0,oW 2 8 7,oB 3 9 .lss 6 8]
def qKH:List qC:=[oM 0 12 0,oM 1 13 5,oA 2 14 3 12 13,oF 3 15 0 14,oL 4 16 15,oM 5 17 1,oB 6 18 .neq 16 17]
def qKI:List qC:=[oM 0 21 0,oM 1 22 5,oA 2 23 3 21 22,oF 3 24 1 23,oL 4 25 24,oM 5 26 1,⟨6,some 27,none,.call 739 [.t 26],[⟨4,some 25,none,.load none (.t 24),[]⟩]⟩,oP 7 28 (.sop .neq (.t 25) (.t 27))]
def qKJ:List qC:=[oM 0 31 0,oM 1 32 5,oA 2 33 3 31 32,oF 3 34 2 33,oL 4 35 34,oM 5 36 1,oD2 6 37 363 35 36,oM 7 1 37]
def qKD:qI:=sr [oM 0 29 1,oE 1 30 .add 29 1,oM 2 1 30] (sr qKJ (sr [oM 0 38 1,oE 1 39 .lss 38 0] (.cond (.t 39) (sr [oP 0 4 (.mov (.c (.int .i64 (-1))))] .ret) .skip)))
def qKE:qI:=.seq (sr qKH (.cond (.t 18) (sr [oP 0 4 (.mov (.c (.int .i64 (-1))))] .ret) .skip)) (sr [oM 0 19 1,oE 1 20 .add 19 1,oM 2 1 20] (.seq (sr qKI (.cond (.t 28) (sr [oP 0 4 (.mov (.c (.int .i64 (-1))))] .ret) .skip)) qKD))
def qKF:qI:=sr [oC 0 5 0] (.blk 0 (.loop (.seq (sr qKG (.cond (.t 9) .skip (.exit 0))) (.seq (.blk 1 qKE) (.reg true [oM 0 10 5,oE 1 11 .add 10 1,oM 2 5 11])))))
def UK:qL:=⟨2,41,[.t 4],sr [oC 0 4 0] (.seq qKF (sr [oM 0 40 1,oM 1 4 40] .ret))⟩
def qJS:List qC:=[oM 0 10 0,oW 1 11 10,oM 2 12 1,oW 3 13 12,oB 4 14 .neq 11 13]
def qJT:List qC:=[oM 0 19 17,oA 1 20 3 15 17,oP 2 21 (.load (some 3) (.t 20)),oP 3 8 (.lalloc (.agg [.int .i64 0,.str [],.nils])),oM 4 7 19,oS 5 8 0 3 21]
def qJU:List qC:=[oM 0 22 1,oM 1 23 7,oA 2 24 3 22 23,oP 3 25 (.load (some 3) (.t 24)),oP 4 9 (.lalloc (.agg [.int .i64 0,.str [],.nils])),oS 5 9 0 3 25]
def qJV:List qC:=[oM 0 26 2,oY 1 27 8 0 3,oY 2 28 9 0 3,oP 3 29 (.callv (.t 26) [.t 27,.t 28]),oJ 4 30 29]
def qJQ:qI:=sr [oB 0 18 .lss 17 16] (.seq (.cond (.t 18) .skip (.exit 0)) (.seq (.blk 1 (sr qJT (sr qJU (sr qJV (.cond (.t 30) (sr [oQ 0 6 false] .ret) .skip))))) (.reg true [oE 0 31 .add 17 1,oM 1 17 31])))
def qJR:qI:=.seq (sr qJS (.cond (.t 14) (sr [oQ 0 6 false] .ret) .skip)) (.seq (sr [oM 0 15 0,oW 1 16 15,oC 2 17 0] (.blk 0 (.loop qJQ))) (sr [oQ 0 6 true] .ret))
def UC:qL:=⟨3,32,[.t 6],sr [oQ 0 6 false] qJR⟩
def qQF:List qC:=[oU 0 5 2,oX 1 6 2 0,oU 2 7 3,oX 3 8 3 0,oB 4 9 .eql 6 8,oM 5 10 9,oG 6 11 10 true (.nop 2),oG 7 12 10 true (.lload 2 1 none),oG 8 13 10 true (.nop 3),oG 9 14 10 true (.lload 3 1 none),oG 10 15 10 true (.sop .eql (.t 12) (.t 14)),oPf 11 16 10 15,oM 12 17 16,oG 13 18 17 true (.nop 2),oG 14 19 17 true (.lload 2 2 none),oG 15 20 17 true (.nop 3),oG 16 21 17 true (.lload 3 2 none),oG 17 22 17 true (.call 332 [.t 19,.t 21,.f 73]),oPf 18 23 17 22,oM 19 4 23]
def F73:qL:=⟨2,24,[.t 4],sr [oP 0 2 (.lbox 3 (.t 0)),oP 1 3 (.lbox 3 (.t 1)),oQ 2 4 false] (sr qQF .ret)⟩
def qCH:qI:=sr [oE 0 9 .eql 4 4,oM 1 8 9] (.cond (.t 8) .skip (sr [oE 0 10 .eql 4 6,oM 1 8 10] (.cond (.t 8) .skip (.reg true [oE 0 11 .eql 4 10,oM 1 8 11]))))
def qCI:qI:=sr [oE 0 13 .eql 4 3,oM 1 12 13] (.cond (.t 12) .skip (sr [oE 0 14 .eql 4 5,oM 1 12 14] (.cond (.t 12) .skip (.reg true [oE 0 15 .eql 4 7,oM 1 12 15]))))
def qCJ:qI:=.cond (.t 18) (sr [oC 0 2 2,oC 1 3 5] .ret) (sr [oE 0 21 .eql 4 11,oM 1 20 21] (.cond (.t 20) (sr [oC 0 2 3,oC 1 3 3] .ret) .skip))
def qCK:qI:=sr [oE 0 17 .eql 4 8,oM 1 16 17] (.cond (.t 16) (sr [oC 0 2 0,oC 1 3 3] .ret) (sr [oE 0 19 .eql 4 9,oM 1 18 19] qCJ))
def qCL:qI:=.cond (.t 5) (sr [oC 0 2 0,oC 1 3 0] .ret) (.seq qCH (.cond (.t 8) (sr [oC 0 2 1,oC 1 3 1] .ret) (.seq qCI (.cond (.t 12) (sr [oC 0 2 2,oC 1 3 2] .ret) qCK))))
def qCM:qI:=.seq (sr [oM 0 4 0] (.blk 0 (.seq (sr [oE 0 6 .eql 4 1,oM 1 5 6] (.cond (.t 5) .skip (.reg true [oE 0 7 .eql 4 2,oM 1 5 7]))) qCL))) (sr [oC 0 2 0,oP 1 3 (.mov (.c (.int .i64 (-1))))] .ret)
def Yw:qL:=⟨1,22,[.t 2,.t 3],sr [oC 0 2 0,oC 1 3 0] qCM⟩
def qE3:List qC:=[oU 0 3 1,oX 1 4 1 0,oE 2 5 .eql 4 0,oM 3 6 5,oG 4 7 6 true (.nop 1),oG 5 8 6 true (.lload 1 1 none),oG 6 9 6 true (.sop .eql (.t 8) (.c (.str []))),oPf 7 10 6 9,oM 8 11 10,oG 9 12 11 true (.nop 1),oG 10 13 11 true (.lload 1 2 none),oG 11 14 11 true (.len (.t 13)),oG 12 15 11 true (.bin .eql (.t 14) (.c (.int .i64 0))),oPf 13 16 11 15,oM 14 2 16]
def VO:qL:=⟨1,17,[.t 2],sr [oP 0 1 (.lbox 3 (.t 0)),oQ 1 2 false] (sr qE3 .ret)⟩
def qPY:List qC:=[oM 0 6 0,oW 1 7 6,oE 2 8 .sub 7 1,oM 3 5 8]
def qPZ:List qC:=[oM 0 13 0,oM 1 14 5,oA 2 15 1 13 14,oL 3 16 15,oM 4 17 1,oP 5 18 (.sop .eql (.t 16) (.t 17))]
def qPX:qI:=.seq (sr [oM 0 9 5,oE 1 10 .geq 9 0] (.cond (.t 10) .skip (.exit 0))) (.seq (.blk 1 (sr qPZ (.cond (.t 18) (sr [oM 0 19 5,oM 1 4 19] .ret) .skip))) (.reg true [oM 0 11 5,oE 1 12 .sub 11 1,oM 2 5 12]))
def Uk:qL:=⟨2,20,[.t 4],sr [oC 0 4 0] (.seq (sr qPY (.blk 0 (.loop qPX))) (sr [oP 0 4 (.mov (.c (.int .i64 (-1))))] .ret))⟩
def qE5:List qC:=[oM 0 4 3,oM 1 5 0,oW 2 6 5,oB 3 7 .lss 4 6]
def qE6:List qC:=[oM 0 10 0,oM 1 11 3,oA 2 12 1 10 11,oL 3 13 12,oD1 4 14 1237 13,oJ 5 15 14,oM 6 16 15,oH 7 17 16 false 0,oH 8 18 16 false 3,oG 9 19 16 false (.slc 1 (.t 17) none (some (.t 18)) none),oH 10 20 16 false 0,oH 11 21 16 false 3,oG 12 22 16 false (.iaddr 1 (.t 20) (.t 21)),oG 13 23 16 false (.load none (.t 22)),oG 14 24 16 false (.call 729 [.t 19,.t 23]),oG 15 25 16 false (.bin .geq (.t 24) (.c (.int .i64 0))),oPt 16 26 16 25]
def qE4:qI:=.loop (.seq (sr qE5 (.cond (.t 7) .skip (.exit 0))) (.seq (.blk 1 (sr qE6 (.cond (.t 26) (sr [oQ 0 2 false] .ret) .skip))) (.reg true [oM 0 8 3,oE 1 9 .add 8 1,oM 2 3 9])))
def VP:qL:=⟨1,27,[.t 2],sr [oQ 0 2 false] (.seq (sr [oC 0 3 0] (.blk 0 qE4)) (sr [oQ 0 2 true] .ret))⟩
def qCP:List qC:=[oM 0 5 0,oK 1 6 5,oF 2 7 0 6,oL 3 8 7,oE 4 9 .eql 8 1,oM 5 10 9,oH 6 11 10 false 0,oG 7 12 10 false (.nilchk (.t 11)),oG 8 13 10 false (.faddr 0 (.t 12)),oG 9 14 10 false (.load none (.t 13)),oG 10 15 10 false (.bin .eql (.t 14) (.c (.int .i64 4))),oPt 11 16 10 15,oM 12 17 16,oH 13 18 17 false 0,oG 14 19 17 false (.nilchk (.t 18)),oG 15 20 17 false (.faddr 0 (.t 19)),oG 16 21 17 false (.load none (.t 20)),oG 17 22 17 false (.bin .eql (.t 21) (.c (.int .i64 7))),oPt 18 23 17 22,oM 19 3 23]
def qCQ:List qC:=[oM 0 24 0,oK 1 25 24,oF 2 26 0 25,oL 3 27 26,oE 4 28 .eql 27 8,oM 5 29 28,oH 6 30 29 false 0,oG 7 31 29 false (.nilchk (.t 30)),oG 8 32 29 false (.faddr 0 (.t 31)),oG 9 33 29 false (.load none (.t 32)),oG 10 34 29 false (.bin .eql (.t 33) (.c (.int .i64 10))),oPt 11 35 29 34,oM 12 4 35]
def qCS:List qC:=[oM 0 36 3,oM 1 37 36,oH 2 38 37 true 0,oG 3 39 37 true (.nilchk (.t 38)),oG 4 40 37 true (.faddr 2 (.t 39)),oG 5 41 37 true (.load none (.t 40)),oG 6 42 37 true (.call 1237 [.t 41]),oG 7 43 37 true (.not (.t 42)),oPf 8 44 37 43,oM 9 45 44,oH 10 46 45 false 4,oH 11 47 45 false 46,oH 12 48 47 true 0,oG 13 49 47 true (.nilchk (.t 48)),oG 14 50 47 true (.faddr 2 (.t 49)),oG 15 51 47 true (.load none (.t 50)),oG 16 52 47 true (.call 921 [.t 51]),oG 17 53 47 true (.not (.t 52)),oG 18 54 45 false (.pick (.t 47) (.t 53) (.c (.bool false))),oPt 19 55 45 54,oM 20 56 55,oH 21 57 56 false 3,oG 22 58 56 false (.not (.t 57)),oH 23 59 56 false 58,oH 24 60 59 true 4,oG 25 61 59 true (.not (.t 60)),oG 26 62 56 false (.pick (.t 59) (.t 61) (.c (.bool false))),oH 27 63 56 false 62,oH 28 64 63 true 0,oG 29 65 63 true (.nilchk (.t 64)),oG 30 66 63 true (.faddr 2 (.t 65)),oG 31 67 63 true (.load none (.t 66)),oG 32 68 63 true (.sop .neq (.t 67) (.c (.str []))),oG 33 69 56 false (.pick (.t 63) (.t 68) (.c (.bool false))),oPt 34 70 56 69]
def qCT:List qC:=[oM 0 71 0,oK 1 72 71,oF 2 73 0 72,oL 3 74 73,oE 4 75 .eql 74 4,oM 5 76 75,oH 6 77 76 true 0,oG 7 78 76 true (.nilchk (.t 77)),oG 8 79 76 true (.faddr 3 (.t 78)),oG 9 80 76 true (.load (some 3) (.t 79)),oG 10 81 76 true (.call 208 [.t 80]),oG 11 82 76 true (.not (.t 81)),oPf 12 83 76 82,oM 13 84 83,oH 14 85 84 false 0,oG 15 86 84 false (.nilchk (.t 85)),oG 16 87 84 false (.faddr 0 (.t 86)),oG 17 88 84 false (.load none (.t 87)),oG 18 89 84 false (.bin .neq (.t 88) (.c (.int .i64 4))),oH 19 90 84 false 89,oH 20 91 90 true 0,oG 21 92 90 true (.nilchk (.t 91)),oG 22 93 90 true (.faddr 3 (.t 92)),oG 23 94 90 true (.load (some 3) (.t 93)),oG 24 95 90 true (.call 1391 [.t 94]),oG 25 96 90 true (.not (.t 95)),oG 26 97 84 false (.pick (.t 90) (.t 96) (.c (.bool false))),oPt 27 98 84 97]
def qCU:List qC:=[oM 0 99 0,oK 1 100 99,oF 2 101 0 100,oL 3 102 101,oE 4 103 .eql 102 10]
def qCV:List qC:=[oM 0 104 0,oK 1 105 104,oF 2 106 6 105,oL 3 107 106,oW 4 108 107,oE 5 109 .gtr 108 3,oM 6 110 109,oH 7 111 110 false 0,oG 8 112 110 false (.nilchk (.t 111)),oG 9 113 110 false (.faddr 6 (.t 112)),oG 10 114 110 false (.load none (.t 113)),oG 11 115 110 false (.call 1392 [.t 114]),oG 12 116 110 false (.not (.t 115)),oPt 13 117 110 116]
def qCW:List qC:=[oM 0 118 0,oK 1 119 118,oF 2 120 6 119,oL 3 121 120,oW 4 122 121,oE 5 123 .gtr 122 0]
def qCX:List qC:=[oM 0 124 0,oK 1 125 124,oF 2 126 0 125,oL 3 127 126]
def qCY:List qC:=[oM 0 130 0,oK 1 131 130,oF 2 132 1 131,oL 3 133 132,oP 4 134 (.call 340 [.t 133,.c (.int .i64 (-2147483648)),.c (.int .i64 2147483647)]),oM 5 2 134]
def qCZ:List qC:=[oM 0 137 0,oK 1 138 137,oF 2 139 1 138,oL 3 140 139,oP 4 141 (.call 340 [.t 140,.c (.int .i64 1),.c (.int .i64 6)]),oM 5 2 141]
def qCN:qI:=sr qCX (.blk 0 (sr [oE 0 129 .eql 127 2,oM 1 128 129] (.cond (.t 128) (sr qCY .ret) (sr [oE 0 136 .eql 127 3,oM 1 135 136] (.cond (.t 135) (sr qCZ .ret) .skip)))))
def qCR:List qC:=[oM 0 142 0,oK 1 143 142,oF 2 144 1 143,oL 3 145 144,oE 4 146 .eql 145 0,oM 5 2 146]
def qCO:qI:=.seq (sr qCT (.cond (.t 98) (sr [oQ 0 2 false] .ret) .skip)) (.seq (sr qCU (.cond (.t 103) (sr qCV (.cond (.t 117) (sr [oQ 0 2 false] .ret) .skip)) (sr qCW (.cond (.t 123) (sr [oQ 0 2 false] .ret) .skip)))) (.seq qCN (sr qCR .ret)))
def Yx:qL:=⟨1,147,[.t 2],sr [oQ 0 2 false] (sr qCP (sr qCQ (.seq (sr qCS (.cond (.t 70) (sr [oQ 0 2 false] .ret) .skip)) qCO)))⟩
def qPS:List qC:=[oM 0 15 0,oK 1 16 15,oF 2 17 0 16,oL 3 18 17,oD1 4 19 1104 18,oM 5 14 19,oV 6 20 14 0,oV 7 21 14 1,oM 8 9 20,oM 9 10 21]
def qPT:List qC:=[oM 0 22 1,oE 1 23 .lss 22 1,oM 2 24 23,oH 3 25 24 false 3,oG 4 26 24 false (.bin .lss (.t 25) (.c (.int .i64 1))),oPt 5 27 24 26,oM 6 28 27,oH 7 29 28 false 0,oG 8 30 28 false (.nilchk (.t 29)),oG 9 31 28 false (.faddr 0 (.t 30)),oG 10 32 28 false (.load none (.t 31)),oG 11 33 28 false (.bin .eql (.t 32) (.c (.int .i64 10))),oH 12 34 28 false 2,oG 13 35 28 false (.beq true (.t 33) (.t 34)),oPt 14 36 28 35,oM 15 37 36,oH 16 38 37 false 0,oG 17 39 37 false (.nilchk (.t 38)),oG 18 40 37 false (.faddr 7 (.t 39)),oG 19 41 37 false (.load none (.t 40)),oG 20 42 37 false (.len (.t 41)),oH 21 43 37 false 9,oH 22 44 37 false 10,oG 23 45 37 false (.call 340 [.t 42,.t 43,.t 44]),oG 24 46 37 false (.not (.t 45)),oPt 25 47 37 46,oM 26 48 47,oH 27 49 48 false 0,oG 28 50 48 false (.call 1105 [.t 49]),oG 29 51 48 false (.not (.t 50)),oPt 30 52 48 51]
def qPU:List qC:=[oM 0 53 12,oM 1 54 0,oK 2 55 54,oF 3 56 7 55,oL 4 57 56,oW 5 58 57,oB 6 59 .lss 53 58]
def qPV:List qC:=[oM 0 62 0,oK 1 63 62,oF 2 64 7 63,oL 3 65 64,oM 4 66 12,oA 5 67 8 65 66,oM 6 68 1,oE 7 69 .sub 68 1,oM 8 70 0,oK 9 71 70,oF 10 72 0 71,oL 11 73 72,oE 12 74 .eql 73 9,oM 13 75 74,oH 14 76 75 true 12,oG 15 77 75 true (.bin .gtr (.t 76) (.c (.int .i64 0))),oPf 16 78 75 77,oM 17 79 3,oM 18 80 11,oB 19 81 .sub 79 80,oP 20 82 (.call 728 [.t 67,.t 69,.t 78,.t 81]),oM 21 13 82]
def qPW:List qC:=[oM 0 85 11,oM 1 86 13,oB 2 87 .add 85 86,oM 3 11 87]
def qPQ:qI:=.seq (.blk 1 (sr qPV (.seq (sr [oM 0 83 13,oE 1 84 .lss 83 0] (.cond (.t 84) (sr [oP 0 8 (.mov (.c (.int .i64 (-1))))] .ret) .skip)) (.reg true qPW)))) (.reg true [oM 0 60 12,oE 1 61 .add 60 1,oM 2 12 61])
def qPR:qI:=sr [oC 0 11 1] (.seq (sr [oC 0 12 0] (.blk 0 (.loop (.seq (sr qPU (.cond (.t 59) .skip (.exit 0))) qPQ)))) (sr [oM 0 88 11,oM 1 8 88] .ret))
def Uj:qL:=⟨4,89,[.t 8],sr [oC 0 8 0] (sr qPS (.seq (sr qPT (.cond (.t 52) (sr [oP 0 8 (.mov (.c (.int .i64 (-1))))] .ret) .skip)) qPR))⟩
def qJZ:List qC:=[oM 0 3 0,oP 1 4 (.call 728 [.t 3,.c (.int .i64 24),.c (.bool false),.c (.int .i64 160)]),oE 2 5 .gtr 4 0,oM 3 2 5]
def UF:qL:=⟨1,6,[.t 2],sr [oQ 0 2 false] (sr qJZ .ret)⟩
def Vd:qL:=⟨0,2,[.t 0],sr [oP 0 0 (.mov (.c (.nils)))] (sr [oP 0 1 (.bslice 1 (.str []) 6 [(0,.c (.str [43])),(1,.c (.str [45])),(2,.c (.str [42])),(3,.c (.str [47])),(4,.c (.str [60])),(5,.c (.str [61]))]),oM 1 0 1] .ret)⟩
def qFM:List qC:=[oM 0 4 3,oP 1 5 (.call 1470 []),oW 2 6 5,oB 3 7 .lss 4 6]
def qFN:List qC:=[oP 0 10 (.call 1470 []),oM 1 11 3,oA 2 12 1 10 11,oL 3 13 12,oM 4 14 0,oP 5 15 (.sop .eql (.t 13) (.t 14))]
def qFL:qI:=.seq (.blk 1 (sr qFN (.cond (.t 15) (sr [oM 0 16 3,oE 1 17 .add 16 1,oM 2 2 17] .ret) .skip))) (.reg true [oM 0 8 3,oE 1 9 .add 8 1,oM 2 3 9])
def VU:qL:=⟨1,18,[.t 2],sr [oC 0 2 0] (.seq (sr [oC 0 3 0] (.blk 0 (.loop (.seq (sr qFM (.cond (.t 7) .skip (.exit 0))) qFL)))) (sr [oC 0 2 0] .ret))⟩
def qDN:List qC:=[oM 0 8 0,oK 1 9 8,oF 2 10 2 9,oL 3 11 10,oM 4 12 11,oH 5 13 12 false 0,oG 6 14 12 false (.nilchk (.t 13)),oG 7 15 12 false (.faddr 1 (.t 14)),oG 8 16 12 false (.load none (.t 15)),oH 9 17 12 false 0,oG 10 18 12 false (.nilchk (.t 17)),oG 11 19 12 false (.faddr 0 (.t 18)),oG 12 20 12 false (.load none (.t 19)),oG 13 21 12 false (.len (.t 20)),oG 14 22 12 false (.bin .geq (.t 16) (.t 21)),oPt 15 23 12 22]
def qDO:List qC:=[oM 0 24 0,oK 1 25 24,oF 2 26 0 25,oL 3 27 26,oM 4 28 0,oK 5 29 28,oF 6 30 1 29,oL 7 31 30,oA 8 32 3 27 31,oF 9 33 1 32,oL 10 34 33,oD1 11 35 1424 34,oM 12 7 35]
def qDP:List qC:=[oM 0 36 7,oM 1 37 1,oM 2 38 2,oP 3 39 (.call 340 [.t 36,.t 37,.t 38]),oJ 4 40 39]
def qDQ:List qC:=[oM 0 41 0,oK 1 42 41,oF 2 43 1 42,oL 3 44 43,oE 4 45 .add 44 1,oK 5 46 41,oF 6 47 1 46,oT 7 1 47 45]
def qDM:qI:=.seq (sr qDN (.cond (.t 23) (sr [oC 0 6 0] .ret) .skip)) (sr qDO (.seq (sr qDP (.cond (.t 40) (sr [oC 0 6 0] .ret) .skip)) (sr qDQ (sr [oM 0 48 7,oM 1 6 48] .ret))))
def Y5:qL:=⟨3,49,[.t 6],sr [oC 0 6 0] qDM⟩
def qEZ:List qC:=[oM 0 3 0,oK 1 4 3,oF 2 5 2 4,oL 3 6 5]
def VM:qL:=⟨1,10,[.l 2 (some 8)],sr [oP 0 2 (.lalloc (.agg [.int .i64 0,.int .i64 0,.str [],.int .i64 0,.str [],.nils,.nils,.nils]))] (.seq (sr qEZ (.cond (.t 6) (sr [oP 0 7 (.build (.agg [.int .i64 0,.int .i64 0,.str [],.int .i64 0,.str [],.nils,.nils,.nils]) []),oS 1 2 0 8 7] .ret) .skip)) (sr [oM 0 8 0,oD1 1 9 509 8,oS 2 2 0 8 9] .ret))⟩
def qHD:List qC:=[oM 0 4 0,oP 1 5 (.call 871 [.t 4,.c (.int .i64 2)]),oP 2 6 (.build (.agg [.int .i64 0,.int .i64 0,.str [],.int .i64 0,.str [],.nils,.nils,.nils]) [(0,1,.c (.int .i64 8)),(2,1,.t 5)]),oP 3 3 (.lalloc (.agg [.int .i64 0,.int .i64 0,.str [],.int .i64 0,.str [],.nils,.nils,.nils])),oS 4 3 0 8 6]
def qHE:List qC:=[oU 0 11 3,oX 1 12 3 7,oM 2 13 0,oD1 3 14 509 13,oP 4 15 (.bslice 8 (.agg [.int .i64 0,.int .i64 0,.str [],.int .i64 0,.str [],.nils,.nils,.nils]) 1 [(0,.t 14)]),oP 5 16 (.app 8 (.t 12) (.t 15)),oU 6 17 3,oS 7 3 7 1 16]
def qHF:List qC:=[oU 0 20 3,oX 1 21 3 7,oM 2 22 0,oD1 3 23 509 22,oP 4 24 (.bslice 8 (.agg [.int .i64 0,.int .i64 0,.str [],.int .i64 0,.str [],.nils,.nils,.nils]) 1 [(0,.t 23)]),oP 5 25 (.app 8 (.t 21) (.t 24)),oU 6 26 3,oS 7 3 7 1 25]
def qHB:qI:=.seq (.blk 0 (.loop (.seq (sr [oM 0 18 0,oP 1 19 (.call 737 [.t 18,.c (.str [44])])] (.cond (.t 19) .skip (.exit 0))) (.blk 1 (.reg true qHF))))) (sr [oM 0 27 0,oP 1 28 (.call 872 [.t 27,.c (.str [93])])] (sr [oY 0 29 3 0 8,oS 1 2 0 8 29] .ret))
def qHC:qI:=sr qHD (.seq (sr [oM 0 7 0,oP 1 8 (.call 737 [.t 7,.c (.str [91])]),oJ 2 9 8] (.cond (.t 9) (sr [oY 0 10 3 0 8,oS 1 2 0 8 10] .ret) .skip)) (sr qHE qHB))
def Vp:qL:=⟨1,30,[.l 2 (some 8)],sr [oP 0 2 (.lalloc (.agg [.int .i64 0,.int .i64 0,.str [],.int .i64 0,.str [],.nils,.nils,.nils]))] qHC⟩
def qHI:List qC:=[oM 0 10 7,oM 1 11 5,oP 2 12 (.slen (.t 11)),oB 3 13 .lss 10 12]
def qHJ:List qC:=[oM 0 16 6,oP 1 17 (.bin .mul (.c (.int .i64 10)) (.t 16)),oM 2 18 5,oM 3 19 7,oP 4 20 (.sidx (.t 18) (.t 19)),oP 5 21 (.bin .sub (.t 20) (.c (.int .u8 48))),oP 6 22 (.conv .i64 (.t 21)),oB 7 23 .add 17 22,oM 8 6 23]
def qHG:qI:=sr [oC 0 7 0] (.blk 0 (.loop (.seq (sr qHI (.cond (.t 13) .skip (.exit 0))) (.seq (.blk 1 (.reg true qHJ)) (.reg true [oM 0 14 7,oE 1 15 .add 14 1,oM 2 7 15])))))
def qHK:List qC:=[oM 0 27 0,oK 1 28 27,oF 2 29 1 28,oL 3 30 29,oE 4 31 .sub 30 1,oK 5 32 27,oF 6 33 1 32,oT 7 1 33 31]
def qHL:List qC:=[oM 0 34 0,oK 1 35 34,oF 2 36 2 35,oN 3 (.store 1 (.t 36) (.c (.bool true)))]
def qHH:qI:=.seq (sr [oM 0 24 6,oM 1 25 1,oB 2 26 .gtr 24 25] (.cond (.t 26) (sr qHK (.reg true qHL)) .skip)) (sr [oM 0 37 6,oM 1 4 37] .ret)
def Vq:qL:=⟨2,38,[.t 4],sr [oC 0 4 0] (sr [oM 0 8 0,oP 1 9 (.call 871 [.t 8,.c (.int .i64 4)]),oM 2 5 9] (sr [oC 0 6 0] (.seq qHG qHH)))⟩
def qH4:List qC:=[oM 0 4 0,oP 1 5 (.call 871 [.t 4,.c (.int .i64 2)]),oP 2 6 (.build (.agg [.int .i64 0,.int .i64 0,.str [],.int .i64 0,.str [],.nils,.nils,.nils]) [(0,1,.c (.int .i64 10)),(2,1,.t 5)]),oP 3 3 (.lalloc (.agg [.int .i64 0,.int .i64 0,.str [],.int .i64 0,.str [],.nils,.nils,.nils])),oS 4 3 0 8 6]
def qH5:List qC:=[oU 0 9 3,oX 1 10 3 6,oM 2 11 0,oP 3 12 (.call 871 [.t 11,.c (.int .i64 1)]),oP 4 13 (.bslice 1 (.str []) 1 [(0,.t 12)]),oP 5 14 (.app 1 (.t 10) (.t 13)),oU 6 15 3,oS 7 3 6 1 14]
def qH6:List qC:=[oU 0 18 3,oX 1 19 3 6,oM 2 20 0,oP 3 21 (.call 871 [.t 20,.c (.int .i64 1)]),oP 4 22 (.bslice 1 (.str []) 1 [(0,.t 21)]),oP 5 23 (.app 1 (.t 19) (.t 22)),oU 6 24 3,oS 7 3 6 1 23]
def qH2:qI:=.seq (.blk 0 (.loop (.seq (sr [oM 0 16 0,oP 1 17 (.call 737 [.t 16,.c (.str [44])])] (.cond (.t 17) .skip (.exit 0))) (.blk 1 (.reg true qH6))))) (.reg true [oM 0 25 0,oP 1 26 (.call 872 [.t 25,.c (.str [93])])])
def qH7:List qC:=[oM 0 29 0,oD1 1 30 1333 29,oP 2 31 (.bslice 8 (.agg [.int .i64 0,.int .i64 0,.str [],.int .i64 0,.str [],.nils,.nils,.nils]) 1 [(0,.t 30)]),oU 3 32 3,oS 4 3 7 1 31]
def qH3:qI:=.seq (sr [oM 0 7 0,oP 1 8 (.call 737 [.t 7,.c (.str [91])])] (.cond (.t 8) (sr qH5 qH2) .skip)) (sr [oM 0 27 0,oP 1 28 (.call 872 [.t 27,.c (.str [45,62])])] (sr qH7 (sr [oY 0 33 3 0 8,oS 1 2 0 8 33] .ret)))
def Vw:qL:=⟨1,34,[.l 2 (some 8)],sr [oP 0 2 (.lalloc (.agg [.int .i64 0,.int .i64 0,.str [],.int .i64 0,.str [],.nils,.nils,.nils]))] (sr qH4 qH3)⟩
def qHN:List qC:=[oM 0 6 0,oD1 1 7 509 6,oP 2 8 (.bslice 8 (.agg [.int .i64 0,.int .i64 0,.str [],.int .i64 0,.str [],.nils,.nils,.nils]) 1 [(0,.t 7)]),oP 3 9 (.build (.agg [.int .i64 0,.int .i64 0,.str [],.int .i64 0,.str [],.nils,.nils,.nils]) [(0,1,.c (.int .i64 9)),(7,1,.t 8)]),oP 4 3 (.lalloc (.agg [.int .i64 0,.int .i64 0,.str [],.int .i64 0,.str [],.nils,.nils,.nils])),oS 5 3 0 8 9]
def qHO:List qC:=[oU 0 12 3,oX 1 13 3 7,oM 2 14 0,oD1 3 15 1559 14,oP 4 16 (.bslice 8 (.agg [.int .i64 0,.int .i64 0,.str [],.int .i64 0,.str [],.nils,.nils,.nils]) 1 [(0,.t 15)]),oP 5 17 (.app 8 (.t 13) (.t 16)),oU 6 18 3,oS 7 3 7 1 17]
def qHP:List qC:=[oU 0 21 3,oX 1 22 3 7,oM 2 23 0,oD1 3 24 1559 23,oP 4 25 (.bslice 8 (.agg [.int .i64 0,.int .i64 0,.str [],.int .i64 0,.str [],.nils,.nils,.nils]) 1 [(0,.t 24)]),oP 5 26 (.app 8 (.t 22) (.t 25)),oU 6 27 3,oS 7 3 7 1 26]
def qHM:qI:=.seq (.blk 0 (.loop (.seq (sr [oM 0 19 0,oP 1 20 (.call 737 [.t 19,.c (.str [59])])] (.cond (.t 20) .skip (.exit 0))) (.blk 1 (.reg true qHP))))) (sr [oM 0 28 0,oP 1 29 (.call 872 [.t 28,.c (.str [125])])] (sr [oY 0 30 3 0 8,oS 1 2 0 8 30] .ret))
def Vr:qL:=⟨1,31,[.l 2 (some 8)],sr [oP 0 2 (.lalloc (.agg [.int .i64 0,.int .i64 0,.str [],.int .i64 0,.str [],.nils,.nils,.nils]))] (sr [oM 0 4 0,oP 1 5 (.call 872 [.t 4,.c (.str [109,97,116,99,104])])] (sr qHN (sr [oM 0 10 0,oP 1 11 (.call 872 [.t 10,.c (.str [123])])] (sr qHO qHM))))⟩
def qGW:List qC:=[oM 0 7 0,oD1 1 8 1537 7,oP 2 9 (.bslice 8 (.agg [.int .i64 0,.int .i64 0,.str [],.int .i64 0,.str [],.nils,.nils,.nils]) 1 [(0,.t 8)]),oP 3 10 (.build (.agg [.int .i64 0,.int .i64 0,.str [],.int .i64 0,.str [],.nils,.nils,.nils]) [(0,1,.c (.int .i64 6)),(7,1,.t 9)]),oS 4 2 0 8 10]
def qGX:List qC:=[oM 0 14 0,oP 1 15 (.call 871 [.t 14,.c (.int .i64 1)]),oP 2 16 (.build (.agg [.int .i64 0,.int .i64 0,.str [],.int .i64 0,.str [],.nils,.nils,.nils]) [(0,1,.c (.int .i64 1)),(2,1,.t 15)]),oS 3 2 0 8 16]
def qGY:List qC:=[oM 0 25 0,oP 1 26 (.call 1551 [.t 25,.c (.int .i64 2147483647)]),oP 2 27 (.build (.agg [.int .i64 0,.int .i64 0,.str [],.int .i64 0,.str [],.nils,.nils,.nils]) [(0,1,.c (.int .i64 2)),(1,1,.t 26)]),oS 3 2 0 8 27]
def qGR:qI:=.cond (.t 22) (sr qGY .ret) (sr [oM 0 29 0,oP 1 30 (.call 1108 [.t 29,.c (.str [109,97,116,99,104])]),oM 2 28 30] (.cond (.t 28) (sr [oM 0 31 0,oD1 1 32 1552 31,oS 2 2 0 8 32] .ret) .skip))
def qGS:qI:=sr [oM 0 18 0,oP 1 19 (.call 1185 [.t 18,.c (.int .i64 2)]),oM 2 17 19] (.cond (.t 17) (sr [oM 0 20 0,oD1 1 21 1550 20,oS 2 2 0 8 21] .ret) (sr [oM 0 23 0,oP 1 24 (.call 1185 [.t 23,.c (.int .i64 4)]),oM 2 22 24] qGR))
def qGZ:List qC:=[oM 0 41 3,oP 1 42 (.neg (.t 41)),oP 2 43 (.build (.agg [.int .i64 0,.int .i64 0,.str [],.int .i64 0,.str [],.nils,.nils,.nils]) [(0,1,.c (.int .i64 2)),(1,1,.t 42)]),oS 3 2 0 8 43]
def qGT:qI:=sr [oM 0 35 0,oP 1 36 (.call 737 [.t 35,.c (.str [45])])] (.cond (.t 36) (sr [oM 0 37 0,oP 1 38 (.call 1551 [.t 37,.c (.int .i64 2147483648)]),oM 2 3 38] (sr [oM 0 39 0,oP 1 40 (.call 872 [.t 39,.c (.str [41])])] (sr qGZ .ret))) .skip)
def qG0:List qC:=[oM 0 44 0,oD1 1 45 1333 44,oP 2 4 (.lalloc (.agg [.int .i64 0,.int .i64 0,.str [],.int .i64 0,.str [],.nils,.nils,.nils])),oS 3 4 0 8 45]
def qGU:qI:=sr [oM 0 33 0,oP 1 34 (.call 872 [.t 33,.c (.str [40])])] (.seq qGT (sr qG0 (sr [oM 0 46 0,oP 1 47 (.call 872 [.t 46,.c (.str [41])])] (sr [oY 0 48 4 0 8,oS 1 2 0 8 48] .ret))))
def qGV:qI:=.seq (sr [oM 0 5 0,oP 1 6 (.call 737 [.t 5,.c (.str [33])])] (.cond (.t 6) (sr qGW .ret) .skip)) (.seq (.blk 0 (sr [oM 0 12 0,oP 1 13 (.call 1185 [.t 12,.c (.int .i64 1)]),oM 2 11 13] (.cond (.t 11) (sr qGX .ret) qGS))) qGU)
def Vl:qL:=⟨1,49,[.l 2 (some 8)],sr [oP 0 2 (.lalloc (.agg [.int .i64 0,.int .i64 0,.str [],.int .i64 0,.str [],.nils,.nils,.nils]))] qGV⟩
def qG1:List qC:=[oM 0 3 0,oP 1 4 (.call 1185 [.t 3,.c (.int .i64 1)]),oM 2 5 4,oH 3 6 5 false 0,oG 4 7 5 false (.call 1185 [.t 6,.c (.int .i64 2)]),oPt 5 8 5 7,oM 6 9 8,oH 7 10 9 false 0,oG 8 11 9 false (.call 1185 [.t 10,.c (.int .i64 4)]),oPt 9 12 9 11,oM 10 13 12,oH 11 14 13 false 0,oG 12 15 13 false (.call 1108 [.t 14,.c (.str [40])]),oPt 13 16 13 15,oM 14 17 16,oH 15 18 17 false 0,oG 16 19 17 false (.call 1108 [.t 18,.c (.str [33])]),oPt 17 20 17 19,oM 18 21 20,oH 19 22 21 false 0,oG 20 23 21 false (.call 1108 [.t 22,.c (.str [109,97,116,99,104])]),oPt 21 24 21 23,oM 22 2 24]
def Vm:qL:=⟨1,25,[.t 2],sr [oQ 0 2 false] (sr qG1 .ret)⟩
def qGM:List qC:=[oM 0 4 0,oD1 1 5 1537 4,oP 2 3 (.lalloc (.agg [.int .i64 0,.int .i64 0,.str [],.int .i64 0,.str [],.nils,.nils,.nils])),oS 3 3 0 8 5]
def qGN:List qC:=[oY 0 8 3 0 8,oM 1 9 0,oD1 2 10 1537 9,oP 3 11 (.bslice 8 (.agg [.int .i64 0,.int .i64 0,.str [],.int .i64 0,.str [],.nils,.nils,.nils]) 2 [(0,.t 8),(1,.t 10)]),oP 4 12 (.build (.agg [.int .i64 0,.int .i64 0,.str [],.int .i64 0,.str [],.nils,.nils,.nils]) [(0,1,.c (.int .i64 5)),(7,1,.t 11)]),oS 5 3 0 8 12]
def qGL:qI:=.seq (.blk 0 (.loop (.seq (sr [oM 0 6 0,oD1 1 7 1538 6] (.cond (.t 7) .skip (.exit 0))) (.blk 1 (.reg true qGN))))) (sr [oY 0 13 3 0 8,oS 1 2 0 8 13] .ret)
def Vi:qL:=⟨1,14,[.l 2 (some 8)],sr [oP 0 2 (.lalloc (.agg [.int .i64 0,.int .i64 0,.str [],.int .i64 0,.str [],.nils,.nils,.nils]))] (sr qGM qGL)⟩
def qFJ:List qC:=[oM 0 5 0,oD1 1 6 1510 5,oP 2 3 (.lalloc (.agg [.int .i64 0,.int .i64 0,.str [],.int .i64 0,.str [],.nils,.nils,.nils])),oS 3 3 0 8 6]
def qFK:List qC:=[oM 0 12 4,oY 1 13 3 0 8,oM 2 14 0,oD1 3 15 1510 14,oP 4 16 (.bslice 8 (.agg [.int .i64 0,.int .i64 0,.str [],.int .i64 0,.str [],.nils,.nils,.nils]) 2 [(0,.t 13),(1,.t 15)]),oP 5 17 (.build (.agg [.int .i64 0,.int .i64 0,.str [],.int .i64 0,.str [],.nils,.nils,.nils]) [(0,1,.c (.int .i64 3)),(1,1,.t 12),(7,1,.t 16)]),oS 6 3 0 8 17]
def qFI:qI:=sr [oM 0 7 0,oP 1 8 (.call 1187 [.t 7,.c (.int .i64 3),.c (.int .i64 4)]),oM 2 4 8] (.seq (sr [oM 0 9 4,oE 1 10 .eql 9 0] (.cond (.t 10) (sr [oY 0 11 3 0 8,oS 1 2 0 8 11] .ret) .skip)) (.reg true qFK))
def VT:qL:=⟨1,18,[.l 2 (some 8)],sr [oP 0 2 (.lalloc (.agg [.int .i64 0,.int .i64 0,.str [],.int .i64 0,.str [],.nils,.nils,.nils]))] (sr qFJ (.blk 0 (.loop (.blk 1 qFI))))⟩
def qDK:List qC:=[oM 0 5 0,oD1 1 6 1423 5,oP 2 3 (.lalloc (.agg [.int .i64 0,.int .i64 0,.str [],.int .i64 0,.str [],.nils,.nils,.nils])),oS 3 3 0 8 6]
def qDL:List qC:=[oM 0 12 4,oY 1 13 3 0 8,oM 2 14 0,oD1 3 15 1423 14,oP 4 16 (.bslice 8 (.agg [.int .i64 0,.int .i64 0,.str [],.int .i64 0,.str [],.nils,.nils,.nils]) 2 [(0,.t 13),(1,.t 15)]),oP 5 17 (.build (.agg [.int .i64 0,.int .i64 0,.str [],.int .i64 0,.str [],.nils,.nils,.nils]) [(0,1,.c (.int .i64 3)),(1,1,.t 12),(7,1,.t 16)]),oS 6 3 0 8 17]
def qDJ:qI:=sr [oM 0 7 0,oP 1 8 (.call 1187 [.t 7,.c (.int .i64 1),.c (.int .i64 2)]),oM 2 4 8] (.seq (sr [oM 0 9 4,oE 1 10 .eql 9 0] (.cond (.t 10) (sr [oY 0 11 3 0 8,oS 1 2 0 8 11] .ret) .skip)) (.reg true qDL))
def Y4:qL:=⟨1,18,[.l 2 (some 8)],sr [oP 0 2 (.lalloc (.agg [.int .i64 0,.int .i64 0,.str [],.int .i64 0,.str [],.nils,.nils,.nils]))] (sr qDK (.blk 0 (.loop (.blk 1 qDJ))))⟩
def qQ9:List qC:=[oM 0 5 0,oD1 1 6 1186 5,oP 2 3 (.lalloc (.agg [.int .i64 0,.int .i64 0,.str [],.int .i64 0,.str [],.nils,.nils,.nils])),oS 3 3 0 8 6]
def qRA:List qC:=[oM 0 12 4,oY 1 13 3 0 8,oM 2 14 0,oD1 3 15 1186 14,oP 4 16 (.bslice 8 (.agg [.int .i64 0,.int .i64 0,.str [],.int .i64 0,.str [],.nils,.nils,.nils]) 2 [(0,.t 13),(1,.t 15)]),oP 5 17 (.build (.agg [.int .i64 0,.int .i64 0,.str [],.int .i64 0,.str [],.nils,.nils,.nils]) [(0,1,.c (.int .i64 3)),(1,1,.t 12),(7,1,.t 16)]),oS 6 2 0 8 17]
def qQ8:qI:=sr [oM 0 7 0,oP 1 8 (.call 1187 [.t 7,.c (.int .i64 5),.c (.int .i64 6)]),oM 2 4 8] (.seq (sr [oM 0 9 4,oE 1 10 .eql 9 0] (.cond (.t 10) (sr [oY 0 11 3 0 8,oS 1 2 0 8 11] .ret) .skip)) (sr qRA .ret))
def Ut:qL:=⟨1,18,[.l 2 (some 8)],sr [oP 0 2 (.lalloc (.agg [.int .i64 0,.int .i64 0,.str [],.int .i64 0,.str [],.nils,.nils,.nils]))] (sr qQ9 qQ8)⟩
def qLB:List qC:=[oM 0 9 0,oP 1 10 (.call 871 [.t 9,.c (.int .i64 1)]),oP 2 11 (.build (.agg [.int .i64 0,.int .i64 0,.str [],.int .i64 0,.str [],.nils,.nils,.nils]) [(0,1,.c (.int .i64 4)),(2,1,.t 10)]),oP 3 3 (.lalloc (.agg [.int .i64 0,.int .i64 0,.str [],.int .i64 0,.str [],.nils,.nils,.nils])),oS 4 3 0 8 11]
def qLC:List qC:=[oM 0 14 0,oD1 1 15 359 14,oU 2 16 3,oS 3 3 3 3 15]
def qLE:List qC:=[oM 0 19 0,oD1 1 20 509 19,oP 2 21 (.bslice 8 (.agg [.int .i64 0,.int .i64 0,.str [],.int .i64 0,.str [],.nils,.nils,.nils]) 1 [(0,.t 20)]),oU 3 22 3,oS 4 3 7 1 21]
def qK9:qI:=sr [oM 0 12 0,oP 1 13 (.call 872 [.t 12,.c (.str [58])])] (sr qLC (sr [oM 0 17 0,oP 1 18 (.call 872 [.t 17,.c (.str [46])])] (sr qLE (sr [oY 0 23 3 0 8,oS 1 2 0 8 23] .ret))))
def qLF:List qC:=[oM 0 27 0,oP 1 28 (.call 871 [.t 27,.c (.int .i64 1)]),oP 2 29 (.build (.agg [.int .i64 0,.int .i64 0,.str [],.int .i64 0,.str [],.nils,.nils,.nils]) [(0,1,.c (.int .i64 7)),(2,1,.t 28)]),oP 3 4 (.lalloc (.agg [.int .i64 0,.int .i64 0,.str [],.int .i64 0,.str [],.nils,.nils,.nils])),oS 4 4 0 8 29]
def qLG:List qC:=[oU 0 32 4,oX 1 33 4 7,oM 2 34 0,oD1 3 35 509 34,oP 4 36 (.bslice 8 (.agg [.int .i64 0,.int .i64 0,.str [],.int .i64 0,.str [],.nils,.nils,.nils]) 1 [(0,.t 35)]),oP 5 37 (.app 8 (.t 33) (.t 36)),oU 6 38 4,oS 7 4 7 1 37]
def qLH:List qC:=[oU 0 41 4,oX 1 42 4 7,oM 2 43 0,oD1 3 44 509 43,oP 4 45 (.bslice 8 (.agg [.int .i64 0,.int .i64 0,.str [],.int .i64 0,.str [],.nils,.nils,.nils]) 1 [(0,.t 44)]),oP 5 46 (.app 8 (.t 42) (.t 45)),oU 6 47 4,oS 7 4 7 1 46]
def qLA:qI:=sr [oM 0 30 0,oP 1 31 (.call 872 [.t 30,.c (.str [61])])] (sr qLG (sr [oM 0 39 0,oP 1 40 (.call 872 [.t 39,.c (.str [105,110])])] (sr qLH (sr [oY 0 48 4 0 8,oS 1 2 0 8 48] .ret))))
def qLI:List qC:=[oU 0 53 5,oX 1 54 5 7,oM 2 55 0,oD1 3 56 509 55,oP 4 57 (.bslice 8 (.agg [.int .i64 0,.int .i64 0,.str [],.int .i64 0,.str [],.nils,.nils,.nils]) 1 [(0,.t 56)]),oP 5 58 (.app 8 (.t 54) (.t 57)),oU 6 59 5,oS 7 5 7 1 58]
def qLJ:List qC:=[oU 0 62 5,oX 1 63 5 7,oM 2 64 0,oD1 3 65 509 64,oP 4 66 (.bslice 8 (.agg [.int .i64 0,.int .i64 0,.str [],.int .i64 0,.str [],.nils,.nils,.nils]) 1 [(0,.t 65)]),oP 5 67 (.app 8 (.t 63) (.t 66)),oU 6 68 5,oS 7 5 7 1 67]
def qLD:List qC:=[oU 0 71 5,oX 1 72 5 7,oM 2 73 0,oD1 3 74 509 73,oP 4 75 (.bslice 8 (.agg [.int .i64 0,.int .i64 0,.str [],.int .i64 0,.str [],.nils,.nils,.nils]) 1 [(0,.t 74)]),oP 5 76 (.app 8 (.t 72) (.t 75)),oU 6 77 5,oS 7 5 7 1 76]
def qK6:qI:=sr [oM 0 60 0,oP 1 61 (.call 872 [.t 60,.c (.str [116,104,101,110])])] (sr qLJ (sr [oM 0 69 0,oP 1 70 (.call 872 [.t 69,.c (.str [101,108,115,101])])] (sr qLD (sr [oY 0 78 5 0 8,oS 1 2 0 8 78] .ret))))
def qK7:qI:=sr [oM 0 50 0,oP 1 51 (.call 737 [.t 50,.c (.str [105,102])]),oM 2 49 51] (.cond (.t 49) (sr [oP 0 52 (.build (.agg [.int .i64 0,.int .i64 0,.str [],.int .i64 0,.str [],.nils,.nils,.nils]) [(0,1,.c (.int .i64 11))]),oP 1 5 (.lalloc (.agg [.int .i64 0,.int .i64 0,.str [],.int .i64 0,.str [],.nils,.nils,.nils])),oS 2 5 0 8 52] (sr qLI qK6)) .skip)
def qK8:qI:=sr [oM 0 7 0,oP 1 8 (.call 737 [.t 7,.c (.str [92])]),oM 2 6 8] (.cond (.t 6) (sr qLB qK9) (sr [oM 0 25 0,oP 1 26 (.call 737 [.t 25,.c (.str [108,101,116])]),oM 2 24 26] (.cond (.t 24) (sr qLF qLA) qK7)))
def UM:qL:=⟨1,81,[.l 2 (some 8)],sr [oP 0 2 (.lalloc (.agg [.int .i64 0,.int .i64 0,.str [],.int .i64 0,.str [],.nils,.nils,.nils]))] (.seq (.blk 0 qK8) (sr [oM 0 79 0,oD1 1 80 873 79,oS 2 2 0 8 80] .ret))⟩
def qB2:List qC:=[oM 0 3 0,oE 1 4 .geq 3 1,oM 2 5 4,oH 3 6 5 true 0,oG 4 7 5 true (.bin .leq (.t 6) (.c (.int .i64 6))),oPf 5 8 5 7,oM 6 2 8]
def Yn:qL:=⟨1,9,[.t 2],sr [oQ 0 2 false] (sr qB2 .ret)⟩
def qDD:List qC:=[oY 0 3 1 0 3,oP 1 4 (.build (.agg [.int .i64 0,.str [],.nils]) []),oD2 2 5 73 3 4,oM 3 2 5]
def Y1:qL:=⟨1,6,[.t 2],sr [oP 0 1 (.lbox 3 (.t 0)),oQ 1 2 false] (sr qDD .ret)⟩
def qDF:List qC:=[oM 0 9 7,oA 1 10 1 5 7,oL 2 11 10,oM 3 3 9,oM 4 4 11]
def qDG:List qC:=[oM 0 12 4,oD1 1 13 889 12,oJ 2 14 13,oM 3 15 14,oH 4 16 15 false 0,oH 5 17 15 false 3,oG 6 18 15 false (.slc 1 (.t 16) none (some (.t 17)) none),oH 7 19 15 false 4,oG 8 20 15 false (.call 732 [.t 18,.t 19]),oPt 9 21 15 20]
def qDE:qI:=sr [oB 0 8 .lss 7 6] (.seq (.cond (.t 8) .skip (.exit 0)) (.seq (.blk 1 (sr qDF (sr qDG (.cond (.t 21) (sr [oQ 0 2 false] .ret) .skip)))) (.reg true [oE 0 22 .add 7 1,oM 1 7 22])))
def qDH:List qC:=[oM 0 23 0,oW 1 24 23,oE 2 25 .leq 24 3,oM 3 2 25]
def Y2:qL:=⟨1,26,[.t 2],sr [oQ 0 2 false] (.seq (sr [oM 0 5 0,oW 1 6 5,oC 2 7 0] (.blk 0 (.loop qDE))) (sr qDH .ret))⟩
def qQN:List qC:=[oU 0 8 1,oY 1 9 1 3 3,oD1 2 10 1143 9,oM 3 3 10]
def qQO:List qC:=[oU 0 11 1,oX 1 12 1 0,oE 2 13 .neq 12 10,oM 3 14 13,oG 4 15 14 true (.nop 1),oG 5 16 14 true (.lload 1 6 none),oG 6 17 14 true (.len (.t 16)),oG 7 18 14 true (.bin .gtr (.t 17) (.c (.int .i64 0))),oPf 8 19 14 18,oM 9 20 19,oG 10 21 20 false (.nop 1),oG 11 22 20 false (.lload 1 0 none),oG 12 23 20 false (.bin .neq (.t 22) (.c (.int .i64 4))),oH 13 24 20 false 23,oH 14 25 24 true 3,oG 15 26 24 true (.not (.t 25)),oG 16 27 20 false (.pick (.t 24) (.t 26) (.c (.bool false))),oPt 17 28 20 27,oM 18 29 28,oG 19 30 29 false (.nop 1),oG 20 31 29 false (.lload 1 0 none),oG 21 32 29 false (.bin .neq (.t 31) (.c (.int .i64 2))),oH 22 33 29 false 32,oG 23 34 33 true (.nop 1),oG 24 35 33 true (.lload 1 0 none),oG 25 36 33 true (.bin .neq (.t 35) (.c (.int .i64 3))),oG 26 37 29 false (.pick (.t 33) (.t 36) (.c (.bool false))),oH 27 38 29 false 37,oG 28 39 38 true (.nop 1),oG 29 40 38 true (.lload 1 1 none),oG 30 41 38 true (.bin .neq (.t 40) (.c (.int .i64 0))),oG 31 42 29 false (.pick (.t 38) (.t 41) (.c (.bool false))),oPt 32 43 29 42]
def qQU:List qC:=[oU 0 44 1,oX 1 45 1 2,oP 2 46 (.sop .eql (.t 45) (.c (.str []))),oU 3 47 1,oX 4 48 1 2,oU 6 50 1,oX 7 51 1 2,oD1 5 49 889 48,oD1 8 52 717 51,oM 9 4 46,oM 10 5 49,oM 11 6 52]
def qQV:List qC:=[oU 0 53 1,oX 1 54 1 7,oW 2 55 54,oM 3 7 55]
def qQW:List qC:=[oM 0 60 5,oM 1 61 60,oH 2 62 61 true 7,oG 3 63 61 true (.bin .eql (.t 62) (.c (.int .i64 0))),oPf 4 64 61 63,oM 5 2 64]
def qQX:List qC:=[oM 0 67 4,oM 1 68 67,oH 2 69 68 true 7,oG 3 70 68 true (.bin .eql (.t 69) (.c (.int .i64 0))),oPf 4 71 68 70,oM 5 72 71,oG 6 73 72 true (.nop 1),oG 7 74 72 true (.lload 1 1 none),oG 8 75 72 true (.call 1051 [.t 74]),oPf 9 76 72 75,oM 10 2 76]
def qQY:List qC:=[oM 0 79 4,oM 1 80 79,oH 2 81 80 true 7,oG 3 82 80 true (.bin .eql (.t 81) (.c (.int .i64 2))),oPf 4 83 80 82,oM 5 84 83,oG 6 85 84 true (.nop 1),oG 7 86 84 true (.lload 1 1 none),oG 8 87 84 true (.call 1050 [.t 86]),oPf 9 88 84 87,oM 10 2 88]
def qQZ:List qC:=[oM 0 91 5,oM 1 92 91,oH 2 93 92 true 7,oG 3 94 92 true (.bin .eql (.t 93) (.c (.int .i64 1))),oPf 4 95 92 94,oM 5 96 95,oG 6 97 96 true (.nop 1),oG 7 98 96 true (.lload 1 3 (some 3)),oG 8 99 96 true (.call 74 [.t 98]),oPf 9 100 96 99,oM 10 2 100]
def qQ0:List qC:=[oM 0 103 4,oM 1 104 103,oH 2 105 104 true 7,oG 3 106 104 true (.bin .eql (.t 105) (.c (.int .i64 2))),oPf 4 107 104 106,oM 5 2 107]
def qQ1:List qC:=[oM 0 110 4,oM 1 111 110,oH 2 112 111 true 7,oG 3 113 111 true (.bin .eql (.t 112) (.c (.int .i64 1))),oPf 4 114 111 113,oM 5 2 114]
def qQP:List qC:=[oM 0 117 5,oM 1 118 117,oH 2 119 118 true 7,oG 3 120 118 true (.bin .eql (.t 119) (.c (.int .i64 2))),oPf 4 121 118 120,oM 5 2 121]
def qQQ:List qC:=[oM 0 124 6,oM 1 125 124,oH 2 126 125 true 7,oG 3 127 125 true (.bin .leq (.t 126) (.c (.int .i64 3))),oPf 4 128 125 127,oM 5 2 128]
def qQR:List qC:=[oM 0 131 4,oM 1 132 131,oH 2 133 132 true 7,oG 3 134 132 true (.bin .geq (.t 133) (.c (.int .i64 2))),oPf 4 135 132 134,oM 5 136 135,oH 6 137 136 true 7,oG 7 138 136 true (.bin .leq (.t 137) (.c (.int .i64 5))),oPf 8 139 136 138,oM 9 2 139]
def qQS:List qC:=[oM 0 142 6,oM 1 143 142,oH 2 144 143 true 7,oG 3 145 143 true (.bin .eql (.t 144) (.c (.int .i64 1))),oPf 4 146 143 145,oM 5 147 146,oG 6 148 147 true (.nop 1),oG 7 149 147 true (.lload 1 6 none),oG 8 150 147 true (.call 1144 [.t 149]),oPf 9 151 147 150,oM 10 2 151]
def qQT:List qC:=[oM 0 154 4,oM 1 155 154,oH 2 156 155 true 7,oG 3 157 155 true (.bin .eql (.t 156) (.c (.int .i64 3))),oPf 4 158 155 157,oM 5 2 158]
def qQI:qI:=.cond (.t 129) (sr qQR .ret) (sr [oE 0 141 .eql 57 10,oM 1 140 141] (.cond (.t 140) (sr qQS .ret) (sr [oE 0 153 .eql 57 11,oM 1 152 153] (.cond (.t 152) (sr qQT .ret) .skip))))
def qQJ:qI:=sr [oE 0 116 .eql 57 7,oM 1 115 116] (.cond (.t 115) (sr qQP .ret) (sr [oE 0 123 .eql 57 8,oM 1 122 123] (.cond (.t 122) (sr qQQ .ret) (sr [oE 0 130 .eql 57 9,oM 1 129 130] qQI))))
def qQK:qI:=.cond (.t 89) (sr qQZ .ret) (sr [oE 0 102 .eql 57 5,oM 1 101 102] (.cond (.t 101) (sr qQ0 .ret) (sr [oE 0 109 .eql 57 6,oM 1 108 109] (.cond (.t 108) (sr qQ1 .ret) qQJ))))
def qQL:qI:=sr [oE 0 66 .eql 57 2,oM 1 65 66] (.cond (.t 65) (sr qQX .ret) (sr [oE 0 78 .eql 57 3,oM 1 77 78] (.cond (.t 77) (sr qQY .ret) (sr [oE 0 90 .eql 57 4,oM 1 89 90] qQK))))
def qQM:qI:=.seq (sr [oU 0 56 1,oX 1 57 1 0] (.blk 0 (sr [oE 0 59 .eql 57 1,oM 1 58 59] (.cond (.t 58) (sr qQW .ret) qQL)))) (sr [oQ 0 2 false] .ret)
def Uq:qL:=⟨1,159,[.t 2],sr [oP 0 1 (.lbox 8 (.t 0)),oQ 1 2 false] (sr qQN (.seq (sr qQO (.cond (.t 43) (sr [oQ 0 2 false] .ret) .skip)) (sr qQU (sr qQV qQM))))⟩
def qKN:List qC:=[oP 0 1 (.lbox 8 (.t 0)),oC 1 2 0,oC 2 3 0,oQ 3 4 false]
def qKO:List qC:=[oU 0 13 1,oX 1 14 1 7,oW 2 15 14,oC 3 16 0]
def qKP:List qC:=[oM 0 18 16,oA 1 19 8 14 16,oP 2 20 (.load (some 8) (.t 19)),oP 3 6 (.lalloc (.agg [.int .i64 0,.int .i64 0,.str [],.int .i64 0,.str [],.nils,.nils,.nils])),oM 4 5 18,oS 5 6 0 8 20]
def qKQ:List qC:=[oU 0 21 6,oX 1 22 6 0,oE 2 23 .eql 22 10,oU 3 24 1,oX 4 25 1 0,oE 5 26 .eql 25 9,oM 6 27 26,oH 7 28 27 true 5,oG 8 29 27 true (.bin .gtr (.t 28) (.c (.int .i64 0))),oPf 9 30 27 29,oP 10 31 (.beq true (.t 23) (.t 30))]
def qKR:List qC:=[oY 0 33 6 0 8,oD1 1 34 445 33,oM 2 32 34,oV 3 35 32 0,oV 4 36 32 1,oV 5 37 32 2,oM 6 7 35,oM 7 8 36,oM 8 9 37]
def qKS:List qC:=[oM 0 40 2,oM 1 41 7,oE 2 42 .add 41 1,oP 3 43 (.max (.t 40) (.t 42)),oM 4 44 3,oM 5 45 8,oB 6 46 .add 44 45,oM 7 2 43,oM 8 3 46]
def qKK:qI:=sr qKR (.seq (sr [oM 0 38 9,oJ 1 39 38] (.cond (.t 39) (sr [oC 0 2 0,oC 1 3 0,oQ 2 4 false] .ret) .skip)) (.reg true qKS))
def qKL:qI:=.seq (.blk 1 (sr qKP (.seq (sr qKQ (.cond (.t 31) (sr [oC 0 2 0,oC 1 3 0,oQ 2 4 false] .ret) .skip)) qKK))) (.reg true [oE 0 47 .add 16 1,oM 1 16 47])
def qKT:List qC:=[oM 0 48 2,oM 1 49 3,oM 2 2 48,oM 3 3 49,oQ 4 4 true]
def qKM:qI:=sr [oC 0 2 1,oC 1 3 1] (.seq (sr qKO (.blk 0 (.loop (sr [oB 0 17 .lss 16 15] (.seq (.cond (.t 17) .skip (.exit 0)) qKL))))) (sr qKT .ret))
def UL:qL:=⟨1,50,[.t 2,.t 3,.t 4],sr qKN (.seq (sr [oY 0 10 1 0 8,oD1 1 11 807 10,oJ 2 12 11] (.cond (.t 12) (sr [oC 0 2 0,oC 1 3 0,oQ 2 4 false] .ret) .skip)) qKM)⟩
def qF6:List qC:=[oY 0 7 1 0 8,oD1 1 8 445 7,oM 2 6 8,oV 3 9 6 0,oV 4 10 6 1,oV 5 11 6 2,oM 6 3 9,oM 7 4 10,oM 8 5 11]
def qF7:List qC:=[oM 0 12 5,oM 1 13 12,oG 2 14 13 true (.nop 1),oG 3 15 13 true (.lload 1 0 none),oG 4 16 13 true (.bin .neq (.t 15) (.c (.int .i64 10))),oPf 5 17 13 16,oM 6 18 17,oH 7 19 18 true 3,oG 8 20 18 true (.bin .leq (.t 19) (.c (.int .i64 24))),oPf 9 21 18 20,oM 10 22 21,oH 11 23 22 true 4,oG 12 24 22 true (.bin .leq (.t 23) (.c (.int .i64 160))),oPf 13 25 22 24,oM 14 2 25]
def VZ:qL:=⟨1,26,[.t 2],sr [oP 0 1 (.lbox 8 (.t 0)),oQ 1 2 false] (sr qF6 (sr qF7 .ret))⟩
def qA4:List qC:=[oM 0 6 0,oE 1 7 .sub 6 1,oM 2 8 0,oP 3 9 (.sslc (.c (.str [43,45,42,47,60,61])) (some (.t 7)) (some (.t 8))),oM 4 2 9]
def YZ:qL:=⟨1,10,[.t 2],sr [oP 0 2 (.mov (.c (.str [])))] (.seq (sr [oM 0 3 0,oD1 1 4 1050 3,oJ 2 5 4] (.cond (.t 5) (sr [oP 0 2 (.mov (.c (.str [])))] .ret) .skip)) (sr qA4 .ret))⟩
def qE2:List qC:=[oM 0 8 3,oD1 1 9 1002 8,oM 2 10 0,oP 3 11 (.sop .eql (.t 9) (.t 10))]
def qE1:qI:=.seq (sr [oM 0 4 3,oE 1 5 .leq 4 6] (.cond (.t 5) .skip (.exit 0))) (.seq (.blk 1 (sr qE2 (.cond (.t 11) (sr [oM 0 12 3,oM 1 2 12] .ret) .skip))) (.reg true [oM 0 6 3,oE 1 7 .add 6 1,oM 2 3 7]))
def VN:qL:=⟨1,13,[.t 2],sr [oC 0 2 0] (.seq (sr [oC 0 3 1] (.blk 0 (.loop qE1))) (sr [oC 0 2 0] .ret))⟩
def qDW:qI:=sr [oA 0 11 1 7 9,oL 1 12 11,oM 2 6 12] (sr [oM 0 13 0,oM 1 14 6,oD2 2 15 721 13 14] (.cond (.t 15) (sr [oM 0 16 6,oD1 1 17 1383 16,oM 2 4 17] .ret) .skip))
def qDX:qI:=sr [oM 0 7 1,oW 1 8 7,oC 2 9 0] (.blk 0 (.loop (sr [oB 0 10 .lss 9 8] (.seq (.cond (.t 10) .skip (.exit 0)) (.seq (.blk 1 qDW) (.reg true [oE 0 18 .add 9 1,oM 1 9 18]))))))
def Y7:qL:=⟨2,19,[.t 4],sr [oC 0 4 0] (.seq qDX (sr [oC 0 4 0] .ret))⟩
def qDY:List qC:=[oM 0 7 0,oY 1 8 4 0 8,oY 2 9 5 0 8,oP 3 10 (.bslice 8 (.agg [.int .i64 0,.int .i64 0,.str [],.int .i64 0,.str [],.nils,.nils,.nils]) 2 [(0,.t 8),(1,.t 9)]),oP 4 11 (.build (.agg [.int .i64 0,.int .i64 0,.str [],.int .i64 0,.str [],.nils,.nils,.nils]) [(0,1,.c (.int .i64 3)),(1,1,.t 7),(7,1,.t 10)]),oS 5 6 0 8 11]
def Y8:qL:=⟨3,12,[.l 6 (some 8)],sr [oP 0 4 (.lbox 8 (.t 1)),oP 1 5 (.lbox 8 (.t 2)),oP 2 6 (.lalloc (.agg [.int .i64 0,.int .i64 0,.str [],.int .i64 0,.str [],.nils,.nils,.nils]))] (sr qDY .ret)⟩
def qER:qI:=.seq (.blk 0 (.loop (.seq (sr [oM 0 9 0,oP 1 10 (.call 721 [.t 9,.c (.str [44])])] (.cond (.t 10) .skip (.exit 0))) (.blk 1 (.reg true [oM 0 11 1,oP 1 12 (.callv (.t 11) [])]))))) (.reg true [oM 0 13 0,oP 1 14 (.call 876 [.t 13,.c (.str [93])])])
def Qh:qL:=⟨2,15,[],.seq (sr [oM 0 4 0,oP 1 5 (.call 721 [.t 4,.c (.str [91])]),oJ 2 6 5] (.cond (.t 6) .ret .skip)) (sr [oM 0 7 1,oP 1 8 (.callv (.t 7) [])] qER)⟩
def qHX:List qC:=[oM 0 8 0,oD1 1 9 1101 8,oP 2 10 (.fld 1 none (.t 9)),oM 3 5 10]
def qHY:List qC:=[oM 0 11 0,oD1 1 12 1101 11,oP 2 13 (.fld 0 none (.t 12)),oE 3 14 .neq 13 4,oM 4 15 14,oH 5 16 15 false 1,oG 6 17 15 false (.not (.t 16)),oH 7 18 15 false 17,oH 8 19 18 true 5,oG 9 20 18 true (.sop .eql (.t 19) (.c (.str [50,49,52,55,52,56,51,54,52,56]))),oG 10 21 15 false (.pick (.t 18) (.t 20) (.c (.bool false))),oPt 11 22 15 21]
def qHZ:List qC:=[oM 0 25 0,oK 1 26 25,oF 2 27 1 26,oL 3 28 27,oE 4 29 .add 28 1,oK 5 30 25,oF 6 31 1 30,oT 7 1 31 29]
def qH0:List qC:=[oM 0 32 1,oM 1 33 32,oH 2 34 33 true 5,oG 3 35 33 true (.sop .neq (.t 34) (.c (.str [48]))),oPf 4 36 33 35]
def qH1:List qC:=[oM 0 40 5,oD1 1 41 1091 40,oM 2 39 41,oV 3 42 39 0,oV 4 43 39 1,oM 5 6 42,oM 6 7 43]
def qHW:qI:=.seq (sr qH0 (.cond (.t 36) (.reg true [oM 0 37 5,oP 1 38 (.sop .add (.c (.str [45])) (.t 37)),oM 2 5 38]) .skip)) (sr qH1 (sr [oM 0 44 6,oP 1 45 (.build (.agg [.int .i64 0,.int .i64 0,.str [],.int .i64 0,.str [],.nils,.nils,.nils]) [(0,1,.c (.int .i64 2)),(1,1,.t 44)]),oS 2 4 0 8 45] .ret))
def Vv:qL:=⟨2,46,[.l 4 (some 8)],sr [oP 0 4 (.lalloc (.agg [.int .i64 0,.int .i64 0,.str [],.int .i64 0,.str [],.nils,.nils,.nils]))] (sr qHX (.seq (sr qHY (.cond (.t 22) (.reg true [oM 0 23 0,oD1 1 24 719 23]) .skip)) (sr qHZ qHW)))⟩
def qHQ:qI:=sr [oM 0 4 0,oP 1 5 (.call 721 [.t 4,.c (.str [45])])] (.cond (.t 5) (.reg true [oM 0 6 0,oP 1 7 (.call 1556 [.t 6,.c (.bool true)]),oS 2 3 0 8 7]) (.reg true [oM 0 8 0,oD1 1 9 511 8,oS 2 3 0 8 9]))
def Vs:qL:=⟨1,13,[.l 2 (some 8)],sr [oP 0 2 (.lalloc (.agg [.int .i64 0,.int .i64 0,.str [],.int .i64 0,.str [],.nils,.nils,.nils]))] (sr [oP 0 3 (.lalloc (.agg [.int .i64 0,.int .i64 0,.str [],.int .i64 0,.str [],.nils,.nils,.nils]))] (.seq qHQ (sr [oM 0 10 0,oP 1 11 (.call 876 [.t 10,.c (.str [41])])] (sr [oY 0 12 3 0 8,oS 1 2 0 8 12] .ret))))⟩
def qIB:List qC:=[oF 0 2 6 0,oL 1 3 2,oL 2 4 1,⟨3,some 5,none,.call 875 [.t 4,.c (.int .i64 1)],[⟨1,some 3,none,.load none (.t 2),[]⟩]⟩,oP 4 6 (.bslice 1 (.str []) 1 [(0,.t 5)]),oP 5 7 (.app 1 (.t 3) (.t 6)),oF 6 8 6 0,oT 7 1 8 7]
def Vy:qL:=⟨2,9,[],.reg true qIB⟩
def qH9:List qC:=[oL 0 4 1,oP 1 5 (.call 875 [.t 4,.c (.int .i64 2)]),oP 2 6 (.build (.agg [.int .i64 0,.int .i64 0,.str [],.int .i64 0,.str [],.nils,.nils,.nils]) [(0,1,.c (.int .i64 10)),(2,1,.t 5)]),oP 3 3 (.halloc 8 (.agg [.int .i64 0,.int .i64 0,.str [],.int .i64 0,.str [],.nils,.nils,.nils])),oT 4 8 3 6]
def qIA:List qC:=[oL 0 12 1,oD1 1 13 511 12,oP 2 14 (.bslice 8 (.agg [.int .i64 0,.int .i64 0,.str [],.int .i64 0,.str [],.nils,.nils,.nils]) 1 [(0,.t 13)]),oF 3 15 7 3,oT 4 1 15 14]
def qH8:qI:=sr [oL 0 7 1,oP 1 8 (.mkfn 1561 [.t 3,.t 1]),oD2 2 9 1327 7 8] (sr [oL 0 10 1,oP 1 11 (.call 876 [.t 10,.c (.str [45,62])])] (sr qIA (sr [oP 0 16 (.load (some 8) (.t 3)),oS 1 2 0 8 16] .ret)))
def Vx:qL:=⟨1,17,[.l 2 (some 8)],sr [oP 0 1 (.hbox 1 (.t 0)),oP 1 2 (.lalloc (.agg [.int .i64 0,.int .i64 0,.str [],.int .i64 0,.str [],.nils,.nils,.nils]))] (sr qH9 qH8)⟩
def qHS:List qC:=[oM 0 4 0,oD1 1 5 511 4,oP 2 6 (.bslice 8 (.agg [.int .i64 0,.int .i64 0,.str [],.int .i64 0,.str [],.nils,.nils,.nils]) 1 [(0,.t 5)]),oP 3 7 (.build (.agg [.int .i64 0,.int .i64 0,.str [],.int .i64 0,.str [],.nils,.nils,.nils]) [(0,1,.c (.int .i64 9)),(7,1,.t 6)]),oP 4 3 (.lalloc (.agg [.int .i64 0,.int .i64 0,.str [],.int .i64 0,.str [],.nils,.nils,.nils])),oS 5 3 0 8 7]
def qHT:List qC:=[oU 0 10 3,oX 1 11 3 7,oM 2 12 0,oD1 3 13 1560 12,oP 4 14 (.bslice 8 (.agg [.int .i64 0,.int .i64 0,.str [],.int .i64 0,.str [],.nils,.nils,.nils]) 1 [(0,.t 13)]),oP 5 15 (.app 8 (.t 11) (.t 14)),oU 6 16 3,oS 7 3 7 1 15]
def qHU:List qC:=[oU 0 19 3,oX 1 20 3 7,oM 2 21 0,oD1 3 22 1560 21,oP 4 23 (.bslice 8 (.agg [.int .i64 0,.int .i64 0,.str [],.int .i64 0,.str [],.nils,.nils,.nils]) 1 [(0,.t 22)]),oP 5 24 (.app 8 (.t 20) (.t 23)),oU 6 25 3,oS 7 3 7 1 24]
def qHR:qI:=.seq (.blk 0 (.loop (.seq (sr [oM 0 17 0,oP 1 18 (.call 721 [.t 17,.c (.str [59])])] (.cond (.t 18) .skip (.exit 0))) (.blk 1 (.reg true qHU))))) (sr [oM 0 26 0,oP 1 27 (.call 876 [.t 26,.c (.str [125])])] (sr [oY 0 28 3 0 8,oS 1 2 0 8 28] .ret))
def Vt:qL:=⟨1,29,[.l 2 (some 8)],sr [oP 0 2 (.lalloc (.agg [.int .i64 0,.int .i64 0,.str [],.int .i64 0,.str [],.nils,.nils,.nils]))] (sr qHS (sr [oM 0 8 0,oP 1 9 (.call 876 [.t 8,.c (.str [123])])] (sr qHT qHR)))⟩
def qHV:List qC:=[oF 0 2 7 0,oL 1 3 2,oL 2 4 1,oW 4 6 3,oP 5 7 (.mov (.c (.lst 8 [.agg [.int .i64 0,.int .i64 0,.str [],.int .i64 0,.str [],.nils,.nils,.nils]] false))),⟨3,some 5,none,.call 511 [.t 4],[⟨1,some 3,none,.load none (.t 2),[]⟩]⟩,oP 6 8 (.app 8 (.t 3) (.t 7)),oA 7 9 8 8 6,oF 9 10 7 0,oT 8 8 9 5,oN 10 (.store2 1 (.t 10) (.t 8) (.t 9))]
def Vu:qL:=⟨2,11,[],.reg true qHV⟩
def qG6:List qC:=[oL 0 7 1,oD1 1 8 1539 7,oP 2 9 (.bslice 8 (.agg [.int .i64 0,.int .i64 0,.str [],.int .i64 0,.str [],.nils,.nils,.nils]) 1 [(0,.t 8)]),oP 3 10 (.build (.agg [.int .i64 0,.int .i64 0,.str [],.int .i64 0,.str [],.nils,.nils,.nils]) [(0,1,.c (.int .i64 6)),(7,1,.t 9)]),oS 4 2 0 8 10]
def qG2:qI:=.cond (.t 11) (sr [oL 0 14 1,oD1 1 15 1553 14,oS 2 2 0 8 15] .ret) (sr [oL 0 17 1,oP 1 18 (.call 721 [.t 17,.c (.str [109,97,116,99,104])]),oM 2 16 18] (.cond (.t 16) (sr [oL 0 19 1,oD1 1 20 1554 19,oS 2 2 0 8 20] .ret) .skip))
def qG3:qI:=sr [oL 0 5 1,oP 1 6 (.call 721 [.t 5,.c (.str [33])]),oM 2 4 6] (.cond (.t 4) (sr qG6 .ret) (sr [oL 0 12 1,oP 1 13 (.call 721 [.t 12,.c (.str [40])]),oM 2 11 13] qG2))
def qG7:List qC:=[oL 0 26 1,oP 1 27 (.call 875 [.t 26,.c (.int .i64 1)]),oP 2 28 (.build (.agg [.int .i64 0,.int .i64 0,.str [],.int .i64 0,.str [],.nils,.nils,.nils]) [(0,1,.c (.int .i64 1)),(2,1,.t 27)]),oS 3 2 0 8 28]
def qG8:List qC:=[oL 0 31 1,oP 1 32 (.call 875 [.t 31,.c (.int .i64 2)]),oP 2 33 (.build (.agg [.int .i64 0,.int .i64 0,.str [],.int .i64 0,.str [],.nils,.nils,.nils]) [(0,1,.c (.int .i64 8)),(2,1,.t 32)]),oP 3 3 (.halloc 8 (.agg [.int .i64 0,.int .i64 0,.str [],.int .i64 0,.str [],.nils,.nils,.nils])),oT 4 8 3 33]
def qG4:qI:=sr [oE 0 30 .eql 23 2,oM 1 29 30] (.cond (.t 29) (sr qG8 (sr [oL 0 34 1,oP 1 35 (.mkfn 1555 [.t 3,.t 1]),oD2 2 36 1327 34 35] (sr [oP 0 37 (.load (some 8) (.t 3)),oS 1 2 0 8 37] .ret))) .skip)
def qG5:qI:=.seq (sr [oL 0 21 1,oD1 1 22 1101 21,oP 2 23 (.fld 0 none (.t 22))] (.blk 1 (sr [oE 0 25 .eql 23 1,oM 1 24 25] (.cond (.t 24) (sr qG7 .ret) qG4)))) (sr [oL 0 38 1,oP 1 39 (.call 1556 [.t 38,.c (.bool false)]),oS 2 2 0 8 39] .ret)
def Vn:qL:=⟨1,40,[.l 2 (some 8)],sr [oP 0 1 (.hbox 1 (.t 0)),oP 1 2 (.lalloc (.agg [.int .i64 0,.int .i64 0,.str [],.int .i64 0,.str [],.nils,.nils,.nils]))] (.seq (.blk 0 qG3) qG5)⟩
def qG9:List qC:=[oM 0 4 0,oD1 1 5 1101 4,oP 2 3 (.lalloc (.agg [.int .i64 0,.str [],.int .i64 0])),oS 3 3 0 3 5]
def qHA:List qC:=[oU 0 6 3,oX 1 7 3 0,oE 2 8 .eql 7 1,oM 3 9 8,oG 4 10 9 false (.nop 3),oG 5 11 9 false (.lload 3 0 none),oG 6 12 9 false (.bin .eql (.t 11) (.c (.int .i64 2))),oPt 7 13 9 12,oM 8 14 13,oG 9 15 14 false (.nop 3),oG 10 16 14 false (.lload 3 0 none),oG 11 17 14 false (.bin .eql (.t 16) (.c (.int .i64 4))),oPt 12 18 14 17,oM 13 19 18,oH 14 20 19 false 0,oG 15 21 19 false (.call 1103 [.t 20,.c (.str [33])]),oPt 16 22 19 21,oM 17 23 22,oH 18 24 23 false 0,oG 19 25 23 false (.call 1103 [.t 24,.c (.str [40])]),oPt 20 26 23 25,oM 21 27 26,oH 22 28 27 false 0,oG 23 29 27 false (.call 1103 [.t 28,.c (.str [109,97,116,99,104])]),oPt 24 30 27 29,oM 25 2 30]
def Vo:qL:=⟨1,31,[.t 2],sr [oQ 0 2 false] (sr qG9 (sr qHA .ret))⟩
def qGP:List qC:=[oM 0 4 0,oD1 1 5 1539 4,oP 2 3 (.lalloc (.agg [.int .i64 0,.int .i64 0,.str [],.int .i64 0,.str [],.nils,.nils,.nils])),oS 3 3 0 8 5]
def qGQ:List qC:=[oY 0 8 3 0 8,oM 1 9 0,oD1 2 10 1539 9,oP 3 11 (.bslice 8 (.agg [.int .i64 0,.int .i64 0,.str [],.int .i64 0,.str [],.nils,.nils,.nils]) 2 [(0,.t 8),(1,.t 10)]),oP 4 12 (.build (.agg [.int .i64 0,.int .i64 0,.str [],.int .i64 0,.str [],.nils,.nils,.nils]) [(0,1,.c (.int .i64 5)),(7,1,.t 11)]),oS 5 3 0 8 12]
def qGO:qI:=.seq (.blk 0 (.loop (.seq (sr [oM 0 6 0,oD1 1 7 1540 6] (.cond (.t 7) .skip (.exit 0))) (.blk 1 (.reg true qGQ))))) (sr [oY 0 13 3 0 8,oS 1 2 0 8 13] .ret)
def Vj:qL:=⟨1,14,[.l 2 (some 8)],sr [oP 0 2 (.lalloc (.agg [.int .i64 0,.int .i64 0,.str [],.int .i64 0,.str [],.nils,.nils,.nils]))] (sr qGP qGO)⟩
def qFP:List qC:=[oM 0 5 0,oD1 1 6 1511 5,oP 2 3 (.lalloc (.agg [.int .i64 0,.int .i64 0,.str [],.int .i64 0,.str [],.nils,.nils,.nils])),oS 3 3 0 8 6]
def qFQ:List qC:=[oM 0 7 0,oP 1 8 (.bslice 1 (.str []) 2 [(0,.c (.str [42])),(1,.c (.str [47]))]),oD2 2 9 1189 7 8,oM 3 4 9]
def qFR:List qC:=[oM 0 15 4,oY 1 16 3 0 8,oM 2 17 0,oD1 3 18 1511 17,oP 4 19 (.call 1190 [.t 15,.t 16,.t 18]),oS 5 3 0 8 19]
def qFS:List qC:=[oM 0 12 0,oP 1 13 (.bslice 1 (.str []) 2 [(0,.c (.str [42])),(1,.c (.str [47]))]),oD2 2 14 1189 12 13,oM 3 4 14]
def qFO:qI:=.seq (sr qFQ (.blk 0 (.loop (.seq (sr [oM 0 10 4,oE 1 11 .neq 10 0] (.cond (.t 11) .skip (.exit 0))) (.seq (.blk 1 (.reg true qFR)) (.reg true qFS)))))) (sr [oY 0 20 3 0 8,oS 1 2 0 8 20] .ret)
def VV:qL:=⟨1,21,[.l 2 (some 8)],sr [oP 0 2 (.lalloc (.agg [.int .i64 0,.int .i64 0,.str [],.int .i64 0,.str [],.nils,.nils,.nils]))] (sr qFP qFO)⟩
def qDS:List qC:=[oM 0 5 0,oD1 1 6 1425 5,oP 2 3 (.lalloc (.agg [.int .i64 0,.int .i64 0,.str [],.int .i64 0,.str [],.nils,.nils,.nils])),oS 3 3 0 8 6]
def qDT:List qC:=[oM 0 7 0,oP 1 8 (.bslice 1 (.str []) 2 [(0,.c (.str [43])),(1,.c (.str [45]))]),oD2 2 9 1189 7 8,oM 3 4 9]
def qDU:List qC:=[oM 0 15 4,oY 1 16 3 0 8,oM 2 17 0,oD1 3 18 1425 17,oP 4 19 (.call 1190 [.t 15,.t 16,.t 18]),oS 5 3 0 8 19]
def qDV:List qC:=[oM 0 12 0,oP 1 13 (.bslice 1 (.str []) 2 [(0,.c (.str [43])),(1,.c (.str [45]))]),oD2 2 14 1189 12 13,oM 3 4 14]
def qDR:qI:=.seq (sr qDT (.blk 0 (.loop (.seq (sr [oM 0 10 4,oE 1 11 .neq 10 0] (.cond (.t 11) .skip (.exit 0))) (.seq (.blk 1 (.reg true qDU)) (.reg true qDV)))))) (sr [oY 0 20 3 0 8,oS 1 2 0 8 20] .ret)
def Y6:qL:=⟨1,21,[.l 2 (some 8)],sr [oP 0 2 (.lalloc (.agg [.int .i64 0,.int .i64 0,.str [],.int .i64 0,.str [],.nils,.nils,.nils]))] (sr qDS qDR)⟩
def qRH:List qC:=[oM 0 5 0,oD1 1 6 1188 5,oP 2 3 (.lalloc (.agg [.int .i64 0,.int .i64 0,.str [],.int .i64 0,.str [],.nils,.nils,.nils])),oS 3 3 0 8 6]
def qRI:List qC:=[oM 0 7 0,oP 1 8 (.bslice 1 (.str []) 2 [(0,.c (.str [60])),(1,.c (.str [61]))]),oD2 2 9 1189 7 8,oM 3 4 9]
def qRJ:List qC:=[oM 0 12 4,oY 1 13 3 0 8,oM 2 14 0,oD1 3 15 1188 14,oP 4 16 (.call 1190 [.t 12,.t 13,.t 15]),oS 5 2 0 8 16]
def qRG:qI:=sr qRH (.seq (sr qRI (sr [oM 0 10 4,oE 1 11 .neq 10 0] (.cond (.t 11) (sr qRJ .ret) .skip))) (sr [oY 0 17 3 0 8,oS 1 2 0 8 17] .ret))
def Uw:qL:=⟨1,18,[.l 2 (some 8)],sr [oP 0 2 (.lalloc (.agg [.int .i64 0,.int .i64 0,.str [],.int .i64 0,.str [],.nils,.nils,.nils]))] qRG⟩
def qLP:List qC:=[oM 0 11 0,oP 1 12 (.call 875 [.t 11,.c (.int .i64 1)]),oP 2 13 (.build (.agg [.int .i64 0,.int .i64 0,.str [],.int .i64 0,.str [],.nils,.nils,.nils]) [(0,1,.c (.int .i64 4)),(2,1,.t 12)]),oP 3 3 (.lalloc (.agg [.int .i64 0,.int .i64 0,.str [],.int .i64 0,.str [],.nils,.nils,.nils])),oS 4 3 0 8 13]
def qLQ:List qC:=[oM 0 16 0,oD1 1 17 335 16,oU 2 18 3,oS 3 3 3 3 17]
def qLS:List qC:=[oM 0 21 0,oD1 1 22 511 21,oP 2 23 (.bslice 8 (.agg [.int .i64 0,.int .i64 0,.str [],.int .i64 0,.str [],.nils,.nils,.nils]) 1 [(0,.t 22)]),oU 3 24 3,oS 4 3 7 1 23]
def qLN:qI:=sr [oM 0 14 0,oP 1 15 (.call 876 [.t 14,.c (.str [58])])] (sr qLQ (sr [oM 0 19 0,oP 1 20 (.call 876 [.t 19,.c (.str [46])])] (sr qLS (sr [oY 0 25 3 0 8,oS 1 2 0 8 25] .ret))))
def qLT:List qC:=[oM 0 29 0,oP 1 30 (.call 875 [.t 29,.c (.int .i64 1)]),oP 2 31 (.build (.agg [.int .i64 0,.int .i64 0,.str [],.int .i64 0,.str [],.nils,.nils,.nils]) [(0,1,.c (.int .i64 7)),(2,1,.t 30)]),oP 3 4 (.lalloc (.agg [.int .i64 0,.int .i64 0,.str [],.int .i64 0,.str [],.nils,.nils,.nils])),oS 4 4 0 8 31]
def qLU:List qC:=[oM 0 34 0,oD1 1 35 511 34,oP 2 5 (.lalloc (.agg [.int .i64 0,.int .i64 0,.str [],.int .i64 0,.str [],.nils,.nils,.nils])),oS 3 5 0 8 35]
def qLV:List qC:=[oY 0 38 5 0 8,oM 1 39 0,oD1 2 40 511 39,oP 3 41 (.bslice 8 (.agg [.int .i64 0,.int .i64 0,.str [],.int .i64 0,.str [],.nils,.nils,.nils]) 2 [(0,.t 38),(1,.t 40)]),oU 4 42 4,oS 5 4 7 1 41]
def qLO:qI:=sr [oM 0 32 0,oP 1 33 (.call 876 [.t 32,.c (.str [61])])] (sr qLU (sr [oM 0 36 0,oP 1 37 (.call 876 [.t 36,.c (.str [105,110])])] (sr qLV (sr [oY 0 43 4 0 8,oS 1 2 0 8 43] .ret))))
def qLW:List qC:=[oM 0 47 0,oD1 1 48 511 47,oP 2 6 (.lalloc (.agg [.int .i64 0,.int .i64 0,.str [],.int .i64 0,.str [],.nils,.nils,.nils])),oS 3 6 0 8 48]
def qLX:List qC:=[oM 0 51 0,oD1 1 52 511 51,oP 2 7 (.lalloc (.agg [.int .i64 0,.int .i64 0,.str [],.int .i64 0,.str [],.nils,.nils,.nils])),oS 3 7 0 8 52]
def qLR:List qC:=[oY 0 55 6 0 8,oY 1 56 7 0 8,oM 2 57 0,oD1 3 58 511 57,oP 4 59 (.bslice 8 (.agg [.int .i64 0,.int .i64 0,.str [],.int .i64 0,.str [],.nils,.nils,.nils]) 3 [(0,.t 55),(1,.t 56),(2,.t 58)]),oP 5 60 (.build (.agg [.int .i64 0,.int .i64 0,.str [],.int .i64 0,.str [],.nils,.nils,.nils]) [(0,1,.c (.int .i64 11)),(7,1,.t 59)]),oS 6 2 0 8 60]
def qLK:qI:=sr qLW (sr [oM 0 49 0,oP 1 50 (.call 876 [.t 49,.c (.str [116,104,101,110])])] (sr qLX (sr [oM 0 53 0,oP 1 54 (.call 876 [.t 53,.c (.str [101,108,115,101])])] (sr qLR .ret))))
def qLL:qI:=sr [oM 0 27 0,oP 1 28 (.call 721 [.t 27,.c (.str [108,101,116])]),oM 2 26 28] (.cond (.t 26) (sr qLT qLO) (sr [oM 0 45 0,oP 1 46 (.call 721 [.t 45,.c (.str [105,102])]),oM 2 44 46] (.cond (.t 44) qLK .skip)))
def qLM:qI:=.seq (.blk 0 (sr [oM 0 9 0,oP 1 10 (.call 721 [.t 9,.c (.str [92])]),oM 2 8 10] (.cond (.t 8) (sr qLP qLN) qLL))) (sr [oM 0 61 0,oD1 1 62 877 61,oS 2 2 0 8 62] .ret)
def UN:qL:=⟨1,63,[.l 2 (some 8)],sr [oP 0 2 (.lalloc (.agg [.int .i64 0,.int .i64 0,.str [],.int .i64 0,.str [],.nils,.nils,.nils]))] qLM⟩
def qLZ:List qC:=[oM 0 6 0,oW 1 7 6,oM 2 8 1,oW 3 9 8,oB 4 10 .neq 7 9]
def qL0:List qC:=[oM 0 11 5,oM 1 12 0,oW 2 13 12,oB 3 14 .lss 11 13]
def qL1:List qC:=[oM 0 17 0,oM 1 18 5,oA 2 19 1 17 18,oL 3 20 19,oM 4 21 1,oM 5 22 5,oA 6 23 1 21 22,oL 7 24 23,oP 8 25 (.sop .neq (.t 20) (.t 24))]
def qLY:qI:=.loop (.seq (sr qL0 (.cond (.t 14) .skip (.exit 0))) (.seq (.blk 1 (sr qL1 (.cond (.t 25) (sr [oQ 0 4 false] .ret) .skip))) (.reg true [oM 0 15 5,oE 1 16 .add 15 1,oM 2 5 16])))
def UO:qL:=⟨2,26,[.t 4],sr [oQ 0 4 false] (.seq (sr qLZ (.cond (.t 10) (sr [oQ 0 4 false] .ret) .skip)) (.seq (sr [oC 0 5 0] (.blk 0 qLY)) (sr [oQ 0 4 true] .ret)))⟩
def F513:qL:=eqS 8 (some 8) 191
def qIE:List qC:=[oU 0 5 2,oX 1 6 2 0,oU 2 7 3,oX 3 8 3 0,oB 4 9 .neq 6 8]
def qIF:List qC:=[oU 0 10 2,oX 1 11 2 1,oU 2 12 3,oX 3 13 3 1,oB 4 14 .neq 11 13]
def qIG:List qC:=[oU 0 15 2,oX 1 16 2 2,oU 2 17 3,oX 3 18 3 2,oP 4 19 (.sop .neq (.t 16) (.t 18))]
def qIH:List qC:=[oU 0 20 2,oY 1 21 2 3 3,oU 2 22 3,oY 3 23 3 3 3,oD2 4 24 101 21 23,oJ 5 25 24]
def qII:List qC:=[oU 0 26 2,oX 1 27 2 6,oU 2 28 3,oX 3 29 3 6,oD2 4 30 512 27 29,oJ 5 31 30]
def qIJ:List qC:=[oU 0 32 2,oX 1 33 2 7,oU 2 34 3,oX 3 35 3 7,oD2 4 36 513 33 35,oJ 5 37 36]
def qIC:qI:=.seq (sr qIH (.cond (.t 25) (sr [oQ 0 4 false] .ret) .skip)) (.seq (sr qII (.cond (.t 31) (sr [oQ 0 4 false] .ret) .skip)) (.seq (sr qIJ (.cond (.t 37) (sr [oQ 0 4 false] .ret) .skip)) (sr [oQ 0 4 true] .ret)))
def qID:qI:=.seq (sr qIE (.cond (.t 9) (sr [oQ 0 4 false] .ret) .skip)) (.seq (sr qIF (.cond (.t 14) (sr [oQ 0 4 false] .ret) .skip)) (.seq (sr qIG (.cond (.t 19) (sr [oQ 0 4 false] .ret) .skip)) qIC))
def Vz:qL:=⟨2,38,[.t 4],sr [oP 0 2 (.lbox 8 (.t 0)),oP 1 3 (.lbox 8 (.t 1)),oQ 2 4 false] qID⟩
def qL3:List qC:=[oM 0 6 5,oM 1 7 0,oW 2 8 7,oB 3 9 .lss 6 8]
def qL4:List qC:=[oM 0 12 0,oM 1 13 5,oM 2 14 1,oD1 3 15 739 14,oA 4 16 1 12 13,oT 5 1 16 15]
def qL2:qI:=.seq (.blk 1 (sr qL4 (.reg true [oM 0 17 1,oE 1 18 .add 17 1,oM 2 1 18]))) (.reg true [oM 0 10 5,oE 1 11 .add 10 1,oM 2 5 11])
def UP:qL:=⟨2,20,[.t 4],sr [oC 0 4 0] (.seq (sr [oC 0 5 0] (.blk 0 (.loop (.seq (sr qL3 (.cond (.t 9) .skip (.exit 0))) qL2)))) (sr [oM 0 19 1,oM 1 4 19] .ret))⟩
def qL8:List qC:=[oM 0 6 5,oM 1 7 0,oW 2 8 7,oB 3 9 .lss 6 8]
def qL9:List qC:=[oM 0 12 0,oM 1 13 5,oM 2 14 1,oA 3 15 8 12 13,oF 4 16 0 15,oT 5 1 16 14]
def qMA:List qC:=[oM 0 19 0,oM 1 20 5,oM 2 21 1,oA 3 22 8 19 20,oF 4 23 1 22,oT 5 1 23 21]
def qMB:List qC:=[oM 0 26 0,oM 1 27 5,oM 2 28 1,oD1 3 29 739 28,oA 4 30 8 26 27,oF 5 31 2 30,oT 6 1 31 29]
def qMC:List qC:=[oM 0 34 0,oM 1 35 5,oM 2 36 1,oA 3 37 8 34 35,oF 4 38 3 37,oF 5 39 0 38,oT 6 1 39 36]
def qMD:List qC:=[oM 0 42 0,oM 1 43 5,oM 2 44 1,oD1 3 45 739 44,oA 4 46 8 42 43,oF 5 47 3 46,oF 6 48 1 47,oT 7 1 48 45]
def qME:List qC:=[oM 0 51 0,oM 1 52 5,oA 2 53 8 51 52,oF 3 54 3 53,oF 4 55 2 54,oL 5 56 55,oM 6 57 1,oD2 7 58 362 56 57,oM 8 1 58]
def qMF:List qC:=[oM 0 59 0,oM 1 60 5,oA 2 61 8 59 60,oF 3 62 6 61,oL 4 63 62,oM 5 64 1,oD2 6 65 514 63 64,oM 7 1 65]
def qMG:List qC:=[oM 0 66 0,oM 1 67 5,oA 2 68 8 66 67,oF 3 69 7 68,oL 4 70 69,oM 5 71 1,oD2 6 72 515 70 71,oM 7 1 72]
def qL7:qI:=sr [oM 0 40 1,oE 1 41 .add 40 1,oM 2 1 41] (sr qMD (sr [oM 0 49 1,oE 1 50 .add 49 1,oM 2 1 50] (sr qME (sr qMF (.reg true qMG)))))
def qL5:qI:=sr [oM 0 24 1,oE 1 25 .add 24 1,oM 2 1 25] (sr qMB (sr [oM 0 32 1,oE 1 33 .add 32 1,oM 2 1 33] (sr qMC qL7)))
def qL6:qI:=.seq (.blk 1 (sr qL9 (sr [oM 0 17 1,oE 1 18 .add 17 1,oM 2 1 18] (sr qMA qL5)))) (.reg true [oM 0 10 5,oE 1 11 .add 10 1,oM 2 5 11])
def UQ:qL:=⟨2,74,[.t 4],sr [oC 0 4 0] (.seq (sr [oC 0 5 0] (.blk 0 (.loop (.seq (sr qL8 (.cond (.t 9) .skip (.exit 0))) qL6)))) (sr [oM 0 73 1,oM 1 4 73] .ret))⟩
def qMI:List qC:=[oM 0 6 5,oM 1 7 0,oW 2 8 7,oB 3 9 .lss 6 8]
def qMJ:List qC:=[oM 0 12 0,oM 1 13 5,oA 2 14 1 12 13,oL 3 15 14,oM 4 16 1,⟨5,some 17,none,.call 739 [.t 16],[⟨3,some 15,none,.load none (.t 14),[]⟩]⟩,oP 6 18 (.sop .neq (.t 15) (.t 17))]
def qMH:qI:=.seq (.blk 1 (.seq (sr qMJ (.cond (.t 18) (sr [oP 0 4 (.mov (.c (.int .i64 (-1))))] .ret) .skip)) (.reg true [oM 0 19 1,oE 1 20 .add 19 1,oM 2 1 20]))) (.reg true [oM 0 10 5,oE 1 11 .add 10 1,oM 2 5 11])
def UR:qL:=⟨2,22,[.t 4],sr [oC 0 4 0] (.seq (sr [oC 0 5 0] (.blk 0 (.loop (.seq (sr qMI (.cond (.t 9) .skip (.exit 0))) qMH)))) (sr [oM 0 21 1,oM 1 4 21] .ret))⟩
def qMQ:List qC:=[oM 0 6 5,oM 1 7 0,oW 2 8 7,oB 3 9 .lss 6 8]
def qMR:List qC:=[oM 0 12 0,oM 1 13 5,oA 2 14 8 12 13,oF 3 15 0 14,oL 4 16 15,oM 5 17 1,oB 6 18 .neq 16 17]
def qMS:List qC:=[oM 0 21 0,oM 1 22 5,oA 2 23 8 21 22,oF 3 24 1 23,oL 4 25 24,oM 5 26 1,oB 6 27 .neq 25 26]
def qMT:List qC:=[oM 0 30 0,oM 1 31 5,oA 2 32 8 30 31,oF 3 33 2 32,oL 4 34 33,oM 5 35 1,⟨6,some 36,none,.call 739 [.t 35],[⟨4,some 34,none,.load none (.t 33),[]⟩]⟩,oP 7 37 (.sop .neq (.t 34) (.t 36))]
def qMU:List qC:=[oM 0 40 0,oM 1 41 5,oA 2 42 8 40 41,oF 3 43 3 42,oF 4 44 0 43,oL 5 45 44,oM 6 46 1,oB 7 47 .neq 45 46]
def qMV:List qC:=[oM 0 50 0,oM 1 51 5,oA 2 52 8 50 51,oF 3 53 3 52,oF 4 54 1 53,oL 5 55 54,oM 6 56 1,⟨7,some 57,none,.call 739 [.t 56],[⟨5,some 55,none,.load none (.t 54),[]⟩]⟩,oP 8 58 (.sop .neq (.t 55) (.t 57))]
def qMW:List qC:=[oM 0 61 0,oM 1 62 5,oA 2 63 8 61 62,oF 3 64 3 63,oF 4 65 2 64,oL 5 66 65,oM 6 67 1,oD2 7 68 363 66 67,oM 8 1 68]
def qMX:List qC:=[oM 0 71 0,oM 1 72 5,oA 2 73 8 71 72,oF 3 74 6 73,oL 4 75 74,oM 5 76 1,oD2 6 77 516 75 76,oM 7 1 77]
def qMY:List qC:=[oM 0 80 0,oM 1 81 5,oA 2 82 8 80 81,oF 3 83 7 82,oL 4 84 83,oM 5 85 1,oD2 6 86 517 84 85,oM 7 1 86]
def qMP:qI:=.seq (sr [oM 0 78 1,oE 1 79 .lss 78 0] (.cond (.t 79) (sr [oP 0 4 (.mov (.c (.int .i64 (-1))))] .ret) .skip)) (sr qMY (sr [oM 0 87 1,oE 1 88 .lss 87 0] (.cond (.t 88) (sr [oP 0 4 (.mov (.c (.int .i64 (-1))))] .ret) .skip)))
def qMK:qI:=sr [oM 0 59 1,oE 1 60 .add 59 1,oM 2 1 60] (sr qMW (.seq (sr [oM 0 69 1,oE 1 70 .lss 69 0] (.cond (.t 70) (sr [oP 0 4 (.mov (.c (.int .i64 (-1))))] .ret) .skip)) (sr qMX qMP)))
def qML:qI:=.seq (sr qMU (.cond (.t 47) (sr [oP 0 4 (.mov (.c (.int .i64 (-1))))] .ret) .skip)) (sr [oM 0 48 1,oE 1 49 .add 48 1,oM 2 1 49] (.seq (sr qMV (.cond (.t 58) (sr [oP 0 4 (.mov (.c (.int .i64 (-1))))] .ret) .skip)) qMK))
def qMM:qI:=sr [oM 0 28 1,oE 1 29 .add 28 1,oM 2 1 29] (.seq (sr qMT (.cond (.t 37) (sr [oP 0 4 (.mov (.c (.int .i64 (-1))))] .ret) .skip)) (sr [oM 0 38 1,oE 1 39 .add 38 1,oM 2 1 39] qML))
def qMN:qI:=.seq (sr qMR (.cond (.t 18) (sr [oP 0 4 (.mov (.c (.int .i64 (-1))))] .ret) .skip)) (sr [oM 0 19 1,oE 1 20 .add 19 1,oM 2 1 20] (.seq (sr qMS (.cond (.t 27) (sr [oP 0 4 (.mov (.c (.int .i64 (-1))))] .ret) .skip)) qMM))
def qMO:qI:=sr [oC 0 5 0] (.blk 0 (.loop (.seq (sr qMQ (.cond (.t 9) .skip (.exit 0))) (.seq (.blk 1 qMN) (.reg true [oM 0 10 5,oE 1 11 .add 10 1,oM 2 5 11])))))
def US:qL:=⟨2,90,[.t 4],sr [oC 0 4 0] (.seq qMO (sr [oM 0 89 1,oM 1 4 89] .ret))⟩
def qFT:qL:=Zb 2 (some 2)
def qFU:List qC:=[oU 0 4 2,oX 1 5 2 0,oL 2 6 1,oP 3 7 (.sop .eql (.t 5) (.t 6)),oM 4 3 7]
def VW:qL:=⟨2,8,[.t 3],sr [oP 0 2 (.lbox 2 (.t 0)),oQ 1 3 false] (sr qFU .ret)⟩
def qDZ:List qC:=[oM 0 5 0,oP 1 6 (.mkfn 1430 [.t 3]),oD2 2 7 1429 5 6,oM 3 4 7]
def Y9:qL:=⟨2,8,[.t 4],sr [oP 0 3 (.hbox 1 (.t 1)),oC 1 4 0] (sr qDZ .ret)⟩
def qFW:qL:=Zb 3 (some 3)
def qD4:qL:=WL 1432
def qD5:List qC:=[oL 0 4 1,oY 1 5 2 0 3,oD2 2 6 892 4 5,oJ 3 7 6,oM 4 3 7]
def VD:qL:=⟨2,8,[.t 3],sr [oP 0 2 (.lbox 3 (.t 0)),oQ 1 3 false] (sr qD5 .ret)⟩
def qRW:List qC:=[oU 0 5 3,oX 1 6 3 0,oE 2 7 .eql 6 2,oM 3 8 7,oG 4 9 8 true (.load none (.t 2)),oG 5 10 8 true (.nop 3),oG 6 11 8 true (.lload 3 1 none),oG 7 12 8 true (.call 1204 [.t 9,.t 11]),oG 8 13 8 true (.bin .lss (.t 12) (.c (.int .i64 0))),oPf 9 14 8 13]
def qRX:List qC:=[oU 0 15 3,oX 1 16 3 2,oP 2 17 (.mkfn 1209 [.t 2]),oD2 3 18 1208 16 17,oJ 4 19 18,oM 5 4 19]
def U0:qL:=⟨2,20,[.t 4],sr [oP 0 2 (.hbox 1 (.t 0)),oP 1 3 (.lbox 3 (.t 1)),oQ 2 4 false] (.seq (sr qRW (.cond (.t 14) (sr [oQ 0 4 false] .ret) .skip)) (sr qRX .ret))⟩
def qFV:List qC:=[oY 0 4 2 0 3,oD1 1 5 74 4,oJ 2 6 5,oM 3 7 6,oG 4 8 7 false (.load none (.t 1)),oG 5 9 7 false (.lload 2 0 (some 3)),oG 6 10 7 false (.call 892 [.t 8,.t 9]),oG 7 11 7 false (.not (.t 10)),oPt 8 12 7 11,oM 9 3 12]
def VX:qL:=⟨2,13,[.t 3],sr [oP 0 2 (.lbox 3 (.t 0)),oQ 1 3 false] (sr qFV .ret)⟩
def qD0:List qC:=[oU 0 5 3,oX 1 6 3 0,oD1 2 7 717 6,oJ 3 8 7,oM 4 9 8,oG 5 10 9 false (.nop 3),oG 6 11 9 false (.lload 3 1 none),oG 7 12 9 false (.len (.t 11)),oG 8 13 9 false (.bin .gtr (.t 12) (.c (.int .i64 3))),oPt 9 14 9 13]
def qD1:List qC:=[oU 0 15 3,oX 1 16 3 1,oP 2 17 (.mkfn 1431 [.t 2]),oD2 3 18 1208 16 17,oJ 4 19 18,oM 5 4 19]
def VA:qL:=⟨2,20,[.t 4],sr [oP 0 2 (.hbox 1 (.t 0)),oP 1 3 (.lbox 2 (.t 1)),oQ 2 4 false] (.seq (sr qD0 (.cond (.t 14) (sr [oQ 0 4 false] .ret) .skip)) (sr qD1 .ret))⟩
def qRO:List qC:=[oM 0 16 14,oA 1 17 2 12 14,oP 2 18 (.load (some 2) (.t 17)),oP 3 5 (.lalloc (.agg [.str [],.nils])),oM 4 4 16,oS 5 5 0 2 18]
def qRP:List qC:=[oU 0 19 5,oX 1 20 5 0,oD1 2 21 717 20,oJ 3 22 21,oM 4 23 22,oG 5 24 23 false (.nop 5),oG 6 25 23 false (.lload 5 0 none),oG 7 26 23 false (.sop .eql (.t 25) (.c (.str [73,110,116]))),oPt 8 27 23 26,oM 9 28 27,oH 10 29 28 false 0,oH 11 30 28 false 4,oG 12 31 28 false (.slc 2 (.t 29) none (some (.t 30)) none),oG 13 32 28 false (.nop 5),oG 14 33 28 false (.lload 5 0 none),oG 15 34 28 false (.call 1204 [.t 31,.t 33]),oG 16 35 28 false (.bin .geq (.t 34) (.c (.int .i64 0))),oPt 17 36 28 35,oM 18 37 36,oG 19 38 37 false (.nop 5),oG 20 39 37 false (.lload 5 1 none),oG 21 40 37 false (.len (.t 39)),oG 22 41 37 false (.bin .lss (.t 40) (.c (.int .i64 1))),oPt 23 42 37 41,oM 24 43 42,oG 25 44 43 false (.nop 5),oG 26 45 43 false (.lload 5 1 none),oG 27 46 43 false (.len (.t 45)),oG 28 47 43 false (.bin .gtr (.t 46) (.c (.int .i64 4))),oPt 29 48 43 47]
def qRQ:List qC:=[oU 0 49 5,oX 1 50 5 1,oW 2 51 50,oC 3 52 0]
def qRR:List qC:=[oA 0 54 2 50 52,oP 1 55 (.load (some 2) (.t 54)),oP 2 7 (.lalloc (.agg [.str [],.nils])),oS 3 7 0 2 55]
def qRS:List qC:=[oM 0 56 0,oY 1 57 7 0 2,oD2 2 58 1205 56 57,oJ 3 59 58,oM 4 60 59,oH 5 61 60 false 3,oG 6 62 60 false (.nop 7),oG 7 63 60 false (.lload 7 0 none),oG 8 64 60 false (.looks (.bool false) (.t 61) (.t 63) false),oPt 9 65 60 64]
def qRT:List qC:=[oM 0 66 3,oU 1 67 7,oX 2 68 7 0,oN 3 (.mupds (.t 66) (.t 68) (.c (.bool true)))]
def qRK:qI:=sr [oB 0 53 .lss 52 51] (.seq (.cond (.t 53) .skip (.exit 2)) (.seq (.blk 3 (sr qRR (.seq (sr qRS (.cond (.t 65) (sr [oQ 0 2 false] .ret) .skip)) (.reg true qRT)))) (.reg true [oE 0 69 .add 52 1,oM 1 52 69])))
def qRL:qI:=.seq (.blk 1 (sr qRO (.seq (sr qRP (.cond (.t 48) (sr [oQ 0 2 false] .ret) .skip)) (sr qRQ (.blk 2 (.loop qRK)))))) (.reg true [oE 0 70 .add 14 1,oM 1 14 70])
def qRM:qI:=.seq (sr [oM 0 12 0,oW 1 13 12,oC 2 14 0] (.blk 0 (.loop (sr [oB 0 15 .lss 14 13] (.seq (.cond (.t 15) .skip (.exit 0)) qRL))))) (sr [oQ 0 2 true] .ret)
def qRN:qI:=.seq (sr [oM 0 8 0,oW 1 9 8,oE 2 10 .gtr 9 4] (.cond (.t 10) (sr [oQ 0 2 false] .ret) .skip)) (sr [oP 0 11 (.mkmap),oM 1 3 11] qRM)
def Ux:qL:=⟨1,71,[.t 2],sr [oQ 0 2 false] qRN⟩
def F891:qL:=Zb 12 (some 12)
def qD3:List qC:=[oU 0 4 2,oX 1 5 2 0,oL 2 6 1,oP 3 7 (.sop .eql (.t 5) (.t 6)),oM 4 3 7]
def VC:qL:=⟨2,8,[.t 3],sr [oP 0 2 (.lbox 12 (.t 0)),oQ 1 3 false] (sr qD3 .ret)⟩
def qRV:List qC:=[oU 0 5 2,oX 1 6 2 1,oP 2 7 (.mkfn 1207 [.t 3]),oD2 3 8 891 6 7,oM 4 4 8]
def Uz:qL:=⟨2,9,[.t 4],sr [oP 0 2 (.lbox 2 (.t 0)),oP 1 3 (.hbox 1 (.t 1)),oC 2 4 0] (sr qRV .ret)⟩
def qM0:List qC:=[oU 0 5 1,oX 1 6 1 0,oD1 2 7 888 6,oJ 3 8 7,oM 4 9 8,oG 5 10 9 false (.nop 1),oG 6 11 9 false (.lload 1 1 none),oG 7 12 9 false (.len (.t 11)),oG 8 13 9 false (.bin .lss (.t 12) (.c (.int .i64 1))),oPt 9 14 9 13,oM 10 15 14,oG 11 16 15 false (.nop 1),oG 12 17 15 false (.lload 1 1 none),oG 13 18 15 false (.len (.t 17)),oG 14 19 15 false (.bin .gtr (.t 18) (.c (.int .i64 8))),oPt 15 20 15 19]
def qM1:List qC:=[oU 0 21 1,oX 1 22 1 1,oW 2 23 22,oC 3 24 0]
def qM2:List qC:=[oM 0 26 24,oA 1 27 12 22 24,oP 2 28 (.load (some 12) (.t 27)),oP 3 4 (.lalloc (.agg [.str [],.int .i64 0,.str [],.nils,.int .i64 0,.int .i64 0,.str [],.int .i64 0,.str [],.nils,.nils,.nils])),oM 4 3 26,oS 5 4 0 12 28]
def qM3:List qC:=[oU 0 29 4,oX 1 30 4 0,oD1 2 31 889 30,oJ 3 32 31,oM 4 33 32,oG 5 34 33 false (.lload 1 0 (some 2)),oG 6 35 33 false (.nop 4),oG 7 36 33 false (.lload 4 0 none),oG 8 37 33 false (.call 890 [.t 34,.t 36]),oH 9 38 33 false 3,oG 10 39 33 false (.bin .lss (.t 37) (.t 38)),oPt 11 40 33 39,oM 12 41 40,oG 13 42 41 false (.nop 4),oG 14 43 41 false (.lload 4 1 (some 3)),oG 15 44 41 false (.call 74 [.t 43]),oG 16 45 41 false (.not (.t 44)),oPt 17 46 41 45,oM 18 47 46,oG 19 48 47 false (.nop 4),oG 20 49 47 false (.lload 4 4 (some 8)),oG 21 50 47 false (.call 144 [.t 49]),oG 22 51 47 false (.not (.t 50)),oPt 23 52 47 51]
def qMZ:qI:=sr [oB 0 25 .lss 24 23] (.seq (.cond (.t 25) .skip (.exit 0)) (.seq (.blk 1 (sr qM2 (sr qM3 (.cond (.t 52) (sr [oQ 0 2 false] .ret) .skip)))) (.reg true [oE 0 53 .add 24 1,oM 1 24 53])))
def UT:qL:=⟨1,54,[.t 2],sr [oP 0 1 (.lbox 2 (.t 0)),oQ 1 2 false] (.seq (sr qM0 (.cond (.t 20) (sr [oQ 0 2 false] .ret) .skip)) (.seq (sr qM1 (.blk 0 (.loop qMZ))) (sr [oQ 0 2 true] .ret)))⟩
def W8:jB:=⟨3,47,
 .reg true [⟨0,some 6,none,.lalloc (.agg [.nils,.nils]),[]⟩,
⟨1,some 7,none,.lalloc (.int .i64 0),[]⟩,
⟨2,some 8,none,.lalloc (.int .i64 0),[]⟩],
 .reg true [⟨0,some 9,none,.lalloc (.agg [.nils,.nils]),[]⟩],
 .reg true [⟨0,some 13,none,.mov (.t 0),[]⟩,
⟨1,some 14,none,.call 266 [.t 13],[]⟩,
⟨2,some 12,none,.mov (.t 14),[]⟩,
⟨3,some 15,none,.ext (.t 12) 0,[]⟩,
⟨4,some 16,none,.ext (.t 12) 1,[]⟩,
⟨5,some 17,none,.ext (.t 12) 2,[]⟩,
⟨6,some 10,none,.mov (.t 15),[]⟩,
⟨7,none,none,.lstore 7 0 1 (.t 16),[]⟩,
⟨8,none,none,.lstore 8 0 1 (.t 17),[]⟩],
 sr [⟨0,some 18,none,.lload 8 0 none,[]⟩,
⟨1,some 19,none,.bin .neq (.t 18) (.c (.int .i64 0)),[]⟩] (.cond (.t 19) (sr [⟨0,some 20,none,.lload 9 0 (some 2),[]⟩,
⟨1,some 21,none,.lload 7 0 none,[]⟩,
⟨2,some 22,none,.lload 8 0 none,[]⟩,
⟨3,none,none,.lstore 6 0 2 (.t 20),[]⟩,
⟨4,none,none,.lstore 7 0 1 (.t 21),[]⟩,
⟨5,none,none,.lstore 8 0 1 (.t 22),[]⟩] .ret) .skip),
 .reg true [⟨0,some 24,none,.mov (.t 10),[]⟩,
⟨1,some 25,none,.mov (.t 0),[]⟩,
⟨2,some 26,none,.slen (.t 25),[]⟩,
⟨3,some 27,none,.build (.agg [.nils,.int .i64 0,.int .i64 0]) [(0,1,.t 24),(2,1,.t 26)],[]⟩,
⟨4,some 28,none,.hbox 3 (.t 27),[]⟩,
⟨5,some 11,none,.mov (.t 28),[]⟩],
 [⟨0,some 29,none,.mov (.t 1),[]⟩,
⟨1,some 30,none,.mov (.t 11),[]⟩,
⟨2,some 31,none,.callv (.t 29) [.t 30],[]⟩,
⟨3,none,none,.lstore 6 0 2 (.t 31),[]⟩],
 .reg true [⟨0,some 32,none,.mov (.t 11),[]⟩,
⟨1,some 33,none,.nilchk (.t 32),[]⟩,
⟨2,some 34,none,.faddr 1 (.t 33),[]⟩,
⟨3,some 35,none,.load none (.t 34),[]⟩,
⟨4,some 36,none,.mov (.t 10),[]⟩,
⟨5,some 37,none,.len (.t 36),[]⟩,
⟨6,some 38,none,.bin .lss (.t 35) (.t 37),[]⟩],.t 38,
 [⟨0,some 39,none,.mov (.t 11),[]⟩,
⟨1,some 40,none,.call 719 [.t 39],[]⟩],
 .seq (sr [⟨0,some 41,none,.mov (.t 2),[]⟩,
⟨1,some 42,none,.lload 6 0 (some 2),[]⟩,
⟨2,some 43,none,.callv (.t 41) [.t 42],[]⟩,
⟨3,some 44,none,.not (.t 43),[]⟩] (.cond (.t 44) (sr [⟨0,some 45,none,.lload 9 0 (some 2),[]⟩,
⟨1,none,none,.lstore 6 0 2 (.t 45),[]⟩,
⟨2,none,none,.lstore 7 0 1 (.c (.int .i64 0)),[]⟩,
⟨3,none,none,.lstore 8 0 1 (.c (.int .i64 1)),[]⟩] .ret) .skip)) (sr [⟨0,some 46,none,.lload 6 0 (some 2),[]⟩,
⟨1,none,none,.lstore 6 0 2 (.t 46),[]⟩,
⟨2,none,none,.lstore 7 0 1 (.c (.int .i64 0)),[]⟩,
⟨3,none,none,.lstore 8 0 1 (.c (.int .i64 0)),[]⟩] .ret),
 sr [⟨0,some 5,none,.lalloc (.agg [.int .i64 0]),[]⟩,
⟨1,none,none,.lstore 5 0 1 (.t 12),[]⟩] (.reg true [⟨0,some 13,none,.lload 0 0 (some 2),[]⟩,
⟨1,some 14,none,.nop 5,[]⟩,
⟨2,some 15,none,.lload 5 0 none,[]⟩,
⟨3,none,none,.lstore 1 0 2 (.t 13),[]⟩,
⟨4,none,none,.lstore 2 0 1 (.t 15),[]⟩,
⟨5,none,none,.lstore 3 0 1 (.c (.int .i64 6)),[]⟩]),
 751,23,12,[9,6,7,8],[.l 6 (some 2),.l 7 none,.l 8 none],[.l 1 (some 2),.l 2 none,.l 3 none]⟩
def qES:List qC:=[oF 0 2 1 0,oL 1 3 2,oL 2 4 1,oW 4 6 3,oP 5 7 (.mov (.c (.lst 3 [.agg [.int .i64 0,.str [],.nils]] false))),⟨3,some 5,none,.call 335 [.t 4],[⟨1,some 3,none,.load none (.t 2),[]⟩]⟩,oP 6 8 (.app 3 (.t 3) (.t 7)),oA 7 9 3 8 6,oF 9 10 1 0,oT 8 3 9 5,oN 10 (.store2 1 (.t 10) (.t 8) (.t 9))]
def VI:qL:=⟨2,11,[],.reg true qES⟩
def qA5:List qC:=[oL 0 4 1,oP 1 5 (.call 875 [.t 4,.c (.int .i64 2)]),oP 2 6 (.build (.agg [.str [],.nils]) [(0,1,.t 5)]),oP 3 3 (.halloc 2 (.agg [.str [],.nils])),oT 4 2 3 6]
def Ya:qL:=⟨1,11,[.l 2 (some 2)],sr [oP 0 1 (.hbox 1 (.t 0)),oP 1 2 (.lalloc (.agg [.str [],.nils]))] (sr qA5 (sr [oL 0 7 1,oP 1 8 (.mkfn 1328 [.t 3,.t 1]),oD2 2 9 1327 7 8] (sr [oP 0 10 (.load (some 2) (.t 3)),oS 1 2 0 2 10] .ret)))⟩
def qNH:List qC:=[oM 0 8 0,oP 1 9 (.call 875 [.t 8,.c (.int .i64 2)]),oP 2 10 (.build (.agg [.str [],.nils]) [(0,1,.t 9)]),oP 3 4 (.lalloc (.agg [.str [],.nils])),oS 4 4 0 2 10]
def qNI:List qC:=[oU 0 13 4,oX 1 14 4 1,oM 2 15 0,oD1 3 16 1009 15,oP 4 17 (.bslice 2 (.agg [.str [],.nils]) 1 [(0,.t 16)]),oP 5 18 (.app 2 (.t 14) (.t 17)),oU 6 19 4,oS 7 4 1 1 18]
def qNJ:List qC:=[oU 0 22 4,oX 1 23 4 1,oM 2 24 0,oD1 3 25 1009 24,oP 4 26 (.bslice 2 (.agg [.str [],.nils]) 1 [(0,.t 25)]),oP 5 27 (.app 2 (.t 23) (.t 26)),oU 6 28 4,oS 7 4 1 1 27]
def qNK:List qC:=[oU 0 29 3,oX 1 30 3 0,oY 2 31 4 0 2,oP 3 32 (.bslice 2 (.agg [.str [],.nils]) 1 [(0,.t 31)]),oP 4 33 (.app 2 (.t 30) (.t 32)),oU 5 34 3,oS 6 3 0 1 33]
def qNF:qI:=sr [oM 0 11 0,oP 1 12 (.call 876 [.t 11,.c (.str [61])])] (sr qNI (.seq (.blk 2 (.loop (.seq (sr [oM 0 20 0,oP 1 21 (.call 721 [.t 20,.c (.str [124])])] (.cond (.t 21) .skip (.exit 2))) (.blk 3 (.reg true qNJ))))) (.reg true qNK)))
def qNL:List qC:=[oM 0 37 0,oP 1 38 (.call 875 [.t 37,.c (.int .i64 1)]),oP 2 39 (.build (.agg [.str [],.int .i64 0,.str [],.nils,.int .i64 0,.int .i64 0,.str [],.int .i64 0,.str [],.nils,.nils,.nils]) [(0,1,.t 38)]),oP 3 5 (.lalloc (.agg [.str [],.int .i64 0,.str [],.nils,.int .i64 0,.int .i64 0,.str [],.int .i64 0,.str [],.nils,.nils,.nils])),oS 4 5 0 12 39]
def qNM:List qC:=[oM 0 42 0,oD1 1 43 335 42,oU 2 44 5,oS 3 5 1 3 43]
def qNN:List qC:=[oM 0 47 0,oD1 1 48 511 47,oU 2 49 5,oS 3 5 4 8 48]
def qNO:List qC:=[oU 0 50 3,oX 1 51 3 1,oY 2 52 5 0 12,oP 3 53 (.bslice 12 (.agg [.str [],.int .i64 0,.str [],.nils,.int .i64 0,.int .i64 0,.str [],.int .i64 0,.str [],.nils,.nils,.nils]) 1 [(0,.t 52)]),oP 4 54 (.app 12 (.t 51) (.t 53)),oU 5 55 3,oS 6 3 1 1 54]
def qNG:qI:=sr [oM 0 40 0,oP 1 41 (.call 876 [.t 40,.c (.str [58])])] (sr qNM (sr [oM 0 45 0,oP 1 46 (.call 876 [.t 45,.c (.str [61])])] (sr qNN (.reg true qNO))))
def qNE:qI:=.seq (.blk 4 (.loop (.seq (sr [oM 0 35 0,oP 1 36 (.call 721 [.t 35,.c (.str [100,101,102])])] (.cond (.t 36) .skip (.exit 4))) (.blk 5 (sr qNL qNG))))) (sr [oY 0 56 3 0 2,oS 1 2 0 2 56] .ret)
def UX:qL:=⟨1,57,[.l 2 (some 2)],sr [oP 0 2 (.lalloc (.agg [.nils,.nils]))] (sr [oP 0 3 (.lalloc (.agg [.nils,.nils]))] (.seq (.blk 0 (.loop (.seq (sr [oM 0 6 0,oP 1 7 (.call 721 [.t 6,.c (.str [100,97,116,97])])] (.cond (.t 7) .skip (.exit 0))) (.blk 1 (sr qNH qNF))))) qNE))⟩
def qIL:List qC:=[oM 0 5 0,oP 1 6 (.call 628 [.t 5,.f 629,.f 527]),oV 2 7 6 0,oV 3 8 6 1,oV 4 9 6 2,oS 5 2 0 2 7,oM 6 3 8,oM 7 4 9]
def V1:qL:=⟨1,10,[.l 2 (some 2),.t 3,.t 4],sr [oP 0 2 (.lalloc (.agg [.nils,.nils])),oC 1 3 0,oC 2 4 0] (sr qIL .ret)⟩
def qR6:List qC:=[oM 0 6 5,oM 1 7 0,oW 2 8 7,oB 3 9 .lss 6 8]
def qR7:List qC:=[oM 0 12 0,oM 1 13 5,oA 2 14 12 12 13,oF 3 15 0 14,oL 4 16 15,oM 5 17 1,oP 6 18 (.sop .eql (.t 16) (.t 17))]
def qR5:qI:=.seq (sr qR6 (.cond (.t 9) .skip (.exit 0))) (.seq (.blk 1 (sr qR7 (.cond (.t 18) (sr [oM 0 19 5,oM 1 4 19] .ret) .skip))) (.reg true [oM 0 10 5,oE 1 11 .add 10 1,oM 2 5 11]))
def U4:qL:=⟨2,20,[.t 4],sr [oC 0 4 0] (.seq (sr [oC 0 5 0] (.blk 0 (.loop qR5))) (sr [oP 0 4 (.mov (.c (.int .i64 (-1))))] .ret))⟩
def qEL:List qC:=[oM 0 6 5,oM 1 7 0,oW 2 8 7,oB 3 9 .lss 6 8]
def qEM:List qC:=[oM 0 12 0,oM 1 13 5,oA 2 14 2 12 13,oF 3 15 0 14,oL 4 16 15,oM 5 17 1,oP 6 18 (.sop .eql (.t 16) (.t 17))]
def qEK:qI:=.seq (sr qEL (.cond (.t 9) .skip (.exit 0))) (.seq (.blk 1 (sr qEM (.cond (.t 18) (sr [oM 0 19 5,oM 1 4 19] .ret) .skip))) (.reg true [oM 0 10 5,oE 1 11 .add 10 1,oM 2 5 11]))
def VG:qL:=⟨2,20,[.t 4],sr [oC 0 4 0] (.seq (sr [oC 0 5 0] (.blk 0 (.loop qEK))) (sr [oP 0 4 (.mov (.c (.int .i64 (-1))))] .ret))⟩
def qSA:List qC:=[oM 0 9 0,oU 1 10 3,oX 2 11 3 1,oD2 3 12 1238 9 11,oE 4 13 .geq 12 0,oM 5 4 13]
def qSB:List qC:=[oM 0 14 5,oU 1 15 3,oX 2 16 3 2,oW 3 17 16,oB 4 18 .lss 14 17]
def qSC:List qC:=[oM 0 21 0,oU 1 22 3,oX 2 23 3 2,oM 3 24 5,oA 4 25 3 23 24,oP 5 26 (.load (some 3) (.t 25)),oD2 6 27 917 21 26,oJ 7 28 27]
def qR8:qI:=.loop (.seq (sr qSB (.cond (.t 18) .skip (.exit 0))) (.seq (.blk 1 (sr qSC (.cond (.t 28) (sr [oQ 0 4 false] .ret) .skip))) (.reg true [oM 0 19 5,oE 1 20 .add 19 1,oM 2 5 20])))
def qR9:qI:=.seq (sr [oU 0 6 3,oX 1 7 3 0,oE 2 8 .eql 7 2] (.cond (.t 8) (sr qSA .ret) .skip)) (.seq (sr [oC 0 5 0] (.blk 0 qR8)) (sr [oQ 0 4 true] .ret))
def U5:qL:=⟨2,29,[.t 4],sr [oP 0 3 (.lbox 3 (.t 1)),oQ 1 4 false] qR9⟩
def qFY:List qC:=[oU 0 6 3,oX 1 7 3 0,oD1 2 8 921 7,oJ 3 9 8,oM 4 10 9,oG 5 11 10 false (.nop 3),oG 6 12 10 false (.lload 3 1 none),oG 7 13 10 false (.len (.t 12)),oG 8 14 10 false (.bin .gtr (.t 13) (.c (.int .i64 3))),oPt 9 15 10 14]
def qFZ:List qC:=[oM 0 16 5,oU 1 17 3,oX 2 18 3 1,oW 3 19 18,oB 4 20 .lss 16 19]
def qF0:List qC:=[oU 0 23 3,oX 1 24 3 1,oM 2 25 5,oA 3 26 3 24 25,oP 4 27 (.load (some 3) (.t 26)),oD1 5 28 208 27,oJ 6 29 28,oM 7 30 29,oH 8 31 30 false 0,oG 9 32 30 false (.nop 3),oG 10 33 30 false (.lload 3 1 none),oH 11 34 30 false 5,oG 12 35 30 false (.iaddr 3 (.t 33) (.t 34)),oG 13 36 30 false (.load (some 3) (.t 35)),oG 14 37 30 false (.call 917 [.t 31,.t 36]),oG 15 38 30 false (.not (.t 37)),oPt 16 39 30 38]
def qFX:qI:=.loop (.seq (sr qFZ (.cond (.t 20) .skip (.exit 0))) (.seq (.blk 1 (sr qF0 (.cond (.t 39) (sr [oQ 0 4 false] .ret) .skip))) (.reg true [oM 0 21 5,oE 1 22 .add 21 1,oM 2 5 22])))
def VY:qL:=⟨2,40,[.t 4],sr [oP 0 3 (.lbox 2 (.t 1)),oQ 1 4 false] (.seq (sr qFY (.cond (.t 15) (sr [oQ 0 4 false] .ret) .skip)) (.seq (sr [oC 0 5 0] (.blk 0 qFX)) (sr [oQ 0 4 true] .ret)))⟩
def qEB:List qC:=[oM 0 12 4,oM 1 13 0,oW 2 14 13,oB 3 15 .lss 12 14]
def qEC:List qC:=[oM 0 18 0,oM 1 19 4,oA 2 20 2 18 19,oP 3 21 (.load (some 2) (.t 20)),oP 4 5 (.lalloc (.agg [.str [],.nils])),oS 5 5 0 2 21]
def qED:List qC:=[oU 0 22 5,oX 1 23 5 0,oD1 2 24 921 23,oJ 3 25 24,oM 4 26 25,oG 5 27 26 false (.nop 5),oG 6 28 26 false (.lload 5 0 none),oG 7 29 26 false (.sop .eql (.t 28) (.c (.str [73,110,116]))),oPt 8 30 26 29,oM 9 31 30,oH 10 32 31 false 0,oG 11 33 31 false (.nop 5),oG 12 34 31 false (.lload 5 0 none),oG 13 35 31 false (.call 1238 [.t 32,.t 34]),oH 14 36 31 false 4,oG 15 37 31 false (.bin .neq (.t 35) (.t 36)),oPt 16 38 31 37,oM 17 39 38,oG 18 40 39 false (.nop 5),oG 19 41 39 false (.lload 5 1 none),oG 20 42 39 false (.len (.t 41)),oG 21 43 39 false (.bin .lss (.t 42) (.c (.int .i64 1))),oPt 22 44 39 43,oM 23 45 44,oG 24 46 45 false (.nop 5),oG 25 47 45 false (.lload 5 1 none),oG 26 48 45 false (.len (.t 47)),oG 27 49 45 false (.bin .gtr (.t 48) (.c (.int .i64 4))),oPt 28 50 45 49]
def qEE:List qC:=[oM 0 51 6,oU 1 52 5,oX 2 53 5 1,oW 3 54 53,oB 4 55 .lss 51 54]
def qEF:List qC:=[oM 0 58 0,oU 1 59 5,oX 2 60 5 1,oM 3 61 6,oA 4 62 2 60 61,oP 5 63 (.load (some 2) (.t 62)),oD2 6 64 1439 58 63,oJ 7 65 64]
def qEG:List qC:=[oM 0 66 7,oM 1 67 3,oW 2 68 67,oB 3 69 .lss 66 68]
def qEH:List qC:=[oM 0 72 3,oM 1 73 7,oA 2 74 1 72 73,oL 3 75 74,oU 4 76 5,oX 5 77 5 1,oM 6 78 6,oA 7 79 2 77 78,oF 8 80 0 79,oL 9 81 80,oP 10 82 (.sop .eql (.t 75) (.t 81))]
def qD9:qI:=.loop (.seq (sr qEG (.cond (.t 69) .skip (.exit 4))) (.seq (.blk 5 (sr qEH (.cond (.t 82) (sr [oQ 0 2 false] .ret) .skip))) (.reg true [oM 0 70 7,oE 1 71 .add 70 1,oM 2 7 71])))
def qEI:List qC:=[oM 0 83 3,oU 1 84 5,oX 2 85 5 1,oM 3 86 6,oA 4 87 2 85 86,oF 5 88 0 87,oL 6 89 88,oP 7 90 (.bslice 1 (.str []) 1 [(0,.t 89)]),oP 8 91 (.app 1 (.t 83) (.t 90)),oM 9 3 91]
def qEA:qI:=.seq (.blk 3 (.seq (sr qEF (.cond (.t 65) (sr [oQ 0 2 false] .ret) .skip)) (.seq (sr [oC 0 7 0] (.blk 4 qD9)) (.reg true qEI)))) (.reg true [oM 0 56 6,oE 1 57 .add 56 1,oM 2 6 57])
def qD6:qI:=sr qEC (.seq (sr qED (.cond (.t 50) (sr [oQ 0 2 false] .ret) .skip)) (sr [oC 0 6 0] (.blk 2 (.loop (.seq (sr qEE (.cond (.t 55) .skip (.exit 2))) qEA)))))
def qD7:qI:=sr [oC 0 4 0] (.blk 0 (.loop (.seq (sr qEB (.cond (.t 15) .skip (.exit 0))) (.seq (.blk 1 qD6) (.reg true [oM 0 16 4,oE 1 17 .add 16 1,oM 2 4 17])))))
def qD8:qI:=.seq (sr [oM 0 8 0,oW 1 9 8,oE 2 10 .gtr 9 4] (.cond (.t 10) (sr [oQ 0 2 false] .ret) .skip)) (sr [oP 0 11 (.mov (.c (.lst 1 [] true))),oM 1 3 11] (.seq qD7 (sr [oQ 0 2 true] .ret)))
def VE:qL:=⟨1,92,[.t 2],sr [oQ 0 2 false] qD8⟩
def qR1:List qC:=[oM 0 5 0,oK 1 6 5,oF 2 7 0 6,oL 3 8 7,oD1 4 9 1236 8,oJ 5 10 9,oM 6 11 10,oH 7 12 11 false 0,oG 8 13 11 false (.nilchk (.t 12)),oG 9 14 11 false (.faddr 1 (.t 13)),oG 10 15 11 false (.load none (.t 14)),oG 11 16 11 false (.len (.t 15)),oG 12 17 11 false (.call 340 [.t 16,.c (.int .i64 1),.c (.int .i64 8)]),oG 13 18 11 false (.not (.t 17)),oPt 14 19 11 18]
def qR2:List qC:=[oM 0 20 3,oM 1 21 0,oK 2 22 21,oF 3 23 1 22,oL 4 24 23,oW 5 25 24,oB 6 26 .lss 20 25]
def qR3:List qC:=[oM 0 29 0,oK 1 30 29,oF 2 31 1 30,oL 3 32 31,oM 4 33 3,oA 5 34 12 32 33,oM 6 4 34]
def qR4:List qC:=[oM 0 35 4,oK 1 36 35,oF 2 37 0 36,oL 3 38 37,oD1 4 39 1237 38,oJ 5 40 39,oM 6 41 40,oH 7 42 41 false 0,oG 8 43 41 false (.nilchk (.t 42)),oG 9 44 41 false (.faddr 1 (.t 43)),oG 10 45 41 false (.load none (.t 44)),oH 11 46 41 false 4,oG 12 47 41 false (.nilchk (.t 46)),oG 13 48 41 false (.faddr 0 (.t 47)),oG 14 49 41 false (.load none (.t 48)),oH 16 51 41 false 3,oG 15 50 41 false (.call 916 [.t 45,.t 49]),oG 17 52 41 false (.bin .neq (.t 50) (.t 51)),oPt 18 53 41 52,oM 19 54 53,oH 20 55 54 false 4,oG 21 56 54 false (.nilchk (.t 55)),oG 22 57 54 false (.faddr 1 (.t 56)),oG 23 58 54 false (.load (some 3) (.t 57)),oG 24 59 54 false (.call 208 [.t 58]),oG 25 60 54 false (.not (.t 59)),oPt 26 61 54 60,oM 27 62 61,oH 28 63 62 false 4,oG 29 64 62 false (.nilchk (.t 63)),oG 30 65 62 false (.faddr 4 (.t 64)),oG 31 66 62 false (.call 350 [.t 65]),oG 32 67 62 false (.not (.t 66)),oPt 33 68 62 67]
def qRZ:qI:=.seq (sr qR2 (.cond (.t 26) .skip (.exit 0))) (.seq (.blk 1 (sr qR3 (sr qR4 (.cond (.t 68) (sr [oQ 0 2 false] .ret) .skip)))) (.reg true [oM 0 27 3,oE 1 28 .add 27 1,oM 2 3 28]))
def qR0:qI:=.seq (sr qR1 (.cond (.t 19) (sr [oQ 0 2 false] .ret) .skip)) (.seq (sr [oC 0 3 0] (.blk 0 (.loop qRZ))) (sr [oQ 0 2 true] .ret))
def U3:qL:=⟨1,69,[.t 2],sr [oQ 0 2 false] qR0⟩
def UW:qL:=⟨1,4,[.t 2],sr [oP 0 1 (.hbox 2 (.t 0)),oQ 1 2 false] (sr [oD1 0 3 915 1,oM 1 2 3] .ret)⟩
def qEX:List qC:=[oM 0 9 3,oM 1 10 0,oD1 2 11 359 10,oP 3 12 (.bslice 3 (.agg [.int .i64 0,.str [],.nils]) 1 [(0,.t 11)]),oP 4 13 (.app 3 (.t 9) (.t 12)),oM 5 3 13]
def qEY:List qC:=[oM 0 16 3,oM 1 17 0,oD1 2 18 359 17,oP 3 19 (.bslice 3 (.agg [.int .i64 0,.str [],.nils]) 1 [(0,.t 18)]),oP 4 20 (.app 3 (.t 16) (.t 19)),oM 5 3 20]
def qEV:qI:=.seq (.blk 0 (.loop (.seq (sr [oM 0 14 0,oP 1 15 (.call 737 [.t 14,.c (.str [44])])] (.cond (.t 15) .skip (.exit 0))) (.blk 1 (.reg true qEY))))) (sr [oM 0 21 0,oP 1 22 (.call 872 [.t 21,.c (.str [93])])] (sr [oM 0 23 3,oM 1 2 23] .ret))
def qEW:qI:=sr [oP 0 4 (.mov (.c (.lst 3 [] true))),oM 1 3 4] (.seq (sr [oM 0 5 0,oP 1 6 (.call 737 [.t 5,.c (.str [91])]),oJ 2 7 6] (.cond (.t 7) (sr [oM 0 8 3,oM 1 2 8] .ret) .skip)) (sr qEX qEV))
def VL:qL:=⟨1,24,[.t 2],sr [oP 0 2 (.mov (.c (.nils)))] qEW⟩
def qBC:List qC:=[oM 0 4 0,oP 1 5 (.call 871 [.t 4,.c (.int .i64 2)]),oP 2 6 (.build (.agg [.str [],.nils]) [(0,1,.t 5)]),oP 3 3 (.lalloc (.agg [.str [],.nils])),oS 4 3 0 2 6]
def qBD:List qC:=[oU 0 9 3,oX 1 10 3 1,oM 2 11 0,oM 4 13 0,oP 3 12 (.call 871 [.t 11,.c (.int .i64 2)]),oD1 5 14 1332 13,oP 6 15 (.build (.agg [.str [],.nils]) [(0,1,.t 12),(1,1,.t 14)]),oP 7 16 (.bslice 2 (.agg [.str [],.nils]) 1 [(0,.t 15)]),oP 8 17 (.app 2 (.t 10) (.t 16)),oU 9 18 3,oS 10 3 1 1 17]
def qBE:List qC:=[oU 0 21 3,oX 1 22 3 1,oM 2 23 0,oM 4 25 0,oP 3 24 (.call 871 [.t 23,.c (.int .i64 2)]),oD1 5 26 1332 25,oP 6 27 (.build (.agg [.str [],.nils]) [(0,1,.t 24),(1,1,.t 26)]),oP 7 28 (.bslice 2 (.agg [.str [],.nils]) 1 [(0,.t 27)]),oP 8 29 (.app 2 (.t 22) (.t 28)),oU 9 30 3,oS 10 3 1 1 29]
def qBB:qI:=.seq (.blk 0 (.loop (.seq (sr [oM 0 19 0,oP 1 20 (.call 737 [.t 19,.c (.str [124])])] (.cond (.t 20) .skip (.exit 0))) (.blk 1 (.reg true qBE))))) (sr [oY 0 31 3 0 2,oS 1 2 0 2 31] .ret)
def Yg:qL:=⟨1,32,[.l 2 (some 2)],sr [oP 0 2 (.lalloc (.agg [.str [],.nils]))] (sr qBC (sr [oM 0 7 0,oP 1 8 (.call 872 [.t 7,.c (.str [61])])] (sr qBD qBB)))⟩
def qBG:List qC:=[oM 0 4 0,oP 1 5 (.call 871 [.t 4,.c (.int .i64 1)]),oP 2 6 (.build (.agg [.str [],.int .i64 0,.str [],.nils,.int .i64 0,.int .i64 0,.str [],.int .i64 0,.str [],.nils,.nils,.nils]) [(0,1,.t 5)]),oP 3 3 (.lalloc (.agg [.str [],.int .i64 0,.str [],.nils,.int .i64 0,.int .i64 0,.str [],.int .i64 0,.str [],.nils,.nils,.nils])),oS 4 3 0 12 6]
def qBH:List qC:=[oM 0 9 0,oD1 1 10 359 9,oU 2 11 3,oS 3 3 1 3 10]
def qBI:List qC:=[oM 0 14 0,oD1 1 15 1333 14,oU 2 16 3,oS 3 3 4 8 15]
def qBF:qI:=sr [oM 0 7 0,oP 1 8 (.call 872 [.t 7,.c (.str [58])])] (sr qBH (sr [oM 0 12 0,oP 1 13 (.call 872 [.t 12,.c (.str [61])])] (sr qBI (sr [oY 0 17 3 0 12,oS 1 2 0 12 17] .ret))))
def Yh:qL:=⟨1,18,[.l 2 (some 12)],sr [oP 0 2 (.lalloc (.agg [.str [],.int .i64 0,.str [],.nils,.int .i64 0,.int .i64 0,.str [],.int .i64 0,.str [],.nils,.nils,.nils]))] (sr qBG qBF)⟩
def qN3:List qC:=[oU 0 7 3,oX 1 8 3 0,oM 2 9 0,oD1 3 10 1016 9,oP 4 11 (.bslice 2 (.agg [.str [],.nils]) 1 [(0,.t 10)]),oP 5 12 (.app 2 (.t 8) (.t 11)),oU 6 13 3,oS 7 3 0 1 12]
def qN4:List qC:=[oU 0 16 3,oX 1 17 3 1,oM 2 18 0,oD1 3 19 1017 18,oP 4 20 (.bslice 12 (.agg [.str [],.int .i64 0,.str [],.nils,.int .i64 0,.int .i64 0,.str [],.int .i64 0,.str [],.nils,.nils,.nils]) 1 [(0,.t 19)]),oP 5 21 (.app 12 (.t 17) (.t 20)),oU 6 22 3,oS 7 3 1 1 21]
def qN1:qI:=.seq (.blk 2 (.loop (.seq (sr [oM 0 14 0,oP 1 15 (.call 737 [.t 14,.c (.str [100,101,102])])] (.cond (.t 15) .skip (.exit 2))) (.blk 3 (.reg true qN4))))) (sr [oY 0 23 3 0 2,oS 1 2 0 2 23] .ret)
def qN2:qI:=sr [oP 0 4 (.build (.agg [.nils,.nils]) []),oP 1 3 (.lalloc (.agg [.nils,.nils])),oS 2 3 0 2 4] (.seq (.blk 0 (.loop (.seq (sr [oM 0 5 0,oP 1 6 (.call 737 [.t 5,.c (.str [100,97,116,97])])] (.cond (.t 6) .skip (.exit 0))) (.blk 1 (.reg true qN3))))) qN1)
def UZ:qL:=⟨1,24,[.l 2 (some 2)],sr [oP 0 2 (.lalloc (.agg [.nils,.nils]))] qN2⟩
def qIW:List qC:=[oM 0 10 0,oD1 1 11 358 10,oM 2 9 11,oV 3 12 9 0,oV 4 13 9 1,oV 5 14 9 2,oM 6 5 12,oM 7 6 13,oM 8 7 14]
def qIX:List qC:=[oP 0 17 (.build (.agg [.nils,.nils]) []),oM 1 18 6,oM 2 19 7,oS 3 2 0 2 17,oM 4 3 18,oM 5 4 19]
def qIY:List qC:=[oM 0 20 5,oD1 1 21 633 20,oP 2 8 (.lalloc (.agg [.nils,.nils])),oS 3 8 0 2 21]
def qIZ:List qC:=[oM 0 23 5,oM 1 24 0,oD2 2 25 360 23 24,oM 3 22 25,oV 4 26 22 0,oV 5 27 22 1,oM 6 6 26,oM 7 7 27]
def qI0:List qC:=[oP 0 30 (.build (.agg [.nils,.nils]) []),oM 1 31 6,oM 2 32 7,oS 3 2 0 2 30,oM 4 3 31,oM 5 4 32]
def qI1:List qC:=[oP 0 36 (.build (.agg [.nils,.nils]) []),oS 1 2 0 2 36,oC 2 3 0,oC 3 4 1]
def qI2:List qC:=[oY 0 37 8 0 2,oS 1 2 0 2 37,oC 2 3 0,oC 3 4 0]
def qIV:qI:=.seq (sr [oM 0 28 7,oE 1 29 .neq 28 0] (.cond (.t 29) (sr qI0 .ret) .skip)) (.seq (sr [oY 0 33 8 0 2,oD1 1 34 624 33,oJ 2 35 34] (.cond (.t 35) (sr qI1 .ret) .skip)) (sr qI2 .ret))
def V3:qL:=⟨1,38,[.l 2 (some 2),.t 3,.t 4],sr [oP 0 2 (.lalloc (.agg [.nils,.nils])),oC 1 3 0,oC 2 4 0] (sr qIW (.seq (sr [oM 0 15 7,oE 1 16 .neq 15 0] (.cond (.t 16) (sr qIX .ret) .skip)) (sr qIY (sr qIZ qIV))))⟩
def qF8:List qC:=[oU 0 5 2,oX 1 6 2 0,oU 2 7 3,oX 3 8 3 0,oP 4 9 (.sop .neq (.t 6) (.t 8))]
def qF9:List qC:=[oU 0 10 2,oX 1 11 2 1,oU 2 12 3,oX 3 13 3 1,oD2 4 14 361 11 13,oJ 5 15 14]
def Ve:qL:=⟨2,16,[.t 4],sr [oP 0 2 (.lbox 2 (.t 0)),oP 1 3 (.lbox 2 (.t 1)),oQ 2 4 false] (.seq (sr qF8 (.cond (.t 9) (sr [oQ 0 4 false] .ret) .skip)) (.seq (sr qF9 (.cond (.t 15) (sr [oQ 0 4 false] .ret) .skip)) (sr [oQ 0 4 true] .ret)))⟩
def qE0:qL:=eqS 2 (some 2) 1471
def qBJ:List qC:=[oU 0 5 2,oX 1 6 2 0,oU 2 7 3,oX 3 8 3 0,oP 4 9 (.sop .neq (.t 6) (.t 8))]
def qBK:List qC:=[oU 0 10 2,oX 1 11 2 1,oU 2 12 3,oX 3 13 3 1,oD2 4 14 1334 11 13,oJ 5 15 14]
def Yi:qL:=⟨2,16,[.t 4],sr [oP 0 2 (.lbox 2 (.t 0)),oP 1 3 (.lbox 2 (.t 1)),oQ 2 4 false] (.seq (sr qBJ (.cond (.t 9) (sr [oQ 0 4 false] .ret) .skip)) (.seq (sr qBK (.cond (.t 15) (sr [oQ 0 4 false] .ret) .skip)) (sr [oQ 0 4 true] .ret)))⟩
def F634:qL:=eqS 2 (some 2) 1018
def qBM:List qC:=[oU 0 5 2,oX 1 6 2 0,oU 2 7 3,oX 3 8 3 0,oP 4 9 (.sop .neq (.t 6) (.t 8))]
def qBN:List qC:=[oU 0 10 2,oY 1 11 2 1 3,oU 2 12 3,oY 3 13 3 1 3,oD2 4 14 101 11 13,oJ 5 15 14]
def qBO:List qC:=[oU 0 16 2,oY 1 17 2 4 8,oU 2 18 3,oY 3 19 3 4 8,oD2 4 20 191 17 19,oJ 5 21 20]
def qBL:qI:=.seq (sr qBM (.cond (.t 9) (sr [oQ 0 4 false] .ret) .skip)) (.seq (sr qBN (.cond (.t 15) (sr [oQ 0 4 false] .ret) .skip)) (.seq (sr qBO (.cond (.t 21) (sr [oQ 0 4 false] .ret) .skip)) (sr [oQ 0 4 true] .ret)))
def Yj:qL:=⟨2,22,[.t 4],sr [oP 0 2 (.lbox 12 (.t 0)),oP 1 3 (.lbox 12 (.t 1)),oQ 2 4 false] qBL⟩
def F635:qL:=eqS 12 (some 12) 1019
def qI3:List qC:=[oU 0 5 2,oX 1 6 2 0,oU 2 7 3,oX 3 8 3 0,oD2 4 9 634 6 8,oJ 5 10 9]
def qI4:List qC:=[oU 0 11 2,oX 1 12 2 1,oU 2 13 3,oX 3 14 3 1,oD2 4 15 635 12 14,oJ 5 16 15]
def V4:qL:=⟨2,17,[.t 4],sr [oP 0 2 (.lbox 2 (.t 0)),oP 1 3 (.lbox 2 (.t 1)),oQ 2 4 false] (.seq (sr qI3 (.cond (.t 10) (sr [oQ 0 4 false] .ret) .skip)) (.seq (sr qI4 (.cond (.t 16) (sr [oQ 0 4 false] .ret) .skip)) (sr [oQ 0 4 true] .ret)))⟩
def qBU:List qC:=[oM 0 6 5,oM 1 7 0,oW 2 8 7,oB 3 9 .lss 6 8]
def qBV:List qC:=[oM 0 12 0,oM 1 13 5,oM 2 14 1,oD1 3 15 739 14,oA 4 16 2 12 13,oF 5 17 0 16,oT 6 1 17 15]
def qBW:List qC:=[oM 0 20 0,oM 1 21 5,oA 2 22 2 20 21,oF 3 23 1 22,oL 4 24 23,oM 5 25 1,oD2 6 26 362 24 25,oM 7 1 26]
def qBT:qI:=.seq (.blk 1 (sr qBV (sr [oM 0 18 1,oE 1 19 .add 18 1,oM 2 1 19] (.reg true qBW)))) (.reg true [oM 0 10 5,oE 1 11 .add 10 1,oM 2 5 11])
def Yl:qL:=⟨2,28,[.t 4],sr [oC 0 4 0] (.seq (sr [oC 0 5 0] (.blk 0 (.loop (.seq (sr qBU (.cond (.t 9) .skip (.exit 0))) qBT)))) (sr [oM 0 27 1,oM 1 4 27] .ret))⟩
def qN6:List qC:=[oM 0 6 5,oM 1 7 0,oW 2 8 7,oB 3 9 .lss 6 8]
def qN7:List qC:=[oM 0 12 0,oM 1 13 5,oM 2 14 1,oD1 3 15 739 14,oA 4 16 2 12 13,oF 5 17 0 16,oT 6 1 17 15]
def qN8:List qC:=[oM 0 20 0,oM 1 21 5,oA 2 22 2 20 21,oF 3 23 1 22,oL 4 24 23,oM 5 25 1,oD2 6 26 1020 24 25,oM 7 1 26]
def qN5:qI:=.seq (.blk 1 (sr qN7 (sr [oM 0 18 1,oE 1 19 .add 18 1,oM 2 1 19] (.reg true qN8)))) (.reg true [oM 0 10 5,oE 1 11 .add 10 1,oM 2 5 11])
def Ua:qL:=⟨2,28,[.t 4],sr [oC 0 4 0] (.seq (sr [oC 0 5 0] (.blk 0 (.loop (.seq (sr qN6 (.cond (.t 9) .skip (.exit 0))) qN5)))) (sr [oM 0 27 1,oM 1 4 27] .ret))⟩
def qOE:List qC:=[oM 0 6 5,oM 1 7 0,oW 2 8 7,oB 3 9 .lss 6 8]
def qOF:List qC:=[oM 0 12 0,oM 1 13 5,oM 2 14 1,oD1 3 15 739 14,oA 4 16 12 12 13,oF 5 17 0 16,oT 6 1 17 15]
def qOJ:List qC:=[oM 0 20 0,oM 1 21 5,oM 2 22 1,oA 3 23 12 20 21,oF 4 24 1 23,oF 5 25 0 24,oT 6 1 25 22]
def qOK:List qC:=[oM 0 28 0,oM 1 29 5,oM 2 30 1,oD1 3 31 739 30,oA 4 32 12 28 29,oF 5 33 1 32,oF 6 34 1 33,oT 7 1 34 31]
def qOL:List qC:=[oM 0 37 0,oM 1 38 5,oA 2 39 12 37 38,oF 3 40 1 39,oF 4 41 2 40,oL 5 42 41,oM 6 43 1,oD2 7 44 362 42 43,oM 8 1 44]
def qOM:List qC:=[oM 0 45 0,oM 1 46 5,oM 2 47 1,oA 3 48 12 45 46,oF 4 49 4 48,oF 5 50 0 49,oT 6 1 50 47]
def qON:List qC:=[oM 0 53 0,oM 1 54 5,oM 2 55 1,oA 3 56 12 53 54,oF 4 57 4 56,oF 5 58 1 57,oT 6 1 58 55]
def qOO:List qC:=[oM 0 61 0,oM 1 62 5,oM 2 63 1,oD1 3 64 739 63,oA 4 65 12 61 62,oF 5 66 4 65,oF 6 67 2 66,oT 7 1 67 64]
def qOP:List qC:=[oM 0 70 0,oM 1 71 5,oM 2 72 1,oA 3 73 12 70 71,oF 4 74 4 73,oF 5 75 3 74,oF 6 76 0 75,oT 7 1 76 72]
def qOQ:List qC:=[oM 0 79 0,oM 1 80 5,oM 2 81 1,oD1 3 82 739 81,oA 4 83 12 79 80,oF 5 84 4 83,oF 6 85 3 84,oF 7 86 1 85,oT 8 1 86 82]
def qOG:List qC:=[oM 0 89 0,oM 1 90 5,oA 2 91 12 89 90,oF 3 92 4 91,oF 4 93 3 92,oF 5 94 2 93,oL 6 95 94,oM 7 96 1,oD2 8 97 362 95 96,oM 9 1 97]
def qOH:List qC:=[oM 0 98 0,oM 1 99 5,oA 2 100 12 98 99,oF 3 101 4 100,oF 4 102 6 101,oL 5 103 102,oM 6 104 1,oD2 7 105 514 103 104,oM 8 1 105]
def qOI:List qC:=[oM 0 106 0,oM 1 107 5,oA 2 108 12 106 107,oF 3 109 4 108,oF 4 110 7 109,oL 5 111 110,oM 6 112 1,oD2 7 113 515 111 112,oM 8 1 113]
def qN9:qI:=sr [oM 0 77 1,oE 1 78 .add 77 1,oM 2 1 78] (sr qOQ (sr [oM 0 87 1,oE 1 88 .add 87 1,oM 2 1 88] (sr qOG (sr qOH (.reg true qOI)))))
def qOA:qI:=sr [oM 0 59 1,oE 1 60 .add 59 1,oM 2 1 60] (sr qOO (sr [oM 0 68 1,oE 1 69 .add 68 1,oM 2 1 69] (sr qOP qN9)))
def qOB:qI:=sr [oM 0 35 1,oE 1 36 .add 35 1,oM 2 1 36] (sr qOL (sr qOM (sr [oM 0 51 1,oE 1 52 .add 51 1,oM 2 1 52] (sr qON qOA))))
def qOC:qI:=sr [oM 0 18 1,oE 1 19 .add 18 1,oM 2 1 19] (sr qOJ (sr [oM 0 26 1,oE 1 27 .add 26 1,oM 2 1 27] (sr qOK qOB)))
def qOD:qI:=sr [oC 0 5 0] (.blk 0 (.loop (.seq (sr qOE (.cond (.t 9) .skip (.exit 0))) (.seq (.blk 1 (sr qOF qOC)) (.reg true [oM 0 10 5,oE 1 11 .add 10 1,oM 2 5 11])))))
def Ub:qL:=⟨2,115,[.t 4],sr [oC 0 4 0] (.seq qOD (sr [oM 0 114 1,oM 1 4 114] .ret))⟩
def qI5:List qC:=[oU 0 5 2,oX 1 6 2 0,oM 2 7 1,oD2 3 8 636 6 7,oM 4 1 8]
def qI6:List qC:=[oU 0 9 2,oX 1 10 2 1,oM 2 11 1,oD2 3 12 637 10 11,oM 4 1 12]
def V5:qL:=⟨2,14,[.t 4],sr [oP 0 2 (.lbox 2 (.t 0)),oC 1 4 0] (sr qI5 (sr qI6 (sr [oM 0 13 1,oM 1 4 13] .ret)))⟩
def qBZ:List qC:=[oM 0 6 5,oM 1 7 0,oW 2 8 7,oB 3 9 .lss 6 8]
def qB0:List qC:=[oM 0 12 0,oM 1 13 5,oA 2 14 2 12 13,oF 3 15 0 14,oL 4 16 15,oM 5 17 1,⟨6,some 18,none,.call 739 [.t 17],[⟨4,some 16,none,.load none (.t 15),[]⟩]⟩,oP 7 19 (.sop .neq (.t 16) (.t 18))]
def qB1:List qC:=[oM 0 22 0,oM 1 23 5,oA 2 24 2 22 23,oF 3 25 1 24,oL 4 26 25,oM 5 27 1,oD2 6 28 363 26 27,oM 7 1 28]
def qBX:qI:=sr [oM 0 20 1,oE 1 21 .add 20 1,oM 2 1 21] (sr qB1 (sr [oM 0 29 1,oE 1 30 .lss 29 0] (.cond (.t 30) (sr [oP 0 4 (.mov (.c (.int .i64 (-1))))] .ret) .skip)))
def qBY:qI:=.loop (.seq (sr qBZ (.cond (.t 9) .skip (.exit 0))) (.seq (.blk 1 (.seq (sr qB0 (.cond (.t 19) (sr [oP 0 4 (.mov (.c (.int .i64 (-1))))] .ret) .skip)) qBX)) (.reg true [oM 0 10 5,oE 1 11 .add 10 1,oM 2 5 11])))
def Ym:qL:=⟨2,32,[.t 4],sr [oC 0 4 0] (.seq (sr [oC 0 5 0] (.blk 0 qBY)) (sr [oM 0 31 1,oM 1 4 31] .ret))⟩
def qOT:List qC:=[oM 0 6 5,oM 1 7 0,oW 2 8 7,oB 3 9 .lss 6 8]
def qOU:List qC:=[oM 0 12 0,oM 1 13 5,oA 2 14 2 12 13,oF 3 15 0 14,oL 4 16 15,oM 5 17 1,⟨6,some 18,none,.call 739 [.t 17],[⟨4,some 16,none,.load none (.t 15),[]⟩]⟩,oP 7 19 (.sop .neq (.t 16) (.t 18))]
def qOV:List qC:=[oM 0 22 0,oM 1 23 5,oA 2 24 2 22 23,oF 3 25 1 24,oL 4 26 25,oM 5 27 1,oD2 6 28 1021 26 27,oM 7 1 28]
def qOR:qI:=sr [oM 0 20 1,oE 1 21 .add 20 1,oM 2 1 21] (sr qOV (sr [oM 0 29 1,oE 1 30 .lss 29 0] (.cond (.t 30) (sr [oP 0 4 (.mov (.c (.int .i64 (-1))))] .ret) .skip)))
def qOS:qI:=.loop (.seq (sr qOT (.cond (.t 9) .skip (.exit 0))) (.seq (.blk 1 (.seq (sr qOU (.cond (.t 19) (sr [oP 0 4 (.mov (.c (.int .i64 (-1))))] .ret) .skip)) qOR)) (.reg true [oM 0 10 5,oE 1 11 .add 10 1,oM 2 5 11])))
def Uc:qL:=⟨2,32,[.t 4],sr [oC 0 4 0] (.seq (sr [oC 0 5 0] (.blk 0 qOS)) (sr [oM 0 31 1,oM 1 4 31] .ret))⟩
def qO4:List qC:=[oM 0 6 5,oM 1 7 0,oW 2 8 7,oB 3 9 .lss 6 8]
def qO5:List qC:=[oM 0 12 0,oM 1 13 5,oA 2 14 12 12 13,oF 3 15 0 14,oL 4 16 15,oM 5 17 1,⟨6,some 18,none,.call 739 [.t 17],[⟨4,some 16,none,.load none (.t 15),[]⟩]⟩,oP 7 19 (.sop .neq (.t 16) (.t 18))]
def qO9:List qC:=[oM 0 22 0,oM 1 23 5,oA 2 24 12 22 23,oF 3 25 1 24,oF 4 26 0 25,oL 5 27 26,oM 6 28 1,oB 7 29 .neq 27 28]
def qPA:List qC:=[oM 0 32 0,oM 1 33 5,oA 2 34 12 32 33,oF 3 35 1 34,oF 4 36 1 35,oL 5 37 36,oM 6 38 1,⟨7,some 39,none,.call 739 [.t 38],[⟨5,some 37,none,.load none (.t 36),[]⟩]⟩,oP 8 40 (.sop .neq (.t 37) (.t 39))]
def qPB:List qC:=[oM 0 43 0,oM 1 44 5,oA 2 45 12 43 44,oF 3 46 1 45,oF 4 47 2 46,oL 5 48 47,oM 6 49 1,oD2 7 50 363 48 49,oM 8 1 50]
def qPC:List qC:=[oM 0 53 0,oM 1 54 5,oA 2 55 12 53 54,oF 3 56 4 55,oF 4 57 0 56,oL 5 58 57,oM 6 59 1,oB 7 60 .neq 58 59]
def qPD:List qC:=[oM 0 63 0,oM 1 64 5,oA 2 65 12 63 64,oF 3 66 4 65,oF 4 67 1 66,oL 5 68 67,oM 6 69 1,oB 7 70 .neq 68 69]
def qPE:List qC:=[oM 0 73 0,oM 1 74 5,oA 2 75 12 73 74,oF 3 76 4 75,oF 4 77 2 76,oL 5 78 77,oM 6 79 1,⟨7,some 80,none,.call 739 [.t 79],[⟨5,some 78,none,.load none (.t 77),[]⟩]⟩,oP 8 81 (.sop .neq (.t 78) (.t 80))]
def qPF:List qC:=[oM 0 84 0,oM 1 85 5,oA 2 86 12 84 85,oF 3 87 4 86,oF 4 88 3 87,oF 5 89 0 88,oL 6 90 89,oM 7 91 1,oB 8 92 .neq 90 91]
def qPG:List qC:=[oM 0 95 0,oM 1 96 5,oA 2 97 12 95 96,oF 3 98 4 97,oF 4 99 3 98,oF 5 100 1 99,oL 6 101 100,oM 7 102 1,⟨8,some 103,none,.call 739 [.t 102],[⟨6,some 101,none,.load none (.t 100),[]⟩]⟩,oP 9 104 (.sop .neq (.t 101) (.t 103))]
def qO6:List qC:=[oM 0 107 0,oM 1 108 5,oA 2 109 12 107 108,oF 3 110 4 109,oF 4 111 3 110,oF 5 112 2 111,oL 6 113 112,oM 7 114 1,oD2 8 115 363 113 114,oM 9 1 115]
def qO7:List qC:=[oM 0 118 0,oM 1 119 5,oA 2 120 12 118 119,oF 3 121 4 120,oF 4 122 6 121,oL 5 123 122,oM 6 124 1,oD2 7 125 516 123 124,oM 8 1 125]
def qO8:List qC:=[oM 0 128 0,oM 1 129 5,oA 2 130 12 128 129,oF 3 131 4 130,oF 4 132 7 131,oL 5 133 132,oM 6 134 1,oD2 7 135 517 133 134,oM 8 1 135]
def qOW:qI:=.seq (sr [oM 0 126 1,oE 1 127 .lss 126 0] (.cond (.t 127) (sr [oP 0 4 (.mov (.c (.int .i64 (-1))))] .ret) .skip)) (sr qO8 (sr [oM 0 136 1,oE 1 137 .lss 136 0] (.cond (.t 137) (sr [oP 0 4 (.mov (.c (.int .i64 (-1))))] .ret) .skip)))
def qOX:qI:=sr [oM 0 105 1,oE 1 106 .add 105 1,oM 2 1 106] (sr qO6 (.seq (sr [oM 0 116 1,oE 1 117 .lss 116 0] (.cond (.t 117) (sr [oP 0 4 (.mov (.c (.int .i64 (-1))))] .ret) .skip)) (sr qO7 qOW)))
def qOY:qI:=.seq (sr qPF (.cond (.t 92) (sr [oP 0 4 (.mov (.c (.int .i64 (-1))))] .ret) .skip)) (sr [oM 0 93 1,oE 1 94 .add 93 1,oM 2 1 94] (.seq (sr qPG (.cond (.t 104) (sr [oP 0 4 (.mov (.c (.int .i64 (-1))))] .ret) .skip)) qOX))
def qOZ:qI:=sr [oM 0 71 1,oE 1 72 .add 71 1,oM 2 1 72] (.seq (sr qPE (.cond (.t 81) (sr [oP 0 4 (.mov (.c (.int .i64 (-1))))] .ret) .skip)) (sr [oM 0 82 1,oE 1 83 .add 82 1,oM 2 1 83] qOY))
def qO0:qI:=.seq (sr qPC (.cond (.t 60) (sr [oP 0 4 (.mov (.c (.int .i64 (-1))))] .ret) .skip)) (sr [oM 0 61 1,oE 1 62 .add 61 1,oM 2 1 62] (.seq (sr qPD (.cond (.t 70) (sr [oP 0 4 (.mov (.c (.int .i64 (-1))))] .ret) .skip)) qOZ))
def qO1:qI:=sr [oM 0 41 1,oE 1 42 .add 41 1,oM 2 1 42] (sr qPB (.seq (sr [oM 0 51 1,oE 1 52 .lss 51 0] (.cond (.t 52) (sr [oP 0 4 (.mov (.c (.int .i64 (-1))))] .ret) .skip)) qO0))
def qO2:qI:=.seq (sr qO9 (.cond (.t 29) (sr [oP 0 4 (.mov (.c (.int .i64 (-1))))] .ret) .skip)) (sr [oM 0 30 1,oE 1 31 .add 30 1,oM 2 1 31] (.seq (sr qPA (.cond (.t 40) (sr [oP 0 4 (.mov (.c (.int .i64 (-1))))] .ret) .skip)) qO1))
def qO3:qI:=.seq (.blk 1 (.seq (sr qO5 (.cond (.t 19) (sr [oP 0 4 (.mov (.c (.int .i64 (-1))))] .ret) .skip)) (sr [oM 0 20 1,oE 1 21 .add 20 1,oM 2 1 21] qO2))) (.reg true [oM 0 10 5,oE 1 11 .add 10 1,oM 2 5 11])
def Ud:qL:=⟨2,139,[.t 4],sr [oC 0 4 0] (.seq (sr [oC 0 5 0] (.blk 0 (.loop (.seq (sr qO4 (.cond (.t 9) .skip (.exit 0))) qO3)))) (sr [oM 0 138 1,oM 1 4 138] .ret))⟩
def qI8:List qC:=[oU 0 5 2,oX 1 6 2 0,oM 2 7 1,oD2 3 8 638 6 7,oM 4 1 8]
def qI9:List qC:=[oU 0 11 2,oX 1 12 2 1,oM 2 13 1,oD2 3 14 639 12 13,oM 4 1 14]
def qI7:qI:=sr qI9 (.seq (sr [oM 0 15 1,oE 1 16 .lss 15 0] (.cond (.t 16) (sr [oP 0 4 (.mov (.c (.int .i64 (-1))))] .ret) .skip)) (sr [oM 0 17 1,oM 1 4 17] .ret))
def V6:qL:=⟨2,18,[.t 4],sr [oP 0 2 (.lbox 2 (.t 0)),oC 1 4 0] (sr qI8 (.seq (sr [oM 0 9 1,oE 1 10 .lss 9 0] (.cond (.t 10) (sr [oP 0 4 (.mov (.c (.int .i64 (-1))))] .ret) .skip)) qI7))⟩
def qKY:List qC:=[oM 0 18 0,oD1 1 19 267 18,oM 2 17 19,oV 3 20 17 0,oV 4 21 17 1,oV 5 22 17 2,oP 6 3 (.lalloc (.agg [.nils,.nils])),oS 7 3 0 2 20,oM 8 4 21,oM 9 5 22]
def qKZ:List qC:=[oM 0 24 0,oD1 1 25 264 24,oM 2 23 25,oV 3 26 23 0,oV 4 27 23 1,oV 5 28 23 2,oP 6 6 (.lalloc (.agg [.nils,.nils])),oS 7 6 0 2 26,oM 8 7 27,oM 9 8 28]
def qK0:List qC:=[oY 0 29 6 0 2,oY 1 30 3 0 2,oD2 2 31 268 29 30,oJ 3 32 31,oM 4 33 32,oH 5 34 33 false 7,oH 6 35 33 false 4,oG 7 36 33 false (.bin .neq (.t 34) (.t 35)),oPt 8 37 33 36,oM 9 38 37,oH 10 39 38 false 8,oH 11 40 38 false 5,oG 12 41 38 false (.bin .neq (.t 39) (.t 40)),oPt 13 42 38 41]
def qK1:List qC:=[oY 0 43 6 0 2,oM 1 44 9,oD2 2 45 269 43 44,oM 3 9 45]
def qK2:List qC:=[oY 0 46 6 0 2,oM 1 47 10,oD2 2 48 270 46 47,oM 3 10 48]
def qK3:List qC:=[oM 0 55 0,oD1 1 56 264 55,oM 2 54 56,oV 3 57 54 0,oV 4 58 54 1,oV 5 59 54 2,oP 6 11 (.lalloc (.agg [.nils,.nils])),oS 7 11 0 2 57,oM 8 12 58,oM 9 13 59]
def qK4:List qC:=[oY 0 60 11 0 2,oY 1 61 3 0 2,oD2 2 62 268 60 61,oJ 3 63 62,oM 4 64 63,oH 5 65 64 false 12,oH 6 66 64 false 4,oG 7 67 64 false (.bin .neq (.t 65) (.t 66)),oPt 8 68 64 67,oM 9 69 68,oH 10 70 69 false 13,oH 11 71 69 false 5,oG 12 72 69 false (.bin .neq (.t 70) (.t 71)),oPt 13 73 69 72]
def qK5:List qC:=[oY 0 74 6 0 2,oM 1 75 10,oD2 2 76 270 74 75,oM 3 10 76]
def qKW:qI:=.seq (sr [oM 0 77 10,oE 1 78 .lss 77 0] (.cond (.t 78) (sr [oQ 0 2 false] .ret) .skip)) (.seq (sr [oM 0 79 10,oM 1 80 9,oB 2 81 .neq 79 80] (.cond (.t 81) (sr [oQ 0 2 false] .ret) .skip)) (sr [oQ 0 2 true] .ret))
def qKX:qI:=.seq (sr [oM 0 51 10,oM 1 52 9,oB 2 53 .neq 51 52] (.cond (.t 53) (sr [oQ 0 2 false] .ret) .skip)) (sr qK3 (.seq (sr qK4 (.cond (.t 73) (sr [oQ 0 2 false] .ret) .skip)) (sr [oC 0 10 1] (sr qK5 qKW))))
def qKU:qI:=sr qK1 (sr [oC 0 10 1] (sr qK2 (.seq (sr [oM 0 49 10,oE 1 50 .lss 49 0] (.cond (.t 50) (sr [oQ 0 2 false] .ret) .skip)) qKX)))
def qKV:qI:=.seq (sr [oM 0 14 0,oP 1 15 (.slen (.t 14)),oE 2 16 .gtr 15 1048576] (.cond (.t 16) (sr [oQ 0 2 true] .ret) .skip)) (sr qKY (sr qKZ (.seq (sr qK0 (.cond (.t 42) (sr [oQ 0 2 false] .ret) .skip)) (sr [oC 0 9 1] qKU))))
def F46:qL:=⟨1,82,[.t 2],sr [oQ 0 2 false] qKV⟩
@[go_sem] theorem rR0:OE qCB.eq_1/\OE qD2.eq_1/\OE qET.eq_1/\OE qA6.eq_1/\OE qC2.eq_1/\CE qC0.eq_1/\CE qC1.eq_1/\OE qA7.eq_1/\OE qB9.eq_1/\OE qCA.eq_1/\CE qB7.eq_1/\CE qB8.eq_1/\OE qPH.eq_1/\OE qJG.eq_1/\OE qJH.eq_1/\OE qJK.eq_1/\OE qJL.eq_1/\OE qJM.eq_1/\CE qJE.eq_1/\CE qJF.eq_1/\OE qJN.eq_1/\OE qJO.eq_1/\OE qJP.eq_1/\OE qJI.eq_1/\CE qJC.eq_1/\CE qJD.eq_1/\OE qJJ.eq_1/\OE qQG.eq_1/\OE qQH.eq_1/\OE qRU.eq_1/\OE qB3.eq_1/\OE qB5.eq_1/\OE qB6.eq_1/\CE qB4.eq_1/\OE qA8.eq_1/\OE qA9.eq_1/\OE qEU.eq_1/\OE qBA.eq_1/\OE qNU.eq_1/\OE qNV.eq_1/\OE qNW.eq_1/\CE qNR.eq_1/\CE qNS.eq_1/\CE qNT.eq_1/\OE qNX.eq_1/\OE qNY.eq_1/\OE qNZ.eq_1/\OE qN0.eq_1/\CE qNP.eq_1/\CE qNQ.eq_1/\OE qIP.eq_1/\OE qIQ.eq_1/\OE qIR.eq_1/\OE qIS.eq_1/\OE qIT.eq_1/\CE qIM.eq_1/\CE qIN.eq_1/\OE qIU.eq_1/\CE qIO.eq_1/\OE qCC.eq_1:=by and_intros<;>first|exact OEM _|exact CEM _
@[go_sem] theorem rR1:OE qCD.eq_1/\OE qCE.eq_1/\OE qPI.eq_1/\OE qCF.eq_1/\OE qCG.eq_1/\OE qPN.eq_1/\OE qPO.eq_1/\OE qRC.eq_1/\OE qRD.eq_1/\OE qRE.eq_1/\CE qRB.eq_1/\OE qRF.eq_1/\OE qRY.eq_1/\OE qPL.eq_1/\OE qPM.eq_1/\CE qPJ.eq_1/\CE qPK.eq_1/\OE qPP.eq_1/\OE qJW.eq_1/\OE qJX.eq_1/\OE qJY.eq_1/\OE qF1.eq_1/\OE qF3.eq_1/\OE qF4.eq_1/\CE qF2.eq_1/\OE qF5.eq_1/\OE qEO.eq_1/\OE qEP.eq_1/\OE qEQ.eq_1/\CE qEN.eq_1/\OE qSD.eq_1/\OE qM9.eq_1/\CE qM4.eq_1/\CE qM5.eq_1/\OE qNA.eq_1/\OE qNB.eq_1/\OE qNC.eq_1/\OE qND.eq_1/\CE qM6.eq_1/\CE qM7.eq_1/\CE qM8.eq_1/\OE qIK.eq_1/\OE qE7.eq_1/\OE qEJ.eq_1/\OE qGB.eq_1/\CE qGA.eq_1/\OE qGE.eq_1/\OE qGF.eq_1/\OE qGG.eq_1/\OE qGH.eq_1/\CE qGC.eq_1/\CE qGD.eq_1/\OE qGJ.eq_1/\OE qGK.eq_1/\CE qGI.eq_1/\OE qFC.eq_1/\OE qFD.eq_1/\OE qFE.eq_1/\OE qFF.eq_1/\CE qE8.eq_1:=by and_intros<;>first|exact OEM _|exact CEM _
@[go_sem] theorem rR2:CE qE9.eq_1/\CE qFA.eq_1/\OE qFG.eq_1/\OE qFH.eq_1/\CE qFB.eq_1/\OE qC5.eq_1/\OE qC6.eq_1/\OE qC7.eq_1/\OE qC8.eq_1/\OE qC9.eq_1/\OE qDA.eq_1/\CE qC3.eq_1/\OE qDB.eq_1/\CE qC4.eq_1/\OE qP1.eq_1/\OE qP2.eq_1/\OE qP3.eq_1/\CE qP0.eq_1/\OE qJ0.eq_1/\OE qJ1.eq_1/\OE qJ2.eq_1/\OE qJB.eq_1/\OE qJA.eq_1/\OE qDC.eq_1/\OE qP8.eq_1/\OE qP9.eq_1/\OE qDI.eq_1/\OE qQ2.eq_1/\OE qQ3.eq_1/\OE qQ4.eq_1/\OE qQ5.eq_1/\OE qQ6.eq_1/\OE qQ7.eq_1/\OE qP6.eq_1/\OE qP7.eq_1/\CE qP4.eq_1/\CE qP5.eq_1/\OE qJ3.eq_1/\OE qJ4.eq_1/\OE qQA.eq_1/\OE qQB.eq_1/\OE qJ5.eq_1/\OE qJ6.eq_1/\OE qBQ.eq_1/\OE qBR.eq_1/\OE qBS.eq_1/\CE qBP.eq_1/\OE qQE.eq_1/\CE qQC.eq_1/\CE qQD.eq_1/\OE qJ9.eq_1/\OE qKA.eq_1/\OE qKB.eq_1/\OE qKC.eq_1/\CE qJ7.eq_1/\CE qJ8.eq_1/\OE qKG.eq_1/\OE qKH.eq_1/\OE qKI.eq_1/\OE qKJ.eq_1:=by and_intros<;>first|exact OEM _|exact CEM _
@[go_sem] theorem rR3:CE qKD.eq_1/\CE qKE.eq_1/\CE qKF.eq_1/\OE qJS.eq_1/\OE qJT.eq_1/\OE qJU.eq_1/\OE qJV.eq_1/\CE qJQ.eq_1/\CE qJR.eq_1/\OE qQF.eq_1/\CE qCH.eq_1/\CE qCI.eq_1/\CE qCJ.eq_1/\CE qCK.eq_1/\CE qCL.eq_1/\CE qCM.eq_1/\OE qE3.eq_1/\OE qPY.eq_1/\OE qPZ.eq_1/\CE qPX.eq_1/\OE qE5.eq_1/\OE qE6.eq_1/\CE qE4.eq_1/\OE qCP.eq_1/\OE qCQ.eq_1/\OE qCS.eq_1/\OE qCT.eq_1/\OE qCU.eq_1/\OE qCV.eq_1/\OE qCW.eq_1/\OE qCX.eq_1/\OE qCY.eq_1/\OE qCZ.eq_1/\CE qCN.eq_1/\OE qCR.eq_1/\CE qCO.eq_1/\OE qPS.eq_1/\OE qPT.eq_1/\OE qPU.eq_1/\OE qPV.eq_1/\OE qPW.eq_1/\CE qPQ.eq_1/\CE qPR.eq_1/\OE qJZ.eq_1/\OE qFM.eq_1/\OE qFN.eq_1/\CE qFL.eq_1/\OE qDN.eq_1/\OE qDO.eq_1/\OE qDP.eq_1/\OE qDQ.eq_1/\CE qDM.eq_1/\OE qEZ.eq_1/\OE qHD.eq_1/\OE qHE.eq_1/\OE qHF.eq_1/\CE qHB.eq_1/\CE qHC.eq_1/\OE qHI.eq_1/\OE qHJ.eq_1:=by and_intros<;>first|exact OEM _|exact CEM _
@[go_sem] theorem rR4:CE qHG.eq_1/\OE qHK.eq_1/\OE qHL.eq_1/\CE qHH.eq_1/\OE qH4.eq_1/\OE qH5.eq_1/\OE qH6.eq_1/\CE qH2.eq_1/\OE qH7.eq_1/\CE qH3.eq_1/\OE qHN.eq_1/\OE qHO.eq_1/\OE qHP.eq_1/\CE qHM.eq_1/\OE qGW.eq_1/\OE qGX.eq_1/\OE qGY.eq_1/\CE qGR.eq_1/\CE qGS.eq_1/\OE qGZ.eq_1/\CE qGT.eq_1/\OE qG0.eq_1/\CE qGU.eq_1/\CE qGV.eq_1/\OE qG1.eq_1/\OE qGM.eq_1/\OE qGN.eq_1/\CE qGL.eq_1/\OE qFJ.eq_1/\OE qFK.eq_1/\CE qFI.eq_1/\OE qDK.eq_1/\OE qDL.eq_1/\CE qDJ.eq_1/\OE qQ9.eq_1/\OE qRA.eq_1/\CE qQ8.eq_1/\OE qLB.eq_1/\OE qLC.eq_1/\OE qLE.eq_1/\CE qK9.eq_1/\OE qLF.eq_1/\OE qLG.eq_1/\OE qLH.eq_1/\CE qLA.eq_1/\OE qLI.eq_1/\OE qLJ.eq_1/\OE qLD.eq_1/\CE qK6.eq_1/\CE qK7.eq_1/\CE qK8.eq_1/\OE qB2.eq_1/\OE qDD.eq_1/\OE qDF.eq_1/\OE qDG.eq_1/\CE qDE.eq_1/\OE qDH.eq_1/\OE qQN.eq_1/\OE qQO.eq_1/\OE qQU.eq_1:=by and_intros<;>first|exact OEM _|exact CEM _
@[go_sem] theorem rR5:OE qQV.eq_1/\OE qQW.eq_1/\OE qQX.eq_1/\OE qQY.eq_1/\OE qQZ.eq_1/\OE qQ0.eq_1/\OE qQ1.eq_1/\OE qQP.eq_1/\OE qQQ.eq_1/\OE qQR.eq_1/\OE qQS.eq_1/\OE qQT.eq_1/\CE qQI.eq_1/\CE qQJ.eq_1/\CE qQK.eq_1/\CE qQL.eq_1/\CE qQM.eq_1/\OE qKN.eq_1/\OE qKO.eq_1/\OE qKP.eq_1/\OE qKQ.eq_1/\OE qKR.eq_1/\OE qKS.eq_1/\CE qKK.eq_1/\CE qKL.eq_1/\OE qKT.eq_1/\CE qKM.eq_1/\OE qF6.eq_1/\OE qF7.eq_1/\OE qA4.eq_1/\OE qE2.eq_1/\CE qE1.eq_1/\CE qDW.eq_1/\CE qDX.eq_1/\OE qDY.eq_1/\CE qER.eq_1/\OE qHX.eq_1/\OE qHY.eq_1/\OE qHZ.eq_1/\OE qH0.eq_1/\OE qH1.eq_1/\CE qHW.eq_1/\CE qHQ.eq_1/\OE qIB.eq_1/\OE qH9.eq_1/\OE qIA.eq_1/\CE qH8.eq_1/\OE qHS.eq_1/\OE qHT.eq_1/\OE qHU.eq_1/\CE qHR.eq_1/\OE qHV.eq_1/\OE qG6.eq_1/\CE qG2.eq_1/\CE qG3.eq_1/\OE qG7.eq_1/\OE qG8.eq_1/\CE qG4.eq_1/\CE qG5.eq_1/\OE qG9.eq_1:=by and_intros<;>first|exact OEM _|exact CEM _
@[go_sem] theorem rR6:OE qHA.eq_1/\OE qGP.eq_1/\OE qGQ.eq_1/\CE qGO.eq_1/\OE qFP.eq_1/\OE qFQ.eq_1/\OE qFR.eq_1/\OE qFS.eq_1/\CE qFO.eq_1/\OE qDS.eq_1/\OE qDT.eq_1/\OE qDU.eq_1/\OE qDV.eq_1/\CE qDR.eq_1/\OE qRH.eq_1/\OE qRI.eq_1/\OE qRJ.eq_1/\CE qRG.eq_1/\OE qLP.eq_1/\OE qLQ.eq_1/\OE qLS.eq_1/\CE qLN.eq_1/\OE qLT.eq_1/\OE qLU.eq_1/\OE qLV.eq_1/\CE qLO.eq_1/\OE qLW.eq_1/\OE qLX.eq_1/\OE qLR.eq_1/\CE qLK.eq_1/\CE qLL.eq_1/\CE qLM.eq_1/\OE qLZ.eq_1/\OE qL0.eq_1/\OE qL1.eq_1/\CE qLY.eq_1/\OE qIE.eq_1/\OE qIF.eq_1/\OE qIG.eq_1/\OE qIH.eq_1/\OE qII.eq_1/\OE qIJ.eq_1/\CE qIC.eq_1/\CE qID.eq_1/\OE qL3.eq_1/\OE qL4.eq_1/\CE qL2.eq_1/\OE qL8.eq_1/\OE qL9.eq_1/\OE qMA.eq_1/\OE qMB.eq_1/\OE qMC.eq_1/\OE qMD.eq_1/\OE qME.eq_1/\OE qMF.eq_1/\OE qMG.eq_1/\CE qL7.eq_1/\CE qL5.eq_1/\CE qL6.eq_1/\OE qMI.eq_1:=by and_intros<;>first|exact OEM _|exact CEM _
@[go_sem] theorem rR7:OE qMJ.eq_1/\CE qMH.eq_1/\OE qMQ.eq_1/\OE qMR.eq_1/\OE qMS.eq_1/\OE qMT.eq_1/\OE qMU.eq_1/\OE qMV.eq_1/\OE qMW.eq_1/\OE qMX.eq_1/\OE qMY.eq_1/\CE qMP.eq_1/\CE qMK.eq_1/\CE qML.eq_1/\CE qMM.eq_1/\CE qMN.eq_1/\CE qMO.eq_1/\OE qFU.eq_1/\OE qDZ.eq_1/\OE qD5.eq_1/\OE qRW.eq_1/\OE qRX.eq_1/\OE qFV.eq_1/\OE qD0.eq_1/\OE qD1.eq_1/\OE qRO.eq_1/\OE qRP.eq_1/\OE qRQ.eq_1/\OE qRR.eq_1/\OE qRS.eq_1/\OE qRT.eq_1/\CE qRK.eq_1/\CE qRL.eq_1/\CE qRM.eq_1/\CE qRN.eq_1/\OE qD3.eq_1/\OE qRV.eq_1/\OE qM0.eq_1/\OE qM1.eq_1/\OE qM2.eq_1/\OE qM3.eq_1/\CE qMZ.eq_1/\OE qES.eq_1/\OE qA5.eq_1/\OE qNH.eq_1/\OE qNI.eq_1/\OE qNJ.eq_1/\OE qNK.eq_1/\CE qNF.eq_1/\OE qNL.eq_1/\OE qNM.eq_1/\OE qNN.eq_1/\OE qNO.eq_1/\CE qNG.eq_1/\CE qNE.eq_1/\OE qIL.eq_1/\OE qR6.eq_1/\OE qR7.eq_1/\CE qR5.eq_1/\OE qEL.eq_1:=by and_intros<;>first|exact OEM _|exact CEM _
@[go_sem] theorem rR8:OE qEM.eq_1/\CE qEK.eq_1/\OE qSA.eq_1/\OE qSB.eq_1/\OE qSC.eq_1/\CE qR8.eq_1/\CE qR9.eq_1/\OE qFY.eq_1/\OE qFZ.eq_1/\OE qF0.eq_1/\CE qFX.eq_1/\OE qEB.eq_1/\OE qEC.eq_1/\OE qED.eq_1/\OE qEE.eq_1/\OE qEF.eq_1/\OE qEG.eq_1/\OE qEH.eq_1/\CE qD9.eq_1/\OE qEI.eq_1/\CE qEA.eq_1/\CE qD6.eq_1/\CE qD7.eq_1/\CE qD8.eq_1/\OE qR1.eq_1/\OE qR2.eq_1/\OE qR3.eq_1/\OE qR4.eq_1/\CE qRZ.eq_1/\CE qR0.eq_1/\OE qEX.eq_1/\OE qEY.eq_1/\CE qEV.eq_1/\CE qEW.eq_1/\OE qBC.eq_1/\OE qBD.eq_1/\OE qBE.eq_1/\CE qBB.eq_1/\OE qBG.eq_1/\OE qBH.eq_1/\OE qBI.eq_1/\CE qBF.eq_1/\OE qN3.eq_1/\OE qN4.eq_1/\CE qN1.eq_1/\CE qN2.eq_1/\OE qIW.eq_1/\OE qIX.eq_1/\OE qIY.eq_1/\OE qIZ.eq_1/\OE qI0.eq_1/\OE qI1.eq_1/\OE qI2.eq_1/\CE qIV.eq_1/\OE qF8.eq_1/\OE qF9.eq_1/\OE qBJ.eq_1/\OE qBK.eq_1/\OE qBM.eq_1/\OE qBN.eq_1:=by and_intros<;>first|exact OEM _|exact CEM _
@[go_sem] theorem rR9:OE qBO.eq_1/\CE qBL.eq_1/\OE qI3.eq_1/\OE qI4.eq_1/\OE qBU.eq_1/\OE qBV.eq_1/\OE qBW.eq_1/\CE qBT.eq_1/\OE qN6.eq_1/\OE qN7.eq_1/\OE qN8.eq_1/\CE qN5.eq_1/\OE qOE.eq_1/\OE qOF.eq_1/\OE qOJ.eq_1/\OE qOK.eq_1/\OE qOL.eq_1/\OE qOM.eq_1/\OE qON.eq_1/\OE qOO.eq_1/\OE qOP.eq_1/\OE qOQ.eq_1/\OE qOG.eq_1/\OE qOH.eq_1/\OE qOI.eq_1/\CE qN9.eq_1/\CE qOA.eq_1/\CE qOB.eq_1/\CE qOC.eq_1/\CE qOD.eq_1/\OE qI5.eq_1/\OE qI6.eq_1/\OE qBZ.eq_1/\OE qB0.eq_1/\OE qB1.eq_1/\CE qBX.eq_1/\CE qBY.eq_1/\OE qOT.eq_1/\OE qOU.eq_1/\OE qOV.eq_1/\CE qOR.eq_1/\CE qOS.eq_1/\OE qO4.eq_1/\OE qO5.eq_1/\OE qO9.eq_1/\OE qPA.eq_1/\OE qPB.eq_1/\OE qPC.eq_1/\OE qPD.eq_1/\OE qPE.eq_1/\OE qPF.eq_1/\OE qPG.eq_1/\OE qO6.eq_1/\OE qO7.eq_1/\OE qO8.eq_1/\CE qOW.eq_1/\CE qOX.eq_1/\CE qOY.eq_1/\CE qOZ.eq_1/\CE qO0.eq_1:=by and_intros<;>first|exact OEM _|exact CEM _
@[go_sem] theorem rR10:CE qO1.eq_1/\CE qO2.eq_1/\CE qO3.eq_1/\OE qI8.eq_1/\OE qI9.eq_1/\CE qI7.eq_1/\OE qKY.eq_1/\OE qKZ.eq_1/\OE qK0.eq_1/\OE qK1.eq_1/\OE qK2.eq_1/\OE qK3.eq_1/\OE qK4.eq_1/\OE qK5.eq_1/\CE qKW.eq_1/\CE qKX.eq_1/\CE qKU.eq_1/\CE qKV.eq_1:=by and_intros<;>first|exact OEM _|exact CEM _
def tabm:List (Nat×qL):=[(1100,Yr),(1206,VB),(1330,VJ),(1012,Yc),(1106,Yy),(732,Ul),(1013,Yd),(1099,Yq),(717,Ue),(331,UB),(74,F74),(889,Uy),(577,UV),(1051,Yo),(1091,Yp),(1014,Ye),(1331,VK),(1015,Yf),(632,UY),(266,V2),(1101,Ys),(719,Uf),(1103,Yu),(721,Uh),(875,Uu),(876,Uv),(908,U1),(911,U2),(1102,Yt),(720,Ug),(722,Ui),(335,UD),(340,UE),(1440,Va),(1513,Vk),(1441,Vb),(1442,Vc),(1241,VH),(921,U6),(541,UU),(208,V0),(1393,VQ),(1237,VF),(1496,Vf),(1497,Vg),(1498,Vh),(1394,VS),(1107,Yz),(735,Um),(358,UG),(327,V8),(326,V7),(328,V9),(329,UA),(1108,Y0),(737,Un),(1185,Y3),(871,Ur),(872,Us),(736,Z8),(359,Z7),(738,Uo),(360,UH),(361,UI),(101,Yb),(739,Up),(362,UJ),(363,UK),(332,UC),(73,F73),(1104,Yw),(1391,VO),(729,Uk),(1392,VP),(1105,Yx),(728,Uj),(350,UF),(1470,Vd),(1424,VU),(1187,Y5),(1333,VM),(1550,Vp),(1551,Vq),(1559,Vw),(1552,Vr),(1537,Vl),(1538,Vm),(1510,Vi),(1423,VT),(1186,Y4),(873,Ut),(509,UM),(1050,Yn),(1143,Y1),(1144,Y2),(807,Uq),(445,UL),(144,VZ),(1002,YZ),(1383,VN),(1189,Y7),(1190,Y8),(1327,Qh),(1556,Vv),(1553,Vs),(1561,Vy),(1560,Vx),(1554,Vt),(1555,Vu),(1539,Vn),(1540,Vo),(1511,Vj),(1425,VV),(1188,Y6),(877,Uw),(511,UN),(512,UO),(513,F513),(191,Vz),(514,UP),(515,UQ),(516,UR),(517,US),(1429,qFT),(1430,VW),(1204,Y9),(1432,qFW),(1208,qD4),(1209,VD),(892,U0),(1431,VX),(1205,VA),(888,Ux),(891,F891),(1207,VC),(890,Uz),(527,UT),(1328,VI),(1009,Ya),(629,UX),(264,V1),(916,U4),(1238,VG),(917,U5),(1439,VY),(1236,VE),(915,U3),(624,UW),(1332,VL),(1016,Yg),(1017,Yh),(633,UZ),(267,V3),(1471,Ve),(1334,qE0),(1018,Yi),(634,F634),(1019,Yj),(635,F635),(268,V4),(1020,Yl),(636,Ua),(637,Ub),(269,V5),(1021,Ym),(638,Uc),(639,Ud),(270,V6),(46,F46)]
def tabt:List (Nat×AFn):=[(628,.try W8),(631,.ext (J6 KA)),(957,.ext (J6 KB)),(1382,.ext (J6 U9))]
def Gm(g:Nat):Option AFn:=Jg g tabt tabm
theorem g631:Gm 631=some (.ext (J6 KA)):=by kernel_rfl
theorem g957:Gm 957=some (.ext (J6 KB)):=by kernel_rfl
theorem qa7:Gm 1382=some (.ext (J6 U9)):=by kernel_rfl
theorem g628:Gm 628=some (.try W8):=by kernel_rfl
theorem gk(g:Nat)(F:qL)(h:Gm g=some (.fn F):=by kernel_rfl):Gm g=some (.fn F):=h
end Go.Ab
namespace Go.Ab
open Go
section
variable {E:Ev} {ks:List Fr1} {s m:qo} {h:List qD} {Q:qX->VSt->Prop} {l:List qC} {a b:List UInt8}
def qU7(t:Nat):Option AV->Option AV
 | some v=>some (.iface t v)
 | none=>none
@[go_sem] theorem qjJ{t:Nat}{v:AV}:qU7 t (some v)=some (.iface t v):=rfl
@[go_sem] theorem qh5{i t:Nat}{d:Option Nat}{g:Option (Nat×Bool)}{x:Ao}{ck:List qC}:Go1 E (.mk i d g (.mkif t x) ck) l ks ⟨s,m,h⟩ Q=Put E (qU7 t (ev (toE s) x)) d l ks ⟨s,m,h⟩ Q:=by
 rw[zp rfl fun _=>rfl];congr 1;show (ev (toE s) x).map (AV.iface t)=_;cases ev (toE s) x<;>rfl
def K3:Bool->Option AV->Option AV
 | n,some (.iface _ _)=>some (.bool n)
 | n,some .nili=>some (.bool !n)
 | _,_=>none
@[go_sem] theorem qi3{n:Bool}{t:Nat}{v:AV}:K3 n (some (.iface t v))=some (.bool n):=rfl
@[go_sem] theorem qi4{n:Bool}:K3 n (some .nili)=some (.bool !n):=rfl
@[go_sem] theorem qhV{i:Nat}{d:Option Nat}{g:Option (Nat×Bool)}{n:Bool}{x:Ao}{ck:List qC}:Go1 E (.mk i d g (.isnil 4 n x) ck) l ks ⟨s,m,h⟩ Q=Put E (K3 n (ev (toE s) x)) d l ks ⟨s,m,h⟩ Q:=by
 rw[zp rfl fun _=>rfl];congr 1;show ((ev (toE s) x).bind (AV.isNil 4)).map (fun b=>AV.bool (if n then !b else b))=_;generalize ev (toE s) x=o;rcases o with _ | v
 ·rfl
 ·cases v<;>cases n<;>rfl
@[go_sem] theorem qlM:wq .eql a b=some (.bool (a==b)):=rfl
@[go_sem] theorem qlN:wq .neq a b=some (.bool (!(a==b))):=rfl
@[go_sem] theorem qlG{k:IntKind}:YE (some (.str a)) (some (.int k 0))=(a[0]?).map fun b=>.int .u8 b.toNat:=qeT (n:=0)
theorem qAP(h:a.length+b.length<=9223372036854775807):wq .add a b=some (.str (a++b)):=if_pos h
theorem Wq{x lo hi:Ao}{k1 k2:IntKind}{n e:Nat}{hh:AH}{mm:Env}(h1:ev (toE s) x=some (.str a))(h2:ev (toE s) lo=some (.int k1 (n:Int)))(h3:ev (toE s) hi=some (.int k2 (e:Int)))(he:e<=a.length)(hb:n<=e):
  val (.sslc x (some lo) (some hi)) (toE s) mm hh=some (.str ((a.drop n).take (e-n))):=by
 simp only[val,h1,bnd,h3];rw[if_pos ⟨by omega,by omega⟩];simp only[h2];rw[if_pos ⟨by omega,by simpa using hb⟩];simp
theorem qeZ{x lo:Ao}{k1:IntKind}{n:Nat}{hh:AH}{mm:Env}(h1:ev (toE s) x=some (.str a))(h2:ev (toE s) lo=some (.int k1 (n:Int)))(hb:n<=a.length):
  val (.sslc x (some lo) none) (toE s) mm hh=some (.str (a.drop n)):=by
 simp only[val,h1,bnd,h2];rw[if_pos ⟨by omega,by simpa using hb⟩];show some (AV.str (List.take (a.length-((n:Int)).toNat) (List.drop ((n:Int)).toNat a)))=_;rw[Int.toNat_natCast,List.take_of_length_le (by simp)]
end
abbrev Str:=List UInt8
def jD(b:UInt8):Bool:=decide (97<=b.toNat)&&decide (b.toNat<=122)
def jG(b:UInt8):Bool:=decide (65<=b.toNat)&&decide (b.toNat<=90)
def zO(b:UInt8):Bool:=decide (48<=b.toNat)&&decide (b.toNat<=57)
def zI(b:UInt8):Bool:=jD b || (jG b || zO b)
def kws:List Str:=[[100,97,116,97],[100,101,102],[108,101,116],[105,110],[109,97,116,99,104],[105,102],[116,104,101,110],[101,108,115,101]]
def zi(s:Str):Bool:=kws.contains s
def zw(s:Str):Bool:=match s with
 |[]=>false
 | c::_=>decide (s.length<=12)&&(!zO c&&(!zi s&&s.all zI))
def za(s:Str):Bool:=zw s&&jG (s.headD 0)
def zg(s:Str):Bool:=zw s&&jD (s.headD 0)
def qk(t:Str)(i:Nat):Str:=(t.drop i).takeWhile zI
end Go.Ab
namespace Go.Ab
open Go
set_option maxRecDepth 10000
end Go.Ab
namespace Go.Ab
open Go
set_option maxRecDepth 10000
set_option maxHeartbeats 2000000
theorem qSY{b:UInt8}:Pure Gm 1100 [.int .u8 (b.toNat:Nat)] (.bool (jG b)):=by
 refine pJ Yr ?_;simp only[Yr,qM,go_sem]
 first | (apply QK<;>intro hc<;>simp only[hc,go_sem]) | (apply zN<;>intro hc<;>simp only[hc,go_sem])
 ·exact qH rfl (by first | (simp[jG]at hc|-;omega) | (simp only[dTe,decide_eq_false_iff_not]at hc;congr 1;rw[Bool.eq_iff_iff];simp[jG];omega))
 ·exact qH rfl (by first | (simp[jG]at hc|-;omega) | (simp only[dTe,decide_eq_false_iff_not]at hc;congr 1;rw[Bool.eq_iff_iff];simp[jG];omega))
theorem qS0{b:UInt8}:Pure Gm 1206 [.int .u8 (b.toNat:Nat)] (.bool (jD b)):=by
 refine pJ VB ?_;simp only[VB,qM,go_sem]
 first | (apply QK<;>intro hc<;>simp only[hc,go_sem]) | (apply zN<;>intro hc<;>simp only[hc,go_sem])
 ·exact qH rfl (by first | (simp[jD]at hc|-;omega) | (simp only[dTe,decide_eq_false_iff_not]at hc;congr 1;rw[Bool.eq_iff_iff];simp[jD];omega))
 ·exact qH rfl (by first | (simp[jD]at hc|-;omega) | (simp only[dTe,decide_eq_false_iff_not]at hc;congr 1;rw[Bool.eq_iff_iff];simp[jD];omega))
theorem qS4{b:UInt8}:Pure Gm 1330 [.int .u8 (b.toNat:Nat)] (.bool (zO b)):=by
 refine pJ VJ ?_;simp only[VJ,qM,go_sem]
 first | (apply QK<;>intro hc<;>simp only[hc,go_sem]) | (apply zN<;>intro hc<;>simp only[hc,go_sem])
 ·exact qH rfl (by first | (simp[zO]at hc|-;omega) | (simp only[dTe,decide_eq_false_iff_not]at hc;congr 1;rw[Bool.eq_iff_iff];simp[zO];omega))
 ·exact qH rfl (by first | (simp[zO]at hc|-;omega) | (simp only[dTe,decide_eq_false_iff_not]at hc;congr 1;rw[Bool.eq_iff_iff];simp[zO];omega))
theorem KU{b:UInt8}:Pure Gm 1012 [.int .u8 (b.toNat:Nat)] (.bool (zI b)):=by
 refine pJ Yc ?_;simp only[Yc,qM,go_sem];refine qK qS0 ?_;simp only[go_sem];cases h1:jD b<;>simp only[go_sem]
 ·refine qK qSY ?_;simp only[go_sem];cases h2:jG b<;>simp only[go_sem]
  ·refine qK qS4 ?_;simp only[go_sem];exact qH rfl (by simp[zI,h1,h2])
  ·exact qH rfl (by simp[zI,h1,h2])
 ·exact qH rfl (by simp[zI,h1])
end Go.Ab
namespace Go.Ab
open Go
set_option maxRecDepth 10000
set_option maxHeartbeats 2000000
theorem qYS{xs:List Str}{v:Str}(hl:xs.length<=1048576):Pure Gm 1106 [.lst 1 (xs.map qP) false,.str v] (.int .i64 (zE (fun x=>v==x) xs 0)):=by
 refine pI Yy (by simp[AV.trees,AV.tree,zH shS.tree]) rfl ?_;simp only[Yy,qM,go_sem];refine Sem.loop (fun i:Nat=>i<=xs.length/\zE (fun x=>v==x) xs 0=zE (fun x=>v==x) (xs.drop i) i) (fun i=>(⟨[(0,.lst 1 (xs.map qP) false),(1,.str v),(7,.int .i64 xs.length),(8,.int .i64 (i:Nat))],[],[]⟩:VSt)) (fun i=>xs.length-i) 0 (by kernel_rfl) ⟨nZl _,by simp⟩ (Can.sub (by simp[go_sem]) (by simp[go_sem])) ?_;rintro i ⟨hi,hI⟩;simp only[go_sem];apply zN<;>intro hc<;>simp only[hc,go_sem]
 ·have hlt:i<xs.length:=by have:=odT hc;omega
  simp only[gMp,gEg hlt,oMs,shS.part,qP,go_sem];have hd:xs.drop i=xs[i]::xs.drop (i+1):=by simp
  apply zN<;>intro hc<;>simp only[hc,go_sem]
  ·refine qH rfl ?_;have hq:=odT hc;rw[hI,hd];simp[zE,<-hq]
  ·simp only[qz (show i<4611686018427387904 by omega)];refine qa (i+1) ⟨by omega, ?_⟩ (by omega) (Can.sub (by simp[go_sem]) (by simp[go_sem]));have hq:=odF hc;rw[hI,hd];simp only[zE];rw[if_neg (by simpa using hq)]
 ·obtain rfl:i=xs.length:=by have:=odF hc;omega
  refine qH rfl ?_;rw[hI];simp[zE]
theorem c732{xs:List Str}{v:Str}(hl:xs.length<=1048576):Pure Gm 732 [.lst 1 (xs.map qP) false,.str v] (.bool (xs.any fun x=>v==x)):=by
 refine pI Ul (by simp[AV.trees,AV.tree,zH shS.tree]) rfl ?_;simp only[Ul,qM,go_sem];simp only[WL,qM];simp only[go_sem];refine qK (qYS hl) ?_;simp only[go_sem];exact qH rfl (by rw[<-Zc _ xs 0])
theorem qSU{v:Str}:Pure Gm 1013 [.str v] (.bool (zi v)):=by
 refine pJ Yd ?_;simp only[Yd,qM,go_sem];rw[show zL _ _ _ _=some (kws.map qP)from rfl];simp only[go_sem];refine Qn (vs':=[.lst 1 (kws.map qP) false,.str v]) (Cvs.cons (Cv.row rfl rfl rfl (by decide)) (Cvs.cons (.refl rfl) Cvs.nil)) (c732 (by decide)) rfl ?_;simp only[go_sem];exact qH rfl (by simp only[zi,List.contains_eq_any_beq])
theorem qSX{v:Str}(hl:v.length<=4611686018427387904):Pure Gm 1099 [.str v] (.bool (zw v)):=by
 refine pJ Yq ?_;simp only[Yq,qM,go_sem];by_cases h0:v.length<1
 ·have e0:decide ((v.length:Int)<1)=true:=decide_eq_true (by omega);simp only[e0,go_sem];exact qH rfl (by have:v=[]:=List.length_eq_zero_iff.1 (by omega);subst this;rfl)
 have e0:decide ((v.length:Int)<1)=false:=decide_eq_false (by omega);simp only[e0,go_sem];obtain⟨c,r,hv⟩:∃c r,v=c::r:=by cases v with
  | nil=>simp at h0
  | cons c r=>exact⟨c,r,rfl⟩
 by_cases h12:v.length<=12
 case neg=>
  have e1:decide ((v.length:Int)>12)=true:=decide_eq_true (by omega);simp only[gt_iff_lt]at e1;simp only[e1,go_sem];exact qH rfl (by subst hv;simp only[zw,decide_eq_false h12,Bool.false_and])
 have e1:decide ((v.length:Int)>12)=false:=decide_eq_false (by omega);simp only[gt_iff_lt]at e1;have eh:v[0]?=some c:=by rw[hv];rfl
 simp only[e1,go_sem,eh,oMs];refine qK qS4 ?_;simp only[go_sem];cases hd:zO c
 case true=>
  simp only[go_sem];exact qH rfl (by subst hv;simp[zw,hd])
 simp only[go_sem];refine qK qSU ?_;simp only[go_sem];cases hk:zi v
 case true=>
  simp only[go_sem];exact qH rfl (by subst hv;simp[zw,hk])
 simp only[go_sem];have hn:zw v=v.all zI:=by subst hv;simp only[zw,hd,hk,decide_eq_true h12,Bool.not_false,Bool.true_and]
 refine Sem.loop (fun i:Nat=>i<=v.length/\v.all zI=(v.drop i).all zI) (fun i=>(⟨[(0,.str v),(22,.int .i64 v.length),(23,.int .i64 (i:Nat))],[],[]⟩:VSt)) (fun i=>v.length-i) 0 (by kernel_rfl) ⟨nZl _,by simp⟩ (Can.sub (by simp[go_sem]) (by simp[go_sem])) ?_;rintro i ⟨hi,hI⟩;simp only[go_sem];apply zN<;>intro hc<;>simp only[hc,go_sem]
 ·have hlt:i<v.length:=by have:=odT hc;omega
  have hq:v.drop i=v[i]::v.drop (i+1):=by simp
  simp only[gEg hlt,oMs,go_sem];refine qK KU ?_;simp only[go_sem];cases hw:zI v[i]
  ·simp only[Bool.not_false];simp only[go_sem];refine qH rfl ?_;rw[hn,hI,hq,lAc,hw,Bool.false_and]
  ·simp only[Bool.not_true];simp only[go_sem];simp only[qz (show i<4611686018427387904 by omega)];refine qa (i+1) ⟨by omega, ?_⟩ (by omega) (Can.sub (by simp[go_sem]) (by simp[go_sem]));rw[hI,hq,lAc,hw,Bool.true_and]
 ·obtain rfl:i=v.length:=by have:=odF hc;omega
  refine qH rfl ?_;rw[hn,hI];simp
theorem jy{v:Str}(hl:v.length<=4611686018427387904):Pure Gm 717 [.str v] (.bool (za v)):=by
 refine pJ Ue ?_;simp only[Ue,qM,go_sem];refine qK (qSX hl) ?_;simp only[go_sem];cases hn:zw v
 ·simp only[go_sem];exact qH rfl (by simp[za,hn])
 ·cases v with
  | nil=>cases hn
  | cons c r=>
  simp only[List.getElem?_cons_zero,oMs,go_sem];refine qK qSY ?_;simp only[go_sem];exact qH rfl (by simp[za,hn])
theorem wI{v:Str}(hl:v.length<=4611686018427387904):Pure Gm 889 [.str v] (.bool (zg v)):=by
 refine pJ Uy ?_;simp only[Uy,qM,go_sem];refine qK (qSX hl) ?_;simp only[go_sem];cases hn:zw v
 ·simp only[go_sem];exact qH rfl (by simp[zg,hn])
 ·cases v with
  | nil=>cases hn
  | cons c r=>
  simp only[List.getElem?_cons_zero,oMs,go_sem];refine qK qS0 ?_;simp only[go_sem];exact qH rfl (by simp[zg,hn])
end Go.Ab
namespace Go.Ab
open Go
structure qN where
 Kind:Int
 Text:List UInt8
 At:Int
def qN.enc(x:qN):AV:=.agg [.int .i64 x.Kind,.str x.Text,.int .i64 x.At]
theorem qN.isSh:Sh qN.enc 3 (some 3):=⟨fun x=>by simp[qN.enc,AV.tree,AV.trees],fun _=>rfl,fun _=>rfl,by decide,fun x=>by simp[qN.enc]⟩
section
variable {x:qN}
@[go_sem] theorem qN.tr:x.enc.tree=true:=qN.isSh.tree x
@[go_sem] theorem qN.ln:x.enc.cells.length=3:=nr rfl
@[go_sem] theorem qN.all:x.enc.part 0 (some 3)=some x.enc:=nr rfl
@[go_sem] theorem qN.p0:x.enc.part 0 none=some (.int .i64 x.Kind):=nr rfl
@[go_sem] theorem qN.p1:x.enc.part 1 none=some (.str x.Text):=nr rfl
@[go_sem] theorem qN.p2:x.enc.part 2 none=some (.int .i64 x.At):=nr rfl
end
def qN.sz(x:qN):Nat:=x.Text.length
def qN.bd(x:qN):Prop:=x.Text.length<=140737488355328
def pfx(p s:Str):Bool:=decide (p.length<=s.length)&&decide (s.take p.length=p)
def zu:Str:=[43,45,42,47,60,61,40,41,91,93,123,125,44,59,58,46,124,33,92]
def ZV:Str:=[32,10,9]
def wy:Str:=[50,49,52,55,52,56,51,54,52,56]
def wB(s:Str):Option Int:=match Lib.parseIntB 64 s with
 |.ok n=>if (-2147483648<=n/\n<=2147483647)/\Lib.itoa n=s then some n else none
 | _=>none
def J1(s:Str):Bool:=match wB s with
 | some n=>decide (0<=n)
 | none=>false
def zM(t:Str)(i:Nat):Int×Nat:=
 if 0<(qk t i).length then
  if zi (qk t i)then(3,i+(qk t i).length)else if zg (qk t i)then(1,i+(qk t i).length)else if za (qk t i)then(2,i+(qk t i).length)
  else if decide (qk t i=wy) || J1 (qk t i)then(4,i+(qk t i).length)else(0,i)
 else if pfx [45,62] (t.drop i)then(5,i+2)else if 0<=Lib.indexByte zu (t.getD i 0).toNat.toUInt8 then(5,i+1)else(0,i)
def jm(t:Str):Nat->Nat->List qN->Except Nat (List qN)
 | 0,_,acc=>.ok acc
 | f+1,i,acc=>if i<t.length then
   if 0<=Lib.indexByte ZV (t.getD i 0).toNat.toUInt8 then jm t f (i+1) acc
   else if (zM t i).1=0 then .error i
   else jm t f (zM t i).2 (acc++[⟨(zM t i).1,(t.drop i).take ((zM t i).2-i),i⟩])
  else .ok acc
def Jn(t:Str):Except Nat (List qN):=jm t t.length 0 []
theorem qXQ{p:UInt8->Bool}:∀{l:Str}{k:Nat},k<=(l.takeWhile p).length->((∃c,l[k]?=some c/\p c=true)↔k<(l.takeWhile p).length)
 |[],k,h=>by simp
 | x::l,k,h=>by
  by_cases hx:p x=true
  ·rw[List.takeWhile_cons_of_pos hx]at h|-;cases k with
   | zero=>simp[hx]
   | succ k=>
    simp only[lCo,Nat.add_le_add_iff_right]at h;have:=qXQ (p:=p) h;simpa using this
  ·rw[List.takeWhile_cons_of_neg hx]at h|-;have:k=0:=by simpa using h
   subst this;simp[hx]
theorem qAW{p:UInt8->Bool}:∀{l:Str},l.take (l.takeWhile p).length=l.takeWhile p
 |[]=>rfl
 | x::l=>by
  by_cases hx:p x=true
  ·rw[List.takeWhile_cons_of_pos hx];simp[qAW]
  ·rw[List.takeWhile_cons_of_neg hx];rfl
theorem qfR{p:UInt8->Bool}{l:Str}:(l.takeWhile p).length<=l.length:=by
 rw[<-qAW (p:=p) (l:=l),lLt];omega
theorem qAX{t:Str}{i k:Nat}(h:k<=(qk t i).length):(∃c,t[i+k]?=some c/\zI c=true)↔k<(qk t i).length:=by
 have:=qXQ (p:=zI) (l:=t.drop i) (k:=k) h;rw[gDr]at this;exact this
theorem qAY{t:Str}{i:Nat}:(t.drop i).take (qk t i).length=qk t i:=qAW
theorem YW{t:Str}{i:Nat}:i<=t.length->i+(qk t i).length<=t.length:=fun h=>by
 have:=qfR (p:=zI) (l:=t.drop i);rw[List.length_drop]at this;unfold qk;omega
theorem Wt{t:Str}{i:Nat}(h:i<t.length):i<=(zM t i).2/\(zM t i).2<=t.length/\((zM t i).1≠0->i<(zM t i).2):=by
 have hw:=YW (t:=t) (i:=i) (by omega);have hp:pfx [45,62] (t.drop i)=true->i+2<=t.length:=fun q=>by
  simp only[pfx,bAt,dTe,List.length_drop,lCo,lNi]at q;omega
 unfold zM
 repeat' split
 all_goals first
  | (rename_i q;have:=hp q;refine⟨?_, ?_,fun _=> ?_⟩<;>simp only<;>omega)
  | (refine⟨?_, ?_,fun q=> ?_⟩<;>simp only at* <;>first | omega | exact absurd rfl q)
end Go.Ab
namespace Go.Ab
open Go
set_option maxRecDepth 10000
set_option maxHeartbeats 2000000
theorem qeY{E:Ev}{s:qo}{a:Str}{x hi:Ao}{k1:IntKind}{n:Nat}{hh:AH}{mm:Env}(h1:ev (toE s) x=some (.str a))(h2:ev (toE s) hi=some (.int k1 (n:Int)))(hb:n<=a.length):
  val (.sslc x none (some hi)) (toE s) mm hh=some (.str (a.take n)):=by
 simp only[val,h1,bnd,h2];rw[if_pos ⟨by omega,by omega⟩];simp
theorem qUH{s:Str}{c:UInt8}:Pure Gm 631 [.str s,.int .u8 (c.toNat:Nat)] (.int .i64 (Lib.indexByte s (c.toNat:Nat).toUInt8)):=
 Pure.told g631 rfl ⟨s,_,rfl,by simp⟩ rfl rfl
theorem qa4{n:Int}(h0: -9223372036854775808<=n)(h1:n<=9223372036854775807):Pure Gm 957 [.int .i64 n,.int .i64 10] (.str (Lib.itoa n)):=
 Pure.told g957 rfl ⟨n,rfl,h0,h1,rfl⟩ rfl rfl
theorem qdS{s:Str}{h:List qD}(hl:s.length<=140737488355328):SCallP Gm 1382 [.str s,.int .i64 10,.int .i64 64] h fun v=>v=ZA s:=
 SCallP.told qa7 rfl ⟨s,rfl,hl,rfl⟩ (fun ρ=>by unfold ZA;split<;>simp only[RelV,RelVs]<;>simp)
theorem qY0{p s:Str}(hl:p.length<=1000000):Pure Gm 1331 [.str s,.str p] (.bool (pfx p s)):=by
 refine pJ VK ?_;simp only[VK,qM,go_sem];by_cases hp:p.length<=s.length
 ·have e:decide ((s.length:Int)≥p.length)=true:=decide_eq_true (by omega);simp only[ge_iff_le]at e;simp only[e,go_sem];refine ZB (qeY (E:=⟨Gm,0,[],[]⟩) rfl rfl hp) ?_;simp only[go_sem];exact qH rfl (by simp[pfx,hp])
 ·have e:decide ((s.length:Int)≥p.length)=false:=decide_eq_false (by omega);simp only[ge_iff_le]at e;simp only[e,go_sem];exact qH rfl (by simp[pfx,hp])
theorem qYN{p s:Str}(hl:p.length<=1000000):Pure Gm 1015 [.str s,.str p] (.bool (pfx p s)):=by
 refine pJ Yf ?_;simp only[Yf,qM,go_sem]
 repeat' (first | (refine zJ rfl ?_;simp only[go_sem]) | (first | (apply QK<;>intro hc<;>simp only[hc,go_sem]) | (apply zN<;>intro hc<;>simp only[hc,go_sem])) | (refine qK (qY0 hl) ?_;simp only[go_sem]) | refine qH rfl ?_ | refine zX (by rfl) ?_)
 all_goals (simp_all<;>omega)
theorem qSW{n:Int}:Pure Gm 1051 [.int .i64 n] (.bool (decide (-2147483648<=n)&&decide (n<=2147483647))):=by
 refine pJ Yo ?_;simp only[Yo,qM,go_sem]
 first | (apply QK<;>intro hc<;>simp only[hc,go_sem]) | (apply zN<;>intro hc<;>simp only[hc,go_sem])
 ·exact qH rfl (by have hq:=odT hc;simp<;>omega)
 ·exact qH rfl (by have hq:=odF hc;simp<;>omega)
theorem c577{n:Int}(h0: -9223372036854775808<=n)(h1:n<=9223372036854775807):Pure Gm 577 [.int .i64 n] (.str (Lib.itoa n)):=by
 refine pJ UV ?_;simp only[UV,qM,go_sem]
 repeat' (first | (refine zJ rfl ?_;simp only[go_sem]) | (first | (apply QK<;>intro hc<;>simp only[hc,go_sem]) | (apply zN<;>intro hc<;>simp only[hc,go_sem])) | (refine qK (qa4 h0 h1) ?_;simp only[go_sem]) | refine qH rfl ?_ | refine zX (by rfl) ?_)
 all_goals (simp_all<;>omega)
theorem XH{s:Str}(hl:s.length<=140737488355328):Pure Gm 1091 [.str s] (.tup [.int .i64 ((wB s).getD 0),.bool (wB s).isSome]):=by
 refine pJ Yp ?_;simp only[Yp,qM,go_sem];refine qZG (qdS hl) ?_;unfold ZA;cases hp:Lib.parseIntB 64 s with
 | range=>
  simp only[go_sem];exact zX rfl (by simp[wB,hp])
 | ok n=>
  simp only[go_sem];refine qK qSW ?_;simp only[go_sem];cases hb:(decide (-2147483648<=n)&&decide (n<=2147483647))
  ·simp only[Bool.not_false,Bool.not_true];simp only[go_sem];have hn:¬(-2147483648<=n/\n<=2147483647):=by intro q;rw[decide_eq_true q.1,decide_eq_true q.2]at hb;cases hb
   exact zX rfl (by simp[wB,hp,hn])
  ·simp only[Bool.not_false,Bool.not_true];simp only[go_sem];simp only[bAt,dTe]at hb;refine qK (c577 (by omega) (by omega)) ?_;simp only[go_sem];by_cases he:Lib.itoa n=s
   ·simp only[he,decide_true,Bool.not_true];simp only[go_sem];exact zX rfl (by simp[wB,hp,hb,he])
   ·simp only[he,decide_false,Bool.not_false];simp only[go_sem];exact zX rfl (by simp[wB,hp,he])
 | _=>
  simp only[go_sem];exact zX rfl (by simp[wB,hp])
theorem qYM{s:Str}(hl:s.length<=140737488355328):Pure Gm 1014 [.str s] (.bool (J1 s)):=by
 refine pJ Ye ?_;simp only[Ye,qM,go_sem];refine qK (XH hl) ?_;simp only[go_sem];cases hr:wB s with
 | none=>
  simp only[Option.isSome_none];simp only[go_sem];exact qH rfl (by simp[J1,hr])
 | some n=>
  simp only[Option.isSome_some,Option.getD_some];simp only[go_sem];exact qH rfl (by simp[J1,hr])
end Go.Ab
namespace Go.Ab
open Go
set_option maxRecDepth 10000
set_option maxHeartbeats 2000000
theorem c632{t:Str}{i:Nat}(hi:i<t.length)(hl:t.length<=20000):Pure Gm 632 [.str t,.int .i64 (i:Nat)] (.tup [.int .i64 (zM t i).1,.int .i64 ((zM t i).2:Nat)]):=by
 refine pJ UY ?_;simp only[UY,qM,go_sem];refine Sem.loop (fun k:Nat=>k<=(qk t i).length) (fun k=>(⟨[(0,.str t),(1,.int .i64 (i:Nat)),(6,.int .i64 ((i+k:Nat):Int))],[],[]⟩:VSt)) (fun k=>(qk t i).length-k) 0 (by kernel_rfl) (nZl _) (Can.sub (by simp[go_sem]) (by simp[go_sem])) ?_;intro k hk;have ws:=qAX hk;have wl:=YW (t:=t) (i:=i) (by omega);simp only[go_sem];have hcase:(k<(qk t i).length/\∃h:i+k<t.length,zI t[i+k]=true)\/(k=(qk t i).length/\(¬i+k<t.length\/∃h:i+k<t.length,zI t[i+k]=false)):=by
  by_cases h1:i+k<t.length
  ·rcases hb:zI t[i+k]with _ | _
   ·have h2:=hb;right;refine⟨?_,.inr ⟨h1,h2⟩⟩;have:¬k<(qk t i).length:=fun q=>by
     obtain⟨c,e1,e2⟩:=ws.2 q;rw[gEg h1]at e1;cases e1;rw[h2]at e2;cases e2
    omega
   ·exact .inl ⟨ws.1 ⟨_,gEg h1,hb⟩,h1,hb⟩
  ·right;exact⟨by omega,.inl h1⟩
 rcases hcase with⟨h1,hlt,hw⟩ | ⟨rfl,hx⟩
 ·have e:decide (((i+k:Nat):Int)<t.length)=true:=decide_eq_true (by omega);simp only[e,gEg hlt,oMs,go_sem];refine qK KU ?_;simp only[go_sem];simp only[hw];simp only[go_sem];simp only[qz (show i+k<4611686018427387904 by omega)];exact qa (k+1) h1 (by omega) (Can.sub (by simp[go_sem,Nat.add_assoc]) (by simp[go_sem]))
 rcases hx with hx | ⟨hlt,hw⟩
 case' inl=>
  have e:decide (((i+(qk t i).length:Nat):Int)<t.length)=false:=decide_eq_false (by omega);simp only[e,go_sem]
 case' inr=>
  have e:decide (((i+(qk t i).length:Nat):Int)<t.length)=true:=decide_eq_true (by omega);simp only[e,gEg hlt,oMs,go_sem];refine qK KU ?_;simp only[go_sem];simp only[hw];simp only[go_sem]
 all_goals
  by_cases hp:0<(qk t i).length
  ·have e:decide ((i:Int)<((i+(qk t i).length:Nat):Int))=true:=decide_eq_true (by omega);simp only[e,go_sem];refine ZB (Wq rfl rfl rfl (by omega) (by omega)) ?_;rw[Nat.add_sub_cancel_left,qAY];have hwl:(qk t i).length<=20000:=by omega
   generalize hW:qk t i=W at*;have r1:zM t i=if zi W then(3,i+W.length)else if zg W then(1,i+W.length)else if za W then(2,i+W.length)else if decide (W=wy) || J1 W then(4,i+W.length)else(0,i):=by
    unfold zM;rw[hW,if_pos hp]
   simp only[go_sem];refine qK qSU ?_;simp only[go_sem];cases k1:zi W
   case true=>simp only[go_sem];exact zX rfl (by simp[r1,k1])
   simp only[go_sem];refine qK (wI (by omega)) ?_;simp only[go_sem];cases k2:zg W
   case true=>simp only[go_sem];exact zX rfl (by simp[r1,k1,k2])
   simp only[go_sem];refine qK (jy (by omega)) ?_;simp only[go_sem];cases k3:za W
   case true=>simp only[go_sem];exact zX rfl (by simp[r1,k1,k2,k3])
   simp only[go_sem];by_cases k4:W=wy
   ·have e4:decide (W=[50,49,52,55,52,56,51,54,52,56])=true:=decide_eq_true k4;simp only[e4,go_sem];exact zX rfl (by rw[r1];simp only[k1,k2,k3,decide_eq_true k4,Bool.true_or,bFt,if_false,if_true])
   ·have e4:decide (W=[50,49,52,55,52,56,51,54,52,56])=false:=decide_eq_false k4;simp only[e4,go_sem];refine qK (qYM (by omega)) ?_;simp only[go_sem];cases k5:J1 W
    ·simp only[go_sem];exact zX rfl (by simp[r1,k1,k2,k3,k4,k5])
    ·simp only[go_sem];exact zX rfl (by simp[r1,k1,k2,k3,k4,k5])
  ·have e:decide ((i:Int)<((i+(qk t i).length:Nat):Int))=false:=decide_eq_false (by omega);have r1:zM t i=if pfx [45,62] (t.drop i)then(5,i+2)else if 0<=Lib.indexByte zu (t.getD i 0).toNat.toUInt8 then(5,i+1)else(0,i):=by
    unfold zM;rw[if_neg hp]
   simp only[e,go_sem];refine ZB (qeZ rfl rfl (by omega)) ?_;simp only[go_sem];refine qK (qYN (by simp)) ?_;simp only[go_sem];cases k1:pfx [45,62] (t.drop i)
   case true=>
    simp only[go_sem];simp only[qg (n:=(i:Int)+2) (by omega) (by omega)];exact zX rfl (by simp[r1,k1])
   simp only[gEg hi,oMs,go_sem];refine qK qUH ?_;simp only[go_sem];have eg:t.getD i 0=t[i]:=by simp[List.getD,gEg hi]
   by_cases k2:0<=Lib.indexByte zu t[i].toNat.toUInt8
   ·have e2:decide (0<=Lib.indexByte [43,45,42,47,60,61,40,41,91,93,123,125,44,59,58,46,124,33,92] t[i].toNat.toUInt8)=true:=decide_eq_true k2;simp only[e2,go_sem];simp only[qg (n:=(i:Int)+1) (by omega) (by omega)];exact zX rfl (by simp only[r1,k1,eg,if_pos k2];simp)
   ·have e2:decide (0<=Lib.indexByte [43,45,42,47,60,61,40,41,91,93,123,125,44,59,58,46,124,33,92] t[i].toNat.toUInt8)=false:=decide_eq_false k2;simp only[e2,go_sem];exact zX rfl (by simp only[r1,k1,eg,if_neg k2];simp)
end Go.Ab
namespace Go.Ab
open Go
set_option maxRecDepth 10000
set_option maxHeartbeats 2000000
theorem zP{E:Ev}{d:Option Nat}{w:Nat}{z v:AV}{x:Ao}{l:List qC}{ks:List Fr1}{s m:qo}{h:List qD}{Q:qX->VSt->Prop}(hx:ev (toE s) x=some v)(hl:v.cells.length=w)
  (hr:wt E d (.row w [v] true) (.slice w h.length 0 1 false) l ks ⟨s,m,h⟩ Q):Bsl E d w 1 (zL (toE s) w (List.replicate 1 z) [(0,x)]) l ks ⟨s,m,h⟩ Q:=by
 have e:zL (toE s) w (List.replicate 1 z) [(0,x)]=some [v]:=by simp[zL,hx,hl,List.replicate]
 rw[e,qYJ];exact hr
theorem JL{h:List qD}{a b v:AV}{vs:List AV}(hc:Cv h (.tup (a::b::vs)) v):Fin (some (a::b::vs)) h v:=by unfold Fin;exact hc
theorem Cvs.tup{h:List qD}{as bs:List AV}(x:Cvs h as bs):Cv h (.tup as) (.tup bs):=.tup x.1 x.2
def jQ(t:Str)(i:Nat):qN:=⟨(zM t i).1,(t.drop i).take ((zM t i).2-i),i⟩
theorem qXH{t:Str}:∀(f:Nat){i:Nat}{acc:List qN},t.length-i<=f->jm t f i acc=jm t (t.length-i) i acc:=by
 intro f
 induction f using Nat.strongRecOn with
 | _ f ih=>
 intro i acc hf;cases f with
 | zero=>rw[show t.length-i=0 by omega]
 | succ f=>
  by_cases hi:i<t.length
  ·obtain⟨g,hg⟩:∃g,t.length-i=g+1:=⟨t.length-i-1,by omega⟩;rw[hg];obtain⟨h1,h2,h3⟩:=Wt hi;simp only[jm,if_pos hi];split
   ·rw[ih f (by omega) (by omega),ih g (by omega) (by omega)]
   ·split
    ·rfl
    ·rename_i hk;have:=h3 hk;rw[ih f (by omega) (by omega),ih g (by omega) (by omega)]
  ·rw[show t.length-i=0 by omega];simp only[jm,if_neg hi]
def Qf(t:Str)(i:Nat)(acc:List qN):Except Nat (List qN):=jm t (t.length-i) i acc
theorem qXI{t:Str}{i:Nat}{acc:List qN}(hi:¬i<t.length):Qf t i acc=.ok acc:=by
 unfold Qf;rw[show t.length-i=0 by omega];rfl
theorem qXJ{t:Str}{i:Nat}{acc:List qN}(hi:i<t.length):Qf t i acc=if 0<=Lib.indexByte ZV (t.getD i 0).toNat.toUInt8 then Qf t (i+1) acc else if (zM t i).1=0 then .error i else Qf t (zM t i).2 (acc++[jQ t i]):=by
 obtain⟨g,hg⟩:∃g,t.length-i=g+1:=⟨t.length-i-1,by omega⟩;obtain⟨h1,h2,h3⟩:=Wt hi;unfold Qf;rw[hg];simp only[jm,if_pos hi];split
 ·rw[qXH g (by omega)]
 ·split
  ·rfl
  ·rename_i hk;have:=h3 hk;rw[qXH g (by omega)];rfl
def qw(t:Str):List qN×Int×Int:=if 20000<t.length then([],0,2)else match Jn t with
 |.error i=>([],i,6)
 |.ok l=>(l,0,0)
theorem c266{t:Str}:Pure Gm 266 [.str t] (.tup [.lst 3 ((qw t).1.map qN.enc) false,.int .i64 (qw t).2.1,.int .i64 (qw t).2.2]):=by
 refine pI V2 (by simp[AV.trees,AV.tree,go_sem]) (by simp[AV.tree,AV.trees,zH qN.isSh.tree]) ?_;simp only[V2,qM,go_sem];by_cases hl:20000<t.length
 ·have e:decide ((20000:Int)<t.length)=true:=decide_eq_true (by omega);simp only[e,go_sem];have er:qw t=([],0,2):=by rw[qw,if_pos hl]
  rw[er];refine JL (Cvs.tup (Cvs.cons .nils (Cvs.cons (.refl rfl) (Cvs.cons (.refl rfl) Cvs.nil))))
 have e:decide ((20000:Int)<t.length)=false:=decide_eq_false (by omega);simp only[e,go_sem];have er:qw t=match Jn t with
  |.error i=>([],i,6)
  |.ok l=>(l,0,0):=by rw[qw,if_neg hl]
 refine Sem.loop (fun a:Nat×List qN=>a.1<=t.length/\a.2.length<=a.1/\Jn t=Qf t a.1 a.2) (fun a=>(⟨[(0,.str t),(5,.slice 3 0 0 a.2.length false),(6,.int .i64 (a.1:Nat))],[],[.row 3 (a.2.map qN.enc) true]⟩:VSt)) (fun a=>t.length-a.1) (0,[]) (by kernel_rfl) ⟨nZl _,nZl _,rfl⟩ (Can.renum [none] rfl ⟨.ph,trivial⟩ ⟨⟨_,rfl,.tree rfl⟩,⟨_,rfl,.ph rfl⟩,⟨_,rfl,.tree rfl⟩,trivial⟩ trivial) ?_;rintro⟨i,acc⟩ ⟨hi,ha,hI⟩;simp only at hi ha hI;simp only[go_sem];by_cases hlt:i<t.length
 case neg=>
  have e:decide ((i:Int)<t.length)=false:=decide_eq_false (by omega);simp only[e,go_sem];rw[hI,qXI hlt]at er;rw[er];refine JL (Cvs.tup (Cvs.cons (Cv.row rfl (by simp) (zH qN.isSh.tree _) (by decide)) (Cvs.cons (.refl rfl) (Cvs.cons (.refl rfl) Cvs.nil))))
 have e:decide ((i:Int)<t.length)=true:=decide_eq_true (by omega);simp only[e,gEg hlt,oMs,go_sem];refine qK qUH ?_;simp only[go_sem];rw[qXJ hlt]at hI;have eg:t.getD i 0=t[i]:=by simp[List.getD,gEg hlt]
 rw[eg]at hI;by_cases hb:0<=Lib.indexByte ZV t[i].toNat.toUInt8
 ·have e:decide (0<=Lib.indexByte [32,10,9] t[i].toNat.toUInt8)=true:=decide_eq_true hb;simp only[e,go_sem];simp only[qz (show i<4611686018427387904 by omega)];rw[if_pos hb]at hI;exact qa (i+1,acc) ⟨by simp only;omega,by simp only;omega,hI⟩ (by simp only;omega) (Can.sub (by simp[go_sem]) (by simp[go_sem]))
 have e:decide (0<=Lib.indexByte [32,10,9] t[i].toNat.toUInt8)=false:=decide_eq_false hb;simp only[e,go_sem];rw[if_neg hb]at hI;refine qK (c632 hlt (by omega)) ?_;simp only[go_sem];obtain⟨t1,t2,t3⟩:=Wt hlt;by_cases hk:(zM t i).1=0
 ·simp only[hk,decide_true,go_sem];rw[if_pos hk]at hI;rw[hI]at er;rw[er];refine JL (Cvs.tup (Cvs.cons .nils (Cvs.cons (.refl rfl) (Cvs.cons (.refl rfl) Cvs.nil))))
 have t4:=t3 hk;rw[if_neg hk]at hI;simp only[decide_eq_false hk,go_sem];refine ZB (Wq rfl rfl rfl (by omega) (by omega)) ?_;simp only[go_sem];refine zP (v:=(jQ t i).enc) rfl rfl ?_;simp only[go_sem];refine XC (el:=acc.map qN.enc) rfl rfl (by simp) (by omega) ?_;simp only[go_sem];refine qa ((zM t i).2,acc++[jQ t i]) ⟨by simp only;omega,by simp only[lAp,lCo,lNi];omega,hI⟩ (by simp only;omega) ?_;simp only[lAp,lCo,lNi,nZa];refine Can.renum [some 2] rfl ⟨.row rfl ?_,trivial⟩ ⟨⟨_,rfl,.tree rfl⟩,⟨_,rfl,.slice rfl⟩,⟨_,rfl,.tree rfl⟩,trivial⟩ trivial;rw[lMa];have tt:=zH qN.isSh.tree (acc++[jQ t i]);rw[lMa]at tt;exact VR2s.trees tt
end Go.Ab
namespace Go.Ab
open Go
set_option maxRecDepth 10000
set_option maxHeartbeats 2000000
section
variable {E:Ev} {l:List qC} {ks:List Fr1} {s m:qo} {h h0:List qD} {Q:qX->VSt->Prop} {k e:Nat} {vs:List AV} {v0:AV}
theorem qh{ck:List qC}(hck:ck=[])(hp:SCall E.Γ k vs h fun v h'=>v=v0/\h'=h0)(hr:R E (.ops l::ks) ⟨(e,v0)::s,m,h0⟩ Q):jW E (some (k,vs)) ck (some e) l ks ⟨s,m,h⟩ Q:=by
 subst hck;exact qT (hp.mono fun v h' ⟨h1,h2⟩=>by subst h1;subst h2;exact hr)
end
@[go_sem] theorem qg6{off:Nat}{sh:Option Nat}{x:qN}:fld1 off sh (some x.enc)=x.enc.part off sh:=rfl
def prI(toks:List qN)(a:Nat)(e:Int):qD:=.row 3 [.agg [.lst 3 (toks.map qN.enc) false,.int .i64 (a:Nat),.int .i64 e]] true
def nxt(toks:List qN)(a:Nat)(e:Int):qN:=(toks[a]?).getD ⟨0,[],e⟩
def isI(toks:List qN)(a:Nat)(e:Int)(s:Str):Bool:=decide ((nxt toks a e).Text=s)&&(decide ((nxt toks a e).Kind=5) || decide ((nxt toks a e).Kind=3))
def wP(i:Int):AV:=.iface 751 (.agg [.int .i64 i])
section
variable {h:List qD} {id a:Nat} {toks:List qN} {e:Int}
theorem Q4(ho:h[id]?=some (prI toks a e)):SCall Gm 1101 [.ptr id 0 0] h fun v h'=>v=(nxt toks a e).enc/\h'=h:=by
 refine sI Ys ?_;unfold prI at ho;simp only[Ys,qM,go_sem,ho,oMs,lMp];by_cases hlt:a<toks.length
 ·have e1:decide ((a:Int)<toks.length)=true:=decide_eq_true (by omega);simp only[e1,go_sem,ho,gMp,gEg hlt,oMs];refine qO rfl rfl ⟨_,rfl⟩ (by decide) ?_;simp only[go_sem];exact⟨by simp[nxt,gEg hlt],trivial⟩
 ·have e1:decide ((a:Int)<toks.length)=false:=decide_eq_false (by omega);simp only[e1,go_sem,ho];refine qO rfl rfl ⟨_,rfl⟩ (by decide) ?_;simp only[go_sem];exact⟨by simp[nxt,gEn (show toks.length<=a by omega),qN.enc],trivial⟩
theorem Wc(ho:h[id]?=some (prI toks a e)):SCallX Gm 719 [.ptr id 0 0] h (fun _ _=>False) fun v h'=>v=wP (nxt toks a e).At/\h'=h:=by
 refine xI Uf ?_;simp only[Uf,qM,go_sem];refine qh rfl (Q4 ho) ?_;simp only[go_sem];exact⟨rfl,rfl,rfl,trivial⟩
theorem Xq{s:Str}(ho:h[id]?=some (prI toks a e)):SCall Gm 1103 [.ptr id 0 0,.str s] h fun v h'=>v=.bool (isI toks a e s)/\h'=h:=by
 refine sI Yu ?_;simp only[Yu,qM,go_sem];refine qh rfl (Q4 ho) ?_;simp only[go_sem];refine qO rfl rfl ⟨_,rfl⟩ (by decide) ?_;simp only[go_sem];by_cases h1:(nxt toks a e).Text=s
 case neg=>
  simp only[decide_eq_false h1,go_sem];exact⟨by simp[isI,h1],trivial⟩
 simp only[decide_eq_true h1,go_sem];by_cases h2:(nxt toks a e).Kind=5
 ·simp only[decide_eq_true h2,go_sem];exact⟨by simp[isI,h1,h2],trivial⟩
 ·simp only[decide_eq_false h2,go_sem];exact⟨by simp[isI,h1,h2],trivial⟩
theorem qbS{s:Str}(hs:s≠[])(q:isI toks a e s=true):a<toks.length:=by
 rcases Nat.lt_or_ge a toks.length with h1 | h1
 ·exact h1
 ·exfalso;simp only[isI,nxt,gEn h1,Option.getD_none,bAt,dTe]at q;exact hs q.1.symm
theorem QU{k:Int}(hk:k≠0)(q:(nxt toks a e).Kind=k):a<toks.length:=by
 rcases Nat.lt_or_ge a toks.length with h1 | h1
 ·exact h1
 ·exfalso;simp only[nxt,gEn h1,Option.getD_none]at q;exact hk q.symm
theorem jH{s:Str}(ho:h[id]?=some (prI toks a e))(hl:toks.length<=1048576)(hs:s≠[]):SCall Gm 721 [.ptr id 0 0,.str s] h fun v h'=>v=.bool (isI toks a e s)/\h'=if isI toks a e s then h.set id (prI toks (a+1) e)else h:=by
 refine sI Uh ?_;simp only[Uh,qM,go_sem];refine qh rfl (Xq ho) ?_;simp only[go_sem];cases hi:isI toks a e s
 ·simp only[Bool.not_false,go_sem];exact⟨trivial,by simp⟩
 ·have hlt:=qbS hs hi;have ho':=ho;unfold prI at ho';simp only[Bool.not_true,go_sem,ho',oMs];simp only[qz (show a<4611686018427387904 by omega)];refine zT rfl ho' rfl rfl ?_;simp only[go_sem];exact⟨trivial,rfl⟩
theorem jf{s:Str}(ho:h[id]?=some (prI toks a e))(hl:toks.length<=1048576)(hs:s≠[]):SCallX Gm 876 [.ptr id 0 0,.str s] h (fun _ h'=>isI toks a e s=true/\h'=h.set id (prI toks (a+1) e)) fun v h'=>isI toks a e s=false/\v=wP (nxt toks a e).At/\h'=h:=by
 refine xI Uv ?_;simp only[Uv,qM,go_sem];refine qh rfl (jH ho hl hs) ?_;simp only[go_sem];cases hi:isI toks a e s
 ·simp only[Bool.not_false,bFt,if_false,go_sem];refine qY ((Wc ho).mono (fun _ _ q=>q.elim) ?_);rintro v h' ⟨rfl,rfl⟩;exact⟨rfl,trivial,rfl,rfl⟩
 ·simp only[Bool.not_true,if_true,go_sem];exact⟨trivial,trivial⟩
theorem Jj{k:Int}(ho:h[id]?=some (prI toks a e))(hl:toks.length<=1048576)(hk:k≠0):SCallX Gm 875 [.ptr id 0 0,.int .i64 k] h (fun v h'=>(nxt toks a e).Kind=k/\v=.str (nxt toks a e).Text/\h'=h.set id (prI toks (a+1) e)) fun v h'=>(nxt toks a e).Kind≠k/\v=wP (nxt toks a e).At/\h'=h:=by
 refine xI Uu ?_;simp only[Uu,qM,go_sem];refine qh rfl (Q4 ho) ?_;simp only[go_sem];refine qO rfl rfl ⟨_,rfl⟩ (by decide) ?_;simp only[go_sem];by_cases hi:(nxt toks a e).Kind=k
 ·have hlt:=QU hk hi;have ho':=ho;unfold prI at ho';simp only[hi,decide_true,Bool.not_true,go_sem,ho',oMs];simp only[qz (show a<4611686018427387904 by omega)];refine zT rfl ho' rfl rfl ?_;simp only[go_sem];exact⟨trivial,trivial,rfl⟩
 ·simp only[decide_eq_false hi,Bool.not_false,go_sem];refine qY ((Wc ho).mono (fun _ _ q=>q.elim) ?_);rintro v h' ⟨rfl,rfl⟩;exact⟨rfl,hi,rfl,rfl⟩
end
end Go.Ab
namespace Go.Ab
open Go
set_option maxRecDepth 10000
set_option maxHeartbeats 2000000
structure PS(h:List qD)(id:Nat)(o:qD)(h':List qD):Prop where
 at':h'[id]?=some o
 len:h.length<=h'.length
 old:∀j,j≠id->j<h.length->h'[j]?=h[j]?
theorem PS.set{h:List qD}{id:Nat}{o0 o:qD}(ho:h[id]?=some o0):PS h id o (h.set id o) where
 at':=by rw[gSs (gSi.1 ho).1]
 len:=by simp
 old:=fun j hj _=>gSn (Ne.symm hj)
theorem PS.refl{h:List qD}{id:Nat}{o:qD}(ho:h[id]?=some o):PS h id o h:=⟨ho,nLr _,fun _ _ _=>rfl⟩
theorem PS.trans{h h1 h2:List qD}{id:Nat}{o1 o2:qD}(a:PS h id o1 h1)(b:PS h1 id o2 h2):PS h id o2 h2:=
 ⟨b.at',nLt a.len b.len,fun j hj hl=>(b.old j hj (Nat.lt_of_lt_of_le hl a.len)).trans (a.old j hj hl)⟩
theorem PS.push{h h1:List qD}{id:Nat}{o x:qD}(a:PS h id o h1):PS h id o (h1++[x]):=
 ⟨by rw[gAl (gSi.1 a.at').1];exact a.at',by have:=a.len;simp;omega,fun j hj hl=>by rw[gAl (Nat.lt_of_lt_of_le hl a.len)];exact a.old j hj hl⟩
def Bh(b:Nat)(S:List (Option Nat))(h:List qD):Prop:=∀j,some j∈S->b<=j/\j<h.length
theorem q9.ps{S:List (Option Nat)}{h1 h2:List qD}{id b:Nat}{o:qD}{v t:AV}(x:q9 S h1 v t)(hb:Bh b S h1)(hid:id<b)(a:PS h1 id o h2):q9 S h2 v t/\Bh b S h2:=
 ⟨x.heap fun j hj=>a.old j (by have:=(hb j hj).1;omega) (hb j hj).2,fun j hj=>⟨(hb j hj).1,Nat.lt_of_lt_of_le (hb j hj).2 a.len⟩⟩
theorem q9.push{S:List (Option Nat)}{h1:List qD}{b:Nat}{v t:AV}{y:qD}(x:q9 S h1 v t)(hb:Bh b S h1):q9 S (h1++[y]) v t/\Bh b S (h1++[y]):=
 ⟨x.heap fun j hj=>gAl (hb j hj).2,fun j hj=>⟨(hb j hj).1,by have:=(hb j hj).2;simp;omega⟩⟩
theorem Wh{S:List (Option Nat)}{h:List qD}{k:Int}{n:Str}{v2:AV}{ks:List qB}(x:q9 S h v2 (.lst 3 (ks.map qB.enc) false)):q9 S h (.agg [.int .i64 k,.str n,v2]) (qB.mk k n ks).enc:=by
 have h1:=(zW.nil (h:=h)).scal (a:=.int .i64 k) (fun _=>rfl) rfl rfl;have h2:=h1.scal (a:=.str n) (fun _=>rfl) rfl rfl;have h3:=(h2.snoc x (fun j hj=>by cases hj)).agg;rw[qB.enc_eq];exact h3
theorem Zt{h:List qD}{k:Int}{n:Str}:q9 [none] h (.agg [.int .i64 k,.str n,.nils]) (qB.mk k n []).enc:=Wh (ks:=[]) (q9.nils (c:=false))
theorem QX{S:List (Option Nat)}{h:List qD}{v:AV}{t:qB}(x:q9 S h v t.enc):∃a b c,v=.agg [a,b,c]:=by
 rw[qB.enc_eq]at x;obtain⟨vs,rfl,y⟩:=x.aggs;have:=y.cnt
 match vs,this with
 |[a,b,c],_=>exact⟨a,b,c,rfl⟩
theorem qV6{S:List (Option Nat)}{h:List qD}{b:Nat}{v:AV}{t:qB}(x:q9 S h v t.enc)(hb:Bh b S h)(hl:b<=h.length):
  q9 (some h.length::S) (h++[.row 3 [v] true]) (.slice 3 h.length 0 1 false) (.lst 3 ([t].map qB.enc) false)/\Bh b (some h.length::S) (h++[.row 3 [v] true]):=by
 obtain⟨x1,b1⟩:=x.push (y:=.row 3 [v] true) hb;refine⟨x1.one.row (by simp) (fun hj=>by have:=(hb _ hj).2;omega),fun j hj=> ?_⟩;rcases List.mem_cons.1 hj with e | hj
 ·cases e;exact⟨hl,by simp⟩
 ·exact b1 j hj
theorem qV7{S S':List (Option Nat)}{h:List qD}{b c:Nat}{v u:AV}{t r:qB}(x:q9 S h v t.enc)(y:q9 S' h u r.enc)(hb:Bh b S h)(hc:Bh c S' h)(hl:b<=h.length)(hl':b<=c)(hbc:∀j,some j∈S->j<c):
  q9 (some h.length::(S++S')) (h++[.row 3 [v,u] true]) (.slice 3 h.length 0 2 false) (.lst 3 ([t,r].map qB.enc) false)/\Bh b (some h.length::(S++S')) (h++[.row 3 [v,u] true]):=by
 obtain⟨x1,b1⟩:=x.push (y:=.row 3 [v,u] true) hb;obtain⟨y1,c1⟩:=y.push (y:=.row 3 [v,u] true) hc;have z:=x1.one.app y1.one (fun j hj hk=>by have:=hbc j hj;have:=(hc j hk).1;omega);refine⟨z.row (by simp) (fun hj=> ?_),fun j hj=> ?_⟩
 ·rcases jd.1 hj with hj | hj
  ·have:=(hb _ hj).2;omega
  ·have:=(hc _ hj).2;omega
 ·rcases List.mem_cons.1 hj with e | hj
  ·cases e;exact⟨hl,by simp⟩
  ·rcases jd.1 hj with hj | hj
   ·exact b1 j hj
   ·have:=c1 j hj;exact⟨by omega,this.2⟩
def Qu:qB:=.mk 1 [] []
def Js(s:Str):qB:=.mk 2 s []
def QJ(a b:qB):qB:=.mk 3 [] [a,b]
def Qk(a:qB):qB:=.mk 4 [] [a]
section
variable {h:List qD} {a0 a1 a2 b0 b1 b2:AV} {s:Str}
theorem n908:SCall Gm 908 [] h fun v h'=>v=.agg [.int .i64 1,.str [],.nils]/\h'=h:=by
 refine sI U1 ?_;simp only[U1,qM,go_sem];refine qO rfl rfl ⟨_,rfl⟩ (by decide) ?_;simp only[go_sem];exact⟨trivial,trivial⟩
theorem qc0:SCall Gm 1102 [.str s] h fun v h'=>v=.agg [.int .i64 2,.str s,.nils]/\h'=h:=by
 refine sI Yt ?_;simp only[Yt,qM,go_sem];refine qO rfl rfl ⟨_,rfl⟩ (by decide) ?_;simp only[go_sem];exact⟨trivial,trivial⟩
theorem n911:SCall Gm 911 [.agg [a0,a1,a2]] h fun v h'=>v=.agg [.int .i64 4,.str [],.slice 3 h.length 0 1 false]/\h'=h++[.row 3 [.agg [a0,a1,a2]] true]:=by
 refine sI U2 ?_;simp only[U2,qM,go_sem];refine zJ rfl ?_;simp only[go_sem];refine zP (v:=.agg [a0,a1,a2]) rfl rfl ?_;simp only[go_sem];refine qO rfl rfl ⟨_,rfl⟩ (by decide) ?_;simp only[go_sem];exact⟨trivial,trivial⟩
theorem n722:SCall Gm 722 [.agg [a0,a1,a2],.agg [b0,b1,b2]] h fun v h'=>v=.agg [.int .i64 3,.str [],.slice 3 h.length 0 2 false]/\h'=h++[.row 3 [.agg [a0,a1,a2],.agg [b0,b1,b2]] true]:=by
 refine sI Ui ?_;simp only[Ui,qM,go_sem];refine zJ rfl ?_;simp only[go_sem];refine zJ rfl ?_;simp only[go_sem];rw[show zL _ 3 _ _=some [.agg [a0,a1,a2],.agg [b0,b1,b2]]from rfl];simp only[go_sem];refine qO rfl rfl ⟨_,rfl⟩ (by decide) ?_;simp only[go_sem];exact⟨trivial,trivial⟩
end
end Go.Ab
namespace Go.Ab
open Go
set_option maxRecDepth 10000
set_option maxHeartbeats 2000000
def isP(toks:List qN)(a:Nat)(s:Str):Bool:=match toks[a]? with
 | some t=>decide (t.Text=s)&&(decide (t.Kind=5) || decide (t.Kind=3))
 | none=>false
theorem qn{toks:List qN}{a:Nat}{e:Int}{s:Str}(hs:s≠[]):isI toks a e s=isP toks a s:=by
 unfold isI isP nxt;cases h:toks[a]? with
 | none=>
  have:¬([]:Str)=s:=fun q=>hs q.symm;simp[this]
 | some t=>simp
theorem qb{toks:List qN}{a:Nat}{s:Str}(q:isP toks a s=true):a<toks.length:=by
 rcases Nat.lt_or_ge a toks.length with h1 | h1
 ·exact h1
 ·rw[isP,gEn h1]at q;cases q
def pT(toks:List qN):Nat->Bool->Nat->Except Nat (qB×Nat)
 | 0,_,a=>.error a
 | f+1,true,a=>if isP toks a [33]then(match pT toks f true (a+1)with
   |.ok (t,b)=>.ok (Qk t,b)
   |.error b=>.error b)
  else if isP toks a [40]then(match pT toks f false (a+1)with
   |.ok (t,b)=>if isP toks b [41]then .ok (t,b+1)else .error b
   |.error b=>.error b)
  else(match toks[a]? with
   | some t=>if t.Kind=2 then .ok (if t.Text=[73,110,116]then Qu else Js t.Text,a+1)else .error a
   | none=>.error a)
 | f+1,false,a=>(match pT toks f true a with
   |.ok (t,b)=>if isP toks b [45,62]then(match pT toks f false (b+1)with
     |.ok (u,c)=>.ok (QJ t u,c)
     |.error c=>.error c)
    else .ok (t,b)
   |.error b=>.error b)
def zr(toks:List qN)(flag:Bool)(a:Nat):Nat:=2*(toks.length-a)+(if flag then 1 else 2)
theorem ja{toks:List qN}:∀(f:Nat)(flag:Bool)(a:Nat){t:qB}{b:Nat},pT toks f flag a=.ok (t,b)->a<b/\b<=toks.length:=by
 intro f
 induction f with
 | zero=>intro flag a t b h;simp[pT]at h
 | succ f ih=>
  intro flag a t b h;cases flag with
  | true=>
   simp only[pT]at h;split at h
   ·rename_i h1;have:=qb h1;split at h
    ·rename_i h2;have:=ih _ _ h2;cases h;omega
    ·cases h
   ·split at h
    ·rename_i h1;have:=qb h1;split at h
     ·rename_i h2;have:=ih _ _ h2;split at h
      ·rename_i h3;have:=qb h3;cases h;omega
      ·cases h
     ·cases h
    ·split at h
     ·rename_i h1;have:=(gSi.1 h1).1;split at h
      ·cases h;omega
      ·cases h
     ·cases h
  | false=>
   simp only[pT]at h;split at h
   ·rename_i h2;have:=ih _ _ h2;split at h
    ·rename_i h1;have:=qb h1;split at h
     ·rename_i h3;have:=ih _ _ h3;cases h;omega
     ·cases h
    ·cases h;omega
   ·cases h
section
variable {id:Nat} {toks:List qN} {e:Int}
theorem qVD(hl:toks.length<=1048576):∀(f:Nat)(flag:Bool)(a:Nat)(h:List qD),zr toks flag a<=f->a<=toks.length->h[id]?=some (prI toks a e)->
  SCallX Gm (if flag then 720 else 335) [.ptr id 0 0] h (fun v h'=>∃t b S,pT toks f flag a=.ok (t,b)/\PS h id (prI toks b e) h'/\q9 S h' v t.enc/\Bh h.length S h') (fun v h'=>∃b,pT toks f flag a=.error b/\v=wP (nxt toks b e).At):=by
 intro f
 induction f with
 | zero=>intro flag a h hf;exfalso;unfold zr at hf;cases flag<;>simp at hf
 | succ f ih=>
 intro flag a h hf ha ho;have hid:id<h.length:=(gSi.1 ho).1;cases flag with
 | true=>
  refine xI Ug ?_;simp only[Ug,qM,go_sem];refine qh rfl (jH ho hl (by decide)) ?_;rw[qn (by decide)];simp only[go_sem];cases hb:isP toks a [33]
  case true=>
   have hlt:=qb hb;simp only[if_true,go_sem];refine qY ((ih true (a+1) (h.set id (prI toks (a+1) e)) (by unfold zr at hf|-;simp at hf|-;omega) (by omega) (by rw[gSs hid])).mono ?_ ?_)
   ·rintro v h1 ⟨t,b,S,q1,q2,q3,q4⟩;obtain⟨x0,x1,x2,rfl⟩:=QX q3;simp only[go_sem];refine qh rfl n911 ?_;simp only[go_sem];refine qO rfl rfl ⟨_,rfl⟩ (by decide) ?_;simp only[go_sem];rw[lLs]at q4;obtain⟨r1,r2⟩:=qV6 q3 q4 (by have:=q2.len;rw[lLs]at this;exact this);refine⟨Qk t,b,_,by simp only[pT,hb,if_true,q1],((PS.set ho).trans q2).push,Wh r1,r2⟩
   ·rintro v h1 ⟨b,q1,rfl⟩;exact⟨rfl,b,by simp only[pT,hb,if_true,q1],rfl⟩
  simp only[bFt,if_false,go_sem];refine qh rfl (jH ho hl (by decide)) ?_;rw[qn (by decide)];simp only[go_sem];cases hc:isP toks a [40]
  case true=>
   have hlt:=qb hc;simp only[if_true,go_sem];refine qY ((ih false (a+1) (h.set id (prI toks (a+1) e)) (by unfold zr at hf|-;simp at hf|-;omega) (by omega) (by rw[gSs hid])).mono ?_ ?_)
   ·rintro v h1 ⟨t,b,S,q1,q2,q3,q4⟩;have hb2:=ja _ _ _ q1;obtain⟨x0,x1,x2,rfl⟩:=QX q3;simp only[go_sem];refine qO rfl rfl ⟨_,rfl⟩ (by decide) ?_;simp only[go_sem];refine qY ((jf q2.at' hl (by decide)).mono ?_ ?_)
    ·rintro v2 h2 ⟨e1,rfl⟩;rw[qn (by decide)]at e1;simp only[go_sem];refine qO rfl rfl ⟨_,rfl⟩ (by decide) ?_;simp only[go_sem];rw[lLs]at q4;obtain⟨r1,r2⟩:=q3.ps q4 hid (PS.set q2.at' (o:=prI toks (b+1) e));exact⟨t,b+1,S,by simp only[pT,hb,hc,bFt,if_false,if_true,q1,e1],((PS.set ho).trans q2).trans (PS.set q2.at'),r1,r2⟩
    ·rintro v2 h2 ⟨e1,rfl,rfl⟩;rw[qn (by decide)]at e1;exact⟨rfl,b,by simp only[pT,hb,hc,bFt,if_false,if_true,q1,e1],rfl⟩
   ·rintro v h1 ⟨b,q1,rfl⟩;exact⟨rfl,b,by simp only[pT,hb,hc,bFt,if_false,if_true,q1],rfl⟩
  simp only[bFt,if_false,go_sem];refine qY ((Jj ho hl (by decide)).mono ?_ ?_)
  ·rintro v h1 ⟨e1,rfl,rfl⟩;have hlt:=QU (by decide) e1;have en:nxt toks a e=toks[a]:=by simp[nxt,gEg hlt]
   rw[en]at e1|-;simp only[go_sem];by_cases hn:toks[a].Text=[73,110,116]
   ·simp only[decide_eq_true hn,Bool.not_true,go_sem];refine qh rfl n908 ?_;simp only[go_sem];refine qO rfl rfl ⟨_,rfl⟩ (by decide) ?_;simp only[go_sem];exact⟨Qu,a+1,[none],by simp[pT,hb,hc,gEg hlt,e1,hn],PS.set ho,Zt,fun j hj=>by simp at hj⟩
   ·simp only[decide_eq_false hn,Bool.not_false,go_sem];refine qh rfl qc0 ?_;simp only[go_sem];refine qO rfl rfl ⟨_,rfl⟩ (by decide) ?_;simp only[go_sem];exact⟨Js toks[a].Text,a+1,[none],by simp[pT,hb,hc,gEg hlt,e1,hn],PS.set ho,Zt,fun j hj=>by simp at hj⟩
  ·rintro v h1 ⟨e1,rfl,rfl⟩;refine⟨rfl,a, ?_,rfl⟩;simp only[pT,hb,hc,bFt,if_false];unfold nxt at e1;split
   ·rename_i t ht;rw[ht]at e1;rw[if_neg (by simpa using e1)]
   ·rfl
 | false=>
  refine xI UD ?_;simp only[UD,qM,go_sem];refine qY ((ih true a h (by unfold zr at hf|-;simp at hf|-;omega) ha ho).mono ?_ ?_)
  ·rintro v h1 ⟨t,b,S,q1,q2,q3,q4⟩;obtain⟨b1,b2⟩:=ja _ _ _ q1;obtain⟨x0,x1,x2,rfl⟩:=QX q3;simp only[go_sem];refine qO rfl rfl ⟨_,rfl⟩ (by decide) ?_;simp only[go_sem];refine qh rfl (jH q2.at' hl (by decide)) ?_;rw[qn (by decide)];simp only[go_sem];cases hb:isP toks b [45,62]
   ·simp only[bFt,if_false,go_sem];refine qO rfl rfl ⟨_,rfl⟩ (by decide) ?_;simp only[go_sem];exact⟨t,b,S,by simp only[pT,q1,hb,bFt,if_false],q2,q3,q4⟩
   ·have hlt:=qb hb;simp only[if_true,go_sem];have hid1:id<h1.length:=Nat.lt_of_lt_of_le hid q2.len;have q2':=q2.trans (PS.set q2.at' (o:=prI toks (b+1) e));obtain⟨q3',q4'⟩:=q3.ps q4 hid (PS.set q2.at' (o:=prI toks (b+1) e));refine qY ((ih false (b+1) (h1.set id (prI toks (b+1) e)) (by unfold zr at hf|-;simp at hf|-;omega) (by omega) (by rw[gSs hid1])).mono ?_ ?_)
    ·rintro v2 h2 ⟨u,c,S2,p1,p2,p3,p4⟩;obtain⟨y0,y1,y2,rfl⟩:=QX p3;simp only[go_sem];refine qh rfl n722 ?_;simp only[go_sem];refine qO rfl rfl ⟨_,rfl⟩ (by decide) ?_;simp only[go_sem];obtain⟨z3,z4⟩:=q3'.ps q4' hid p2;obtain⟨r1,r2⟩:=qV7 z3 p3 z4 p4 (by have:=q2.len;have:=p2.len;rw[lLs]at this;omega) (by have:=q2.len;rw[lLs];omega) (fun j hj=>(q4' j hj).2);exact⟨QJ t u,c,_,by simp only[pT,q1,hb,if_true,p1],(q2'.trans p2).push,Wh r1,r2⟩
    ·rintro v2 h2 ⟨c,p1,rfl⟩;exact⟨rfl,c,by simp only[pT,q1,hb,if_true,p1],rfl⟩
  ·rintro v h1 ⟨b,q1,rfl⟩;exact⟨rfl,b,by simp only[pT,q1],rfl⟩
end
end Go.Ab
namespace Go.Ab
open Go
set_option maxRecDepth 10000
set_option maxHeartbeats 2000000
def okT(k:Int)(n:Str)(l:Nat):Bool:=if k=1 then decide (n=[])&&decide (l=0)else if k=2 then za n&&(!decide (n=[73,110,116])&&decide (l=0))else if k=3 then decide (n=[])&&decide (l=2)else if k=4 then decide (n=[])&&decide (l=1)else false
mutual
def qB.shp:qB->Nat×Nat×Bool
 |.mk k n ks=>match qB.shps ks 1 1 with
  | none=>(0,0,false)
  | some (d,s)=>(d,s,okT k n ks.length)
def qB.shps:List qB->Nat->Nat->Option (Nat×Nat)
 |[],d,s=>some (d,s)
 | x::xs,d,s=>match x.shp with
  | (d',s',true)=>qB.shps xs (max d (d'+1)) (s+s')
  | (_,_,false)=>none
end
mutual
def qB.nd:qB->Nat
 |.mk _ _ ks=>1+qB.nds ks
def qB.nds:List qB->Nat
 |[]=>0
 | x::xs=>x.nd+qB.nds xs
end
theorem qB.nds_eq:∀xs,qB.nds xs=qE qB.nd xs
 |[]=>by simp[qB.nds,qE]
 | x::xs=>by simp[qB.nds,qE,qB.nds_eq xs]
theorem qB.nd_eq(x:qB):x.nd=1+qE qB.nd x.Kids:=by cases x;simp[qB.nd,qB.nds_eq,qB.Kids]
theorem qB.shp_eq(x:qB):x.shp=match qB.shps x.Kids 1 1 with
  | none=>(0,0,false)
  | some (d,s)=>(d,s,okT x.Kind x.Name x.Kids.length):=by cases x;rfl
theorem qB.shps_le{xs:List qB}(ih:∀y∈xs,y.shp.1<=y.shp.2.1/\y.shp.2.1<=y.nd):∀{d s d1 s1:Nat},d<=s->1<=s->qB.shps xs d s=some (d1,s1)->d1<=s1/\s1<=s+qE qB.nd xs:=by
 induction xs with
 | nil=>intro d s d1 s1 h1 h2 h;simp only[qB.shps,oSi,Prod.mk.injEq]at h;obtain⟨rfl,rfl⟩:=h;simp[qE];exact h1
 | cons x xs ihx=>
  intro d s d1 s1 h1 h2 h;have hx:=ih x (by simp);simp only[qB.shps]at h;split at h
  ·rename_i d' s' he;rw[he]at hx;simp only at hx;have:=ihx (fun y hy=>ih y (by simp[hy])) (by omega) (by omega) h;simp only[qE];omega
  ·cases h
theorem qB.shp_le:∀x:qB,x.shp.1<=x.shp.2.1/\x.shp.2.1<=x.nd:=qB.ind fun x ih=>by
 rw[qB.shp_eq,qB.nd_eq];split
 ·simp
 ·rename_i d s h;have:=qB.shps_le ih (nLr _) (nLr _) h;simp only;omega
def jn(x:qB):Bool:=x.shp.2.2&&(decide (x.shp.1<=6)&&decide (x.shp.2.1<=16))
theorem c331(x:qB):∀(hb:x.bd)(hn:x.nd<=1048576),Pure Gm 331 [x.enc] (.tup [.int .i64 (x.shp.1:Nat),.int .i64 (x.shp.2.1:Nat),.bool x.shp.2.2]):=by
 induction x using qB.ind with
 | _ x ih=>
 intro hb hn;refine pJ UB ?_;simp only[UB,qM,go_sem];refine zJ qB.ln ?_;simp only[go_sem];rw[qB.nd_eq]at hn;rw[qB.bd_eq]at hb;obtain⟨b1,b2,b3⟩:=hb;have hs:=qB.shp_eq x;have e0:x.Kids.length<=1048576:=by
  have:∀xs:List qB,xs.length<=qE qB.nd xs:=fun xs=>by
   induction xs with
   | nil=>simp
   | cons y ys ihy=>have:=qB.nd_eq y;simp only[lCo,qE];omega
  have:=this x.Kids;omega
 refine Sem.loop (fun a:Nat×Nat×Nat=>a.1<=x.Kids.length/\a.2.1<=a.2.2/\1<=a.2.2/\a.2.2+qE qB.nd (x.Kids.drop a.1)<=1048576/\qB.shps x.Kids 1 1=qB.shps (x.Kids.drop a.1) a.2.1 a.2.2)
  (fun a=>(⟨[(2,.int .i64 (a.2.1:Nat)),(3,.int .i64 (a.2.2:Nat)),(4,.bool false),(11,.lst 3 (x.Kids.map qB.enc) false),(12,.int .i64 x.Kids.length),(13,.int .i64 (a.1:Nat))],[(1,x.enc)],[]⟩:VSt)) (fun a=>x.Kids.length-a.1) (0,1,1) (by kernel_rfl) ⟨nZl _,nLr _,nLr _,by simpa using hn,rfl⟩ (Can.sub (by simp[go_sem]) (by simp[go_sem])) ?_
 rintro⟨i,d,s⟩ ⟨hi,h1,h2,h3,hI⟩;simp only at hi h1 h2 h3 hI;simp only[go_sem];apply zN<;>intro hc<;>simp only[hc,go_sem]
 ·have hlt:i<x.Kids.length:=by have:=odT hc;omega
  simp only[gMp,gEg hlt,oMs,go_sem];refine qO rfl qB.ln (by exact⟨_,qB.enc_eq _⟩) (by decide) ?_;simp only[go_sem];have hm:=gMm hlt;have hd:x.Kids.drop i=x.Kids[i]::x.Kids.drop (i+1):=by simp
  rw[hd]at h3;simp only[qE]at h3;refine qK (ih _ hm (b3 _ hm) (by omega)) ?_;simp only[go_sem];have hle:=qB.shp_le x.Kids[i];cases hg:x.Kids[i].shp.2.2
  ·simp only[Bool.not_false];simp only[go_sem];refine zX rfl ?_;have:qB.shps x.Kids 1 1=none:=by
    rw[hI,hd,qB.shps];split
    ·rename_i he;rw[he]at hg;cases hg
    ·rfl
   rw[hs,this];rfl
  ·simp only[Bool.not_true];simp only[go_sem];simp only[qg (n:=((x.Kids[i].shp.1:Nat):Int)+1) (by omega) (by omega),qg (n:=(s:Int)+((x.Kids[i].shp.2.1:Nat):Int)) (by omega) (by omega)];have em:max ((d:Nat):Int) (((x.Kids[i].shp.1:Nat):Int)+1)=((max d (x.Kids[i].shp.1+1):Nat):Int):=by omega
   have es:(s:Int)+((x.Kids[i].shp.2.1:Nat):Int)=((s+x.Kids[i].shp.2.1:Nat):Int):=by omega
   rw[em,es];simp only[qz (show i<4611686018427387904 by omega)];refine qa (i+1,max d (x.Kids[i].shp.1+1),s+x.Kids[i].shp.2.1) ⟨by simp only;omega,by simp only;omega,by simp only;omega,by simp only;omega, ?_⟩ (by simp only;omega) ?_
   ·simp only;rw[hI,hd,qB.shps];split
    ·rename_i he;rw[he]
    ·rename_i he;rw[he]at hg;cases hg
   ·exact Can.sub (by simp[go_sem]) (by simp[go_sem])
 ·obtain rfl:i=x.Kids.length:=by have:=odF hc;omega
  have hk:qB.shps x.Kids 1 1=some (d,s):=by rw[hI];simp[qB.shps]
  rw[hk]at hs;simp only at hs;rw[hs];clear hs hk;have ek:decide (((x.Kids.length:Nat):Int)=0)=decide (x.Kids.length=0):=by rw[decide_eq_decide];omega
  have ek2:decide (((x.Kids.length:Nat):Int)=2)=decide (x.Kids.length=2):=by rw[decide_eq_decide];omega
  have ek1:decide (((x.Kids.length:Nat):Int)=1)=decide (x.Kids.length=1):=by rw[decide_eq_decide];omega
  by_cases k1:x.Kind=1
  ·simp only[decide_eq_true k1,go_sem];by_cases q:x.Name=[]
   ·simp only[decide_eq_true q,go_sem];exact zX rfl (by rw[ek];simp[okT,k1,q])
   ·simp only[decide_eq_false q,go_sem];exact zX rfl (by simp[okT,k1,q])
  simp only[decide_eq_false k1,go_sem];by_cases k2:x.Kind=2
  ·simp only[decide_eq_true k2,go_sem];refine qK (jy (by omega)) ?_;simp only[go_sem];cases q:za x.Name
   ·simp only[go_sem];exact zX rfl (by simp[okT,k2,q])
   ·simp only[go_sem];by_cases q2:x.Name=[73,110,116]
    ·simp only[decide_eq_true q2,Bool.not_true,go_sem];exact zX rfl (by simp[okT,k2,q2])
    ·simp only[decide_eq_false q2,Bool.not_false,go_sem];exact zX rfl (by rw[ek];simp[okT,k2,q,q2])
  simp only[decide_eq_false k2,go_sem];by_cases k3:x.Kind=3
  ·simp only[decide_eq_true k3,go_sem];by_cases q:x.Name=[]
   ·simp only[decide_eq_true q,go_sem];exact zX rfl (by rw[ek2];simp[okT,k3,q])
   ·simp only[decide_eq_false q,go_sem];exact zX rfl (by simp[okT,k3,q])
  simp only[decide_eq_false k3,go_sem];by_cases k4:x.Kind=4
  ·simp only[decide_eq_true k4,go_sem];by_cases q:x.Name=[]
   ·simp only[decide_eq_true q,go_sem];exact zX rfl (by rw[ek1];simp[okT,k4,q])
   ·simp only[decide_eq_false q,go_sem];exact zX rfl (by simp[okT,k4,q])
  simp only[decide_eq_false k4,go_sem];exact zX rfl (by simp[okT,k1,k2,k3,k4])
theorem c74{x:qB}(hb:x.bd)(hn:x.nd<=1048576):Pure Gm 74 [x.enc] (.bool (jn x)):=by
 refine pJ F74 ?_;simp only[F74,qM,go_sem];refine zJ qB.ln ?_;simp only[go_sem];refine qK (c331 x hb hn) ?_;simp only[go_sem];have e1:decide (((x.shp.1:Nat):Int)<=6)=decide (x.shp.1<=6):=by rw[decide_eq_decide];omega
 have e2:decide (((x.shp.2.1:Nat):Int)<=16)=decide (x.shp.2.1<=16):=by rw[decide_eq_decide];omega
 cases h1:x.shp.2.2
 ·simp only[go_sem];exact qH rfl (by simp[jn,h1])
 ·simp only[go_sem,e1];by_cases h2:x.shp.1<=6
  ·simp only[decide_eq_true h2,go_sem,e2];exact qH rfl (by simp[jn,h1,h2])
  ·simp only[decide_eq_false h2,go_sem];exact qH rfl (by simp[jn,h1,h2])
end Go.Ab
namespace Go.Ab
open Go
set_option maxRecDepth 10000
set_option maxHeartbeats 2000000
theorem Fresh.ofS{Γ:Nat->Option AFn}{g:Nat}{as:List AV}{t:AV}(ht:AV.trees as=true)(hp:t.pl=true)(hs:SCall Γ g as [] fun v h'=>∃S,q9 S h' v t):Fresh Γ g as t:=by
 unfold Fresh;refine⟨ht,hp,fun hr ar har=> ?_⟩;obtain⟨k,r,hr',ρ',v,h',hx,⟨S,own⟩,g1,g2,g3,_⟩:=hs ρ0 hr ar ⟨(fun i o h=>by simp at h),(fun i j a o o' h=>by cases h),(fun _ _=>rfl),(fun i a h=>by cases h)⟩ har;obtain⟨r1,r2⟩:=qWM own.d own.o g1;exact⟨k,r,hr',_,hx,r1,own.v.rel g2,g3.trans r2⟩
@[go_sem] theorem qjG{E:Ev}{l:List qC}{ks:List Fr1}{s m:qo}{h:List qD}{Q:qX->VSt->Prop}{t:Nat}{k k':IntKind}{a b:Int}:Lst E t 0 1 (some (.int k a)) (some (.int k' b)) l ks ⟨s,m,h⟩ Q=R E (.ops l::ks) ⟨s,(t,.int k' b)::m,h⟩ Q:=by
 unfold Lst;simp[AV.put,AV.cells]
@[go_sem] theorem qlP{E:Ev}{t:jB}{K:AV->List qD->Prop}{st:VSt}:YR E t K .ret st=wG (zG (jA st) t.res) st.h K:=rfl
@[go_sem] theorem qlO{E:Ev}{t:jB}{K:AV->List qD->Prop}{st:VSt}:YR E t K .nrm st=((∀i∈t.cap,get st.l i≠none)/\get st.s t.d5=none/\R E [.code t.mid] st (JP fun st=>R E [.ops t.l7] st (YS E t K))):=rfl
@[go_sem] theorem qlQ{E:Ev}{t:jB}{K:AV->List qD->Prop}{st:VSt}:YS E t K .nrm st=R E [.code t.r8] st (JP (ZM E t K)):=rfl
@[go_sem] theorem qfO{E:Ev}{t:jB}{K:AV->List qD->Prop}{st:VSt}{v:AV}:YS E t K (.pan v) st=J7 E t K v st:=rfl
theorem qfP{E:Ev}{t:jB}{K:AV->List qD->Prop}{st:VSt}(h:ev (toE st.s) t.x=some (.bool false))(hr:R E [.code t.tail] st (QI t.res K)):ZM E t K st:=by
 unfold ZM;rw[h];exact hr
theorem qfQ{E:Ev}{t:jB}{K:AV->List qD->Prop}{st:VSt}(h:ev (toE st.s) t.x=some (.bool true))(hr:R E [.ops t.l9] st (kx (J7 E t K))):ZM E t K st:=by
 unfold ZM;rw[h];exact hr
theorem qXP{E:Ev}{t:jB}{K:AV->List qD->Prop}{st:VSt}{T:Nat}{x:AV}(hT:T=t.T)(hl:x.leaf=true)(hr:R E [.code t.hnd] ⟨[(t.nh,x)],wi st.l 0 t.cap,st.h⟩ (JP fun s=>wG (zG (jA s) t.resH) s.h K)):J7 E t K (.iface T x) st:=⟨hT,hl,hr⟩
@[go_sem] theorem qgF{l:qo}{n:Nat}:wi l n []=[]:=rfl
def qTB(v:Option AV)(n:Nat)(r:qo):qo:=match v with
 | some v=>(n,v)::r
 | none=>r
@[go_sem] theorem qgD{v:AV}{n:Nat}{r:qo}:qTB (some v) n r=(n,v)::r:=rfl
@[go_sem] theorem qgE{l:qo}{n c:Nat}{r:List Nat}:wi l n (c::r)=qTB (get l c) n (wi l (n+1) r):=by
 rw[wi];cases get l c<;>rfl
theorem qAS{t:Str}:∀(f:Nat){i:Nat}{acc l:List qN},jm t f i acc=.ok l->i<=t.length->acc.length<=i->(∀x∈acc,x.Text.length<=t.length)->l.length<=t.length/\∀x∈l,x.Text.length<=t.length
 | 0,i,acc,l,h,hi,ha,hx=>by simp only[jm,Except.ok.injEq]at h;subst h;exact⟨by omega,hx⟩
 | f+1,i,acc,l,h,hi,ha,hx=>by
  simp only[jm]at h;split at h
  ·rename_i hlt;obtain⟨t1,t2,t3⟩:=Wt hlt;split at h
   ·exact qAS f h (by omega) (by omega) hx
   ·split at h
    ·cases h
    ·rename_i hk;have:=t3 hk;refine qAS f h (by omega) (by simp;omega) fun x hm=> ?_;rcases jd.1 hm with hm | hm
     ·exact hx x hm
     ·simp only[lMg]at hm;subst hm;simp only[lLt,List.length_drop];omega
  ·simp only[Except.ok.injEq]at h;subst h;exact⟨by omega,hx⟩
theorem qXG{t:Str}:(qw t).1.length<=20000/\∀x∈(qw t).1,x.Text.length<=20000:=by
 unfold qw;split
 ·exact⟨by simp,fun x hx=>by simp at hx⟩
 ·rename_i hl;split
  ·exact⟨by simp,fun x hx=>by simp at hx⟩
  ·rename_i l h;obtain⟨h1,h2⟩:=qAS _ h (nZl _) (nLr _) (fun x hx=>by simp at hx);exact⟨by simp only;omega,fun x hx=>by have:=h2 x hx;omega⟩
theorem YN{t:Str}:(qw t).1.length<=20000:=qXG.1
theorem qfL{t:Str}:∀x∈(qw t).1,x.Text.length<=20000:=qXG.2
theorem ku{toks:List qN}(hx:∀x∈toks,x.Text.length<=20000):∀(f:Nat)(flag:Bool)(a:Nat){t:qB}{b:Nat},pT toks f flag a=.ok (t,b)->t.bd/\t.nd<=b-a:=by
 intro f
 induction f with
 | zero=>intro flag a t b h;simp[pT]at h
 | succ f ih=>
  intro flag a t b h;have hp:=ja _ _ _ h;cases flag with
  | true=>
   simp only[pT]at h;split at h
   ·split at h
    ·rename_i t1 b1 h2;obtain⟨i1,i2⟩:=ih _ _ h2;have:=ja _ _ _ h2;cases h;refine⟨by rw[qB.bd_eq];exact⟨by simp[Qk,qB.Name],by simp[Qk,qB.Kids],fun y hy=>by simp[Qk,qB.Kids]at hy;subst hy;exact i1⟩, ?_⟩;rw[qB.nd_eq];simp only[Qk,qB.Kids,qE];omega
    ·cases h
   ·split at h
    ·split at h
     ·rename_i t1 b1 h2;obtain⟨i1,i2⟩:=ih _ _ h2;have:=ja _ _ _ h2;split at h
      ·cases h;exact⟨i1,by omega⟩
      ·cases h
     ·cases h
    ·split at h
     ·rename_i tk h1;split at h
      ·cases h;split
       ·exact⟨by rw[qB.bd_eq];exact⟨by simp[Qu,qB.Name],by simp[Qu,qB.Kids],fun y hy=>by simp[Qu,qB.Kids]at hy⟩,by rw[qB.nd_eq];simp only[Qu,qB.Kids,qE];omega⟩
       ·exact⟨by rw[qB.bd_eq];exact⟨by have:=hx _ (lMo h1);simp only[Js,qB.Name];omega,by simp[Js,qB.Kids],fun y hy=>by simp[Js,qB.Kids]at hy⟩,by rw[qB.nd_eq];simp only[Js,qB.Kids,qE];omega⟩
      ·cases h
     ·cases h
  | false=>
   simp only[pT]at h;split at h
   ·rename_i t1 b1 h2;obtain⟨i1,i2⟩:=ih _ _ h2;have:=ja _ _ _ h2;split at h
    ·split at h
     ·rename_i u c h3;obtain⟨j1,j2⟩:=ih _ _ h3;have:=ja _ _ _ h3;cases h;refine⟨by rw[qB.bd_eq];exact⟨by simp[QJ,qB.Name],by simp[QJ,qB.Kids],fun y hy=>by simp[QJ,qB.Kids]at hy;rcases hy with rfl | rfl;exact i1;exact j1⟩, ?_⟩;rw[qB.nd_eq];simp only[QJ,qB.Kids,qE];omega
     ·cases h
    ·cases h;exact⟨i1,i2⟩
   ·cases h
theorem X3{α:Type}{enc:α->AV}:∀{xs:List α},(∀x∈xs,(enc x).pl=true)->AV.pls (xs.map enc)=true
 |[],_=>rfl
 | x::xs,h=>by simp only[lMc,AV.pls,h x (by simp),X3 (xs:=xs) (fun y hy=>h y (by simp[hy])),Bool.and_self]
theorem XM{α:Type}{enc:α->AV}:∀{xs:List α},(∀x∈xs,(enc x).cn=true)->AV.cns (xs.map enc)=true
 |[],_=>rfl
 | x::xs,h=>by simp only[lMc,AV.cns,h x (by simp),XM (xs:=xs) (fun y hy=>h y (by simp[hy])),Bool.and_self]
theorem qB.plx:∀x:qB,x.enc.pl=true:=qB.ind fun x ih=>by
 rw[qB.enc_eq];simp[AV.pl,AV.pls,X3 ih]
theorem qB.cnx:∀x:qB,x.enc.cn=true:=qB.ind fun x ih=>by
 rw[qB.enc_eq];simp[AV.cn,AV.cns,XM ih]
end Go.Ab
namespace Go.Ab
open Go
set_option maxRecDepth 10000
set_option maxHeartbeats 2000000
theorem ZW{n lo hi:Int}:Pure Gm 340 [.int .i64 n,.int .i64 lo,.int .i64 hi] (.bool (decide (lo<=n)&&decide (n<=hi))):=by
 refine pJ UE ?_;simp only[UE,qM,go_sem]
 first | (apply QK<;>intro hc<;>simp only[hc,go_sem]) | (apply zN<;>intro hc<;>simp only[hc,go_sem])
 ·exact qH rfl (by have hq:=odT hc;simp<;>omega)
 ·exact qH rfl (by have hq:=odF hc;simp<;>omega)
theorem XI{b:UInt8}:Pure Gm 1440 [.int .u8 (b.toNat:Nat)] (.bool (jD b || jG b)):=by
 refine pJ Va ?_;simp only[Va,qM,go_sem];by_cases h1:97<=b.toNat
 ·have e1:decide ((97:Int)<=(b.toNat:Nat))=true:=decide_eq_true (by omega);simp only[ge_iff_le,e1,go_sem];by_cases h2:b.toNat<=122
  ·have e2:decide (((b.toNat:Nat):Int)<=122)=true:=decide_eq_true (by omega);simp only[e2,go_sem];exact qH rfl (by simp[jD,h1,h2])
  ·have e2:decide (((b.toNat:Nat):Int)<=122)=false:=decide_eq_false (by omega);have e3:decide ((65:Int)<=(b.toNat:Nat))=true:=decide_eq_true (by omega);have e4:decide (((b.toNat:Nat):Int)<=90)=false:=decide_eq_false (by omega);simp only[e2,e3,e4,go_sem];exact qH rfl (by simp[jD,jG,h2];omega)
 ·have e1:decide ((97:Int)<=(b.toNat:Nat))=false:=decide_eq_false (by omega);simp only[ge_iff_le,e1,go_sem];by_cases h2:65<=b.toNat
  ·have e2:decide ((65:Int)<=(b.toNat:Nat))=true:=decide_eq_true (by omega);simp only[e2,go_sem];exact qH rfl (by congr 1;rw[Bool.eq_iff_iff];simp[jD,jG];omega)
  ·have e2:decide ((65:Int)<=(b.toNat:Nat))=false:=decide_eq_false (by omega);simp only[e2,go_sem];exact qH rfl (by simp[jD,jG,h1,h2])
theorem WG{b:UInt8}:Pure Gm 1442 [.int .u8 (b.toNat:Nat)] (.bool (zO b)):=by
 refine pJ Vc ?_;simp only[Vc,qM,go_sem]
 first | (apply QK<;>intro hc<;>simp only[hc,go_sem]) | (apply zN<;>intro hc<;>simp only[hc,go_sem])
 ·exact qH rfl (by first | (simp[zO]at hc|-;omega) | (simp only[dTe,decide_eq_false_iff_not]at hc;congr 1;rw[Bool.eq_iff_iff];simp[zO];omega))
 ·exact qH rfl (by first | (simp[zO]at hc|-;omega) | (simp only[dTe,decide_eq_false_iff_not]at hc;congr 1;rw[Bool.eq_iff_iff];simp[zO];omega))
theorem qS8:Pure Gm 1513 [] (.lst 1 (kws.map qP) false):=by
 refine pJ Vk ?_;simp only[Vk,qM,go_sem];rw[show zL _ _ _ _=some (kws.map qP)from rfl];simp only[go_sem];exact qT4 (Cv.row rfl rfl rfl (by decide))
theorem qS6{v:Str}:Pure Gm 1441 [.str v] (.bool (zi v)):=by
 refine pJ Vb ?_;simp only[Vb,qM,go_sem];have hk:zi v=kws.any fun x=>v==x:=by simp only[zi,List.contains_eq_any_beq]
 have h8:kws.length=8:=rfl;refine Sem.loop (fun i:Nat=>i<=kws.length/\(kws.any fun x=>v==x)=((kws.drop i).any fun x=>v==x)) (fun i=>(⟨[(0,.str v),(3,.int .i64 (i:Nat))],[],[]⟩:VSt)) (fun i=>kws.length-i) 0 (by kernel_rfl) ⟨nZl _,rfl⟩ (Can.sub (by simp[go_sem]) (by simp[go_sem])) ?_;rintro i ⟨hi,hI⟩;simp only[go_sem];refine qK qS8 ?_;simp only[go_sem];by_cases hlt:i<kws.length
 ·have e1:decide ((i:Int)<kws.length)=true:=decide_eq_true (by omega);simp only[e1,go_sem];refine qK qS8 ?_;simp only[go_sem];simp only[gMp,gEg hlt,oMs,shS.part,qP,go_sem];have hd:kws.drop i=kws[i]::kws.drop (i+1):=by simp
  rw[hd,List.any_cons]at hI;by_cases he:kws[i]=v
  ·simp only[decide_eq_true he,go_sem];refine qH rfl ?_;rw[hk,hI,he];simp
  ·simp only[decide_eq_false he,go_sem];simp only[qz (show i<4611686018427387904 by omega)];refine qa (i+1) ⟨by omega, ?_⟩ (by omega) (Can.sub (by simp[go_sem]) (by simp[go_sem]));rw[hI,show (v==kws[i])=false from by simpa using fun q=>he q.symm,Bool.false_or]
 ·have e1:decide ((i:Int)<kws.length)=false:=decide_eq_false (by omega);obtain rfl:i=kws.length:=by omega
  simp only[e1,go_sem];refine qH rfl ?_;rw[hk,hI];simp
theorem qS3{v:Str}(hl:v.length<=4611686018427387904):Pure Gm 1241 [.str v] (.bool (zw v)):=by
 refine pJ VH ?_;simp only[VH,qM,go_sem];by_cases h0:v.length<1
 ·have e0:decide ((v.length:Int)<1)=true:=decide_eq_true (by omega);simp only[e0,go_sem];exact qH rfl (by have:v=[]:=List.length_eq_zero_iff.1 (by omega);subst this;rfl)
 have e0:decide ((v.length:Int)<1)=false:=decide_eq_false (by omega);simp only[e0,go_sem];obtain⟨c,r,hv⟩:∃c r,v=c::r:=by cases v with
  | nil=>simp at h0
  | cons c r=>exact⟨c,r,rfl⟩
 by_cases h12:v.length<=12
 case neg=>
  have e1:decide ((v.length:Int)>12)=true:=decide_eq_true (by omega);simp only[gt_iff_lt]at e1;simp only[e1,go_sem];exact qH rfl (by subst hv;simp only[zw,decide_eq_false h12,Bool.false_and])
 have e1:decide ((v.length:Int)>12)=false:=decide_eq_false (by omega);simp only[gt_iff_lt]at e1;have eh:v[0]?=some c:=by rw[hv];rfl
 simp only[e1,go_sem,eh,oMs];refine qK XI ?_;simp only[go_sem];cases hd:(jD c || jG c)
 case false=>
  simp only[Bool.not_false];simp only[go_sem];refine qH rfl ?_;subst hv;have:zw (c::r)=false:=by
   simp only[zw,lAc,zI];rw[Bool.or_eq_false_iff]at hd;simp only[hd.1,hd.2,Bool.false_or];cases zO c<;>simp
  rw[this]
 simp only[Bool.not_true];simp only[go_sem];have hdd:zO c=false:=by
  rw[Bool.or_eq_true]at hd;rcases hd with hd | hd<;>simp[jD,jG,zO]at hd|-<;>omega
 refine qK qS6 ?_;simp only[go_sem];cases hk:zi v
 case true=>
  simp only[go_sem];exact qH rfl (by subst hv;simp[zw,hk])
 simp only[go_sem];have hn:zw v=v.all zI:=by subst hv;simp only[zw,hdd,hk,decide_eq_true h12,Bool.not_false,Bool.true_and]
 refine Sem.loop (fun i:Nat=>i<=v.length/\v.all zI=(v.drop i).all zI) (fun i=>(⟨[(0,.str v),(3,.int .i64 (i:Nat))],[],[]⟩:VSt)) (fun i=>v.length-i) 0 (by kernel_rfl) ⟨nZl _,rfl⟩ (Can.sub (by simp[go_sem]) (by simp[go_sem])) ?_;rintro i ⟨hi,hI⟩;simp only[go_sem];apply zN<;>intro hc<;>simp only[hc,go_sem]
 ·have hlt:i<v.length:=by have:=odT hc;omega
  have hq:v.drop i=v[i]::v.drop (i+1):=by simp
  rw[hq,lAc]at hI;simp only[gEg hlt,oMs];simp only[go_sem];refine qK XI ?_;simp only[go_sem];cases hw:(jD v[i] || jG v[i])
  ·simp only[Bool.not_false];simp only[go_sem];simp only[gEg hlt,oMs];simp only[go_sem];refine qK WG ?_;simp only[go_sem];have hw2:zI v[i]=zO v[i]:=by rw[Bool.or_eq_false_iff]at hw;simp[zI,hw.1,hw.2]
   cases hw3:zO v[i]
   ·simp only[Bool.not_false];simp only[go_sem];refine qH rfl ?_;rw[hn,hI,hw2,hw3,Bool.false_and]
   ·simp only[Bool.not_true];simp only[go_sem];simp only[qz (show i<4611686018427387904 by omega)];refine qa (i+1) ⟨by omega, ?_⟩ (by omega) (Can.sub (by simp[go_sem]) (by simp[go_sem]));rw[hI,hw2,hw3,Bool.true_and]
  ·simp only[Bool.not_true];simp only[go_sem];have hw2:zI v[i]=true:=by rw[Bool.or_eq_true]at hw;simp only[zI];rcases hw with hw | hw<;>simp[hw]
   simp only[qz (show i<4611686018427387904 by omega)];refine qa (i+1) ⟨by omega, ?_⟩ (by omega) (Can.sub (by simp[go_sem]) (by simp[go_sem]));rw[hI,hw2,Bool.true_and]
 ·obtain rfl:i=v.length:=by have:=odF hc;omega
  refine qH rfl ?_;rw[hn,hI];simp
theorem qUL{c:UInt8}{r:Str}(h:zw (c::r)=true):jD c=true\/jG c=true:=by
 simp only[zw,lAc,zI,bAt,Bool.or_eq_true,bNt]at h;obtain⟨_,h1,_,h2,_⟩:=h;rcases h2 with h2 | h2 | h2
 ·exact .inl h2
 ·exact .inr h2
 ·rw[h1]at h2;cases h2
theorem Jq{v:Str}(hl:v.length<=4611686018427387904):Pure Gm 921 [.str v] (.bool (za v)):=by
 refine pJ U6 ?_;simp only[U6,qM,go_sem];refine qK (qS3 hl) ?_;simp only[go_sem];cases hn:zw v
 ·simp only[go_sem];exact qH rfl (by simp[za,hn])
 ·cases v with
  | nil=>cases hn
  | cons c r=>
  have hh:=qUL hn;simp only[List.getElem?_cons_zero,oMs,go_sem];exact qH rfl (by simp only[za,hn,List.headD_cons,Bool.true_and];congr 1;rw[Bool.eq_iff_iff];simp[jD,jG]at hh|-;omega)
theorem Qm{v:Str}(hl:v.length<=4611686018427387904):Pure Gm 1237 [.str v] (.bool (zg v)):=by
 refine pJ VF ?_;simp only[VF,qM,go_sem];refine qK (qS3 hl) ?_;simp only[go_sem];cases hn:zw v
 ·simp only[go_sem];exact qH rfl (by simp[zg,hn])
 ·cases v with
  | nil=>cases hn
  | cons c r=>
  have hh:=qUL hn;simp only[List.getElem?_cons_zero,oMs,go_sem];exact qH rfl (by simp only[zg,hn,List.headD_cons,Bool.true_and];congr 1;rw[Bool.eq_iff_iff];simp[jD,jG]at hh|-;omega)
theorem qY3{b:UInt8}:Pure Gm 1393 [.int .u8 (b.toNat:Nat)] (.bool (decide (0<=Lib.indexByte ZV (b.toNat:Nat).toUInt8))):=by
 refine pJ VQ ?_;simp only[VQ,qM,go_sem];have hb:(b.toNat:Nat).toUInt8=b:=by simp
 rw[hb];by_cases h1:b=32
 ·subst h1;have e1:decide ((((32:UInt8).toNat:Nat):Int)=32)=true:=rfl;simp only[e1,go_sem];exact qH rfl rfl
 by_cases h2:b=10
 ·subst h2;have e1:decide ((((10:UInt8).toNat:Nat):Int)=32)=false:=rfl;have e2:decide ((((10:UInt8).toNat:Nat):Int)=10)=true:=rfl;simp only[e1,e2,go_sem];exact qH rfl rfl
 by_cases h3:b=9
 ·subst h3;have e1:decide ((((9:UInt8).toNat:Nat):Int)=32)=false:=rfl;have e2:decide ((((9:UInt8).toNat:Nat):Int)=10)=false:=rfl;have e3:decide ((((9:UInt8).toNat:Nat):Int)=9)=true:=rfl;simp only[e1,e2,e3,go_sem];exact qH rfl rfl
 have hne:∀c:UInt8,¬b=c->decide (((b.toNat:Nat):Int)=(c.toNat:Nat))=false:=fun c hc=>decide_eq_false fun q=>hc (UInt8.toNat_inj.1 (by omega));have e1:decide (((b.toNat:Nat):Int)=32)=false:=hne 32 h1;have e2:decide (((b.toNat:Nat):Int)=10)=false:=hne 10 h2;have e3:decide (((b.toNat:Nat):Int)=9)=false:=hne 9 h3;simp only[e1,e2,e3,go_sem];exact qH rfl (by simp[Lib.indexByte,ZV,Ne.symm h1,Ne.symm h2,Ne.symm h3])
theorem qZB{t:Str}{i:Nat}(hi:i<=t.length)(hl:t.length<=20000):Pure Gm 1496 [.str t,.int .i64 (i:Nat)] (.int .i64 ((i+(qk t i).length:Nat):Int)):=by
 refine pJ Vf ?_;simp only[Vf,qM,go_sem];refine Sem.loop (fun k:Nat=>k<=(qk t i).length) (fun k=>(⟨[(0,.str t),(1,.int .i64 ((i+k:Nat):Int))],[],[]⟩:VSt)) (fun k=>(qk t i).length-k) 0 (by kernel_rfl) (nZl _) (Can.sub (by simp[go_sem]) (by simp[go_sem])) ?_;intro k hk;have ws:=qAX hk;simp only[go_sem];by_cases hlt:i+k<t.length
 case neg=>
  have e:decide (((i+k:Nat):Int)<t.length)=false:=decide_eq_false (by omega);simp only[e,go_sem];have:k=(qk t i).length:=by have:=YW (t:=t) (i:=i) hi;omega
  exact qH rfl (by rw[this])
 have e:decide (((i+k:Nat):Int)<t.length)=true:=decide_eq_true (by omega);simp only[e,gEg hlt,oMs,go_sem];refine qK XI ?_;simp only[go_sem];have go:zI t[i+k]=true->k<(qk t i).length:=fun q=>ws.1 ⟨_,gEg hlt,q⟩;have no:zI t[i+k]=false->k=(qk t i).length:=fun q=>by
  have:¬k<(qk t i).length:=fun q2=>by
   obtain⟨c,e1,e2⟩:=ws.2 q2;rw[gEg hlt]at e1;cases e1;rw[q]at e2;cases e2
  omega
 cases hw:(jD t[i+k] || jG t[i+k])
 ·simp only[gEg hlt,oMs,go_sem];refine qK WG ?_;simp only[go_sem];have hw2:zI t[i+k]=zO t[i+k]:=by rw[Bool.or_eq_false_iff]at hw;simp[zI,hw.1,hw.2]
  cases hw3:zO t[i+k]
  ·simp only[go_sem];exact qH rfl (by rw[<-no (by rw[hw2,hw3])])
  ·simp only[go_sem];have h1:=go (by rw[hw2,hw3]);simp only[qz (show i+k<4611686018427387904 by omega)];exact qa (k+1) h1 (by omega) (Can.sub (by simp[go_sem,Nat.add_assoc]) (by simp[go_sem]))
 ·simp only[go_sem];have h1:=go (by rw[Bool.or_eq_true]at hw;simp only[zI];rcases hw with hw | hw<;>simp[hw]);simp only[qz (show i+k<4611686018427387904 by omega)];exact qa (k+1) h1 (by omega) (Can.sub (by simp[go_sem,Nat.add_assoc]) (by simp[go_sem]))
end Go.Ab
namespace Go.Ab
open Go
def ji(a:Nat)(s:Str):Nat:=s.foldl (fun a c=>10*a+(c.toNat-48)) a
def qf(s:Str):Nat:=ji 0 s
def zt(s:Str):Bool:=decide (s.length<=10)&&(!(decide (1<s.length)&&decide (s.headD 0=48))&&(s.all zO&&decide (qf s<=2147483648)))
theorem wo{a:Nat}:ji a []=a:=by unfold ji;rw[List.foldl_nil]
theorem JQ{a:Nat}{c:UInt8}{s:Str}:ji a (c::s)=ji (10*a+(c.toNat-48)) s:=by unfold ji;rw[List.foldl_cons]
theorem Xv{s r:Str}{a:Nat}:ji a (s++r)=ji (ji a s) r:=List.foldl_append ..
theorem qVN{s:Str}:∀{a:Nat},a<=ji a s:=by
 induction s with
 | nil=>intro a;exact nLr _
 | cons c s ih=>intro a;rw[JQ];exact nLt (by omega) ih
theorem Jd{c:UInt8}:zO c=true↔48<=c.toNat/\c.toNat<=57:=by simp[zO]
theorem qVO:∀{s:Str}{a k:Nat},s.all zO=true->a<10^k->ji a s<10^(k+s.length)
 |[],a,k,_,h=>by rw[wo];exact h
 | c::s,a,k,hd,h=>by
  simp only[lAc,bAt]at hd;rw[JQ,show k+(c::s).length=(k+1)+s.length by simp;omega];have:=Jd.1 hd.1;exact qVO hd.2 (by rw[Nat.pow_succ];omega)
theorem qVQ{s:Str}(hd:s.all zO=true):qf s<10^s.length:=by
 have:=qVO (k:=0) (a:=0) hd (by decide);rwa[nZa]at this
theorem qAA{M:Nat}(hM:M=2^64-1):∀{s:Str}{a:Nat},s.all zO=true->ji a s<=9000000000000000000->Lib.parseUintM M a s=.ok (ji a s)
 |[],a,_,_=>by rw[wo];rfl
 | c::s,a,hd,h=>by
  simp only[lAc,bAt]at hd;have h1:=Jd.1 hd.1;rw[JQ]at h|-;have h2:=qVN (s:=s) (a:=10*a+(c.toNat-48));rw[Lib.parseUintM,if_pos h1,if_neg (by omega),if_neg (by subst hM;omega),show a*10+(c.toNat-48)=10*a+(c.toNat-48) by omega];exact qAA hM hd.2 h
theorem qV9{s:Str}(hn:s≠[])(hd:s.all zO=true)(h:qf s<=9000000000000000000):Lib.parseIntB 64 s=.ok (qf s:Int):=by
 cases s with
 | nil=>exact absurd rfl hn
 | cons c r=>
  have h1:=Jd.1 (by simp only[lAc,bAt]at hd;exact hd.1);unfold Lib.parseIntB;simp only;rw[if_neg (by omega),Lib.parseUintB,if_neg (by simp),qAA rfl hd h];simp only;rw[if_neg (by intro q;have:=q.2;change qf (c::r)<=_ at h;unfold qf at h;omega),if_neg (by omega),if_neg (by omega)];rfl
theorem WM{u:Nat}(h:u<10):Lib.decDigits u=[UInt8.ofNat (48+u)]:=by rw[Lib.decDigits,dif_pos h]
theorem XP{u:Nat}(h:¬u<10):Lib.decDigits u=Lib.decDigits (u/10)++[UInt8.ofNat (48+u%10)]:=by rw[Lib.decDigits,dif_neg h]
theorem ofN{d:Nat}(h:d<10):(UInt8.ofNat (48+d)).toNat=48+d:=by
 rw[UInt8.toNat_ofNat'];omega
theorem qTQ:∀u:Nat,(Lib.decDigits u).all zO=true/\qf (Lib.decDigits u)=u/\Lib.decDigits u≠[]/\(1<(Lib.decDigits u).length->(Lib.decDigits u).headD 0≠48)/\(0<u->(Lib.decDigits u).headD 0≠48):=by
 intro u
 induction u using Nat.strongRecOn with
 | _ u ih=>
 by_cases h:u<10
 ·rw[WM h];have hu:=ofN h;refine⟨by simp only[lAc,List.all_nil,Bool.and_true];rw[Jd,hu];omega,by simp only[qf,JQ,wo,hu];omega,by simp,by simp,fun h0 q=> ?_⟩;simp only[List.headD_cons]at q;rw[q]at hu;have:(48:UInt8).toNat=48:=rfl;omega
 ·rw[XP h];obtain⟨i1,i2,i3,i4,i5⟩:=ih (u/10) (by omega);have hu:=ofN (d:=u%10) (by omega);obtain⟨c,r,e⟩:∃c r,Lib.decDigits (u/10)=c::r:=by
   cases hq:Lib.decDigits (u/10)with
   | nil=>exact absurd hq i3
   | cons c r=>exact⟨c,r,rfl⟩
  have h5:=i5 (by omega);refine⟨?_, ?_,by simp,fun _=> ?_,fun _=> ?_⟩
  ·rw[List.all_append,i1];simp only[lAc,List.all_nil,Bool.and_true,Bool.true_and];rw[Jd,hu];omega
  ·unfold qf at i2|-;rw[Xv,i2,JQ,wo,hu];omega
  ·rw[e]at h5|-;exact h5
  ·rw[e]at h5|-;exact h5
theorem qTR:∀(n:Nat){s:Str},s.length=n->s≠[]->s.all zO=true->(1<s.length->s.headD 0≠48)->Lib.decDigits (qf s)=s:=by
 intro n
 induction n using Nat.strongRecOn with
 | _ n ih=>
 intro s hl hn hd h0;obtain⟨l,c,rfl⟩:∃l c,s=l++[c]:=⟨s.dropLast,s.getLast hn,(List.dropLast_concat_getLast hn).symm⟩;rw[List.all_append,bAt]at hd;have hc:=Jd.1 (by simpa using hd.2);have e:qf (l++[c])=10*qf l+(c.toNat-48):=by unfold qf;rw[Xv,JQ,wo]
 have ec:UInt8.ofNat (48+(c.toNat-48))=c:=by
  apply UInt8.toNat_inj.1;rw[ofN (by omega)];omega
 rw[e];cases l with
 | nil=>
  simp only[qf,wo,lNa];rw[WM (by omega),show 48+(10*0+(c.toNat-48))=48+(c.toNat-48) by omega,ec]
 | cons x r=>
  have hx:=h0 (by simp);simp only[lCa,List.headD_cons]at hx;have hxd:=Jd.1 (by have:=hd.1;simp only[lAc,bAt]at this;exact this.1);have hpos:1<=qf (x::r):=by
   unfold qf;rw[JQ];refine nLt ?_ (qVN (s:=r));have:x.toNat≠48:=fun q=>hx (UInt8.toNat_inj.1 q);omega
  have hi:=ih (x::r).length (by rw[<-hl];simp) rfl (by simp) hd.1 (fun _=>by simpa using hx);rw[XP (by omega),show (10*qf (x::r)+(c.toNat-48))/10=qf (x::r) by omega,hi,show (10*qf (x::r)+(c.toNat-48))%10=c.toNat-48 by omega,ec]
theorem qZ4{u:Nat}(h:u<=2147483648):(Lib.decDigits u).length<=10:=by
 rcases Nat.lt_or_ge 10 (Lib.decDigits u).length with q | q
 ·exfalso;obtain⟨h1,h2,h3,h4,_⟩:=qTQ u;obtain⟨c,r,e⟩:∃c r,Lib.decDigits u=c::r:=by
   cases hq:Lib.decDigits u with
   | nil=>exact absurd hq h3
   | cons c r=>exact⟨c,r,rfl⟩
  have h5:=h4 (by omega);rw[e]at h1 h2 h5 q;simp only[List.headD_cons]at h5;have hd:=h1;simp only[lAc,bAt]at hd;have hxd:=Jd.1 hd.1;have:c.toNat≠48:=fun q=>h5 (UInt8.toNat_inj.1 q);have low:∀(s:Str)(a:Nat),a*10^s.length<=ji a s:=fun s=>by
   induction s with
   | nil=>intro a;simp[wo]
   | cons y s ihs=>
    intro a;rw[JQ];refine nLt ?_ (ihs _);rw[lCo,Nat.pow_succ,Nat.mul_comm (10^s.length) 10,<-Nat.mul_assoc];exact Nat.mul_le_mul_right _ (by omega)
  have hb:=low r (10*0+(c.toNat-48));have hb2:10^10<=10^r.length:=Nat.pow_le_pow_right (by decide) (by simp at q;omega);have hb3:1*10^r.length<=(10*0+(c.toNat-48))*10^r.length:=Nat.mul_le_mul_right _ (by omega);have e2:qf (c::r)=ji (10*0+(c.toNat-48)) r:=by unfold qf;rw[JQ]
  rw[e2]at h2;have:(10:Nat)^10=10000000000:=by decide
  omega
 ·exact q
theorem qdE{s:Str}(hn:s≠[]):zt s=(decide (s=wy) || J1 s):=by
 rw[Bool.eq_iff_iff];constructor
 ·intro h;simp only[zt,bAt,dTe,bNt,Bool.and_eq_false_iff,decide_eq_false_iff_not]at h;obtain⟨h1,h2,h3,h4⟩:=h;have hu:=qTR _ rfl hn h3 (fun q=>by rcases h2 with h2 | h2;exact absurd q h2;exact h2);by_cases e:qf s=2147483648
  ·rw[e]at hu;have:Lib.decDigits 2147483648=wy:=by
    repeat rw[XP (by decide)]
    rw[WM (by decide)];rfl
   rw[this]at hu;simp[<-hu]
  ·have hp:=qV9 hn h3 (by omega);have hi:Lib.itoa (qf s:Int)=s:=by
    unfold Lib.itoa;rw[if_neg (by omega),Int.toNat_natCast];exact hu
   have hr:wB s=some (qf s:Int):=by
    unfold wB;rw[hp];simp only;rw[if_pos ⟨⟨by omega,by omega⟩,hi⟩]
   simp[J1,hr]
 ·intro h;have key:∀u:Nat,u<=2147483648->zt (Lib.decDigits u)=true:=fun u hu=>by
   obtain⟨d1,d2,d3,d4,_⟩:=qTQ u;have d5:=qZ4 hu;simp only[zt,bAt,dTe,bNt,Bool.and_eq_false_iff,decide_eq_false_iff_not];refine⟨d5, ?_,d1,by omega⟩;by_cases q:1<(Lib.decDigits u).length
   ·exact .inr (d4 q)
   ·exact .inl q
  rw[Bool.or_eq_true]at h;rcases h with h | h
  ·have e:=odT h;subst e;decide
  ·unfold J1 at h;split at h
   ·rename_i n hr;have h0:=odT h;unfold wB at hr;split at hr
    ·split at hr
     ·rename_i hq;cases hr;obtain⟨⟨q1,q2⟩,q3⟩:=hq;unfold Lib.itoa at q3;rw[if_neg (by omega)]at q3;rw[<-q3];exact key _ (by omega)
     ·cases hr
    ·cases hr
   ·cases h
end Go.Ab
namespace Go.Ab
open Go
set_option maxRecDepth 10000
set_option maxHeartbeats 2000000
theorem qUE:∀{l:Str}{c:UInt8},decide (0<=Lib.indexByte l c)=l.any fun x=>x==c
 |[],c=>by simp[Lib.indexByte]
 | b::l,c=>by
  have ih:=qUE (l:=l) (c:=c);have hg:=Lib.indexByte_ge l c;unfold Lib.indexByte;rw[List.any_cons,<-ih];by_cases h:(b==c)=true
  ·rw[if_pos h,h];simp
  ·rw[if_neg h];have h':(b==c)=false:=by simpa using h
   rw[h',Bool.false_or];split
   ·rename_i q;have q':Lib.indexByte l c= -1:=by simpa using q
    simp[q']
   ·rename_i q;have q':Lib.indexByte l c≠-1:=by simpa using q
    rw[decide_eq_decide];omega
theorem qdF{s:Str}(h:zt s=true):s.all zO=true:=by
 simp only[zt,bAt]at h;exact h.2.2.1
theorem qUM{s:Str}(h:zw s=true):zt s=false:=by
 cases s with
 | nil=>cases h
 | cons c r=>
  rw[<-Bool.not_eq_true];intro q;have:=qdF q;simp only[lAc,bAt]at this;simp only[zw,bAt,bNt]at h;rw[h.2.1]at this;cases this.1
theorem qbT{s:Str}(h:zi s=true):zg s=false/\za s=false/\zt s=false:=by
 have hn:zw s=false:=by
  cases s with
  | nil=>rfl
  | cons c r=>simp only[zw,h,Bool.not_true,Bool.false_and,Bool.and_false]
 refine⟨by simp[zg,hn],by simp[za,hn], ?_⟩;have:s∈kws:=by simpa[zi]using h
 simp only[kws,List.mem_cons,List.not_mem_nil,or_false]at this;rcases this with rfl | rfl | rfl | rfl | rfl | rfl | rfl | rfl<;>decide
theorem qbV{s:Str}(h:zg s=true):za s=false/\zt s=false:=by
 simp only[zg,bAt]at h;refine⟨?_,qUM h.1⟩;simp only[za,Bool.and_eq_false_iff];right;have:=h.2;simp[jD]at this;simp[jG];omega
theorem qbZ{s:Str}(h:za s=true):zt s=false:=by
 simp only[za,bAt]at h;exact qUM h.1
def wR(t:Str)(i:Nat):qN:=if (zM t i).1=0 then(if 0<(qk t i).length then⟨0,qk t i,i⟩else⟨0,[],0⟩)else jQ t i
theorem XJ{s:Str}(hs:s≠[])(hl:s.length<=20000):Pure Gm 1497 [.str s] (.bool (zt s)):=by
 refine pJ Vg ?_;simp only[Vg,qM,go_sem];obtain⟨c,r,hv⟩:∃c r,s=c::r:=by cases s with
  | nil=>exact absurd rfl hs
  | cons c r=>exact⟨c,r,rfl⟩
 have eh:s[0]?=some c:=by rw[hv];rfl
 have ehd:s.headD 0=c:=by rw[hv];rfl
 have h1:1<=s.length:=by rw[hv];simp
 by_cases h10:s.length<=10
 case neg=>
  have e0:decide ((10:Int)<(s.length:Nat))=true:=decide_eq_true (by omega);simp only[e0,go_sem];exact qH rfl (by simp[zt,h10])
 have e0:decide ((10:Int)<(s.length:Nat))=false:=decide_eq_false (by omega);simp only[e0,go_sem];have hz:(!(decide (1<s.length)&&decide (s.headD 0=48)))=true\/(1<s.length/\c=48):=by
  rw[ehd];by_cases q1:1<s.length
  ·by_cases q2:c=48
   ·exact .inr ⟨q1,q2⟩
   ·left;simp[q2]
  ·left;simp[q1]
 have fin0:(1<s.length/\c=48)->zt s=false:=fun q=>by
  rw[zt,ehd,decide_eq_true q.1,decide_eq_true q.2];simp
 by_cases q1:1<s.length
 case' pos=>
  have e1:decide ((1:Int)<(s.length:Nat))=true:=decide_eq_true (by omega);simp only[e1,eh,oMs,go_sem];by_cases q2:c=48
  case pos=>
   have e2:decide (((c.toNat:Nat):Int)=48)=true:=by subst q2;rfl
   simp only[e2,go_sem];exact qH rfl (by rw[fin0 ⟨q1,q2⟩])
  case' neg=>
   have e2:decide (((c.toNat:Nat):Int)=48)=false:=decide_eq_false fun q=>q2 (UInt8.toNat_inj.1 (by have:(48:UInt8).toNat=48:=rfl;omega));simp only[e2,go_sem]
 case' neg=>
  have e1:decide ((1:Int)<(s.length:Nat))=false:=decide_eq_false (by omega);simp only[e1,go_sem]
 all_goals
  have hz':(!(decide (1<s.length)&&decide (s.headD 0=48)))=true:=by
   rcases hz with q | q
   ·exact q
   ·first | exact absurd q.1 q1 | exact absurd q.2 q2
  have hn:zt s=(s.all zO&&decide (qf s<=2147483648)):=by rw[zt,decide_eq_true h10,hz',Bool.true_and,Bool.true_and]
  refine Sem.loop (fun i:Nat=>i<=s.length/\(s.take i).all zO=true) (fun i=>(⟨[(0,.str s),(3,.int .i64 (qf (s.take i):Nat)),(4,.int .i64 (i:Nat))],[],[]⟩:VSt)) (fun i=>s.length-i) 0 (by kernel_rfl) ⟨nZl _,by simp⟩ (Can.sub (by simp[go_sem,qf,wo]) (by simp[go_sem])) ?_;rintro i ⟨hi,hI⟩;simp only[go_sem];by_cases hlt:i<s.length
  ·have e1:decide ((i:Int)<(s.length:Nat))=true:=decide_eq_true (by omega);simp only[e1,gEg hlt,oMs,go_sem];refine qK WG ?_;simp only[go_sem];have et:s.take (i+1)=s.take i++[s[i]]:=by rw[List.take_add_one,gEg hlt];rfl
   cases hd:zO s[i]
   ·simp only[Bool.not_false,go_sem];refine qH rfl ?_;have:s.all zO=false:=by
     rw[<-Bool.not_eq_true];intro q;rw[lAt]at q;rw[q _ (gMm hlt)]at hd;cases hd
    rw[hn,this,Bool.false_and]
   ·simp only[Bool.not_true,gEg hlt,oMs,go_sem];have hb:=Jd.1 hd;have hv:=qVQ hI;have hp:10^(s.take i).length<=10^10:=Nat.pow_le_pow_right (by decide) (by simp;omega);have h10':(10:Nat)^10=10000000000:=by decide
    have w1:IntKind.u8.wrap (((s[i].toNat:Nat):Int)-48)=((s[i].toNat-48:Nat):Int):=by rw[IntWalk.u8_in _ ⟨by omega,by omega⟩];omega
    simp only[w1,qg (n:=((s[i].toNat-48:Nat):Int)) (by omega) (by omega),qg (n:=10*((qf (s.take i):Nat):Int)) (by omega) (by omega),qg (n:=10*((qf (s.take i):Nat):Int)+((s[i].toNat-48:Nat):Int)) (by omega) (by omega),qz (show i<4611686018427387904 by omega)];have en:qf (s.take (i+1))=10*qf (s.take i)+(s[i].toNat-48):=by rw[et];unfold qf;rw[Xv,JQ,wo]
    have ee:10*((qf (s.take i):Nat):Int)+((s[i].toNat-48:Nat):Int)=((qf (s.take (i+1)):Nat):Int):=by rw[en];omega
    rw[ee];refine qa (i+1) ⟨by omega,by rw[et,List.all_append,hI];simp[hd]⟩ (by omega) ?_;exact Can.sub (by simp[go_sem]) (by simp[go_sem])
  ·have e1:decide ((i:Int)<(s.length:Nat))=false:=decide_eq_false (by omega);obtain rfl:i=s.length:=by omega
   simp only[e1,go_sem];rw[lTl]at hI|-;refine qH rfl ?_;rw[hn,hI,Bool.true_and];congr 1;rw[decide_eq_decide];omega
theorem qZC{b:UInt8}:Pure Gm 1498 [.int .u8 (b.toNat:Nat)] (.bool (decide (0<=Lib.indexByte zu b))):=by
 refine pJ Vh ?_;simp only[Vh,qM,go_sem];have hk:decide (0<=Lib.indexByte zu b)=zu.any fun x=>x==b:=qUE;have h8:zu.length=19:=rfl;have es:([43,45,42,47,60,61,40,41,91,93,123,125,44,59,58,46,124,33,92]:Str)=zu:=rfl;rw[es];refine Sem.loop (fun i:Nat=>i<=zu.length/\(zu.any fun x=>x==b)=((zu.drop i).any fun x=>x==b)) (fun i=>(⟨[(0,.int .u8 (b.toNat:Nat)),(3,.str zu),(4,.int .i64 (i:Nat))],[],[]⟩:VSt)) (fun i=>zu.length-i) 0 (by kernel_rfl) ⟨nZl _,rfl⟩ (Can.sub (by simp[go_sem]) (by simp[go_sem])) ?_;rintro i ⟨hi,hI⟩;simp only[go_sem];by_cases hlt:i<zu.length
 ·have e1:decide ((i:Int)<(zu.length:Nat))=true:=decide_eq_true (by omega);simp only[e1,gEg hlt,oMs,go_sem];have hd:zu.drop i=zu[i]::zu.drop (i+1):=by simp
  rw[hd,List.any_cons]at hI;by_cases he:zu[i]=b
  ·have e2:decide (((zu[i].toNat:Nat):Int)=(b.toNat:Nat))=true:=decide_eq_true (by rw[he]);simp only[e2,go_sem];refine qH rfl ?_;rw[hk,hI,he];simp
  ·have e2:decide (((zu[i].toNat:Nat):Int)=(b.toNat:Nat))=false:=decide_eq_false fun q=>he (UInt8.toNat_inj.1 (by omega));simp only[e2,go_sem];simp only[qz (show i<4611686018427387904 by omega)];refine qa (i+1) ⟨by omega, ?_⟩ (by omega) (Can.sub (by simp[go_sem]) (by simp[go_sem]));rw[hI,show (zu[i]==b)=false from by simpa using he,Bool.false_or]
 ·have e1:decide ((i:Int)<(zu.length:Nat))=false:=decide_eq_false (by omega);obtain rfl:i=zu.length:=by omega
  simp only[e1,go_sem];refine qH rfl ?_;rw[hk,hI];simp
end Go.Ab
namespace Go.Ab
open Go
set_option maxRecDepth 10000
set_option maxHeartbeats 2000000
theorem qfY{t:Str}{i:Nat}(hi:i<t.length):zI t[i]=decide (0<(qk t i).length):=by
 have:=qAX (t:=t) (i:=i) (k:=0) (nZl _);rw[nAz]at this;rw[Bool.eq_iff_iff,dTe,<-this];constructor
 ·intro q;exact⟨_,gEg hi,q⟩
 ·rintro⟨c,e1,e2⟩;rw[gEg hi]at e1;cases e1;exact e2
theorem YM{t:Str}{i:Nat}(h:0<(qk t i).length):zM t i=if zi (qk t i)then(3,i+(qk t i).length)else if zg (qk t i)then(1,i+(qk t i).length)else if za (qk t i)then(2,i+(qk t i).length)else if zt (qk t i)then(4,i+(qk t i).length)else(0,i):=by
 rw[qdE (fun q=>by rw[q]at h;simp at h)];unfold zM;rw[if_pos h]
theorem qAR{t:Str}{i:Nat}(h:0<(qk t i).length):wR t i=⟨(zM t i).1,qk t i,i⟩:=by
 unfold wR jQ;rw[if_pos h];have e:=YM h;split
 ·rename_i q;rw[q]
 ·rename_i q;have:(zM t i).2=i+(qk t i).length:=by
   rw[e]at q|-
   repeat' split
   all_goals first | rfl | (simp_all;done)
  rw[this,Nat.add_sub_cancel_left,qAY]
theorem qfI{t:Str}{i:Nat}(hi:i<t.length)(h:¬0<(qk t i).length):zM t i=if pfx [45,62] (t.drop i)then(5,i+2)else if 0<=Lib.indexByte zu t[i]then(5,i+1)else(0,i):=by
 have eg:t.getD i 0=t[i]:=by simp[List.getD,gEg hi]
 unfold zM;rw[if_neg h,eg];simp
theorem qdU{t:Str}{i:Nat}(hi:i<t.length):pfx [45,62] (t.drop i)=(decide (t[i]=45)&&(match t[i+1]? with | some c=>decide (c=62) | none=>false)):=by
 have e:t.drop i=t[i]::t.drop (i+1):=by simp
 unfold pfx;rw[e];by_cases h1:i+1<t.length
 ·have e1:t.drop (i+1)=t[i+1]::t.drop (i+2):=by simp
  rw[e1,gEg h1];generalize t.drop (i+2)=r;simp
 ·have e1:t.drop (i+1)=[]:=List.drop_eq_nil_of_le (by omega);rw[e1,gEn (by omega)];simp
theorem qY4{t:Str}{i:Nat}(hi:i<t.length)(hl:t.length<=20000):Pure Gm 1394 [.str t,.int .i64 (i:Nat)] ((wR t i).enc):=by
 refine pI VS (by simp[AV.trees,AV.tree,go_sem]) (by simp[go_sem]) ?_;simp only[VS,qM,go_sem];have wl:=YW (t:=t) (i:=i) (by omega);have wp:=qfY hi;simp only[gEg hi,oMs,go_sem];refine qK XI ?_;simp only[go_sem];have hw:zI t[i]=((jD t[i] || jG t[i]) || zO t[i]):=by simp[zI,Bool.or_assoc]
 by_cases hp:0<(qk t i).length
 ·rw[decide_eq_true hp]at wp;rw[wp]at hw;have er:=qAR hp;have ee:=YM hp;have hne:qk t i≠[]:=fun q=>by rw[q]at hp;simp at hp
  cases hq:(jD t[i] || jG t[i])
  case' false=>
   rw[hq,Bool.false_or]at hw;simp only[go_sem];refine qK WG ?_;simp only[go_sem];simp only[<-hw,go_sem]
  case' true=>
   simp only[go_sem]
  all_goals
   refine qK (qZB (by omega) hl) ?_;simp only[go_sem];refine ZB (Wq rfl rfl rfl (by omega) (by omega)) ?_;rw[Nat.add_sub_cancel_left,qAY];simp only[go_sem];refine qO rfl rfl ⟨_,rfl⟩ (by decide) ?_;simp only[go_sem];refine qK qS6 ?_;simp only[go_sem];cases k1:zi (qk t i)
   case' true=>
    obtain⟨f1,f2,f3⟩:=qbT k1;simp only[go_sem];refine qK (Qm (by omega)) ?_;simp only[f1,go_sem];refine qK (Jq (by omega)) ?_;simp only[f2,go_sem];refine qK (XJ hne (by omega)) ?_;simp only[f3,go_sem];refine qO rfl rfl ⟨_,rfl⟩ (by decide) ?_;simp only[go_sem];exact qH rfl (by rw[er,ee,k1];rfl)
   case' false=>
    simp only[go_sem];refine qK (Qm (by omega)) ?_;simp only[go_sem];cases k2:zg (qk t i)
    case' true=>
     obtain⟨f2,f3⟩:=qbV k2;simp only[go_sem];refine qK (Jq (by omega)) ?_;simp only[f2,go_sem];refine qK (XJ hne (by omega)) ?_;simp only[f3,go_sem];refine qO rfl rfl ⟨_,rfl⟩ (by decide) ?_;simp only[go_sem];exact qH rfl (by rw[er,ee,k1,k2];rfl)
    case' false=>
     simp only[go_sem];refine qK (Jq (by omega)) ?_;simp only[go_sem];cases k3:za (qk t i)
     case' true=>
      have f3:=qbZ k3;simp only[go_sem];refine qK (XJ hne (by omega)) ?_;simp only[f3,go_sem];refine qO rfl rfl ⟨_,rfl⟩ (by decide) ?_;simp only[go_sem];exact qH rfl (by rw[er,ee,k1,k2,k3];rfl)
     case' false=>
      simp only[go_sem];refine qK (XJ hne (by omega)) ?_;simp only[go_sem];cases k4:zt (qk t i)
      case' true=>
       simp only[go_sem];refine qO rfl rfl ⟨_,rfl⟩ (by decide) ?_;simp only[go_sem];exact qH rfl (by rw[er,ee,k1,k2,k3,k4];rfl)
      case' false=>
       simp only[go_sem];refine qO rfl rfl ⟨_,rfl⟩ (by decide) ?_;simp only[go_sem];exact qH rfl (by rw[er,ee,k1,k2,k3,k4];rfl)
 ·rw[decide_eq_false hp]at wp;rw[wp]at hw;have hw1:(jD t[i] || jG t[i])=false/\zO t[i]=false:=by rw[<-Bool.or_eq_false_iff];exact hw.symm
  simp only[hw1.1,go_sem];refine qK WG ?_;simp only[go_sem];simp only[hw1.2,go_sem];have ee:=qfI hi hp;have p2:=qdU hi;have e3:((i:Nat):Int)+1=((i+1:Nat):Int):=by omega
  have hcc:(t[i]=45/\∃h:i+1<t.length,t[i+1]=62)\/(t[i]=45/\∃h:i+1<t.length,¬t[i+1]=62)\/(t[i]=45/\¬i+1<t.length)\/¬t[i]=45:=by
   by_cases q1:t[i]=45
   ·by_cases q2:i+1<t.length
    ·by_cases q3:t[i+1]=62
     ·exact .inl ⟨q1,q2,q3⟩
     ·exact .inr (.inl ⟨q1,q2,q3⟩)
    ·exact .inr (.inr (.inl ⟨q1,q2⟩))
   ·exact .inr (.inr (.inr q1))
  have n45:t[i]=45->decide (((t[i].toNat:Nat):Int)=45)=true:=fun q=>by rw[q];rfl
  rcases hcc with⟨q1,q2,q3⟩ | ⟨q1,q2,q3⟩ | ⟨q1,q2⟩ | q1
  case inl=>
   have e2:decide ((i:Int)+1<(t.length:Nat))=true:=decide_eq_true (by omega);simp only[n45 q1,go_sem,qg (n:=(i:Int)+1) (by omega) (by omega)];simp only[e2,go_sem,qg (n:=(i:Int)+1) (by omega) (by omega)];simp only[e3,gEg q2,oMs,go_sem];have e4:decide (((t[i+1].toNat:Nat):Int)=62)=true:=by rw[q3];rfl
   simp only[e4,go_sem];refine qO rfl rfl ⟨_,rfl⟩ (by decide) ?_;simp only[go_sem];have hpf:pfx [45,62] (t.drop i)=true:=by rw[p2,gEg q2];simp[q1,q3]
   rw[hpf,if_pos rfl]at ee;have et:(t.drop i).take 2=[45,62]:=by
    unfold pfx at hpf;simp only[bAt,dTe]at hpf;exact hpf.2
   refine qH rfl ?_;unfold wR jQ;rw[ee,if_neg (by simp)];simp only[Nat.add_sub_cancel_left,et];rfl
  case' inr.inl=>
   have e2:decide ((i:Int)+1<(t.length:Nat))=true:=decide_eq_true (by omega);simp only[n45 q1,go_sem,qg (n:=(i:Int)+1) (by omega) (by omega)];simp only[e2,go_sem,qg (n:=(i:Int)+1) (by omega) (by omega)];simp only[e3,gEg q2,oMs,go_sem];have e4:decide (((t[i+1].toNat:Nat):Int)=62)=false:=decide_eq_false fun q=>q3 (UInt8.toNat_inj.1 (by have:(62:UInt8).toNat=62:=rfl;omega));simp only[e4,go_sem];have hpf:pfx [45,62] (t.drop i)=false:=by rw[p2,gEg q2];simp[q3]
  case' inr.inr.inl=>
   have e2:decide ((i:Int)+1<(t.length:Nat))=false:=decide_eq_false (by omega);simp only[n45 q1,go_sem,qg (n:=(i:Int)+1) (by omega) (by omega)];simp only[e2,go_sem];have hpf:pfx [45,62] (t.drop i)=false:=by rw[p2,gEn (by omega)];simp
  case' inr.inr.inr=>
   have e1:decide (((t[i].toNat:Nat):Int)=45)=false:=decide_eq_false fun q=>q1 (UInt8.toNat_inj.1 (by have:(45:UInt8).toNat=45:=rfl;omega));simp only[e1,go_sem];have hpf:pfx [45,62] (t.drop i)=false:=by rw[p2];simp[q1]
  all_goals
   rw[hpf,if_neg (by decide)]at ee;refine qK qZC ?_;simp only[go_sem];by_cases q5:0<=Lib.indexByte zu t[i]
   ·rw[if_pos q5]at ee;simp only[decide_eq_true q5,go_sem,qg (n:=(i:Int)+1) (by omega) (by omega)];refine ZB (Wq (e:=i+1) rfl rfl (by simp only[go_sem];rfl) (by omega) (by omega)) ?_;simp only[go_sem];refine qO rfl rfl ⟨_,rfl⟩ (by decide) ?_;simp only[go_sem];refine qH rfl ?_;unfold wR jQ;rw[ee,if_neg (by simp)];rfl
   ·rw[if_neg q5]at ee;simp only[decide_eq_false q5,go_sem];refine qO rfl rfl ⟨_,rfl⟩ (by decide) ?_;simp only[go_sem];refine qH rfl ?_;unfold wR;rw[ee,if_pos rfl,if_neg hp];rfl
theorem qfM{t:Str}{i:Nat}:(wR t i).Kind=(zM t i).1:=by
 unfold wR;split
 ·rename_i h;split<;>exact h.symm
 ·rfl
def Wu(t:Str):List qN×Int×Bool:=match Jn t with
 |.error i=>([],i,false)
 |.ok l=>(l,0,true)
theorem qYT{t:Str}(hl:t.length<=20000):Pure Gm 1107 [.str t] (.tup [.lst 3 ((Wu t).1.map qN.enc) false,.int .i64 (Wu t).2.1,.bool (Wu t).2.2]):=by
 refine pI Yz (by simp[AV.trees,AV.tree,go_sem]) (by simp[AV.tree,AV.trees,zH qN.isSh.tree]) ?_;simp only[Yz,qM,go_sem];have er:Wu t=match Jn t with
  |.error i=>([],i,false)
  |.ok l=>(l,0,true):=rfl
 refine Sem.loop (fun a:Nat×List qN=>a.1<=t.length/\a.2.length<=a.1/\Jn t=Qf t a.1 a.2) (fun a=>(⟨[(0,.str t),(5,.slice 3 0 0 a.2.length false),(6,.int .i64 (a.1:Nat))],[],[.row 3 (a.2.map qN.enc) true]⟩:VSt)) (fun a=>t.length-a.1) (0,[]) (by kernel_rfl) ⟨nZl _,nZl _,rfl⟩ (Can.renum [none] rfl ⟨.ph,trivial⟩ ⟨⟨_,rfl,.tree rfl⟩,⟨_,rfl,.ph2 rfl⟩,⟨_,rfl,.tree rfl⟩,trivial⟩ trivial) ?_;rintro⟨i,acc⟩ ⟨hi,ha,hI⟩;simp only at hi ha hI;simp only[go_sem];by_cases hlt:i<t.length
 case neg=>
  have e:decide ((i:Int)<t.length)=false:=decide_eq_false (by omega);simp only[e,go_sem];rw[hI,qXI hlt]at er;rw[er];refine JL (Cvs.tup (Cvs.cons (Cv.row rfl (by simp) (zH qN.isSh.tree _) (by decide)) (Cvs.cons (.refl rfl) (Cvs.cons (.refl rfl) Cvs.nil))))
 have e:decide ((i:Int)<t.length)=true:=decide_eq_true (by omega);simp only[e,gEg hlt,oMs,go_sem];refine qK qY3 ?_;simp only[go_sem];rw[qXJ hlt]at hI;have eg:t.getD i 0=t[i]:=by simp[List.getD,gEg hlt]
 rw[eg]at hI;by_cases hb:0<=Lib.indexByte ZV t[i].toNat.toUInt8
 ·simp only[decide_eq_true hb,go_sem];simp only[qz (show i<4611686018427387904 by omega)];rw[if_pos hb]at hI;exact qa (i+1,acc) ⟨by simp only;omega,by simp only;omega,hI⟩ (by simp only;omega) (Can.sub (by simp[go_sem]) (by simp[go_sem]))
 simp only[decide_eq_false hb,go_sem];rw[if_neg hb]at hI;refine qK (qY4 hlt (by omega)) ?_;simp only[go_sem];refine qO rfl rfl ⟨_,rfl⟩ (by decide) ?_;simp only[go_sem];obtain⟨t1,t2,t3⟩:=Wt hlt;have tk:=qfM (t:=t) (i:=i);by_cases hk:(zM t i).1=0
 ·rw[hk]at tk;simp only[decide_eq_true tk,go_sem];rw[if_pos hk]at hI;rw[hI]at er;rw[er];refine JL (Cvs.tup (Cvs.cons .nils (Cvs.cons (.refl rfl) (Cvs.cons (.refl rfl) Cvs.nil))))
 have t4:=t3 hk;rw[if_neg hk]at hI;have hk':¬(wR t i).Kind=0:=by rw[tk];exact hk
 simp only[decide_eq_false hk',go_sem];have ets:wR t i=jQ t i:=by unfold wR;rw[if_neg hk]
 rw[ets];refine zP (v:=(jQ t i).enc) rfl rfl ?_;simp only[go_sem];refine XC (el:=acc.map qN.enc) rfl rfl (by simp) (by omega) ?_;simp only[go_sem];have elen:(jQ t i).Text.length=(zM t i).2-i:=by simp only[jQ,lLt,List.length_drop];omega
 simp only[elen,qg (n:=(i:Int)+(((zM t i).2-i:Nat):Int)) (by omega) (by omega)];have ee:(i:Int)+(((zM t i).2-i:Nat):Int)=(((zM t i).2:Nat):Int):=by omega
 rw[ee];refine qa ((zM t i).2,acc++[jQ t i]) ⟨by simp only;omega,by simp only[lAp,lCo,lNi];omega,hI⟩ (by simp only;omega) ?_;simp only[lAp,lCo,lNi,nZa];refine Can.renum [some 2] rfl ⟨.row rfl ?_,trivial⟩ ⟨⟨_,rfl,.tree rfl⟩,⟨_,rfl,.slice rfl⟩,⟨_,rfl,.tree rfl⟩,trivial⟩ trivial;rw[lMa];have tt:=zH qN.isSh.tree (acc++[jQ t i]);rw[lMa]at tt;exact VR2s.trees tt
theorem c735{t:Str}:Pure Gm 735 [.str t] (.tup [.lst 3 ((qw t).1.map qN.enc) false,.int .i64 (qw t).2.1,.int .i64 (qw t).2.2]):=by
 refine pI Um (by simp[AV.trees,AV.tree,go_sem]) (by simp[AV.tree,AV.trees,zH qN.isSh.tree]) ?_;simp only[Um,qM,go_sem];by_cases hl:20000<t.length
 ·have e:decide ((20000:Int)<t.length)=true:=decide_eq_true (by omega);simp only[e,go_sem];have er:qw t=([],0,2):=by rw[qw,if_pos hl]
  rw[er];exact JL (Cvs.tup (Cvs.cons .nils (Cvs.cons (.refl rfl) (Cvs.cons (.refl rfl) Cvs.nil))))
 have e:decide ((20000:Int)<t.length)=false:=decide_eq_false (by omega);simp only[e,go_sem];refine qK (qYT (by omega)) ?_;simp only[go_sem];have er:qw t=match Jn t with
  |.error i=>([],i,6)
  |.ok l=>(l,0,0):=by unfold qw;rw[if_neg hl]<;>(cases Jn t<;>rfl)
 have eq:Wu t=match Jn t with
  |.error i=>([],i,false)
  |.ok l=>(l,0,true):=rfl
 cases ho:Jn t with
 | error i=>
  rw[ho]at er eq;simp only[eq,Bool.not_false,go_sem];rw[er];exact JL (Cvs.tup (Cvs.cons .nils (Cvs.cons (.refl rfl) (Cvs.cons (.refl rfl) Cvs.nil))))
 | ok l=>
  rw[ho]at er eq;simp only[eq,Bool.not_true,go_sem];rw[er];exact zX (by simp[AV.tree,AV.trees,zH qN.isSh.tree]) rfl
end Go.Ab
