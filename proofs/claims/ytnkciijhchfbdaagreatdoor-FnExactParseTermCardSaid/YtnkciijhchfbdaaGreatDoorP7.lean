/- Texts Par0 .. Par16: the abstract machine, its laws and contracts of functions: lemmas for the statement. No condition. -/
import Derived.Lib.Bytealg
import Derived.Lib.ItoaNum
import Derived.Lib.ParseIntB
import Derived.Test.YtnkciijhchfbdaaGreatDoorP5
set_option linter.unusedSimpArgs false
set_option linter.unusedVariables false
namespace Go.Ab
open Go
inductive qB where
 | mk (Kind:Int) (Name:List UInt8) (Kids:List qB)
def qB.Kind:qB->Int |.mk a _ _=>a
def qB.Name:qB->List UInt8 |.mk _ a _=>a
def qB.Kids:qB->List qB |.mk _ _ a=>a
theorem qB.ext{x y:qB}(h1:x.Kind=y.Kind)(h2:x.Name=y.Name)(h4:x.Kids=y.Kids):x=y:=by
 cases x;cases y;simp_all[qB.Kind,qB.Name,qB.Kids]
theorem qB.lt_of_mem{x:qB}{y:qB}(h:y∈x.Kids):SizeOf.sizeOf y<SizeOf.sizeOf x:=by
 cases x with
 | mk a b c=>
  have:=List.sizeOf_lt_of_mem (show y∈c from h);simp only[qB.mk.sizeOf_spec];omega
theorem qB.ind{P:qB->Prop}(h:∀x,(∀y,y∈x.Kids->P y)->P x)(x:qB):P x:=
 h x fun y hy=>qB.ind h y
termination_by SizeOf.sizeOf x
decreasing_by exact qB.lt_of_mem hy
mutual
def qB.enc:qB->AV
 |.mk k v ks=>.agg [.int .i64 k,.str v,.lst 3 (qB.encs ks) false]
def qB.encs:List qB->List AV
 |[]=>[]
 | x::xs=>x.enc::qB.encs xs
end
theorem qB.encs_eq:∀xs,qB.encs xs=xs.map qB.enc
 |[]=>by simp[qB.encs]
 | x::xs=>by simp[qB.encs,qB.encs_eq xs]
theorem qB.enc_eq(x:qB):x.enc=.agg [.int .i64 x.Kind,.str x.Name,.lst 3 (x.Kids.map qB.enc) false]:=by
 cases x;simp[qB.enc,qB.encs_eq,qB.Kind,qB.Name,qB.Kids]
theorem qB.trx:∀x:qB,x.enc.tree=true:=qB.ind fun x ih=>by
 rw[qB.enc_eq];have h:∀xs:List qB,(∀y∈xs,y.enc.tree=true)->AV.trees (xs.map qB.enc)=true:=by
  intro xs
  induction xs with
  | nil=>intro _;rfl
  | cons a xs ihx=>intro h;simp only[lMc,AV.trees,bAt];exact⟨h a (by simp),ihx fun y hy=>h y (by simp[hy])⟩
 simp[AV.tree,AV.trees,h _ ih]
theorem qB.isSh:Sh qB.enc 3 (some 3):=⟨qB.trx,fun x=>by rw[qB.enc_eq];rfl,fun x=>by rw[qB.enc_eq];rfl,by decide,fun x=>by rw[qB.enc_eq];simp⟩
section
variable {x:qB}
@[go_sem] theorem qB.tr:x.enc.tree=true:=qB.trx x
@[go_sem] theorem qB.ln:x.enc.cells.length=3:=by rw[qB.enc_eq];rfl
@[go_sem] theorem qB.all:x.enc.part 0 (some 3)=some x.enc:=by rw[qB.enc_eq];rfl
@[go_sem] theorem qB.cs:x.enc.cells=[.int .i64 x.Kind,.str x.Name,.lst 3 (x.Kids.map qB.enc) false]:=by rw[qB.enc_eq];rfl
@[go_sem] theorem qB.p0:x.enc.part 0 none=some (.int .i64 x.Kind):=by rw[qB.enc_eq];rfl
@[go_sem] theorem qB.p1:x.enc.part 1 none=some (.str x.Name):=by rw[qB.enc_eq];rfl
@[go_sem] theorem qB.p2:x.enc.part 2 none=some (.lst 3 (x.Kids.map qB.enc) false):=by rw[qB.enc_eq];rfl
end
mutual
def qB.sz:qB->Nat
 |.mk _ d ks=>d.length+(ks.length+qB.szs ks)
def qB.szs:List qB->Nat
 |[]=>0
 | x::xs=>x.sz+qB.szs xs
end
mutual
def qB.bd:qB->Prop
 |.mk _ d ks=>d.length<=140737488355328/\ks.length<=140737488355328/\qB.bds ks
def qB.bds:List qB->Prop
 |[]=>True
 | x::xs=>x.bd/\qB.bds xs
end
theorem qB.bds_eq:∀xs,qB.bds xs↔∀y∈xs,qB.bd y
 |[]=>by simp[qB.bds]
 | x::xs=>by simp[qB.bds,qB.bds_eq xs]
theorem qB.bd_eq(x:qB):x.bd↔x.Name.length<=140737488355328/\x.Kids.length<=140737488355328/\∀y∈x.Kids,y.bd:=by
 cases x;simp[qB.bd,qB.bds_eq,qB.Name,qB.Kids]
abbrev TNE:Nat:=1000000
def UU:List AV->AV->Prop:=fun as v=>∃(s:List UInt8)(c:Int),as=[.str s,.int .u8 c]/\v=.int .i64 (Lib.indexByte s c.toNat.toUInt8)
def UV:List AV->AV->Prop:=fun as v=>∃n:Int,as=[.int .i64 n,.int .i64 10]/\-9223372036854775808<=n/\n<=9223372036854775807/\v=.str (Lib.itoa n)
def Qo(s:List UInt8):AV:=match Lib.parseIntB 64 s with
 |.ok n=>.tup [.int .i64 n,.nili]
 |.range=>.tup [.int .i64 (Lib.intSat 64 s),.iface TNE .any]
 | _=>.tup [.int .i64 0,.iface TNE .any]
def UT:List AV->AV->Prop:=fun as v=>∃s:List UInt8,as=[.str s,.int .i64 10,.int .i64 64]/\s.length<=140737488355328/\v=Qo s
end Go.Ab
namespace Go.Ab
open Go
set_option maxRecDepth 10000
def sr(l:List qC)(c:qG):qG:=.seq (.reg true l) c
@[go_sem] theorem qk6{l:List qC}{c:qG}:sr l c=.seq (.reg true l) c:=nr rfl
def oL(i d t:Nat):qC:=.mk i (some d) none (.load none (.t t)) []
@[go_sem] theorem qi5{i d t:Nat}:oL i d t=.mk i (some d) none (.load none (.t t)) []:=nr rfl
def oC(i d:Nat)(n:Int):qC:=.mk i (some d) none (.mov (.c (.int .i64 n))) []
@[go_sem] theorem qiW{i d:Nat}{n:Int}:oC i d n=.mk i (some d) none (.mov (.c (.int .i64 n))) []:=nr rfl
def oQ(i d:Nat)(b:Bool):qC:=.mk i (some d) none (.mov (.c (.bool b))) []
@[go_sem] theorem qjB{i d:Nat}{b:Bool}:oQ i d b=.mk i (some d) none (.mov (.c (.bool b))) []:=nr rfl
def oE(i d:Nat)(op:BinOp)(a:Nat)(n:Int):qC:=.mk i (some d) none (.bin op (.t a) (.c (.int .i64 n))) []
@[go_sem] theorem qiZ{i d:Nat}{op:BinOp}{a:Nat}{n:Int}:oE i d op a n=.mk i (some d) none (.bin op (.t a) (.c (.int .i64 n))) []:=nr rfl
def oB(i d:Nat)(op:BinOp)(a b:Nat):qC:=.mk i (some d) none (.bin op (.t a) (.t b)) []
@[go_sem] theorem qiV{i d:Nat}{op:BinOp}{a b:Nat}:oB i d op a b=.mk i (some d) none (.bin op (.t a) (.t b)) []:=nr rfl
def oA(i d w a b:Nat):qC:=.mk i (some d) none (.iaddr w (.t a) (.t b)) []
@[go_sem] theorem qiU{i d w a b:Nat}:oA i d w a b=.mk i (some d) none (.iaddr w (.t a) (.t b)) []:=nr rfl
def oX(i d t k:Nat):qC:=.mk i (some d) none (.lload t k none) []
@[go_sem] theorem qjH{i d t k:Nat}:oX i d t k=.mk i (some d) none (.lload t k none) []:=nr rfl
def oY(i d t k w:Nat):qC:=.mk i (some d) none (.lload t k (some w)) []
@[go_sem] theorem qjI{i d t k w:Nat}:oY i d t k w=.mk i (some d) none (.lload t k (some w)) []:=nr rfl
def oS(i t k w x:Nat):qC:=.mk i none none (.lstore t k w (.t x)) []
@[go_sem] theorem qjC{i t k w x:Nat}:oS i t k w x=.mk i none none (.lstore t k w (.t x)) []:=nr rfl
def oT(i w a b:Nat):qC:=.mk i none none (.store w (.t a) (.t b)) []
@[go_sem] theorem qjD{i w a b:Nat}:oT i w a b=.mk i none none (.store w (.t a) (.t b)) []:=nr rfl
def oF(i d k a:Nat):qC:=.mk i (some d) none (.faddr k (.t a)) []
@[go_sem] theorem qi0{i d k a:Nat}:oF i d k a=.mk i (some d) none (.faddr k (.t a)) []:=nr rfl
def oK(i d a:Nat):qC:=.mk i (some d) none (.nilchk (.t a)) []
@[go_sem] theorem qi4{i d a:Nat}:oK i d a=.mk i (some d) none (.nilchk (.t a)) []:=nr rfl
def oV(i d a k:Nat):qC:=.mk i (some d) none (.ext (.t a) k) []
@[go_sem] theorem qjF{i d a k:Nat}:oV i d a k=.mk i (some d) none (.ext (.t a) k) []:=nr rfl
def oU(i d a:Nat):qC:=.mk i (some d) none (.nop a) []
@[go_sem] theorem qjE{i d a:Nat}:oU i d a=.mk i (some d) none (.nop a) []:=nr rfl
def oJ(i d a:Nat):qC:=.mk i (some d) none (.not (.t a)) []
@[go_sem] theorem qi3{i d a:Nat}:oJ i d a=.mk i (some d) none (.not (.t a)) []:=nr rfl
def oW(i d a:Nat):qC:=.mk i (some d) none (.len (.t a)) []
@[go_sem] theorem qjG{i d a:Nat}:oW i d a=.mk i (some d) none (.len (.t a)) []:=nr rfl
def oH(i d k:Nat)(b:Bool)(a:Nat):qC:=.mk i (some d) (some (k,b)) (.mov (.t a)) []
@[go_sem] theorem qi2{i d k:Nat}{b:Bool}{a:Nat}:oH i d k b a=.mk i (some d) (some (k,b)) (.mov (.t a)) []:=nr rfl
def oD1(i d g a:Nat):qC:=.mk i (some d) none (.call g [.t a]) []
@[go_sem] theorem qiX{i d g a:Nat}:oD1 i d g a=.mk i (some d) none (.call g [.t a]) []:=nr rfl
def oD2(i d g a b:Nat):qC:=.mk i (some d) none (.call g [.t a,.t b]) []
@[go_sem] theorem qiY{i d g a b:Nat}:oD2 i d g a b=.mk i (some d) none (.call g [.t a,.t b]) []:=nr rfl
def oPf(i d a b:Nat):qC:=.mk i (some d) none (.pick (.t a) (.t b) (.c (.bool false))) []
@[go_sem] theorem qi9{i d a b:Nat}:oPf i d a b=.mk i (some d) none (.pick (.t a) (.t b) (.c (.bool false))) []:=nr rfl
def oPt(i d a b:Nat):qC:=.mk i (some d) none (.pick (.t a) (.c (.bool true)) (.t b)) []
@[go_sem] theorem qjA{i d a b:Nat}:oPt i d a b=.mk i (some d) none (.pick (.t a) (.c (.bool true)) (.t b)) []:=nr rfl
def qAI:List qC:=[oM 0 3 0,oP 1 4 (.bin .geq (.t 3) (.c (.int .u8 65))),oM 2 5 4,oH 3 6 5 true 0,oG 4 7 5 true (.bin .leq (.t 6) (.c (.int .u8 90))),oPf 5 8 5 7,oM 6 2 8]
def W8:qJ:=⟨1,9,[.t 2],sr [oQ 0 2 false] (sr qAI .ret)⟩
def qB6:List qC:=[oM 0 3 0,oP 1 4 (.bin .geq (.t 3) (.c (.int .u8 97))),oM 2 5 4,oH 3 6 5 true 0,oG 4 7 5 true (.bin .leq (.t 6) (.c (.int .u8 122))),oPf 5 8 5 7,oM 6 2 8]
def XP:qJ:=⟨1,9,[.t 2],sr [oQ 0 2 false] (sr qB6 .ret)⟩
def qCD:List qC:=[oM 0 3 0,oP 1 4 (.bin .geq (.t 3) (.c (.int .u8 48))),oM 2 5 4,oH 3 6 5 true 0,oG 4 7 5 true (.bin .leq (.t 6) (.c (.int .u8 57))),oPf 5 8 5 7,oM 6 2 8]
def XS:qJ:=⟨1,9,[.t 2],sr [oQ 0 2 false] (sr qCD .ret)⟩
def ka:List qC:=[oM 0 3 0,oD1 1 4 1206 3,oM 2 5 4,oH 3 6 5 false 0,oG 4 7 5 false (.call 1100 [.t 6]),oPt 5 8 5 7,oM 6 9 8,oH 7 10 9 false 0,oG 8 11 9 false (.call 1330 [.t 10]),oPt 9 12 9 11,oM 10 2 12]
def Wv:qJ:=⟨1,13,[.t 2],sr [oQ 0 2 false] (sr ka .ret)⟩
def qA9:List qC:=[oM 0 11 1,oM 1 12 0,oM 2 13 5,oA 3 14 1 12 13,oL 4 15 14,oP 5 16 (.sop .eql (.t 11) (.t 15))]
def qA7:qG:=.seq (.blk 1 (sr [oM 0 10 8,oM 1 5 10] (sr qA9 (.cond (.t 16) (sr [oM 0 17 5,oM 1 4 17] .ret) .skip)))) (.reg true [oE 0 18 .add 8 1,oM 1 8 18])
def qA8:qG:=.seq (sr [oM 0 6 0,oW 1 7 6,oC 2 8 0] (.blk 0 (.loop (sr [oB 0 9 .lss 8 7] (.seq (.cond (.t 9) .skip (.exit 0)) qA7))))) (sr [oP 0 4 (.mov (.c (.int .i64 (-1))))] .ret)
def XE:qJ:=⟨2,19,[.t 4],sr [oC 0 4 0] qA8⟩
def Ye:qJ:=ctnF 1106
def kb:List qC:=[oP 0 3 (.bslice 1 (.str []) 8 [(0,.c (.str [100,97,116,97])),(1,.c (.str [100,101,102])),(2,.c (.str [108,101,116])),(3,.c (.str [105,110])),(4,.c (.str [109,97,116,99,104])),(5,.c (.str [105,102])),(6,.c (.str [116,104,101,110])),(7,.c (.str [101,108,115,101]))]),oM 1 4 0,oD2 2 5 732 3 4,oM 3 2 5]
def Ww:qJ:=⟨1,6,[.t 2],sr [oQ 0 2 false] (sr kb .ret)⟩
def qAG:List qC:=[oM 0 4 0,oP 1 5 (.slen (.t 4)),oE 2 6 .lss 5 1,oM 3 7 6,oH 4 8 7 false 0,oG 5 9 7 false (.slen (.t 8)),oG 6 10 7 false (.bin .gtr (.t 9) (.c (.int .i64 12))),oPt 7 11 7 10,oM 8 12 11,oH 9 13 12 false 0,oG 10 14 12 false (.sidx (.t 13) (.c (.int .i64 0))),oG 11 15 12 false (.call 1330 [.t 14]),oPt 12 16 12 15,oM 13 17 16,oH 14 18 17 false 0,oG 15 19 17 false (.call 1013 [.t 18]),oPt 16 20 17 19]
def qAH:List qC:=[oM 0 26 0,oM 1 27 3,oP 2 28 (.sidx (.t 26) (.t 27)),oD1 3 29 1012 28,oJ 4 30 29]
def qAE:qG:=.seq (.blk 1 (sr [oM 0 25 23,oM 1 3 25] (sr qAH (.cond (.t 30) (sr [oQ 0 2 false] .ret) .skip)))) (.reg true [oE 0 31 .add 23 1,oM 1 23 31])
def qAF:qG:=.seq (sr [oM 0 21 0,oP 1 22 (.slen (.t 21)),oC 2 23 0] (.blk 0 (.loop (sr [oB 0 24 .lss 23 22] (.seq (.cond (.t 24) .skip (.exit 0)) qAE))))) (sr [oQ 0 2 true] .ret)
def W7:qJ:=⟨1,32,[.t 2],sr [oQ 0 2 false] (.seq (sr qAG (.cond (.t 20) (sr [oQ 0 2 false] .ret) .skip)) qAF)⟩
def qKR:List qC:=[oM 0 3 0,oD1 1 4 1099 3,oM 2 5 4,oH 3 6 5 true 0,oG 4 7 5 true (.sidx (.t 6) (.c (.int .i64 0))),oG 5 8 5 true (.call 1100 [.t 7]),oPf 6 9 5 8,oM 7 2 9]
def YX:qJ:=⟨1,10,[.t 2],sr [oQ 0 2 false] (sr qKR .ret)⟩
def qGY:List qC:=[oP 0 1 (.lbox 3 (.t 0)),oC 1 2 0,oC 2 3 0,oQ 3 4 false]
def qGZ:List qC:=[oU 0 10 1,oX 1 11 1 2,oW 2 12 11,oC 3 13 0]
def qG2:List qC:=[oA 0 15 3 11 13,oP 1 16 (.load (some 3) (.t 15)),oP 2 6 (.lalloc (.agg [.int .i64 0,.str [],.nils])),oS 3 6 0 3 16]
def qG3:List qC:=[oY 0 18 6 0 3,oD1 1 19 331 18,oM 2 17 19,oV 3 20 17 0,oV 4 21 17 1,oV 5 22 17 2,oM 6 7 20,oM 7 8 21,oM 8 9 22]
def qG4:List qC:=[oM 0 25 2,oM 1 26 7,oE 2 27 .add 26 1,oP 3 28 (.max (.t 25) (.t 27)),oM 4 29 3,oM 5 30 8,oB 6 31 .add 29 30,oM 7 2 28,oM 8 3 31]
def qGW:qG:=sr qG3 (.seq (sr [oM 0 23 9,oJ 1 24 23] (.cond (.t 24) (sr [oC 0 2 0,oC 1 3 0,oQ 2 4 false] .ret) .skip)) (.reg true qG4))
def qGX:qG:=sr qGZ (.blk 0 (.loop (sr [oB 0 14 .lss 13 12] (.seq (.cond (.t 14) .skip (.exit 0)) (.seq (.blk 1 (sr qG2 qGW)) (.reg true [oE 0 32 .add 13 1,oM 1 13 32]))))))
def qG5:List qC:=[oU 0 37 1,oX 1 38 1 1,oP 2 39 (.sop .eql (.t 38) (.c (.str []))),oM 3 40 39,oG 4 41 40 true (.nop 1),oG 5 42 40 true (.lload 1 2 none),oG 6 43 40 true (.len (.t 42)),oG 7 44 40 true (.bin .eql (.t 43) (.c (.int .i64 0))),oPf 8 45 40 44,oM 9 4 45]
def qG6:List qC:=[oU 0 48 1,oX 1 49 1 1,oD1 2 50 717 49,oM 3 51 50,oG 4 52 51 true (.nop 1),oG 5 53 51 true (.lload 1 1 none),oG 6 54 51 true (.sop .neq (.t 53) (.c (.str [73,110,116]))),oPf 7 55 51 54,oM 8 56 55,oG 9 57 56 true (.nop 1),oG 10 58 56 true (.lload 1 2 none),oG 11 59 56 true (.len (.t 58)),oG 12 60 56 true (.bin .eql (.t 59) (.c (.int .i64 0))),oPf 13 61 56 60,oM 14 4 61]
def qG7:List qC:=[oU 0 64 1,oX 1 65 1 1,oP 2 66 (.sop .eql (.t 65) (.c (.str []))),oM 3 67 66,oG 4 68 67 true (.nop 1),oG 5 69 67 true (.lload 1 2 none),oG 6 70 67 true (.len (.t 69)),oG 7 71 67 true (.bin .eql (.t 70) (.c (.int .i64 2))),oPf 8 72 67 71,oM 9 4 72]
def qG0:List qC:=[oU 0 75 1,oX 1 76 1 1,oP 2 77 (.sop .eql (.t 76) (.c (.str []))),oM 3 78 77,oG 4 79 78 true (.nop 1),oG 5 80 78 true (.lload 1 2 none),oG 6 81 78 true (.len (.t 80)),oG 7 82 78 true (.bin .eql (.t 81) (.c (.int .i64 1))),oPf 8 83 78 82,oM 9 4 83]
def qGU:qG:=.cond (.t 46) (.reg true qG6) (sr [oE 0 63 .eql 34 3,oM 1 62 63] (.cond (.t 62) (.reg true qG7) (sr [oE 0 74 .eql 34 4,oM 1 73 74] (.cond (.t 73) (.reg true qG0) .skip))))
def qGV:qG:=sr [oU 0 33 1,oX 1 34 1 0] (.blk 2 (sr [oE 0 36 .eql 34 1,oM 1 35 36] (.cond (.t 35) (.reg true qG5) (sr [oE 0 47 .eql 34 2,oM 1 46 47] qGU))))
def qG1:List qC:=[oM 0 84 2,oM 1 85 3,oM 2 86 4,oM 3 2 84,oM 4 3 85,oM 5 4 86]
def YD:qJ:=⟨1,87,[.t 2,.t 3,.t 4],sr qGY (sr [oC 0 2 1,oC 1 3 1] (.seq qGX (.seq qGV (sr qG1 .ret))))⟩
def qLQ:List qC:=[oY 0 7 1 0 3,oD1 1 8 331 7,oM 2 6 8,oV 3 9 6 0,oV 4 10 6 1,oV 5 11 6 2,oM 6 3 9,oM 7 4 10,oM 8 5 11]
def qLR:List qC:=[oM 0 12 5,oM 1 13 12,oH 2 14 13 true 3,oG 3 15 13 true (.bin .leq (.t 14) (.c (.int .i64 6))),oPf 4 16 13 15,oM 5 17 16,oH 6 18 17 true 4,oG 7 19 17 true (.bin .leq (.t 18) (.c (.int .i64 16))),oPf 8 20 17 19,oM 9 2 20]
def F74:qJ:=⟨1,21,[.t 2],sr [oP 0 1 (.lbox 3 (.t 0)),oQ 1 2 false] (sr qLQ (sr qLR .ret))⟩
def qMU:List qC:=[oM 0 3 0,oD1 1 4 1099 3,oM 2 5 4,oH 3 6 5 true 0,oG 4 7 5 true (.sidx (.t 6) (.c (.int .i64 0))),oG 5 8 5 true (.call 1206 [.t 7]),oPf 6 9 5 8,oM 7 2 9]
def Yr:qJ:=⟨1,10,[.t 2],sr [oQ 0 2 false] (sr qMU .ret)⟩
def YV:qJ:=⟨1,5,[.t 2],sr [oP 0 2 (.mov (.c (.str [])))] (sr [oM 0 3 0,oP 1 4 (.call 957 [.t 3,.c (.int .i64 10)]),oM 2 2 4] .ret)⟩
def qAA:List qC:=[oM 0 3 0,oP 1 4 (.bin .geq (.t 3) (.c (.int .i64 (-2147483648)))),oM 2 5 4,oH 3 6 5 true 0,oG 4 7 5 true (.bin .leq (.t 6) (.c (.int .i64 2147483647))),oPf 5 8 5 7,oM 6 2 8]
def W5:qJ:=⟨1,9,[.t 2],sr [oQ 0 2 false] (sr qAA .ret)⟩
def qAC:List qC:=[oM 0 7 0,oP 1 8 (.call 1382 [.t 7,.c (.int .i64 10),.c (.int .i64 64)]),oM 2 6 8,oV 3 9 6 0,oV 4 10 6 1,oM 5 4 9,oM 6 5 10]
def qAD:List qC:=[oM 0 11 5,oP 1 12 (.isnil 4 true (.t 11)),oM 2 13 12,oH 3 14 13 false 4,oG 4 15 13 false (.call 1051 [.t 14]),oG 5 16 13 false (.not (.t 15)),oPt 6 17 13 16,oM 7 18 17,oH 8 19 18 false 4,oG 9 20 18 false (.call 577 [.t 19]),oH 10 21 18 false 0,oG 11 22 18 false (.sop .neq (.t 20) (.t 21)),oPt 12 23 18 22]
def qAB:qG:=sr qAC (.seq (sr qAD (.cond (.t 23) (sr [oC 0 2 0,oQ 1 3 false] .ret) .skip)) (sr [oM 0 24 4,oM 1 2 24,oQ 2 3 true] .ret))
def W6:qJ:=⟨1,25,[.t 2,.t 3],sr [oC 0 2 0,oQ 1 3 false] qAB⟩
def ke:List qC:=[oM 0 6 0,oD1 1 7 1091 6,oM 2 5 7,oV 3 8 5 0,oV 4 9 5 1,oM 5 3 8,oM 6 4 9]
def kf:List qC:=[oM 0 10 4,oM 1 11 10,oH 2 12 11 true 3,oG 3 13 11 true (.bin .geq (.t 12) (.c (.int .i64 0))),oPf 4 14 11 13,oM 5 2 14]
def Wx:qJ:=⟨1,15,[.t 2],sr [oQ 0 2 false] (sr ke (sr kf .ret))⟩
def qCE:List qC:=[oM 0 5 0,oP 1 6 (.slen (.t 5)),oM 2 7 1,oP 3 8 (.slen (.t 7)),oB 4 9 .geq 6 8,oM 5 10 9,oH 6 11 10 true 0,oH 7 12 10 true 1,oG 8 13 10 true (.slen (.t 12)),oG 9 14 10 true (.sslc (.t 11) none (some (.t 13))),oH 10 15 10 true 1,oG 11 16 10 true (.sop .eql (.t 14) (.t 15)),oPf 12 17 10 16,oM 13 4 17]
def XT:qJ:=⟨2,18,[.t 4],sr [oQ 0 4 false] (sr qCE .ret)⟩
def ki:List qC:=[oM 0 5 0,oM 1 6 1,oD2 2 7 1331 5 6,oM 3 4 7]
def Wy:qJ:=⟨2,8,[.t 4],sr [oQ 0 4 false] (sr ki .ret)⟩
def qKK:List qC:=[oM 0 9 6,oM 1 10 0,oP 2 11 (.slen (.t 10)),oB 3 12 .lss 9 11,oM 4 13 12,oH 5 14 13 true 0,oH 6 15 13 true 6,oG 7 16 13 true (.sidx (.t 14) (.t 15)),oG 8 17 13 true (.call 1012 [.t 16]),oPf 9 18 13 17]
def qKL:List qC:=[oM 0 24 0,oM 1 25 1,oM 2 26 6,oP 3 27 (.sslc (.t 24) (some (.t 25)) (some (.t 26))),oM 4 7 27]
def qKM:List qC:=[oM 0 41 7,oP 1 42 (.sop .eql (.t 41) (.c (.str [50,49,52,55,52,56,51,54,52,56]))),oM 2 43 42,oH 3 44 43 false 7,oG 4 45 43 false (.call 1014 [.t 44]),oPt 5 46 43 45,oM 6 40 46]
def qKH:qG:=.cond (.t 36) (sr [oM 0 39 6,oC 1 4 2,oM 2 5 39] .ret) (sr qKM (.cond (.t 40) (sr [oM 0 47 6,oC 1 4 4,oM 2 5 47] .ret) .skip))
def qKI:qG:=sr [oM 0 33 7,oD1 1 34 889 33,oM 2 32 34] (.cond (.t 32) (sr [oM 0 35 6,oC 1 4 1,oM 2 5 35] .ret) (sr [oM 0 37 7,oD1 1 38 717 37,oM 2 36 38] qKH))
def qKJ:qG:=sr qKL (.blk 2 (sr [oM 0 29 7,oD1 1 30 1013 29,oM 2 28 30] (.cond (.t 28) (sr [oM 0 31 6,oC 1 4 3,oM 2 5 31] .ret) qKI)))
def qKN:List qC:=[oM 0 49 0,oM 1 50 1,oP 2 51 (.sslc (.t 49) (some (.t 50)) none),oP 3 52 (.call 1015 [.t 51,.c (.str [45,62])])]
def qKO:List qC:=[oM 0 53 1,oE 1 54 .add 53 2,oC 2 4 5,oM 3 5 54]
def qKP:List qC:=[oM 0 55 0,oM 1 56 1,oP 2 57 (.sidx (.t 55) (.t 56)),oP 3 58 (.call 631 [.c (.str [43,45,42,47,60,61,40,41,91,93,123,125,44,59,58,46,124,33,92]),.t 57]),oE 4 59 .geq 58 0]
def qKQ:List qC:=[oM 0 60 1,oE 1 61 .add 60 1,oC 2 4 5,oM 3 5 61]
def qKF:qG:=.seq (sr [oM 0 21 6,oM 1 22 1,oB 2 23 .gtr 21 22] (.cond (.t 23) (.seq qKJ (sr [oM 0 48 1,oC 1 4 0,oM 2 5 48] .ret)) .skip)) (.seq (sr qKN (.cond (.t 52) (sr qKO .ret) .skip)) (.seq (sr qKP (.cond (.t 59) (sr qKQ .ret) .skip)) (sr [oM 0 62 1,oC 1 4 0,oM 2 5 62] .ret)))
def qKG:qG:=sr [oM 0 8 1,oM 1 6 8] (.seq (.blk 0 (.loop (.seq (sr qKK (.cond (.t 18) .skip (.exit 0))) (.blk 1 (.reg true [oM 0 19 6,oE 1 20 .add 19 1,oM 2 6 20]))))) qKF)
def YW:qJ:=⟨2,63,[.t 4,.t 5],sr [oC 0 4 0,oC 1 5 0] qKG⟩
def qGA:List qC:=[oM 0 12 6,oM 1 13 0,oP 2 14 (.slen (.t 13)),oB 3 15 .lss 12 14]
def qGB:List qC:=[oM 0 16 0,oM 1 17 6,oP 2 18 (.sidx (.t 16) (.t 17)),oP 3 19 (.call 631 [.c (.str [32,10,9]),.t 18]),oE 4 20 .geq 19 0]
def qGC:List qC:=[oM 0 24 0,oM 1 25 6,oD2 2 26 632 24 25,oM 3 23 26,oV 4 27 23 0,oV 5 28 23 1,oM 6 7 27,oM 7 8 28]
def qGD:List qC:=[oM 0 31 6,oP 1 2 (.mov (.c (.nils))),oM 2 3 31,oC 3 4 6]
def qGE:List qC:=[oM 0 32 5,oM 1 33 7,oM 2 34 0,oM 3 35 6,oM 4 36 8,oP 5 37 (.sslc (.t 34) (some (.t 35)) (some (.t 36))),oM 6 38 6,oP 7 39 (.build (.agg [.int .i64 0,.str [],.int .i64 0]) [(0,1,.t 33),(1,1,.t 37),(2,1,.t 38)]),oP 8 40 (.bslice 3 (.agg [.int .i64 0,.str [],.int .i64 0]) 1 [(0,.t 39)]),oP 9 41 (.app 3 (.t 32) (.t 40)),oM 10 5 41]
def qF7:qG:=sr qGC (.seq (sr [oM 0 29 7,oE 1 30 .eql 29 0] (.cond (.t 30) (sr qGD .ret) .skip)) (sr qGE (.reg true [oM 0 42 8,oM 1 6 42])))
def qF8:qG:=sr [oC 0 6 0] (.blk 0 (.loop (.seq (sr qGA (.cond (.t 15) .skip (.exit 0))) (.blk 1 (.seq (sr qGB (.cond (.t 20) (sr [oM 0 21 6,oE 1 22 .add 21 1,oM 2 6 22] (.exit 1)) .skip)) qF7)))))
def qGF:List qC:=[oM 0 43 5,oM 1 2 43,oC 2 3 0,oC 3 4 0]
def qF9:qG:=.seq (sr [oM 0 9 0,oP 1 10 (.slen (.t 9)),oE 2 11 .gtr 10 20000] (.cond (.t 11) (sr [oP 0 2 (.mov (.c (.nils))),oC 1 3 0,oC 2 4 2] .ret) .skip)) (sr [oP 0 5 (.mov (.c (.nils)))] (.seq qF8 (sr qGF .ret)))
def X8:qJ:=⟨1,44,[.t 2,.t 3,.t 4],sr [oP 0 2 (.mov (.c (.nils))),oC 1 3 0,oC 2 4 0] qF9⟩
def qAJ:List qC:=[oM 0 3 0,oK 1 4 3,oF 2 5 1 4,oL 3 6 5,oM 4 7 0,oK 5 8 7,oF 6 9 0 8,oL 7 10 9,oW 8 11 10,oB 9 12 .lss 6 11]
def qAK:List qC:=[oM 0 13 0,oK 1 14 13,oF 2 15 0 14,oL 3 16 15,oM 4 17 0,oK 5 18 17,oF 6 19 1 18,oL 7 20 19,oA 8 21 3 16 20,oP 9 22 (.load (some 3) (.t 21)),oS 10 2 0 3 22]
def qAL:List qC:=[oM 0 23 0,oK 1 24 23,oF 2 25 2 24,oL 3 26 25,oP 4 27 (.build (.agg [.int .i64 0,.str [],.int .i64 0]) [(2,1,.t 26)]),oS 5 2 0 3 27]
def W9:qJ:=⟨1,28,[.l 2 (some 3)],sr [oP 0 2 (.lalloc (.agg [.int .i64 0,.str [],.int .i64 0]))] (.seq (sr qAJ (.cond (.t 12) (sr qAK .ret) .skip)) (sr qAL .ret))⟩
def qKS:List qC:=[oM 0 2 0,oD1 1 3 1101 2,oP 2 4 (.fld 2 none (.t 3)),oP 3 5 (.build (.agg [.int .i64 0]) [(0,1,.t 4)]),oP 4 6 (.mkif 751 (.t 5)),oN 5 (.panic (.t 6))]
def YY:qJ:=⟨1,7,[],.reg true qKS⟩
def qAM:List qC:=[oM 0 6 0,oD1 1 7 1101 6,oP 2 5 (.lalloc (.agg [.int .i64 0,.str [],.int .i64 0])),oS 3 5 0 3 7]
def qAN:List qC:=[oU 0 8 5,oX 1 9 5 1,oM 2 10 1,oP 3 11 (.sop .eql (.t 9) (.t 10)),oM 4 12 11,oG 5 13 12 true (.nop 5),oG 6 14 12 true (.lload 5 0 none),oG 7 15 12 true (.bin .eql (.t 14) (.c (.int .i64 5))),oH 8 16 12 true 15,oG 9 17 16 false (.nop 5),oG 10 18 16 false (.lload 5 0 none),oG 11 19 16 false (.bin .eql (.t 18) (.c (.int .i64 3))),oG 12 20 12 true (.pick (.t 16) (.c (.bool true)) (.t 19)),oPf 13 21 12 20,oM 14 4 21]
def XB:qJ:=⟨2,22,[.t 4],sr [oQ 0 4 false] (sr qAM (sr qAN .ret))⟩
def qKX:List qC:=[oM 0 5 0,oM 1 6 1,oD2 2 7 1103 5 6,oJ 3 8 7]
def qKY:List qC:=[oM 0 9 0,oK 1 10 9,oF 2 11 1 10,oL 3 12 11,oE 4 13 .add 12 1,oK 5 14 9,oF 6 15 1 14,oT 7 1 15 13]
def Ya:qJ:=⟨2,16,[.t 4],sr [oQ 0 4 false] (.seq (sr qKX (.cond (.t 8) (sr [oQ 0 4 false] .ret) .skip)) (sr qKY (sr [oQ 0 4 true] .ret)))⟩
def qMM:List qC:=[oM 0 6 0,oD1 1 7 1101 6,oP 2 5 (.lalloc (.agg [.int .i64 0,.str [],.int .i64 0])),oS 3 5 0 3 7]
def qMN:List qC:=[oU 0 8 5,oX 1 9 5 0,oM 2 10 1,oB 3 11 .neq 9 10]
def qMO:List qC:=[oM 0 14 0,oK 1 15 14,oF 2 16 1 15,oL 3 17 16,oE 4 18 .add 17 1,oK 5 19 14,oF 6 20 1 19,oT 7 1 20 18]
def qML:qG:=.seq (sr qMN (.cond (.t 11) (.reg true [oM 0 12 0,oD1 1 13 719 12]) .skip)) (sr qMO (sr [oU 0 21 5,oX 1 22 5 1,oM 2 4 22] .ret))
def Yo:qJ:=⟨2,23,[.t 4],sr [oP 0 4 (.mov (.c (.str [])))] (sr qMM qML)⟩
def qMP:List qC:=[oM 0 4 0,oM 1 5 1,oD2 2 6 721 4 5,oJ 3 7 6]
def Yp:qJ:=⟨2,10,[],sr qMP (.cond (.t 7) (.reg true [oM 0 8 0,oD1 1 9 719 8]) .skip)⟩
def Ys:qJ:=⟨0,2,[.l 0 (some 3)],sr [oP 0 0 (.lalloc (.agg [.int .i64 0,.str [],.nils]))] (sr [oP 0 1 (.build (.agg [.int .i64 0,.str [],.nils]) [(0,1,.c (.int .i64 1))]),oS 1 0 0 3 1] .ret)⟩
def qMV:List qC:=[oY 0 3 1 0 3,oP 1 4 (.bslice 3 (.agg [.int .i64 0,.str [],.nils]) 1 [(0,.t 3)]),oP 2 5 (.build (.agg [.int .i64 0,.str [],.nils]) [(0,1,.c (.int .i64 4)),(2,1,.t 4)]),oS 3 2 0 3 5]
def Yt:qJ:=⟨1,6,[.l 2 (some 3)],sr [oP 0 1 (.lbox 3 (.t 0)),oP 1 2 (.lalloc (.agg [.int .i64 0,.str [],.nils]))] (sr qMV .ret)⟩
def XA:qJ:=⟨1,5,[.l 2 (some 3)],sr [oP 0 2 (.lalloc (.agg [.int .i64 0,.str [],.nils]))] (sr [oM 0 3 0,oP 1 4 (.build (.agg [.int .i64 0,.str [],.nils]) [(0,1,.c (.int .i64 2)),(1,1,.t 3)]),oS 2 2 0 3 4] .ret)⟩
def qKV:List qC:=[oM 0 8 0,oD1 1 9 720 8,oD1 2 10 911 9,oS 3 2 0 3 10]
def qKW:List qC:=[oM 0 14 0,oD1 1 15 335 14,oP 2 3 (.lalloc (.agg [.int .i64 0,.str [],.nils])),oS 3 3 0 3 15]
def qKT:qG:=sr [oM 0 12 0,oP 1 13 (.call 721 [.t 12,.c (.str [40])]),oM 2 11 13] (.cond (.t 11) (sr qKW (sr [oM 0 16 0,oP 1 17 (.call 876 [.t 16,.c (.str [41])])] (sr [oY 0 18 3 0 3,oS 1 2 0 3 18] .ret))) .skip)
def qKU:qG:=sr [oM 0 19 0,oP 1 20 (.call 875 [.t 19,.c (.int .i64 2)]),oM 2 4 20] (sr [oM 0 21 4,oP 1 22 (.sop .neq (.t 21) (.c (.str [73,110,116])))] (.cond (.t 22) (sr [oM 0 23 4,oD1 1 24 1102 23,oS 2 2 0 3 24] .ret) .skip))
def YZ:qJ:=⟨1,26,[.l 2 (some 3)],sr [oP 0 2 (.lalloc (.agg [.int .i64 0,.str [],.nils]))] (.seq (.blk 0 (sr [oM 0 6 0,oP 1 7 (.call 721 [.t 6,.c (.str [33])]),oM 2 5 7] (.cond (.t 5) (sr qKV .ret) qKT))) (.seq qKU (sr [oP 0 25 (.call 908 []),oS 1 2 0 3 25] .ret)))⟩
def qKZ:List qC:=[oY 0 5 2 0 3,oY 1 6 3 0 3,oP 2 7 (.bslice 3 (.agg [.int .i64 0,.str [],.nils]) 2 [(0,.t 5),(1,.t 6)]),oP 3 8 (.build (.agg [.int .i64 0,.str [],.nils]) [(0,1,.c (.int .i64 3)),(2,1,.t 7)]),oS 4 4 0 3 8]
def Yb:qJ:=⟨2,9,[.l 4 (some 3)],sr [oP 0 2 (.lbox 3 (.t 0)),oP 1 3 (.lbox 3 (.t 1)),oP 2 4 (.lalloc (.agg [.int .i64 0,.str [],.nils]))] (sr qKZ .ret)⟩
def qHE:List qC:=[oM 0 4 0,oD1 1 5 720 4,oP 2 3 (.lalloc (.agg [.int .i64 0,.str [],.nils])),oS 3 3 0 3 5]
def qHF:List qC:=[oY 0 8 3 0 3,oM 1 9 0,oD1 2 10 335 9,oD2 3 11 722 8 10,oS 4 2 0 3 11]
def YF:qJ:=⟨1,13,[.l 2 (some 3)],sr [oP 0 2 (.lalloc (.agg [.int .i64 0,.str [],.nils]))] (sr qHE (.seq (sr [oM 0 6 0,oP 1 7 (.call 721 [.t 6,.c (.str [45,62])])] (.cond (.t 7) (sr qHF .ret) .skip)) (sr [oY 0 12 3 0 3,oS 1 2 0 3 12] .ret)))⟩
def qHG:List qC:=[oM 0 7 0,oM 1 8 1,oB 2 9 .geq 7 8,oM 3 10 9,oH 4 11 10 true 0,oH 5 12 10 true 2,oG 6 13 10 true (.bin .leq (.t 11) (.t 12)),oPf 7 14 10 13,oM 8 6 14]
def YG:qJ:=⟨3,15,[.t 6],sr [oQ 0 6 false] (sr qHG .ret)⟩
def qC8:List qC:=[oM 0 3 0,oP 1 4 (.bin .geq (.t 3) (.c (.int .u8 97))),oM 2 5 4,oH 3 6 5 true 0,oG 4 7 5 true (.bin .leq (.t 6) (.c (.int .u8 122))),oPf 5 8 5 7,oM 6 9 8,oH 7 10 9 false 0,oG 8 11 9 false (.bin .geq (.t 10) (.c (.int .u8 65))),oH 9 12 9 false 11,oH 10 13 12 true 0,oG 11 14 12 true (.bin .leq (.t 13) (.c (.int .u8 90))),oG 12 15 9 false (.pick (.t 12) (.t 14) (.c (.bool false))),oPt 13 16 9 15,oM 14 2 16]
def Xe:qJ:=⟨1,17,[.t 2],sr [oQ 0 2 false] (sr qC8 .ret)⟩
def Xn:qJ:=⟨0,2,[.t 0],sr [oP 0 0 (.mov (.c (.nils)))] (sr [oP 0 1 (.bslice 1 (.str []) 8 [(0,.c (.str [100,97,116,97])),(1,.c (.str [100,101,102])),(2,.c (.str [108,101,116])),(3,.c (.str [105,110])),(4,.c (.str [109,97,116,99,104])),(5,.c (.str [105,102])),(6,.c (.str [116,104,101,110])),(7,.c (.str [101,108,115,101]))]),oM 1 0 1] .ret)⟩
def qDA:List qC:=[oM 0 4 3,oP 1 5 (.call 1513 []),oW 2 6 5,oB 3 7 .lss 4 6]
def qDB:List qC:=[oP 0 10 (.call 1513 []),oM 1 11 3,oA 2 12 1 10 11,oL 3 13 12,oM 4 14 0,oP 5 15 (.sop .eql (.t 13) (.t 14))]
def qC9:qG:=.loop (.seq (sr qDA (.cond (.t 7) .skip (.exit 0))) (.seq (.blk 1 (sr qDB (.cond (.t 15) (sr [oQ 0 2 true] .ret) .skip))) (.reg true [oM 0 8 3,oE 1 9 .add 8 1,oM 2 3 9])))
def Xf:qJ:=⟨1,16,[.t 2],sr [oQ 0 2 false] (.seq (sr [oC 0 3 0] (.blk 0 qC9)) (sr [oQ 0 2 false] .ret))⟩
def qDC:List qC:=[oM 0 3 0,oP 1 4 (.bin .geq (.t 3) (.c (.int .u8 48))),oM 2 5 4,oH 3 6 5 true 0,oG 4 7 5 true (.bin .leq (.t 6) (.c (.int .u8 57))),oPf 5 8 5 7,oM 6 2 8]
def Xg:qJ:=⟨1,9,[.t 2],sr [oQ 0 2 false] (sr qDC .ret)⟩
def qB9:List qC:=[oM 0 4 0,oP 1 5 (.slen (.t 4)),oE 2 6 .lss 5 1,oM 3 7 6,oH 4 8 7 false 0,oG 5 9 7 false (.slen (.t 8)),oG 6 10 7 false (.bin .gtr (.t 9) (.c (.int .i64 12))),oPt 7 11 7 10,oM 8 12 11,oH 9 13 12 false 0,oG 10 14 12 false (.sidx (.t 13) (.c (.int .i64 0))),oG 11 15 12 false (.call 1440 [.t 14]),oG 12 16 12 false (.not (.t 15)),oPt 13 17 12 16,oM 14 18 17,oH 15 19 18 false 0,oG 16 20 18 false (.call 1441 [.t 19]),oPt 17 21 18 20]
def qCA:List qC:=[oM 0 22 3,oM 1 23 0,oP 2 24 (.slen (.t 23)),oB 3 25 .lss 22 24]
def qCB:List qC:=[oM 0 28 0,oM 1 29 3,oP 2 30 (.sidx (.t 28) (.t 29)),oD1 3 31 1440 30,oJ 4 32 31,oM 5 33 32,oH 6 34 33 true 0,oH 7 35 33 true 3,oG 8 36 33 true (.sidx (.t 34) (.t 35)),oG 9 37 33 true (.call 1442 [.t 36]),oG 10 38 33 true (.not (.t 37)),oPf 11 39 33 38]
def qB8:qG:=.loop (.seq (sr qCA (.cond (.t 25) .skip (.exit 0))) (.seq (.blk 1 (sr qCB (.cond (.t 39) (sr [oQ 0 2 false] .ret) .skip))) (.reg true [oM 0 26 3,oE 1 27 .add 26 1,oM 2 3 27])))
def XR:qJ:=⟨1,40,[.t 2],sr [oQ 0 2 false] (.seq (sr qB9 (.cond (.t 21) (sr [oQ 0 2 false] .ret) .skip)) (.seq (sr [oC 0 3 0] (.blk 0 qB8)) (sr [oQ 0 2 true] .ret)))⟩
def qMW:List qC:=[oM 0 3 0,oD1 1 4 1241 3,oM 2 5 4,oH 3 6 5 true 0,oG 4 7 5 true (.sidx (.t 6) (.c (.int .i64 0))),oG 5 8 5 true (.bin .leq (.t 7) (.c (.int .u8 90))),oPf 6 9 5 8,oM 7 2 9]
def Yu:qJ:=⟨1,10,[.t 2],sr [oQ 0 2 false] (sr qMW .ret)⟩
def qKA:List qC:=[oU 0 17 2,oX 1 18 2 1,oD1 2 19 921 18,oJ 3 20 19,oM 4 21 20,oG 5 22 21 false (.nop 2),oG 6 23 21 false (.lload 2 1 none),oG 7 24 21 false (.sop .eql (.t 23) (.c (.str [73,110,116]))),oPt 8 25 21 24]
def qJ5:qG:=.cond (.t 26) (.reg true [oC 0 5 2]) (sr [oE 0 29 .eql 12 4,oM 1 28 29] (.cond (.t 28) (.reg true [oC 0 5 1]) (sr [oP 0 4 (.mov (.c (.int .i64 (-1))))] .ret)))
def qJ6:qG:=sr [oE 0 16 .eql 12 2,oM 1 15 16] (.cond (.t 15) (sr qKA (.cond (.t 25) (sr [oP 0 4 (.mov (.c (.int .i64 (-1))))] .ret) .skip)) (sr [oE 0 27 .eql 12 3,oM 1 26 27] qJ5))
def qKB:List qC:=[oU 0 30 2,oX 1 31 2 2,oW 2 32 31,oM 3 33 5,oB 4 34 .neq 32 33,oM 5 35 34,oG 6 36 35 false (.nop 2),oG 7 37 35 false (.lload 2 0 none),oG 8 38 35 false (.bin .neq (.t 37) (.c (.int .i64 2))),oH 9 39 35 false 38,oG 10 40 39 true (.nop 2),oG 11 41 39 true (.lload 2 1 none),oG 12 42 39 true (.sop .neq (.t 41) (.c (.str []))),oG 13 43 35 false (.pick (.t 39) (.t 42) (.c (.bool false))),oPt 14 44 35 43]
def qKC:List qC:=[oM 0 45 7,oU 1 46 2,oX 2 47 2 2,oW 3 48 47,oB 4 49 .lss 45 48]
def qKD:List qC:=[oU 0 52 2,oX 1 53 2 2,oM 2 54 7,oA 3 55 3 53 54,oP 4 56 (.load (some 3) (.t 55)),oM 5 57 1,oE 6 58 .sub 57 1,oD2 7 59 541 56 58,oM 8 8 59]
def qKE:List qC:=[oM 0 62 6,oM 1 63 8,oB 2 64 .add 62 63,oM 3 6 64]
def qJ7:qG:=.seq (.blk 2 (sr qKD (.seq (sr [oM 0 60 8,oE 1 61 .lss 60 0] (.cond (.t 61) (sr [oP 0 4 (.mov (.c (.int .i64 (-1))))] .ret) .skip)) (.reg true qKE)))) (.reg true [oM 0 50 7,oE 1 51 .add 50 1,oM 2 7 51])
def qJ8:qG:=sr [oC 0 6 1] (.seq (sr [oC 0 7 0] (.blk 1 (.loop (.seq (sr qKC (.cond (.t 49) .skip (.exit 1))) qJ7)))) (sr [oM 0 65 6,oM 1 4 65] .ret))
def qJ9:qG:=.seq (sr [oU 0 11 2,oX 1 12 2 0] (.blk 0 (sr [oE 0 14 .eql 12 1,oM 1 13 14] (.cond (.t 13) .skip qJ6)))) (.seq (sr qKB (.cond (.t 44) (sr [oP 0 4 (.mov (.c (.int .i64 (-1))))] .ret) .skip)) qJ8)
def YU:qJ:=⟨2,66,[.t 4],sr [oP 0 2 (.lbox 3 (.t 0)),oC 1 4 0] (.seq (sr [oM 0 9 1,oE 1 10 .lss 9 1] (.cond (.t 10) (sr [oP 0 4 (.mov (.c (.int .i64 (-1))))] .ret) .skip)) (sr [oC 0 5 0] qJ9))⟩
def qF6:List qC:=[oY 0 3 1 0 3,oP 1 4 (.call 541 [.t 3,.c (.int .i64 6)]),oP 2 5 (.call 340 [.t 4,.c (.int .i64 1),.c (.int .i64 16)]),oM 3 2 5]
def X7:qJ:=⟨1,6,[.t 2],sr [oP 0 1 (.lbox 3 (.t 0)),oQ 1 2 false] (sr qF6 .ret)⟩
def qCM:List qC:=[oM 0 3 0,oP 1 4 (.bin .eql (.t 3) (.c (.int .u8 32))),oM 2 5 4,oH 3 6 5 false 0,oG 4 7 5 false (.bin .eql (.t 6) (.c (.int .u8 10))),oPt 5 8 5 7,oM 6 9 8,oH 7 10 9 false 0,oG 8 11 9 false (.bin .eql (.t 10) (.c (.int .u8 9))),oPt 9 12 9 11,oM 10 2 12]
def XY:qJ:=⟨1,13,[.t 2],sr [oQ 0 2 false] (sr qCM .ret)⟩
def qB7:List qC:=[oM 0 3 0,oD1 1 4 1241 3,oM 2 5 4,oH 3 6 5 true 0,oG 4 7 5 true (.sidx (.t 6) (.c (.int .i64 0))),oG 5 8 5 true (.bin .geq (.t 7) (.c (.int .u8 97))),oPf 6 9 5 8,oM 7 2 9]
def XQ:qJ:=⟨1,10,[.t 2],sr [oQ 0 2 false] (sr qB7 .ret)⟩
def qDG:List qC:=[oM 0 5 1,oM 1 6 0,oP 2 7 (.slen (.t 6)),oB 3 8 .lss 5 7,oM 4 9 8,oH 5 10 9 true 0,oH 6 11 9 true 1,oG 7 12 9 true (.sidx (.t 10) (.t 11)),oG 8 13 9 true (.call 1440 [.t 12]),oH 9 14 9 true 13,oH 10 15 14 false 0,oH 11 16 14 false 1,oG 12 17 14 false (.sidx (.t 15) (.t 16)),oG 13 18 14 false (.call 1442 [.t 17]),oG 14 19 9 true (.pick (.t 14) (.c (.bool true)) (.t 18)),oPf 15 20 9 19]
def qDF:qG:=.seq (.blk 0 (.loop (.seq (sr qDG (.cond (.t 20) .skip (.exit 0))) (.blk 1 (.reg true [oM 0 21 1,oE 1 22 .add 21 1,oM 2 1 22]))))) (sr [oM 0 23 1,oM 1 4 23] .ret)
def Xi:qJ:=⟨2,24,[.t 4],sr [oC 0 4 0] qDF⟩
def qDJ:List qC:=[oM 0 5 0,oP 1 6 (.slen (.t 5)),oE 2 7 .gtr 6 10,oM 3 8 7,oH 4 9 8 false 0,oG 5 10 8 false (.slen (.t 9)),oG 6 11 8 false (.bin .gtr (.t 10) (.c (.int .i64 1))),oH 7 12 8 false 11,oH 8 13 12 true 0,oG 9 14 12 true (.sidx (.t 13) (.c (.int .i64 0))),oG 10 15 12 true (.bin .eql (.t 14) (.c (.int .u8 48))),oG 11 16 8 false (.pick (.t 12) (.t 15) (.c (.bool false))),oPt 12 17 8 16]
def qDK:List qC:=[oM 0 18 4,oM 1 19 0,oP 2 20 (.slen (.t 19)),oB 3 21 .lss 18 20]
def qDL:List qC:=[oM 0 24 0,oM 1 25 4,oP 2 26 (.sidx (.t 24) (.t 25)),oD1 3 27 1442 26,oJ 4 28 27]
def qDM:List qC:=[oM 0 29 3,oP 1 30 (.bin .mul (.c (.int .i64 10)) (.t 29)),oM 2 31 0,oM 3 32 4,oP 4 33 (.sidx (.t 31) (.t 32)),oP 5 34 (.bin .sub (.t 33) (.c (.int .u8 48))),oP 6 35 (.conv .i64 (.t 34)),oB 7 36 .add 30 35,oM 8 3 36]
def qDH:qG:=.seq (sr qDK (.cond (.t 21) .skip (.exit 0))) (.seq (.blk 1 (.seq (sr qDL (.cond (.t 28) (sr [oQ 0 2 false] .ret) .skip)) (.reg true qDM))) (.reg true [oM 0 22 4,oE 1 23 .add 22 1,oM 2 4 23]))
def qDI:qG:=sr [oC 0 3 0] (.seq (sr [oC 0 4 0] (.blk 0 (.loop qDH))) (sr [oM 0 37 3,oE 1 38 .leq 37 2147483648,oM 2 2 38] .ret))
def Xj:qJ:=⟨1,39,[.t 2],sr [oQ 0 2 false] (.seq (sr qDJ (.cond (.t 17) (sr [oQ 0 2 false] .ret) .skip)) qDI)⟩
def qDO:List qC:=[oM 0 5 4,oM 1 6 3,oP 2 7 (.slen (.t 6)),oB 3 8 .lss 5 7]
def qDP:List qC:=[oM 0 11 3,oM 1 12 4,oP 2 13 (.sidx (.t 11) (.t 12)),oM 3 14 0,oB 4 15 .eql 13 14]
def qDN:qG:=.loop (.seq (sr qDO (.cond (.t 8) .skip (.exit 0))) (.seq (.blk 1 (sr qDP (.cond (.t 15) (sr [oQ 0 2 true] .ret) .skip))) (.reg true [oM 0 9 4,oE 1 10 .add 9 1,oM 2 4 10])))
def Xk:qJ:=⟨1,16,[.t 2],sr [oQ 0 2 false] (sr [oP 0 3 (.mov (.c (.str [43,45,42,47,60,61,40,41,91,93,123,125,44,59,58,46,124,33,92])))] (.seq (sr [oC 0 4 0] (.blk 0 qDN)) (sr [oQ 0 2 false] .ret)))⟩
def qCR:List qC:=[oM 0 8 0,oM 1 9 1,oP 2 10 (.sidx (.t 8) (.t 9)),oM 3 5 10]
def qCS:List qC:=[oM 0 11 5,oD1 1 12 1440 11,oM 2 13 12,oH 3 14 13 false 5,oG 4 15 13 false (.call 1442 [.t 14]),oPt 5 16 13 15]
def qCT:List qC:=[oM 0 17 0,oM 1 18 1,oM 2 19 0,oM 3 20 1,oD2 4 21 1496 19 20,oP 5 22 (.sslc (.t 17) (some (.t 18)) (some (.t 21))),oM 6 6 22]
def qCU:List qC:=[oM 0 23 6,oM 1 24 1,oP 2 25 (.build (.agg [.int .i64 0,.str [],.int .i64 0]) [(1,1,.t 23),(2,1,.t 24)]),oP 3 7 (.lalloc (.agg [.int .i64 0,.str [],.int .i64 0])),oS 4 7 0 3 25]
def qCN:qG:=.seq (sr [oM 0 35 6,oD1 1 36 1497 35] (.cond (.t 36) (.reg true [oU 0 37 7,oN 1 (.lstore 7 0 1 (.c (.int .i64 4)))]) .skip)) (sr [oY 0 38 7 0 3,oS 1 4 0 3 38] .ret)
def qCO:qG:=.seq (sr [oM 0 29 6,oD1 1 30 1237 29] (.cond (.t 30) (.reg true [oU 0 31 7,oN 1 (.lstore 7 0 1 (.c (.int .i64 1)))]) .skip)) (.seq (sr [oM 0 32 6,oD1 1 33 921 32] (.cond (.t 33) (.reg true [oU 0 34 7,oN 1 (.lstore 7 0 1 (.c (.int .i64 2)))]) .skip)) qCN)
def qCP:qG:=sr qCS (.cond (.t 16) (sr qCT (sr qCU (.seq (sr [oM 0 26 6,oD1 1 27 1441 26] (.cond (.t 27) (.reg true [oU 0 28 7,oN 1 (.lstore 7 0 1 (.c (.int .i64 3)))]) .skip)) qCO))) .skip)
def qCV:List qC:=[oM 0 39 5,oP 1 40 (.bin .eql (.t 39) (.c (.int .u8 45))),oM 2 41 40,oH 3 42 41 true 1,oG 4 43 41 true (.bin .add (.t 42) (.c (.int .i64 1))),oH 5 44 41 true 0,oG 6 45 41 true (.slen (.t 44)),oG 7 46 41 true (.bin .lss (.t 43) (.t 45)),oPf 8 47 41 46,oM 9 48 47,oH 10 49 48 true 0,oH 11 50 48 true 1,oG 12 51 48 true (.bin .add (.t 50) (.c (.int .i64 1))),oG 13 52 48 true (.sidx (.t 49) (.t 51)),oG 14 53 48 true (.bin .eql (.t 52) (.c (.int .u8 62))),oPf 15 54 48 53]
def qCW:List qC:=[oM 0 59 0,oM 1 60 1,oM 2 61 1,oE 3 62 .add 61 1,oP 4 63 (.sslc (.t 59) (some (.t 60)) (some (.t 62))),oM 5 64 1,oP 6 65 (.build (.agg [.int .i64 0,.str [],.int .i64 0]) [(0,1,.c (.int .i64 5)),(1,1,.t 63),(2,1,.t 64)]),oS 7 4 0 3 65]
def qCQ:qG:=.seq (sr qCV (.cond (.t 54) (sr [oM 0 55 1,oP 1 56 (.build (.agg [.int .i64 0,.str [],.int .i64 0]) [(0,1,.c (.int .i64 5)),(1,1,.c (.str [45,62])),(2,1,.t 55)]),oS 2 4 0 3 56] .ret) .skip)) (.seq (sr [oM 0 57 5,oD1 1 58 1498 57] (.cond (.t 58) (sr qCW .ret) .skip)) (sr [oP 0 66 (.build (.agg [.int .i64 0,.str [],.int .i64 0]) []),oS 1 4 0 3 66] .ret))
def XZ:qJ:=⟨2,67,[.l 4 (some 3)],sr [oP 0 4 (.lalloc (.agg [.int .i64 0,.str [],.int .i64 0]))] (sr qCR (.seq qCP qCQ))⟩
def qBC:List qC:=[oM 0 9 6,oM 1 10 0,oP 2 11 (.slen (.t 10)),oB 3 12 .lss 9 11]
def qBD:List qC:=[oM 0 13 0,oM 1 14 6,oP 2 15 (.sidx (.t 13) (.t 14)),oD1 3 16 1393 15]
def qBE:List qC:=[oM 0 19 0,oM 1 20 6,oD2 2 21 1394 19 20,oP 3 7 (.lalloc (.agg [.int .i64 0,.str [],.int .i64 0])),oS 4 7 0 3 21]
def qBF:List qC:=[oM 0 25 6,oP 1 2 (.mov (.c (.nils))),oM 2 3 25,oQ 3 4 false]
def qBG:List qC:=[oM 0 26 5,oY 1 27 7 0 3,oP 2 28 (.bslice 3 (.agg [.int .i64 0,.str [],.int .i64 0]) 1 [(0,.t 27)]),oP 3 29 (.app 3 (.t 26) (.t 28)),oM 4 5 29]
def qBH:List qC:=[oM 0 30 6,oU 1 31 7,oX 2 32 7 1,oP 3 33 (.slen (.t 32)),oB 4 34 .add 30 33,oM 5 6 34]
def qBA:qG:=.seq (sr qBD (.cond (.t 16) (sr [oM 0 17 6,oE 1 18 .add 17 1,oM 2 6 18] (.exit 1)) .skip)) (sr qBE (.seq (sr [oU 0 22 7,oX 1 23 7 0,oE 2 24 .eql 23 0] (.cond (.t 24) (sr qBF .ret) .skip)) (sr qBG (.reg true qBH))))
def qBI:List qC:=[oM 0 35 5,oM 1 2 35,oC 2 3 0,oQ 3 4 true]
def qBB:qG:=sr [oP 0 8 (.mov (.c (.lst 3 [] true))),oM 1 5 8] (sr [oC 0 6 0] (.seq (.blk 0 (.loop (.seq (sr qBC (.cond (.t 12) .skip (.exit 0))) (.blk 1 qBA)))) (sr qBI .ret)))
def XF:qJ:=⟨1,36,[.t 2,.t 3,.t 4],sr [oP 0 2 (.mov (.c (.nils))),oC 1 3 0,oQ 2 4 false] qBB⟩
def qLB:List qC:=[oM 0 12 0,oD1 1 13 1107 12,oM 2 11 13,oV 3 14 11 0,oV 4 15 11 1,oV 5 16 11 2,oM 6 5 14,oM 7 6 15,oM 8 7 16]
def qLC:List qC:=[oM 0 19 6,oP 1 2 (.mov (.c (.nils))),oM 2 3 19,oC 3 4 6]
def qLD:List qC:=[oM 0 20 5,oM 1 2 20,oC 2 3 0,oC 3 4 0]
def qLA:qG:=.seq (sr [oM 0 8 0,oP 1 9 (.slen (.t 8)),oE 2 10 .gtr 9 20000] (.cond (.t 10) (sr [oP 0 2 (.mov (.c (.nils))),oC 1 3 0,oC 2 4 2] .ret) .skip)) (sr qLB (.seq (sr [oM 0 17 7,oJ 1 18 17] (.cond (.t 18) (sr qLC .ret) .skip)) (sr qLD .ret)))
def Yf:qJ:=⟨1,21,[.t 2,.t 3,.t 4],sr [oP 0 2 (.mov (.c (.nils))),oC 1 3 0,oC 2 4 0] qLA⟩
def qHI:List qC:=[oM 0 9 0,oD1 1 10 735 9,oM 2 8 10,oV 3 11 8 0,oV 4 12 8 1,oV 5 13 8 2,oM 6 5 11,oM 7 6 12,oM 8 7 13]
def qHJ:List qC:=[oM 0 16 6,oM 1 17 7,oP 2 2 (.mov (.c (.nilp))),oM 3 3 16,oM 4 4 17]
def qHK:List qC:=[oM 0 18 5,oP 1 19 (.build (.agg [.nils,.int .i64 0,.bool false]) [(0,1,.t 18)]),oP 2 20 (.hbox 3 (.t 19)),oM 3 2 20,oC 4 3 0,oC 5 4 0]
def YI:qJ:=⟨1,21,[.t 2,.t 3,.t 4],sr [oP 0 2 (.mov (.c (.nilp))),oC 1 3 0,oC 2 4 0] (sr qHI (.seq (sr [oM 0 14 7,oE 1 15 .neq 14 0] (.cond (.t 15) (sr qHJ .ret) .skip)) (sr qHK .ret)))⟩
def qGT:List qC:=[oY 0 5 2 0 3,oY 1 6 3 0 3,oP 2 7 (.bslice 3 (.agg [.int .i64 0,.str [],.nils]) 2 [(0,.t 5),(1,.t 6)]),oP 3 8 (.build (.agg [.int .i64 0,.str [],.nils]) [(0,1,.c (.int .i64 3)),(2,1,.t 7)]),oS 4 4 0 3 8]
def YA:qJ:=⟨2,9,[.l 4 (some 3)],sr [oP 0 2 (.lbox 3 (.t 0)),oP 1 3 (.lbox 3 (.t 1)),oP 2 4 (.lalloc (.agg [.int .i64 0,.str [],.nils]))] (sr qGT .ret)⟩
def qGS:List qC:=[oY 0 3 1 0 3,oP 1 4 (.bslice 3 (.agg [.int .i64 0,.str [],.nils]) 1 [(0,.t 3)]),oP 2 5 (.build (.agg [.int .i64 0,.str [],.nils]) [(0,1,.c (.int .i64 4)),(2,1,.t 4)]),oS 3 2 0 3 5]
def X9:qJ:=⟨1,6,[.l 2 (some 3)],sr [oP 0 1 (.lbox 3 (.t 0)),oP 1 2 (.lalloc (.agg [.int .i64 0,.str [],.nils]))] (sr qGS .ret)⟩
def YB:qJ:=⟨0,2,[.l 0 (some 3)],sr [oP 0 0 (.lalloc (.agg [.int .i64 0,.str [],.nils]))] (sr [oP 0 1 (.build (.agg [.int .i64 0,.str [],.nils]) [(0,1,.c (.int .i64 1))]),oS 1 0 0 3 1] .ret)⟩
def YC:qJ:=⟨1,5,[.l 2 (some 3)],sr [oP 0 2 (.lalloc (.agg [.int .i64 0,.str [],.nils]))] (sr [oM 0 3 0,oP 1 4 (.build (.agg [.int .i64 0,.str [],.nils]) [(0,1,.c (.int .i64 2)),(1,1,.t 3)]),oS 2 2 0 3 4] .ret)⟩
def qBJ:List qC:=[oM 0 5 0,oK 1 6 5,oF 2 7 2 6,oL 3 8 7,oJ 4 9 8,oM 5 10 9,oH 6 11 10 true 0,oG 7 12 10 true (.nilchk (.t 11)),oG 8 13 10 true (.faddr 1 (.t 12)),oG 9 14 10 true (.load none (.t 13)),oH 10 15 10 true 0,oG 11 16 10 true (.nilchk (.t 15)),oG 12 17 10 true (.faddr 0 (.t 16)),oG 13 18 10 true (.load none (.t 17)),oG 14 19 10 true (.len (.t 18)),oG 15 20 10 true (.bin .lss (.t 14) (.t 19)),oPf 16 21 10 20,oM 17 22 21,oH 18 23 22 true 0,oG 19 24 22 true (.nilchk (.t 23)),oG 20 25 22 true (.faddr 0 (.t 24)),oG 21 26 22 true (.load none (.t 25)),oH 22 27 22 true 0,oG 23 28 22 true (.nilchk (.t 27)),oG 24 29 22 true (.faddr 1 (.t 28)),oG 25 30 22 true (.load none (.t 29)),oG 26 31 22 true (.iaddr 3 (.t 26) (.t 30)),oG 27 32 22 true (.faddr 1 (.t 31)),oG 28 33 22 true (.load none (.t 32)),oH 29 34 22 true 1,oG 30 35 22 true (.sop .eql (.t 33) (.t 34)),oPf 31 36 22 35,oM 32 4 36]
def XG:qJ:=⟨2,37,[.t 4],sr [oQ 0 4 false] (sr qBJ .ret)⟩
def qLI:List qC:=[oM 0 5 0,oM 1 6 1,oD2 2 7 1108 5 6,oJ 3 8 7]
def qLJ:List qC:=[oM 0 9 0,oK 1 10 9,oF 2 11 1 10,oL 3 12 11,oE 4 13 .add 12 1,oK 5 14 9,oF 6 15 1 14,oT 7 1 15 13]
def Yg:qJ:=⟨2,16,[.t 4],sr [oQ 0 4 false] (.seq (sr qLI (.cond (.t 8) (sr [oQ 0 4 false] .ret) .skip)) (sr qLJ (sr [oQ 0 4 true] .ret)))⟩
def qBP:List qC:=[oM 0 5 0,oK 1 6 5,oF 2 7 2 6,oL 3 8 7,oJ 4 9 8,oM 5 10 9,oH 6 11 10 true 0,oG 7 12 10 true (.nilchk (.t 11)),oG 8 13 10 true (.faddr 1 (.t 12)),oG 9 14 10 true (.load none (.t 13)),oH 10 15 10 true 0,oG 11 16 10 true (.nilchk (.t 15)),oG 12 17 10 true (.faddr 0 (.t 16)),oG 13 18 10 true (.load none (.t 17)),oG 14 19 10 true (.len (.t 18)),oG 15 20 10 true (.bin .lss (.t 14) (.t 19)),oPf 16 21 10 20,oM 17 22 21,oH 18 23 22 true 0,oG 19 24 22 true (.nilchk (.t 23)),oG 20 25 22 true (.faddr 0 (.t 24)),oG 21 26 22 true (.load none (.t 25)),oH 22 27 22 true 0,oG 23 28 22 true (.nilchk (.t 27)),oG 24 29 22 true (.faddr 1 (.t 28)),oG 25 30 22 true (.load none (.t 29)),oG 26 31 22 true (.iaddr 3 (.t 26) (.t 30)),oG 27 32 22 true (.faddr 0 (.t 31)),oG 28 33 22 true (.load none (.t 32)),oH 29 34 22 true 1,oG 30 35 22 true (.bin .eql (.t 33) (.t 34)),oPf 31 36 22 35,oM 32 4 36]
def XJ:qJ:=⟨2,37,[.t 4],sr [oQ 0 4 false] (sr qBP .ret)⟩
def qMC:List qC:=[oM 0 5 0,oM 1 6 1,oD2 2 7 1185 5 6,oJ 3 8 7]
def qMD:List qC:=[oM 0 9 0,oK 1 10 9,oF 2 11 2 10,oN 3 (.store 1 (.t 11) (.c (.bool true)))]
def qME:List qC:=[oM 0 12 0,oK 1 13 12,oF 2 14 1 13,oL 3 15 14,oE 4 16 .add 15 1,oK 5 17 12,oF 6 18 1 17,oT 7 1 18 16]
def qMF:List qC:=[oM 0 19 0,oK 1 20 19,oF 2 21 0 20,oL 3 22 21,oM 4 23 0,oK 5 24 23,oF 6 25 1 24,oL 7 26 25,oE 8 27 .sub 26 1,oA 9 28 3 22 27,oF 10 29 1 28,oL 11 30 29,oM 12 4 30]
def Yl:qJ:=⟨2,31,[.t 4],sr [oP 0 4 (.mov (.c (.str [])))] (.seq (sr qMC (.cond (.t 8) (sr qMD (sr [oP 0 4 (.mov (.c (.str [])))] .ret)) .skip)) (sr qME (sr qMF .ret)))⟩
def qMG:List qC:=[oM 0 4 0,oM 1 5 1,oD2 2 6 737 4 5,oJ 3 7 6]
def qMH:List qC:=[oM 0 8 0,oK 1 9 8,oF 2 10 2 9,oN 3 (.store 1 (.t 10) (.c (.bool true)))]
def Ym:qJ:=⟨2,11,[],sr qMG (.cond (.t 7) (.reg true qMH) .skip)⟩
def qLG:List qC:=[oM 0 7 0,oD1 1 8 736 7,oD1 2 9 326 8,oS 3 2 0 3 9]
def qLH:List qC:=[oM 0 12 0,oD1 1 13 359 12,oP 2 3 (.lalloc (.agg [.int .i64 0,.str [],.nils])),oS 3 3 0 3 13]
def qLE:qG:=sr [oM 0 10 0,oP 1 11 (.call 737 [.t 10,.c (.str [40])])] (.cond (.t 11) (sr qLH (sr [oM 0 14 0,oP 1 15 (.call 872 [.t 14,.c (.str [41])])] (sr [oY 0 16 3 0 3,oS 1 2 0 3 16] .ret))) .skip)
def qLF:qG:=.seq (sr [oM 0 19 4,oP 1 20 (.sop .eql (.t 19) (.c (.str [73,110,116])))] (.cond (.t 20) (sr [oP 0 21 (.call 328 []),oS 1 2 0 3 21] .ret) .skip)) (sr [oM 0 22 4,oD1 1 23 329 22,oS 2 2 0 3 23] .ret)
def Zp:qJ:=⟨1,24,[.l 2 (some 3)],sr [oP 0 2 (.lalloc (.agg [.int .i64 0,.str [],.nils]))] (.seq (sr [oM 0 5 0,oP 1 6 (.call 737 [.t 5,.c (.str [33])])] (.cond (.t 6) (sr qLG .ret) .skip)) (.seq qLE (sr [oM 0 17 0,oP 1 18 (.call 871 [.t 17,.c (.int .i64 2)]),oM 2 4 18] qLF)))⟩
def qHL:List qC:=[oM 0 4 0,oD1 1 5 736 4,oP 2 3 (.lalloc (.agg [.int .i64 0,.str [],.nils])),oS 3 3 0 3 5]
def qHM:List qC:=[oY 0 8 3 0 3,oM 1 9 0,oD1 2 10 359 9,oD2 3 11 327 8 10,oS 4 2 0 3 11]
def Zo:qJ:=⟨1,13,[.l 2 (some 3)],sr [oP 0 2 (.lalloc (.agg [.int .i64 0,.str [],.nils]))] (sr qHL (.seq (sr [oM 0 6 0,oP 1 7 (.call 737 [.t 6,.c (.str [45,62])])] (.cond (.t 7) (sr qHM .ret) .skip)) (sr [oY 0 12 3 0 3,oS 1 2 0 3 12] .ret)))⟩
def qLK:List qC:=[oM 0 5 0,oK 1 6 5,oF 2 7 1 6,oL 3 8 7,oM 4 9 0,oK 5 10 9,oF 6 11 0 10,oL 7 12 11,oW 8 13 12,oB 9 14 .lss 8 13]
def qLL:List qC:=[oM 0 15 0,oK 1 16 15,oF 2 17 0 16,oL 3 18 17,oM 4 19 0,oK 5 20 19,oF 6 21 1 20,oL 7 22 21,oA 8 23 3 18 22,oF 9 24 2 23,oL 10 25 24,oM 11 4 25]
def Yh:qJ:=⟨2,28,[.t 4],sr [oC 0 4 0] (.seq (sr qLK (.cond (.t 14) (sr qLL .ret) .skip)) (sr [oM 0 26 1,oP 1 27 (.slen (.t 26)),oM 2 4 27] .ret))⟩
def qHN:List qC:=[oM 0 6 0,oK 1 7 6,oF 2 8 2 7,oL 3 9 8,oM 4 10 9,oH 5 11 10 false 0,oG 6 12 10 false (.nilchk (.t 11)),oG 7 13 10 false (.faddr 1 (.t 12)),oG 8 14 10 false (.load none (.t 13)),oH 9 15 10 false 0,oG 10 16 10 false (.nilchk (.t 15)),oG 11 17 10 false (.faddr 0 (.t 16)),oG 12 18 10 false (.load none (.t 17)),oG 13 19 10 false (.len (.t 18)),oG 14 20 10 false (.bin .lss (.t 14) (.t 19)),oPt 15 21 10 20]
def qHO:List qC:=[oM 0 22 0,oM 1 23 1,oD2 2 24 738 22 23,oM 3 4 24,oC 4 5 6]
def YJ:qJ:=⟨2,25,[.t 4,.t 5],sr [oC 0 4 0,oC 1 5 0] (.seq (sr qHN (.cond (.t 21) (sr qHO .ret) .skip)) (sr [oC 0 4 0,oC 1 5 0] .ret))⟩
def UQ:qJ:=eqS 3 (some 3) 101
def kn:List qC:=[oU 0 5 2,oX 1 6 2 0,oU 2 7 3,oX 3 8 3 0,oB 4 9 .neq 6 8]
def kp:List qC:=[oU 0 10 2,oX 1 11 2 1,oU 2 12 3,oX 3 13 3 1,oP 4 14 (.sop .neq (.t 11) (.t 13))]
def kq:List qC:=[oU 0 15 2,oX 1 16 2 2,oU 2 17 3,oX 3 18 3 2,oD2 4 19 361 16 18,oJ 5 20 19]
def kj:qG:=.seq (sr kn (.cond (.t 9) (sr [oQ 0 4 false] .ret) .skip)) (.seq (sr kp (.cond (.t 14) (sr [oQ 0 4 false] .ret) .skip)) (.seq (sr kq (.cond (.t 20) (sr [oQ 0 4 false] .ret) .skip)) (sr [oQ 0 4 true] .ret)))
def Wu:qJ:=⟨2,21,[.t 4],sr [oP 0 2 (.lbox 3 (.t 0)),oP 1 3 (.lbox 3 (.t 1)),oQ 2 4 false] kj⟩
def qLO:List qC:=[oM 0 8 0,oE 1 9 .rem 8 10,oP 2 10 (.bin .add (.c (.int .i64 48)) (.t 9)),oP 3 11 (.conv .u8 (.t 10)),oP 4 12 (.bslice 1 (.int .u8 0) 1 [(0,.t 11)]),oP 5 13 (.b2s (.t 12)),oM 6 14 3,oP 7 15 (.sop .add (.t 13) (.t 14)),oM 8 3 15]
def qLM:qG:=.loop (.seq (sr [oM 0 6 0,oE 1 7 .gtr 6 0] (.cond (.t 7) .skip (.exit 0))) (.blk 1 (sr qLO (.reg true [oM 0 16 0,oE 1 17 .quo 16 10,oM 2 0 17]))))
def qLN:qG:=.seq (sr [oM 0 4 0,oE 1 5 .leq 4 0] (.cond (.t 5) (sr [oP 0 2 (.mov (.c (.str [109,48])))] .ret) .skip)) (sr [oP 0 3 (.mov (.c (.str [])))] (.seq (.blk 0 qLM) (sr [oM 0 18 3,oP 1 19 (.sop .add (.c (.str [109])) (.t 18)),oM 2 2 19] .ret)))
def Yi:qJ:=⟨1,20,[.t 2],sr [oP 0 2 (.mov (.c (.str [])))] qLN⟩
def qHR:List qC:=[oM 0 6 5,oM 1 7 0,oW 2 8 7,oB 3 9 .lss 6 8]
def qHS:List qC:=[oM 0 12 0,oM 1 13 5,oM 2 14 1,oA 3 15 3 12 13,oF 4 16 0 15,oT 5 1 16 14]
def qHT:List qC:=[oM 0 19 0,oM 1 20 5,oM 2 21 1,oD1 3 22 739 21,oA 4 23 3 19 20,oF 5 24 1 23,oT 6 1 24 22]
def qHU:List qC:=[oM 0 27 0,oM 1 28 5,oA 2 29 3 27 28,oF 3 30 2 29,oL 4 31 30,oM 5 32 1,oD2 6 33 362 31 32,oM 7 1 33]
def qHP:qG:=sr [oM 0 17 1,oE 1 18 .add 17 1,oM 2 1 18] (sr qHT (sr [oM 0 25 1,oE 1 26 .add 25 1,oM 2 1 26] (.reg true qHU)))
def qHQ:qG:=sr [oC 0 5 0] (.blk 0 (.loop (.seq (sr qHR (.cond (.t 9) .skip (.exit 0))) (.seq (.blk 1 (sr qHS qHP)) (.reg true [oM 0 10 5,oE 1 11 .add 10 1,oM 2 5 11])))))
def YK:qJ:=⟨2,35,[.t 4],sr [oC 0 4 0] (.seq qHQ (sr [oM 0 34 1,oM 1 4 34] .ret))⟩
def ku:List qC:=[oU 0 5 2,oX 1 6 2 2,oM 2 7 1,oD2 3 8 362 6 7,oM 4 1 8]
def Wz:qJ:=⟨2,10,[.t 4],sr [oP 0 2 (.lbox 3 (.t 0)),oC 1 4 0] (sr ku (sr [oM 0 9 1,oM 1 4 9] .ret))⟩
def qHY:List qC:=[oM 0 6 5,oM 1 7 0,oW 2 8 7,oB 3 9 .lss 6 8]
def qHZ:List qC:=[oM 0 12 0,oM 1 13 5,oA 2 14 3 12 13,oF 3 15 0 14,oL 4 16 15,oM 5 17 1,oB 6 18 .neq 16 17]
def qH0:List qC:=[oM 0 21 0,oM 1 22 5,oA 2 23 3 21 22,oF 3 24 1 23,oL 4 25 24,oM 5 26 1,⟨6,some 27,none,.call 739 [.t 26],[⟨4,some 25,none,.load none (.t 24),[]⟩]⟩,oP 7 28 (.sop .neq (.t 25) (.t 27))]
def qH1:List qC:=[oM 0 31 0,oM 1 32 5,oA 2 33 3 31 32,oF 3 34 2 33,oL 4 35 34,oM 5 36 1,oD2 6 37 363 35 36,oM 7 1 37]
def qHV:qG:=sr [oM 0 29 1,oE 1 30 .add 29 1,oM 2 1 30] (sr qH1 (sr [oM 0 38 1,oE 1 39 .lss 38 0] (.cond (.t 39) (sr [oP 0 4 (.mov (.c (.int .i64 (-1))))] .ret) .skip)))
def qHW:qG:=.seq (sr qHZ (.cond (.t 18) (sr [oP 0 4 (.mov (.c (.int .i64 (-1))))] .ret) .skip)) (sr [oM 0 19 1,oE 1 20 .add 19 1,oM 2 1 20] (.seq (sr qH0 (.cond (.t 28) (sr [oP 0 4 (.mov (.c (.int .i64 (-1))))] .ret) .skip)) qHV))
def qHX:qG:=sr [oC 0 5 0] (.blk 0 (.loop (.seq (sr qHY (.cond (.t 9) .skip (.exit 0))) (.seq (.blk 1 qHW) (.reg true [oM 0 10 5,oE 1 11 .add 10 1,oM 2 5 11])))))
def YL:qJ:=⟨2,41,[.t 4],sr [oC 0 4 0] (.seq qHX (sr [oM 0 40 1,oM 1 4 40] .ret))⟩
def kx:List qC:=[oU 0 5 2,oX 1 6 2 2,oM 2 7 1,oD2 3 8 363 6 7,oM 4 1 8]
def kw:qG:=sr kx (.seq (sr [oM 0 9 1,oE 1 10 .lss 9 0] (.cond (.t 10) (sr [oP 0 4 (.mov (.c (.int .i64 (-1))))] .ret) .skip)) (sr [oM 0 11 1,oM 1 4 11] .ret))
def W0:qJ:=⟨2,12,[.t 4],sr [oP 0 2 (.lbox 3 (.t 0)),oC 1 4 0] kw⟩
def qHA:List qC:=[oM 0 10 0,oW 1 11 10,oM 2 12 1,oW 3 13 12,oB 4 14 .neq 11 13]
def qHB:List qC:=[oM 0 19 17,oA 1 20 3 15 17,oP 2 21 (.load (some 3) (.t 20)),oP 3 8 (.lalloc (.agg [.int .i64 0,.str [],.nils])),oM 4 7 19,oS 5 8 0 3 21]
def qHC:List qC:=[oM 0 22 1,oM 1 23 7,oA 2 24 3 22 23,oP 3 25 (.load (some 3) (.t 24)),oP 4 9 (.lalloc (.agg [.int .i64 0,.str [],.nils])),oS 5 9 0 3 25]
def qHD:List qC:=[oM 0 26 2,oY 1 27 8 0 3,oY 2 28 9 0 3,oP 3 29 (.callv (.t 26) [.t 27,.t 28]),oJ 4 30 29]
def qG8:qG:=sr [oB 0 18 .lss 17 16] (.seq (.cond (.t 18) .skip (.exit 0)) (.seq (.blk 1 (sr qHB (sr qHC (sr qHD (.cond (.t 30) (sr [oQ 0 6 false] .ret) .skip))))) (.reg true [oE 0 31 .add 17 1,oM 1 17 31])))
def qG9:qG:=.seq (sr qHA (.cond (.t 14) (sr [oQ 0 6 false] .ret) .skip)) (.seq (sr [oM 0 15 0,oW 1 16 15,oC 2 17 0] (.blk 0 (.loop qG8))) (sr [oQ 0 6 true] .ret))
def YE:qJ:=⟨3,32,[.t 6],sr [oQ 0 6 false] qG9⟩
def qLP:List qC:=[oU 0 5 2,oX 1 6 2 0,oU 2 7 3,oX 3 8 3 0,oB 4 9 .eql 6 8,oM 5 10 9,oG 6 11 10 true (.nop 2),oG 7 12 10 true (.lload 2 1 none),oG 8 13 10 true (.nop 3),oG 9 14 10 true (.lload 3 1 none),oG 10 15 10 true (.sop .eql (.t 12) (.t 14)),oPf 11 16 10 15,oM 12 17 16,oG 13 18 17 true (.nop 2),oG 14 19 17 true (.lload 2 2 none),oG 15 20 17 true (.nop 3),oG 16 21 17 true (.lload 3 2 none),oG 17 22 17 true (.call 332 [.t 19,.t 21,.f 73]),oPf 18 23 17 22,oM 19 4 23]
def F73:qJ:=⟨2,24,[.t 4],sr [oP 0 2 (.lbox 3 (.t 0)),oP 1 3 (.lbox 3 (.t 1)),oQ 2 4 false] (sr qLP .ret)⟩
def qAO:qG:=sr [oE 0 9 .eql 4 4,oM 1 8 9] (.cond (.t 8) .skip (sr [oE 0 10 .eql 4 6,oM 1 8 10] (.cond (.t 8) .skip (.reg true [oE 0 11 .eql 4 10,oM 1 8 11]))))
def qAP:qG:=sr [oE 0 13 .eql 4 3,oM 1 12 13] (.cond (.t 12) .skip (sr [oE 0 14 .eql 4 5,oM 1 12 14] (.cond (.t 12) .skip (.reg true [oE 0 15 .eql 4 7,oM 1 12 15]))))
def qAQ:qG:=.cond (.t 18) (sr [oC 0 2 2,oC 1 3 5] .ret) (sr [oE 0 21 .eql 4 11,oM 1 20 21] (.cond (.t 20) (sr [oC 0 2 3,oC 1 3 3] .ret) .skip))
def qAR:qG:=sr [oE 0 17 .eql 4 8,oM 1 16 17] (.cond (.t 16) (sr [oC 0 2 0,oC 1 3 3] .ret) (sr [oE 0 19 .eql 4 9,oM 1 18 19] qAQ))
def qAS:qG:=.cond (.t 5) (sr [oC 0 2 0,oC 1 3 0] .ret) (.seq qAO (.cond (.t 8) (sr [oC 0 2 1,oC 1 3 1] .ret) (.seq qAP (.cond (.t 12) (sr [oC 0 2 2,oC 1 3 2] .ret) qAR))))
def qAT:qG:=.seq (sr [oM 0 4 0] (.blk 0 (.seq (sr [oE 0 6 .eql 4 1,oM 1 5 6] (.cond (.t 5) .skip (.reg true [oE 0 7 .eql 4 2,oM 1 5 7]))) qAS))) (sr [oC 0 2 0,oP 1 3 (.mov (.c (.int .i64 (-1))))] .ret)
def XC:qJ:=⟨1,22,[.t 2,.t 3],sr [oC 0 2 0,oC 1 3 0] qAT⟩
def qCI:List qC:=[oU 0 3 1,oX 1 4 1 0,oE 2 5 .eql 4 0,oM 3 6 5,oG 4 7 6 true (.nop 1),oG 5 8 6 true (.lload 1 1 none),oG 6 9 6 true (.sop .eql (.t 8) (.c (.str []))),oPf 7 10 6 9,oM 8 11 10,oG 9 12 11 true (.nop 1),oG 10 13 11 true (.lload 1 2 none),oG 11 14 11 true (.len (.t 13)),oG 12 15 11 true (.bin .eql (.t 14) (.c (.int .i64 0))),oPf 13 16 11 15,oM 14 2 16]
def XW:qJ:=⟨1,17,[.t 2],sr [oP 0 1 (.lbox 3 (.t 0)),oQ 1 2 false] (sr qCI .ret)⟩
def qK8:List qC:=[oM 0 6 0,oW 1 7 6,oE 2 8 .sub 7 1,oM 3 5 8]
def qK9:List qC:=[oM 0 13 0,oM 1 14 5,oA 2 15 1 13 14,oL 3 16 15,oM 4 17 1,oP 5 18 (.sop .eql (.t 16) (.t 17))]
def qK7:qG:=.seq (sr [oM 0 9 5,oE 1 10 .geq 9 0] (.cond (.t 10) .skip (.exit 0))) (.seq (.blk 1 (sr qK9 (.cond (.t 18) (sr [oM 0 19 5,oM 1 4 19] .ret) .skip))) (.reg true [oM 0 11 5,oE 1 12 .sub 11 1,oM 2 5 12]))
def Yd:qJ:=⟨2,20,[.t 4],sr [oC 0 4 0] (.seq (sr qK8 (.blk 0 (.loop qK7))) (sr [oP 0 4 (.mov (.c (.int .i64 (-1))))] .ret))⟩
def qCK:List qC:=[oM 0 4 3,oM 1 5 0,oW 2 6 5,oB 3 7 .lss 4 6]
def qCL:List qC:=[oM 0 10 0,oM 1 11 3,oA 2 12 1 10 11,oL 3 13 12,oD1 4 14 1237 13,oJ 5 15 14,oM 6 16 15,oH 7 17 16 false 0,oH 8 18 16 false 3,oG 9 19 16 false (.slc 1 (.t 17) none (some (.t 18)) none),oH 10 20 16 false 0,oH 11 21 16 false 3,oG 12 22 16 false (.iaddr 1 (.t 20) (.t 21)),oG 13 23 16 false (.load none (.t 22)),oG 14 24 16 false (.call 729 [.t 19,.t 23]),oG 15 25 16 false (.bin .geq (.t 24) (.c (.int .i64 0))),oPt 16 26 16 25]
def qCJ:qG:=.loop (.seq (sr qCK (.cond (.t 7) .skip (.exit 0))) (.seq (.blk 1 (sr qCL (.cond (.t 26) (sr [oQ 0 2 false] .ret) .skip))) (.reg true [oM 0 8 3,oE 1 9 .add 8 1,oM 2 3 9])))
def XX:qJ:=⟨1,27,[.t 2],sr [oQ 0 2 false] (.seq (sr [oC 0 3 0] (.blk 0 qCJ)) (sr [oQ 0 2 true] .ret))⟩
def qAW:List qC:=[oM 0 5 0,oK 1 6 5,oF 2 7 0 6,oL 3 8 7,oE 4 9 .eql 8 1,oM 5 10 9,oH 6 11 10 false 0,oG 7 12 10 false (.nilchk (.t 11)),oG 8 13 10 false (.faddr 0 (.t 12)),oG 9 14 10 false (.load none (.t 13)),oG 10 15 10 false (.bin .eql (.t 14) (.c (.int .i64 4))),oPt 11 16 10 15,oM 12 17 16,oH 13 18 17 false 0,oG 14 19 17 false (.nilchk (.t 18)),oG 15 20 17 false (.faddr 0 (.t 19)),oG 16 21 17 false (.load none (.t 20)),oG 17 22 17 false (.bin .eql (.t 21) (.c (.int .i64 7))),oPt 18 23 17 22,oM 19 3 23]
def qAX:List qC:=[oM 0 24 0,oK 1 25 24,oF 2 26 0 25,oL 3 27 26,oE 4 28 .eql 27 8,oM 5 29 28,oH 6 30 29 false 0,oG 7 31 29 false (.nilchk (.t 30)),oG 8 32 29 false (.faddr 0 (.t 31)),oG 9 33 29 false (.load none (.t 32)),oG 10 34 29 false (.bin .eql (.t 33) (.c (.int .i64 10))),oPt 11 35 29 34,oM 12 4 35]
def qAZ:List qC:=[oM 0 36 3,oM 1 37 36,oH 2 38 37 true 0,oG 3 39 37 true (.nilchk (.t 38)),oG 4 40 37 true (.faddr 2 (.t 39)),oG 5 41 37 true (.load none (.t 40)),oG 6 42 37 true (.call 1237 [.t 41]),oG 7 43 37 true (.not (.t 42)),oPf 8 44 37 43,oM 9 45 44,oH 10 46 45 false 4,oH 11 47 45 false 46,oH 12 48 47 true 0,oG 13 49 47 true (.nilchk (.t 48)),oG 14 50 47 true (.faddr 2 (.t 49)),oG 15 51 47 true (.load none (.t 50)),oG 16 52 47 true (.call 921 [.t 51]),oG 17 53 47 true (.not (.t 52)),oG 18 54 45 false (.pick (.t 47) (.t 53) (.c (.bool false))),oPt 19 55 45 54,oM 20 56 55,oH 21 57 56 false 3,oG 22 58 56 false (.not (.t 57)),oH 23 59 56 false 58,oH 24 60 59 true 4,oG 25 61 59 true (.not (.t 60)),oG 26 62 56 false (.pick (.t 59) (.t 61) (.c (.bool false))),oH 27 63 56 false 62,oH 28 64 63 true 0,oG 29 65 63 true (.nilchk (.t 64)),oG 30 66 63 true (.faddr 2 (.t 65)),oG 31 67 63 true (.load none (.t 66)),oG 32 68 63 true (.sop .neq (.t 67) (.c (.str []))),oG 33 69 56 false (.pick (.t 63) (.t 68) (.c (.bool false))),oPt 34 70 56 69]
def qA0:List qC:=[oM 0 71 0,oK 1 72 71,oF 2 73 0 72,oL 3 74 73,oE 4 75 .eql 74 4,oM 5 76 75,oH 6 77 76 true 0,oG 7 78 76 true (.nilchk (.t 77)),oG 8 79 76 true (.faddr 3 (.t 78)),oG 9 80 76 true (.load (some 3) (.t 79)),oG 10 81 76 true (.call 208 [.t 80]),oG 11 82 76 true (.not (.t 81)),oPf 12 83 76 82,oM 13 84 83,oH 14 85 84 false 0,oG 15 86 84 false (.nilchk (.t 85)),oG 16 87 84 false (.faddr 0 (.t 86)),oG 17 88 84 false (.load none (.t 87)),oG 18 89 84 false (.bin .neq (.t 88) (.c (.int .i64 4))),oH 19 90 84 false 89,oH 20 91 90 true 0,oG 21 92 90 true (.nilchk (.t 91)),oG 22 93 90 true (.faddr 3 (.t 92)),oG 23 94 90 true (.load (some 3) (.t 93)),oG 24 95 90 true (.call 1391 [.t 94]),oG 25 96 90 true (.not (.t 95)),oG 26 97 84 false (.pick (.t 90) (.t 96) (.c (.bool false))),oPt 27 98 84 97]
def qA1:List qC:=[oM 0 99 0,oK 1 100 99,oF 2 101 0 100,oL 3 102 101,oE 4 103 .eql 102 10]
def qA2:List qC:=[oM 0 104 0,oK 1 105 104,oF 2 106 6 105,oL 3 107 106,oW 4 108 107,oE 5 109 .gtr 108 3,oM 6 110 109,oH 7 111 110 false 0,oG 8 112 110 false (.nilchk (.t 111)),oG 9 113 110 false (.faddr 6 (.t 112)),oG 10 114 110 false (.load none (.t 113)),oG 11 115 110 false (.call 1392 [.t 114]),oG 12 116 110 false (.not (.t 115)),oPt 13 117 110 116]
def qA3:List qC:=[oM 0 118 0,oK 1 119 118,oF 2 120 6 119,oL 3 121 120,oW 4 122 121,oE 5 123 .gtr 122 0]
def qA4:List qC:=[oM 0 124 0,oK 1 125 124,oF 2 126 0 125,oL 3 127 126]
def qA5:List qC:=[oM 0 130 0,oK 1 131 130,oF 2 132 1 131,oL 3 133 132,oP 4 134 (.call 340 [.t 133,.c (.int .i64 (-2147483648)),.c (.int .i64 2147483647)]),oM 5 2 134]
def qA6:List qC:=[oM 0 137 0,oK 1 138 137,oF 2 139 1 138,oL 3 140 139,oP 4 141 (.call 340 [.t 140,.c (.int .i64 1),.c (.int .i64 6)]),oM 5 2 141]
def qAU:qG:=sr qA4 (.blk 0 (sr [oE 0 129 .eql 127 2,oM 1 128 129] (.cond (.t 128) (sr qA5 .ret) (sr [oE 0 136 .eql 127 3,oM 1 135 136] (.cond (.t 135) (sr qA6 .ret) .skip)))))
def qAY:List qC:=[oM 0 142 0,oK 1 143 142,oF 2 144 1 143,oL 3 145 144,oE 4 146 .eql 145 0,oM 5 2 146]
def qAV:qG:=.seq (sr qA0 (.cond (.t 98) (sr [oQ 0 2 false] .ret) .skip)) (.seq (sr qA1 (.cond (.t 103) (sr qA2 (.cond (.t 117) (sr [oQ 0 2 false] .ret) .skip)) (sr qA3 (.cond (.t 123) (sr [oQ 0 2 false] .ret) .skip)))) (.seq qAU (sr qAY .ret)))
def XD:qJ:=⟨1,147,[.t 2],sr [oQ 0 2 false] (sr qAW (sr qAX (.seq (sr qAZ (.cond (.t 70) (sr [oQ 0 2 false] .ret) .skip)) qAV)))⟩
def qK2:List qC:=[oM 0 15 0,oK 1 16 15,oF 2 17 0 16,oL 3 18 17,oD1 4 19 1104 18,oM 5 14 19,oV 6 20 14 0,oV 7 21 14 1,oM 8 9 20,oM 9 10 21]
def qK3:List qC:=[oM 0 22 1,oE 1 23 .lss 22 1,oM 2 24 23,oH 3 25 24 false 3,oG 4 26 24 false (.bin .lss (.t 25) (.c (.int .i64 1))),oPt 5 27 24 26,oM 6 28 27,oH 7 29 28 false 0,oG 8 30 28 false (.nilchk (.t 29)),oG 9 31 28 false (.faddr 0 (.t 30)),oG 10 32 28 false (.load none (.t 31)),oG 11 33 28 false (.bin .eql (.t 32) (.c (.int .i64 10))),oH 12 34 28 false 2,oG 13 35 28 false (.beq true (.t 33) (.t 34)),oPt 14 36 28 35,oM 15 37 36,oH 16 38 37 false 0,oG 17 39 37 false (.nilchk (.t 38)),oG 18 40 37 false (.faddr 7 (.t 39)),oG 19 41 37 false (.load none (.t 40)),oG 20 42 37 false (.len (.t 41)),oH 21 43 37 false 9,oH 22 44 37 false 10,oG 23 45 37 false (.call 340 [.t 42,.t 43,.t 44]),oG 24 46 37 false (.not (.t 45)),oPt 25 47 37 46,oM 26 48 47,oH 27 49 48 false 0,oG 28 50 48 false (.call 1105 [.t 49]),oG 29 51 48 false (.not (.t 50)),oPt 30 52 48 51]
def qK4:List qC:=[oM 0 53 12,oM 1 54 0,oK 2 55 54,oF 3 56 7 55,oL 4 57 56,oW 5 58 57,oB 6 59 .lss 53 58]
def qK5:List qC:=[oM 0 62 0,oK 1 63 62,oF 2 64 7 63,oL 3 65 64,oM 4 66 12,oA 5 67 8 65 66,oM 6 68 1,oE 7 69 .sub 68 1,oM 8 70 0,oK 9 71 70,oF 10 72 0 71,oL 11 73 72,oE 12 74 .eql 73 9,oM 13 75 74,oH 14 76 75 true 12,oG 15 77 75 true (.bin .gtr (.t 76) (.c (.int .i64 0))),oPf 16 78 75 77,oM 17 79 3,oM 18 80 11,oB 19 81 .sub 79 80,oP 20 82 (.call 728 [.t 67,.t 69,.t 78,.t 81]),oM 21 13 82]
def qK6:List qC:=[oM 0 85 11,oM 1 86 13,oB 2 87 .add 85 86,oM 3 11 87]
def qK0:qG:=.seq (.blk 1 (sr qK5 (.seq (sr [oM 0 83 13,oE 1 84 .lss 83 0] (.cond (.t 84) (sr [oP 0 8 (.mov (.c (.int .i64 (-1))))] .ret) .skip)) (.reg true qK6)))) (.reg true [oM 0 60 12,oE 1 61 .add 60 1,oM 2 12 61])
def qK1:qG:=sr [oC 0 11 1] (.seq (sr [oC 0 12 0] (.blk 0 (.loop (.seq (sr qK4 (.cond (.t 59) .skip (.exit 0))) qK0)))) (sr [oM 0 88 11,oM 1 8 88] .ret))
def Yc:qJ:=⟨4,89,[.t 8],sr [oC 0 8 0] (sr qK2 (.seq (sr qK3 (.cond (.t 52) (sr [oP 0 8 (.mov (.c (.int .i64 (-1))))] .ret) .skip)) qK1))⟩
def qHH:List qC:=[oM 0 3 0,oP 1 4 (.call 728 [.t 3,.c (.int .i64 24),.c (.bool false),.c (.int .i64 160)]),oE 2 5 .gtr 4 0,oM 3 2 5]
def YH:qJ:=⟨1,6,[.t 2],sr [oQ 0 2 false] (sr qHH .ret)⟩
def F98:qJ:=⟨1,4,[.t 2],sr [oP 0 1 (.hbox 8 (.t 0)),oQ 1 2 false] (sr [oD1 0 3 350 1,oM 1 2 3] .ret)⟩
def Xh:qJ:=⟨0,2,[.t 0],sr [oP 0 0 (.mov (.c (.nils)))] (sr [oP 0 1 (.bslice 1 (.str []) 6 [(0,.c (.str [43])),(1,.c (.str [45])),(2,.c (.str [42])),(3,.c (.str [47])),(4,.c (.str [60])),(5,.c (.str [61]))]),oM 1 0 1] .ret)⟩
def qC1:List qC:=[oM 0 4 3,oP 1 5 (.call 1470 []),oW 2 6 5,oB 3 7 .lss 4 6]
def qC2:List qC:=[oP 0 10 (.call 1470 []),oM 1 11 3,oA 2 12 1 10 11,oL 3 13 12,oM 4 14 0,oP 5 15 (.sop .eql (.t 13) (.t 14))]
def qC0:qG:=.seq (.blk 1 (sr qC2 (.cond (.t 15) (sr [oM 0 16 3,oE 1 17 .add 16 1,oM 2 2 17] .ret) .skip))) (.reg true [oM 0 8 3,oE 1 9 .add 8 1,oM 2 3 9])
def Xb:qJ:=⟨1,18,[.t 2],sr [oC 0 2 0] (.seq (sr [oC 0 3 0] (.blk 0 (.loop (.seq (sr qC1 (.cond (.t 7) .skip (.exit 0))) qC0)))) (sr [oC 0 2 0] .ret))⟩
def qBU:List qC:=[oM 0 8 0,oK 1 9 8,oF 2 10 2 9,oL 3 11 10,oM 4 12 11,oH 5 13 12 false 0,oG 6 14 12 false (.nilchk (.t 13)),oG 7 15 12 false (.faddr 1 (.t 14)),oG 8 16 12 false (.load none (.t 15)),oH 9 17 12 false 0,oG 10 18 12 false (.nilchk (.t 17)),oG 11 19 12 false (.faddr 0 (.t 18)),oG 12 20 12 false (.load none (.t 19)),oG 13 21 12 false (.len (.t 20)),oG 14 22 12 false (.bin .geq (.t 16) (.t 21)),oPt 15 23 12 22]
def qBV:List qC:=[oM 0 24 0,oK 1 25 24,oF 2 26 0 25,oL 3 27 26,oM 4 28 0,oK 5 29 28,oF 6 30 1 29,oL 7 31 30,oA 8 32 3 27 31,oF 9 33 1 32,oL 10 34 33,oD1 11 35 1424 34,oM 12 7 35]
def qBW:List qC:=[oM 0 36 7,oM 1 37 1,oM 2 38 2,oP 3 39 (.call 340 [.t 36,.t 37,.t 38]),oJ 4 40 39]
def qBX:List qC:=[oM 0 41 0,oK 1 42 41,oF 2 43 1 42,oL 3 44 43,oE 4 45 .add 44 1,oK 5 46 41,oF 6 47 1 46,oT 7 1 47 45]
def qBT:qG:=.seq (sr qBU (.cond (.t 23) (sr [oC 0 6 0] .ret) .skip)) (sr qBV (.seq (sr qBW (.cond (.t 40) (sr [oC 0 6 0] .ret) .skip)) (sr qBX (sr [oM 0 48 7,oM 1 6 48] .ret))))
def XL:qJ:=⟨3,49,[.t 6],sr [oC 0 6 0] qBT⟩
def qCF:List qC:=[oM 0 3 0,oK 1 4 3,oF 2 5 2 4,oL 3 6 5]
def XU:qJ:=⟨1,10,[.l 2 (some 8)],sr [oP 0 2 (.lalloc (.agg [.int .i64 0,.int .i64 0,.str [],.int .i64 0,.str [],.nils,.nils,.nils]))] (.seq (sr qCF (.cond (.t 6) (sr [oP 0 7 (.build (.agg [.int .i64 0,.int .i64 0,.str [],.int .i64 0,.str [],.nils,.nils,.nils]) []),oS 1 2 0 8 7] .ret) .skip)) (sr [oM 0 8 0,oD1 1 9 509 8,oS 2 2 0 8 9] .ret))⟩
def qEI:List qC:=[oM 0 4 0,oP 1 5 (.call 871 [.t 4,.c (.int .i64 2)]),oP 2 6 (.build (.agg [.int .i64 0,.int .i64 0,.str [],.int .i64 0,.str [],.nils,.nils,.nils]) [(0,1,.c (.int .i64 8)),(2,1,.t 5)]),oP 3 3 (.lalloc (.agg [.int .i64 0,.int .i64 0,.str [],.int .i64 0,.str [],.nils,.nils,.nils])),oS 4 3 0 8 6]
def qEJ:List qC:=[oU 0 11 3,oX 1 12 3 7,oM 2 13 0,oD1 3 14 509 13,oP 4 15 (.bslice 8 (.agg [.int .i64 0,.int .i64 0,.str [],.int .i64 0,.str [],.nils,.nils,.nils]) 1 [(0,.t 14)]),oP 5 16 (.app 8 (.t 12) (.t 15)),oU 6 17 3,oS 7 3 7 1 16]
def qEK:List qC:=[oU 0 20 3,oX 1 21 3 7,oM 2 22 0,oD1 3 23 509 22,oP 4 24 (.bslice 8 (.agg [.int .i64 0,.int .i64 0,.str [],.int .i64 0,.str [],.nils,.nils,.nils]) 1 [(0,.t 23)]),oP 5 25 (.app 8 (.t 21) (.t 24)),oU 6 26 3,oS 7 3 7 1 25]
def qEG:qG:=.seq (.blk 0 (.loop (.seq (sr [oM 0 18 0,oP 1 19 (.call 737 [.t 18,.c (.str [44])])] (.cond (.t 19) .skip (.exit 0))) (.blk 1 (.reg true qEK))))) (sr [oM 0 27 0,oP 1 28 (.call 872 [.t 27,.c (.str [93])])] (sr [oY 0 29 3 0 8,oS 1 2 0 8 29] .ret))
def qEH:qG:=sr qEI (.seq (sr [oM 0 7 0,oP 1 8 (.call 737 [.t 7,.c (.str [91])]),oJ 2 9 8] (.cond (.t 9) (sr [oY 0 10 3 0 8,oS 1 2 0 8 10] .ret) .skip)) (sr qEJ qEG))
def Xs:qJ:=⟨1,30,[.l 2 (some 8)],sr [oP 0 2 (.lalloc (.agg [.int .i64 0,.int .i64 0,.str [],.int .i64 0,.str [],.nils,.nils,.nils]))] qEH⟩
def qEN:List qC:=[oM 0 10 7,oM 1 11 5,oP 2 12 (.slen (.t 11)),oB 3 13 .lss 10 12]
def qEO:List qC:=[oM 0 16 6,oP 1 17 (.bin .mul (.c (.int .i64 10)) (.t 16)),oM 2 18 5,oM 3 19 7,oP 4 20 (.sidx (.t 18) (.t 19)),oP 5 21 (.bin .sub (.t 20) (.c (.int .u8 48))),oP 6 22 (.conv .i64 (.t 21)),oB 7 23 .add 17 22,oM 8 6 23]
def qEL:qG:=sr [oC 0 7 0] (.blk 0 (.loop (.seq (sr qEN (.cond (.t 13) .skip (.exit 0))) (.seq (.blk 1 (.reg true qEO)) (.reg true [oM 0 14 7,oE 1 15 .add 14 1,oM 2 7 15])))))
def qEP:List qC:=[oM 0 27 0,oK 1 28 27,oF 2 29 1 28,oL 3 30 29,oE 4 31 .sub 30 1,oK 5 32 27,oF 6 33 1 32,oT 7 1 33 31]
def qEQ:List qC:=[oM 0 34 0,oK 1 35 34,oF 2 36 2 35,oN 3 (.store 1 (.t 36) (.c (.bool true)))]
def qEM:qG:=.seq (sr [oM 0 24 6,oM 1 25 1,oB 2 26 .gtr 24 25] (.cond (.t 26) (sr qEP (.reg true qEQ)) .skip)) (sr [oM 0 37 6,oM 1 4 37] .ret)
def Xt:qJ:=⟨2,38,[.t 4],sr [oC 0 4 0] (sr [oM 0 8 0,oP 1 9 (.call 871 [.t 8,.c (.int .i64 4)]),oM 2 5 9] (sr [oC 0 6 0] (.seq qEL qEM)))⟩
def qE9:List qC:=[oM 0 4 0,oP 1 5 (.call 871 [.t 4,.c (.int .i64 2)]),oP 2 6 (.build (.agg [.int .i64 0,.int .i64 0,.str [],.int .i64 0,.str [],.nils,.nils,.nils]) [(0,1,.c (.int .i64 10)),(2,1,.t 5)]),oP 3 3 (.lalloc (.agg [.int .i64 0,.int .i64 0,.str [],.int .i64 0,.str [],.nils,.nils,.nils])),oS 4 3 0 8 6]
def qFA:List qC:=[oU 0 9 3,oX 1 10 3 6,oM 2 11 0,oP 3 12 (.call 871 [.t 11,.c (.int .i64 1)]),oP 4 13 (.bslice 1 (.str []) 1 [(0,.t 12)]),oP 5 14 (.app 1 (.t 10) (.t 13)),oU 6 15 3,oS 7 3 6 1 14]
def qFB:List qC:=[oU 0 18 3,oX 1 19 3 6,oM 2 20 0,oP 3 21 (.call 871 [.t 20,.c (.int .i64 1)]),oP 4 22 (.bslice 1 (.str []) 1 [(0,.t 21)]),oP 5 23 (.app 1 (.t 19) (.t 22)),oU 6 24 3,oS 7 3 6 1 23]
def qE7:qG:=.seq (.blk 0 (.loop (.seq (sr [oM 0 16 0,oP 1 17 (.call 737 [.t 16,.c (.str [44])])] (.cond (.t 17) .skip (.exit 0))) (.blk 1 (.reg true qFB))))) (.reg true [oM 0 25 0,oP 1 26 (.call 872 [.t 25,.c (.str [93])])])
def qFC:List qC:=[oM 0 29 0,oD1 1 30 1333 29,oP 2 31 (.bslice 8 (.agg [.int .i64 0,.int .i64 0,.str [],.int .i64 0,.str [],.nils,.nils,.nils]) 1 [(0,.t 30)]),oU 3 32 3,oS 4 3 7 1 31]
def qE8:qG:=.seq (sr [oM 0 7 0,oP 1 8 (.call 737 [.t 7,.c (.str [91])])] (.cond (.t 8) (sr qFA qE7) .skip)) (sr [oM 0 27 0,oP 1 28 (.call 872 [.t 27,.c (.str [45,62])])] (sr qFC (sr [oY 0 33 3 0 8,oS 1 2 0 8 33] .ret)))
def Xz:qJ:=⟨1,34,[.l 2 (some 8)],sr [oP 0 2 (.lalloc (.agg [.int .i64 0,.int .i64 0,.str [],.int .i64 0,.str [],.nils,.nils,.nils]))] (sr qE9 qE8)⟩
def qES:List qC:=[oM 0 6 0,oD1 1 7 509 6,oP 2 8 (.bslice 8 (.agg [.int .i64 0,.int .i64 0,.str [],.int .i64 0,.str [],.nils,.nils,.nils]) 1 [(0,.t 7)]),oP 3 9 (.build (.agg [.int .i64 0,.int .i64 0,.str [],.int .i64 0,.str [],.nils,.nils,.nils]) [(0,1,.c (.int .i64 9)),(7,1,.t 8)]),oP 4 3 (.lalloc (.agg [.int .i64 0,.int .i64 0,.str [],.int .i64 0,.str [],.nils,.nils,.nils])),oS 5 3 0 8 9]
def qET:List qC:=[oU 0 12 3,oX 1 13 3 7,oM 2 14 0,oD1 3 15 1559 14,oP 4 16 (.bslice 8 (.agg [.int .i64 0,.int .i64 0,.str [],.int .i64 0,.str [],.nils,.nils,.nils]) 1 [(0,.t 15)]),oP 5 17 (.app 8 (.t 13) (.t 16)),oU 6 18 3,oS 7 3 7 1 17]
def qEU:List qC:=[oU 0 21 3,oX 1 22 3 7,oM 2 23 0,oD1 3 24 1559 23,oP 4 25 (.bslice 8 (.agg [.int .i64 0,.int .i64 0,.str [],.int .i64 0,.str [],.nils,.nils,.nils]) 1 [(0,.t 24)]),oP 5 26 (.app 8 (.t 22) (.t 25)),oU 6 27 3,oS 7 3 7 1 26]
def qER:qG:=.seq (.blk 0 (.loop (.seq (sr [oM 0 19 0,oP 1 20 (.call 737 [.t 19,.c (.str [59])])] (.cond (.t 20) .skip (.exit 0))) (.blk 1 (.reg true qEU))))) (sr [oM 0 28 0,oP 1 29 (.call 872 [.t 28,.c (.str [125])])] (sr [oY 0 30 3 0 8,oS 1 2 0 8 30] .ret))
def Xu:qJ:=⟨1,31,[.l 2 (some 8)],sr [oP 0 2 (.lalloc (.agg [.int .i64 0,.int .i64 0,.str [],.int .i64 0,.str [],.nils,.nils,.nils]))] (sr [oM 0 4 0,oP 1 5 (.call 872 [.t 4,.c (.str [109,97,116,99,104])])] (sr qES (sr [oM 0 10 0,oP 1 11 (.call 872 [.t 10,.c (.str [123])])] (sr qET qER))))⟩
def qD1:List qC:=[oM 0 7 0,oD1 1 8 1537 7,oP 2 9 (.bslice 8 (.agg [.int .i64 0,.int .i64 0,.str [],.int .i64 0,.str [],.nils,.nils,.nils]) 1 [(0,.t 8)]),oP 3 10 (.build (.agg [.int .i64 0,.int .i64 0,.str [],.int .i64 0,.str [],.nils,.nils,.nils]) [(0,1,.c (.int .i64 6)),(7,1,.t 9)]),oS 4 2 0 8 10]
def qD2:List qC:=[oM 0 14 0,oP 1 15 (.call 871 [.t 14,.c (.int .i64 1)]),oP 2 16 (.build (.agg [.int .i64 0,.int .i64 0,.str [],.int .i64 0,.str [],.nils,.nils,.nils]) [(0,1,.c (.int .i64 1)),(2,1,.t 15)]),oS 3 2 0 8 16]
def qD3:List qC:=[oM 0 25 0,oP 1 26 (.call 1551 [.t 25,.c (.int .i64 2147483647)]),oP 2 27 (.build (.agg [.int .i64 0,.int .i64 0,.str [],.int .i64 0,.str [],.nils,.nils,.nils]) [(0,1,.c (.int .i64 2)),(1,1,.t 26)]),oS 3 2 0 8 27]
def qDW:qG:=.cond (.t 22) (sr qD3 .ret) (sr [oM 0 29 0,oP 1 30 (.call 1108 [.t 29,.c (.str [109,97,116,99,104])]),oM 2 28 30] (.cond (.t 28) (sr [oM 0 31 0,oD1 1 32 1552 31,oS 2 2 0 8 32] .ret) .skip))
def qDX:qG:=sr [oM 0 18 0,oP 1 19 (.call 1185 [.t 18,.c (.int .i64 2)]),oM 2 17 19] (.cond (.t 17) (sr [oM 0 20 0,oD1 1 21 1550 20,oS 2 2 0 8 21] .ret) (sr [oM 0 23 0,oP 1 24 (.call 1185 [.t 23,.c (.int .i64 4)]),oM 2 22 24] qDW))
def qD4:List qC:=[oM 0 41 3,oP 1 42 (.neg (.t 41)),oP 2 43 (.build (.agg [.int .i64 0,.int .i64 0,.str [],.int .i64 0,.str [],.nils,.nils,.nils]) [(0,1,.c (.int .i64 2)),(1,1,.t 42)]),oS 3 2 0 8 43]
def qDY:qG:=sr [oM 0 35 0,oP 1 36 (.call 737 [.t 35,.c (.str [45])])] (.cond (.t 36) (sr [oM 0 37 0,oP 1 38 (.call 1551 [.t 37,.c (.int .i64 2147483648)]),oM 2 3 38] (sr [oM 0 39 0,oP 1 40 (.call 872 [.t 39,.c (.str [41])])] (sr qD4 .ret))) .skip)
def qD5:List qC:=[oM 0 44 0,oD1 1 45 1333 44,oP 2 4 (.lalloc (.agg [.int .i64 0,.int .i64 0,.str [],.int .i64 0,.str [],.nils,.nils,.nils])),oS 3 4 0 8 45]
def qDZ:qG:=sr [oM 0 33 0,oP 1 34 (.call 872 [.t 33,.c (.str [40])])] (.seq qDY (sr qD5 (sr [oM 0 46 0,oP 1 47 (.call 872 [.t 46,.c (.str [41])])] (sr [oY 0 48 4 0 8,oS 1 2 0 8 48] .ret))))
def qD0:qG:=.seq (sr [oM 0 5 0,oP 1 6 (.call 737 [.t 5,.c (.str [33])])] (.cond (.t 6) (sr qD1 .ret) .skip)) (.seq (.blk 0 (sr [oM 0 12 0,oP 1 13 (.call 1185 [.t 12,.c (.int .i64 1)]),oM 2 11 13] (.cond (.t 11) (sr qD2 .ret) qDX))) qDZ)
def Xo:qJ:=⟨1,49,[.l 2 (some 8)],sr [oP 0 2 (.lalloc (.agg [.int .i64 0,.int .i64 0,.str [],.int .i64 0,.str [],.nils,.nils,.nils]))] qD0⟩
def qD6:List qC:=[oM 0 3 0,oP 1 4 (.call 1185 [.t 3,.c (.int .i64 1)]),oM 2 5 4,oH 3 6 5 false 0,oG 4 7 5 false (.call 1185 [.t 6,.c (.int .i64 2)]),oPt 5 8 5 7,oM 6 9 8,oH 7 10 9 false 0,oG 8 11 9 false (.call 1185 [.t 10,.c (.int .i64 4)]),oPt 9 12 9 11,oM 10 13 12,oH 11 14 13 false 0,oG 12 15 13 false (.call 1108 [.t 14,.c (.str [40])]),oPt 13 16 13 15,oM 14 17 16,oH 15 18 17 false 0,oG 16 19 17 false (.call 1108 [.t 18,.c (.str [33])]),oPt 17 20 17 19,oM 18 21 20,oH 19 22 21 false 0,oG 20 23 21 false (.call 1108 [.t 22,.c (.str [109,97,116,99,104])]),oPt 21 24 21 23,oM 22 2 24]
def Xp:qJ:=⟨1,25,[.t 2],sr [oQ 0 2 false] (sr qD6 .ret)⟩
def qDR:List qC:=[oM 0 4 0,oD1 1 5 1537 4,oP 2 3 (.lalloc (.agg [.int .i64 0,.int .i64 0,.str [],.int .i64 0,.str [],.nils,.nils,.nils])),oS 3 3 0 8 5]
def qDS:List qC:=[oY 0 8 3 0 8,oM 1 9 0,oD1 2 10 1537 9,oP 3 11 (.bslice 8 (.agg [.int .i64 0,.int .i64 0,.str [],.int .i64 0,.str [],.nils,.nils,.nils]) 2 [(0,.t 8),(1,.t 10)]),oP 4 12 (.build (.agg [.int .i64 0,.int .i64 0,.str [],.int .i64 0,.str [],.nils,.nils,.nils]) [(0,1,.c (.int .i64 5)),(7,1,.t 11)]),oS 5 3 0 8 12]
def qDQ:qG:=.seq (.blk 0 (.loop (.seq (sr [oM 0 6 0,oD1 1 7 1538 6] (.cond (.t 7) .skip (.exit 0))) (.blk 1 (.reg true qDS))))) (sr [oY 0 13 3 0 8,oS 1 2 0 8 13] .ret)
def Xl:qJ:=⟨1,14,[.l 2 (some 8)],sr [oP 0 2 (.lalloc (.agg [.int .i64 0,.int .i64 0,.str [],.int .i64 0,.str [],.nils,.nils,.nils]))] (sr qDR qDQ)⟩
def qCY:List qC:=[oM 0 5 0,oD1 1 6 1510 5,oP 2 3 (.lalloc (.agg [.int .i64 0,.int .i64 0,.str [],.int .i64 0,.str [],.nils,.nils,.nils])),oS 3 3 0 8 6]
def qCZ:List qC:=[oM 0 12 4,oY 1 13 3 0 8,oM 2 14 0,oD1 3 15 1510 14,oP 4 16 (.bslice 8 (.agg [.int .i64 0,.int .i64 0,.str [],.int .i64 0,.str [],.nils,.nils,.nils]) 2 [(0,.t 13),(1,.t 15)]),oP 5 17 (.build (.agg [.int .i64 0,.int .i64 0,.str [],.int .i64 0,.str [],.nils,.nils,.nils]) [(0,1,.c (.int .i64 3)),(1,1,.t 12),(7,1,.t 16)]),oS 6 3 0 8 17]
def qCX:qG:=sr [oM 0 7 0,oP 1 8 (.call 1187 [.t 7,.c (.int .i64 3),.c (.int .i64 4)]),oM 2 4 8] (.seq (sr [oM 0 9 4,oE 1 10 .eql 9 0] (.cond (.t 10) (sr [oY 0 11 3 0 8,oS 1 2 0 8 11] .ret) .skip)) (.reg true qCZ))
def Xa:qJ:=⟨1,18,[.l 2 (some 8)],sr [oP 0 2 (.lalloc (.agg [.int .i64 0,.int .i64 0,.str [],.int .i64 0,.str [],.nils,.nils,.nils]))] (sr qCY (.blk 0 (.loop (.blk 1 qCX))))⟩
def qBR:List qC:=[oM 0 5 0,oD1 1 6 1423 5,oP 2 3 (.lalloc (.agg [.int .i64 0,.int .i64 0,.str [],.int .i64 0,.str [],.nils,.nils,.nils])),oS 3 3 0 8 6]
def qBS:List qC:=[oM 0 12 4,oY 1 13 3 0 8,oM 2 14 0,oD1 3 15 1423 14,oP 4 16 (.bslice 8 (.agg [.int .i64 0,.int .i64 0,.str [],.int .i64 0,.str [],.nils,.nils,.nils]) 2 [(0,.t 13),(1,.t 15)]),oP 5 17 (.build (.agg [.int .i64 0,.int .i64 0,.str [],.int .i64 0,.str [],.nils,.nils,.nils]) [(0,1,.c (.int .i64 3)),(1,1,.t 12),(7,1,.t 16)]),oS 6 3 0 8 17]
def qBQ:qG:=sr [oM 0 7 0,oP 1 8 (.call 1187 [.t 7,.c (.int .i64 1),.c (.int .i64 2)]),oM 2 4 8] (.seq (sr [oM 0 9 4,oE 1 10 .eql 9 0] (.cond (.t 10) (sr [oY 0 11 3 0 8,oS 1 2 0 8 11] .ret) .skip)) (.reg true qBS))
def XK:qJ:=⟨1,18,[.l 2 (some 8)],sr [oP 0 2 (.lalloc (.agg [.int .i64 0,.int .i64 0,.str [],.int .i64 0,.str [],.nils,.nils,.nils]))] (sr qBR (.blk 0 (.loop (.blk 1 qBQ))))⟩
def qMJ:List qC:=[oM 0 5 0,oD1 1 6 1186 5,oP 2 3 (.lalloc (.agg [.int .i64 0,.int .i64 0,.str [],.int .i64 0,.str [],.nils,.nils,.nils])),oS 3 3 0 8 6]
def qMK:List qC:=[oM 0 12 4,oY 1 13 3 0 8,oM 2 14 0,oD1 3 15 1186 14,oP 4 16 (.bslice 8 (.agg [.int .i64 0,.int .i64 0,.str [],.int .i64 0,.str [],.nils,.nils,.nils]) 2 [(0,.t 13),(1,.t 15)]),oP 5 17 (.build (.agg [.int .i64 0,.int .i64 0,.str [],.int .i64 0,.str [],.nils,.nils,.nils]) [(0,1,.c (.int .i64 3)),(1,1,.t 12),(7,1,.t 16)]),oS 6 2 0 8 17]
def qMI:qG:=sr [oM 0 7 0,oP 1 8 (.call 1187 [.t 7,.c (.int .i64 5),.c (.int .i64 6)]),oM 2 4 8] (.seq (sr [oM 0 9 4,oE 1 10 .eql 9 0] (.cond (.t 10) (sr [oY 0 11 3 0 8,oS 1 2 0 8 11] .ret) .skip)) (sr qMK .ret))
def Yn:qJ:=⟨1,18,[.l 2 (some 8)],sr [oP 0 2 (.lalloc (.agg [.int .i64 0,.int .i64 0,.str [],.int .i64 0,.str [],.nils,.nils,.nils]))] (sr qMJ qMI)⟩
def qIH:List qC:=[oM 0 9 0,oP 1 10 (.call 871 [.t 9,.c (.int .i64 1)]),oP 2 11 (.build (.agg [.int .i64 0,.int .i64 0,.str [],.int .i64 0,.str [],.nils,.nils,.nils]) [(0,1,.c (.int .i64 4)),(2,1,.t 10)]),oP 3 3 (.lalloc (.agg [.int .i64 0,.int .i64 0,.str [],.int .i64 0,.str [],.nils,.nils,.nils])),oS 4 3 0 8 11]
def qII:List qC:=[oM 0 14 0,oD1 1 15 359 14,oU 2 16 3,oS 3 3 3 3 15]
def qIK:List qC:=[oM 0 19 0,oD1 1 20 509 19,oP 2 21 (.bslice 8 (.agg [.int .i64 0,.int .i64 0,.str [],.int .i64 0,.str [],.nils,.nils,.nils]) 1 [(0,.t 20)]),oU 3 22 3,oS 4 3 7 1 21]
def qIF:qG:=sr [oM 0 12 0,oP 1 13 (.call 872 [.t 12,.c (.str [58])])] (sr qII (sr [oM 0 17 0,oP 1 18 (.call 872 [.t 17,.c (.str [46])])] (sr qIK (sr [oY 0 23 3 0 8,oS 1 2 0 8 23] .ret))))
def qIL:List qC:=[oM 0 27 0,oP 1 28 (.call 871 [.t 27,.c (.int .i64 1)]),oP 2 29 (.build (.agg [.int .i64 0,.int .i64 0,.str [],.int .i64 0,.str [],.nils,.nils,.nils]) [(0,1,.c (.int .i64 7)),(2,1,.t 28)]),oP 3 4 (.lalloc (.agg [.int .i64 0,.int .i64 0,.str [],.int .i64 0,.str [],.nils,.nils,.nils])),oS 4 4 0 8 29]
def qIM:List qC:=[oU 0 32 4,oX 1 33 4 7,oM 2 34 0,oD1 3 35 509 34,oP 4 36 (.bslice 8 (.agg [.int .i64 0,.int .i64 0,.str [],.int .i64 0,.str [],.nils,.nils,.nils]) 1 [(0,.t 35)]),oP 5 37 (.app 8 (.t 33) (.t 36)),oU 6 38 4,oS 7 4 7 1 37]
def qIN:List qC:=[oU 0 41 4,oX 1 42 4 7,oM 2 43 0,oD1 3 44 509 43,oP 4 45 (.bslice 8 (.agg [.int .i64 0,.int .i64 0,.str [],.int .i64 0,.str [],.nils,.nils,.nils]) 1 [(0,.t 44)]),oP 5 46 (.app 8 (.t 42) (.t 45)),oU 6 47 4,oS 7 4 7 1 46]
def qIG:qG:=sr [oM 0 30 0,oP 1 31 (.call 872 [.t 30,.c (.str [61])])] (sr qIM (sr [oM 0 39 0,oP 1 40 (.call 872 [.t 39,.c (.str [105,110])])] (sr qIN (sr [oY 0 48 4 0 8,oS 1 2 0 8 48] .ret))))
def qIO:List qC:=[oU 0 53 5,oX 1 54 5 7,oM 2 55 0,oD1 3 56 509 55,oP 4 57 (.bslice 8 (.agg [.int .i64 0,.int .i64 0,.str [],.int .i64 0,.str [],.nils,.nils,.nils]) 1 [(0,.t 56)]),oP 5 58 (.app 8 (.t 54) (.t 57)),oU 6 59 5,oS 7 5 7 1 58]
def qIP:List qC:=[oU 0 62 5,oX 1 63 5 7,oM 2 64 0,oD1 3 65 509 64,oP 4 66 (.bslice 8 (.agg [.int .i64 0,.int .i64 0,.str [],.int .i64 0,.str [],.nils,.nils,.nils]) 1 [(0,.t 65)]),oP 5 67 (.app 8 (.t 63) (.t 66)),oU 6 68 5,oS 7 5 7 1 67]
def qIJ:List qC:=[oU 0 71 5,oX 1 72 5 7,oM 2 73 0,oD1 3 74 509 73,oP 4 75 (.bslice 8 (.agg [.int .i64 0,.int .i64 0,.str [],.int .i64 0,.str [],.nils,.nils,.nils]) 1 [(0,.t 74)]),oP 5 76 (.app 8 (.t 72) (.t 75)),oU 6 77 5,oS 7 5 7 1 76]
def qIC:qG:=sr [oM 0 60 0,oP 1 61 (.call 872 [.t 60,.c (.str [116,104,101,110])])] (sr qIP (sr [oM 0 69 0,oP 1 70 (.call 872 [.t 69,.c (.str [101,108,115,101])])] (sr qIJ (sr [oY 0 78 5 0 8,oS 1 2 0 8 78] .ret))))
def qID:qG:=sr [oM 0 50 0,oP 1 51 (.call 737 [.t 50,.c (.str [105,102])]),oM 2 49 51] (.cond (.t 49) (sr [oP 0 52 (.build (.agg [.int .i64 0,.int .i64 0,.str [],.int .i64 0,.str [],.nils,.nils,.nils]) [(0,1,.c (.int .i64 11))]),oP 1 5 (.lalloc (.agg [.int .i64 0,.int .i64 0,.str [],.int .i64 0,.str [],.nils,.nils,.nils])),oS 2 5 0 8 52] (sr qIO qIC)) .skip)
def qIE:qG:=sr [oM 0 7 0,oP 1 8 (.call 737 [.t 7,.c (.str [92])]),oM 2 6 8] (.cond (.t 6) (sr qIH qIF) (sr [oM 0 25 0,oP 1 26 (.call 737 [.t 25,.c (.str [108,101,116])]),oM 2 24 26] (.cond (.t 24) (sr qIL qIG) qID)))
def YN:qJ:=⟨1,81,[.l 2 (some 8)],sr [oP 0 2 (.lalloc (.agg [.int .i64 0,.int .i64 0,.str [],.int .i64 0,.str [],.nils,.nils,.nils]))] (.seq (.blk 0 qIE) (sr [oM 0 79 0,oD1 1 80 873 79,oS 2 2 0 8 80] .ret))⟩
def qFI:List qC:=[oM 0 10 0,oD1 1 11 358 10,oM 2 9 11,oV 3 12 9 0,oV 4 13 9 1,oV 5 14 9 2,oM 6 5 12,oM 7 6 13,oM 8 7 14]
def qFJ:List qC:=[oP 0 17 (.build (.agg [.int .i64 0,.int .i64 0,.str [],.int .i64 0,.str [],.nils,.nils,.nils]) []),oM 1 18 6,oM 2 19 7,oS 3 2 0 8 17,oM 4 3 18,oM 5 4 19]
def qFK:List qC:=[oM 0 20 5,oD1 1 21 509 20,oP 2 8 (.lalloc (.agg [.int .i64 0,.int .i64 0,.str [],.int .i64 0,.str [],.nils,.nils,.nils])),oS 3 8 0 8 21]
def qFL:List qC:=[oM 0 23 5,oM 1 24 0,oD2 2 25 360 23 24,oM 3 22 25,oV 4 26 22 0,oV 5 27 22 1,oM 6 6 26,oM 7 7 27]
def qFM:List qC:=[oP 0 30 (.build (.agg [.int .i64 0,.int .i64 0,.str [],.int .i64 0,.str [],.nils,.nils,.nils]) []),oM 1 31 6,oM 2 32 7,oS 3 2 0 8 30,oM 4 3 31,oM 5 4 32]
def qFN:List qC:=[oP 0 36 (.build (.agg [.int .i64 0,.int .i64 0,.str [],.int .i64 0,.str [],.nils,.nils,.nils]) []),oS 1 2 0 8 36,oC 2 3 0,oC 3 4 1]
def qFO:List qC:=[oY 0 37 8 0 8,oS 1 2 0 8 37,oC 2 3 0,oC 3 4 0]
def qFH:qG:=.seq (sr [oM 0 28 7,oE 1 29 .neq 28 0] (.cond (.t 29) (sr qFM .ret) .skip)) (.seq (sr [oY 0 33 8 0 8,oD1 1 34 98 33,oJ 2 35 34] (.cond (.t 35) (sr qFN .ret) .skip)) (sr qFO .ret))
def X2:qJ:=⟨1,38,[.l 2 (some 8),.t 3,.t 4],sr [oP 0 2 (.lalloc (.agg [.int .i64 0,.int .i64 0,.str [],.int .i64 0,.str [],.nils,.nils,.nils])),oC 1 3 0,oC 2 4 0] (sr qFI (.seq (sr [oM 0 15 7,oE 1 16 .neq 15 0] (.cond (.t 16) (sr qFJ .ret) .skip)) (sr qFK (sr qFL qFH))))⟩
def kz:List qC:=[oM 0 3 0,oE 1 4 .geq 3 1,oM 2 5 4,oH 3 6 5 true 0,oG 4 7 5 true (.bin .leq (.t 6) (.c (.int .i64 6))),oPf 5 8 5 7,oM 6 2 8]
def W4:qJ:=⟨1,9,[.t 2],sr [oQ 0 2 false] (sr kz .ret)⟩
def qBK:List qC:=[oY 0 3 1 0 3,oP 1 4 (.build (.agg [.int .i64 0,.str [],.nils]) []),oD2 2 5 73 3 4,oM 3 2 5]
def XH:qJ:=⟨1,6,[.t 2],sr [oP 0 1 (.lbox 3 (.t 0)),oQ 1 2 false] (sr qBK .ret)⟩
def qBM:List qC:=[oM 0 9 7,oA 1 10 1 5 7,oL 2 11 10,oM 3 3 9,oM 4 4 11]
def qBN:List qC:=[oM 0 12 4,oD1 1 13 889 12,oJ 2 14 13,oM 3 15 14,oH 4 16 15 false 0,oH 5 17 15 false 3,oG 6 18 15 false (.slc 1 (.t 16) none (some (.t 17)) none),oH 7 19 15 false 4,oG 8 20 15 false (.call 732 [.t 18,.t 19]),oPt 9 21 15 20]
def qBL:qG:=sr [oB 0 8 .lss 7 6] (.seq (.cond (.t 8) .skip (.exit 0)) (.seq (.blk 1 (sr qBM (sr qBN (.cond (.t 21) (sr [oQ 0 2 false] .ret) .skip)))) (.reg true [oE 0 22 .add 7 1,oM 1 7 22])))
def qBO:List qC:=[oM 0 23 0,oW 1 24 23,oE 2 25 .leq 24 3,oM 3 2 25]
def XI:qJ:=⟨1,26,[.t 2],sr [oQ 0 2 false] (.seq (sr [oM 0 5 0,oW 1 6 5,oC 2 7 0] (.blk 0 (.loop qBL))) (sr qBO .ret))⟩
def qLX:List qC:=[oU 0 8 1,oY 1 9 1 3 3,oD1 2 10 1143 9,oM 3 3 10]
def qLY:List qC:=[oU 0 11 1,oX 1 12 1 0,oE 2 13 .neq 12 10,oM 3 14 13,oG 4 15 14 true (.nop 1),oG 5 16 14 true (.lload 1 6 none),oG 6 17 14 true (.len (.t 16)),oG 7 18 14 true (.bin .gtr (.t 17) (.c (.int .i64 0))),oPf 8 19 14 18,oM 9 20 19,oG 10 21 20 false (.nop 1),oG 11 22 20 false (.lload 1 0 none),oG 12 23 20 false (.bin .neq (.t 22) (.c (.int .i64 4))),oH 13 24 20 false 23,oH 14 25 24 true 3,oG 15 26 24 true (.not (.t 25)),oG 16 27 20 false (.pick (.t 24) (.t 26) (.c (.bool false))),oPt 17 28 20 27,oM 18 29 28,oG 19 30 29 false (.nop 1),oG 20 31 29 false (.lload 1 0 none),oG 21 32 29 false (.bin .neq (.t 31) (.c (.int .i64 2))),oH 22 33 29 false 32,oG 23 34 33 true (.nop 1),oG 24 35 33 true (.lload 1 0 none),oG 25 36 33 true (.bin .neq (.t 35) (.c (.int .i64 3))),oG 26 37 29 false (.pick (.t 33) (.t 36) (.c (.bool false))),oH 27 38 29 false 37,oG 28 39 38 true (.nop 1),oG 29 40 38 true (.lload 1 1 none),oG 30 41 38 true (.bin .neq (.t 40) (.c (.int .i64 0))),oG 31 42 29 false (.pick (.t 38) (.t 41) (.c (.bool false))),oPt 32 43 29 42]
def qL4:List qC:=[oU 0 44 1,oX 1 45 1 2,oP 2 46 (.sop .eql (.t 45) (.c (.str []))),oU 3 47 1,oX 4 48 1 2,oU 6 50 1,oX 7 51 1 2,oD1 5 49 889 48,oD1 8 52 717 51,oM 9 4 46,oM 10 5 49,oM 11 6 52]
def qL5:List qC:=[oU 0 53 1,oX 1 54 1 7,oW 2 55 54,oM 3 7 55]
def qL6:List qC:=[oM 0 60 5,oM 1 61 60,oH 2 62 61 true 7,oG 3 63 61 true (.bin .eql (.t 62) (.c (.int .i64 0))),oPf 4 64 61 63,oM 5 2 64]
def qL7:List qC:=[oM 0 67 4,oM 1 68 67,oH 2 69 68 true 7,oG 3 70 68 true (.bin .eql (.t 69) (.c (.int .i64 0))),oPf 4 71 68 70,oM 5 72 71,oG 6 73 72 true (.nop 1),oG 7 74 72 true (.lload 1 1 none),oG 8 75 72 true (.call 1051 [.t 74]),oPf 9 76 72 75,oM 10 2 76]
def qL8:List qC:=[oM 0 79 4,oM 1 80 79,oH 2 81 80 true 7,oG 3 82 80 true (.bin .eql (.t 81) (.c (.int .i64 2))),oPf 4 83 80 82,oM 5 84 83,oG 6 85 84 true (.nop 1),oG 7 86 84 true (.lload 1 1 none),oG 8 87 84 true (.call 1050 [.t 86]),oPf 9 88 84 87,oM 10 2 88]
def qL9:List qC:=[oM 0 91 5,oM 1 92 91,oH 2 93 92 true 7,oG 3 94 92 true (.bin .eql (.t 93) (.c (.int .i64 1))),oPf 4 95 92 94,oM 5 96 95,oG 6 97 96 true (.nop 1),oG 7 98 96 true (.lload 1 3 (some 3)),oG 8 99 96 true (.call 74 [.t 98]),oPf 9 100 96 99,oM 10 2 100]
def qMA:List qC:=[oM 0 103 4,oM 1 104 103,oH 2 105 104 true 7,oG 3 106 104 true (.bin .eql (.t 105) (.c (.int .i64 2))),oPf 4 107 104 106,oM 5 2 107]
def qMB:List qC:=[oM 0 110 4,oM 1 111 110,oH 2 112 111 true 7,oG 3 113 111 true (.bin .eql (.t 112) (.c (.int .i64 1))),oPf 4 114 111 113,oM 5 2 114]
def qLZ:List qC:=[oM 0 117 5,oM 1 118 117,oH 2 119 118 true 7,oG 3 120 118 true (.bin .eql (.t 119) (.c (.int .i64 2))),oPf 4 121 118 120,oM 5 2 121]
def qL0:List qC:=[oM 0 124 6,oM 1 125 124,oH 2 126 125 true 7,oG 3 127 125 true (.bin .leq (.t 126) (.c (.int .i64 3))),oPf 4 128 125 127,oM 5 2 128]
def qL1:List qC:=[oM 0 131 4,oM 1 132 131,oH 2 133 132 true 7,oG 3 134 132 true (.bin .geq (.t 133) (.c (.int .i64 2))),oPf 4 135 132 134,oM 5 136 135,oH 6 137 136 true 7,oG 7 138 136 true (.bin .leq (.t 137) (.c (.int .i64 5))),oPf 8 139 136 138,oM 9 2 139]
def qL2:List qC:=[oM 0 142 6,oM 1 143 142,oH 2 144 143 true 7,oG 3 145 143 true (.bin .eql (.t 144) (.c (.int .i64 1))),oPf 4 146 143 145,oM 5 147 146,oG 6 148 147 true (.nop 1),oG 7 149 147 true (.lload 1 6 none),oG 8 150 147 true (.call 1144 [.t 149]),oPf 9 151 147 150,oM 10 2 151]
def qL3:List qC:=[oM 0 154 4,oM 1 155 154,oH 2 156 155 true 7,oG 3 157 155 true (.bin .eql (.t 156) (.c (.int .i64 3))),oPf 4 158 155 157,oM 5 2 158]
def qLS:qG:=.cond (.t 129) (sr qL1 .ret) (sr [oE 0 141 .eql 57 10,oM 1 140 141] (.cond (.t 140) (sr qL2 .ret) (sr [oE 0 153 .eql 57 11,oM 1 152 153] (.cond (.t 152) (sr qL3 .ret) .skip))))
def qLT:qG:=sr [oE 0 116 .eql 57 7,oM 1 115 116] (.cond (.t 115) (sr qLZ .ret) (sr [oE 0 123 .eql 57 8,oM 1 122 123] (.cond (.t 122) (sr qL0 .ret) (sr [oE 0 130 .eql 57 9,oM 1 129 130] qLS))))
def qLU:qG:=.cond (.t 89) (sr qL9 .ret) (sr [oE 0 102 .eql 57 5,oM 1 101 102] (.cond (.t 101) (sr qMA .ret) (sr [oE 0 109 .eql 57 6,oM 1 108 109] (.cond (.t 108) (sr qMB .ret) qLT))))
def qLV:qG:=sr [oE 0 66 .eql 57 2,oM 1 65 66] (.cond (.t 65) (sr qL7 .ret) (sr [oE 0 78 .eql 57 3,oM 1 77 78] (.cond (.t 77) (sr qL8 .ret) (sr [oE 0 90 .eql 57 4,oM 1 89 90] qLU))))
def qLW:qG:=.seq (sr [oU 0 56 1,oX 1 57 1 0] (.blk 0 (sr [oE 0 59 .eql 57 1,oM 1 58 59] (.cond (.t 58) (sr qL6 .ret) qLV)))) (sr [oQ 0 2 false] .ret)
def Yj:qJ:=⟨1,159,[.t 2],sr [oP 0 1 (.lbox 8 (.t 0)),oQ 1 2 false] (sr qLX (.seq (sr qLY (.cond (.t 43) (sr [oQ 0 2 false] .ret) .skip)) (sr qL4 (sr qL5 qLW))))⟩
def qH5:List qC:=[oP 0 1 (.lbox 8 (.t 0)),oC 1 2 0,oC 2 3 0,oQ 3 4 false]
def qH6:List qC:=[oU 0 13 1,oX 1 14 1 7,oW 2 15 14,oC 3 16 0]
def qH7:List qC:=[oM 0 18 16,oA 1 19 8 14 16,oP 2 20 (.load (some 8) (.t 19)),oP 3 6 (.lalloc (.agg [.int .i64 0,.int .i64 0,.str [],.int .i64 0,.str [],.nils,.nils,.nils])),oM 4 5 18,oS 5 6 0 8 20]
def qH8:List qC:=[oU 0 21 6,oX 1 22 6 0,oE 2 23 .eql 22 10,oU 3 24 1,oX 4 25 1 0,oE 5 26 .eql 25 9,oM 6 27 26,oH 7 28 27 true 5,oG 8 29 27 true (.bin .gtr (.t 28) (.c (.int .i64 0))),oPf 9 30 27 29,oP 10 31 (.beq true (.t 23) (.t 30))]
def qH9:List qC:=[oY 0 33 6 0 8,oD1 1 34 445 33,oM 2 32 34,oV 3 35 32 0,oV 4 36 32 1,oV 5 37 32 2,oM 6 7 35,oM 7 8 36,oM 8 9 37]
def qIA:List qC:=[oM 0 40 2,oM 1 41 7,oE 2 42 .add 41 1,oP 3 43 (.max (.t 40) (.t 42)),oM 4 44 3,oM 5 45 8,oB 6 46 .add 44 45,oM 7 2 43,oM 8 3 46]
def qH2:qG:=sr qH9 (.seq (sr [oM 0 38 9,oJ 1 39 38] (.cond (.t 39) (sr [oC 0 2 0,oC 1 3 0,oQ 2 4 false] .ret) .skip)) (.reg true qIA))
def qH3:qG:=.seq (.blk 1 (sr qH7 (.seq (sr qH8 (.cond (.t 31) (sr [oC 0 2 0,oC 1 3 0,oQ 2 4 false] .ret) .skip)) qH2))) (.reg true [oE 0 47 .add 16 1,oM 1 16 47])
def qIB:List qC:=[oM 0 48 2,oM 1 49 3,oM 2 2 48,oM 3 3 49,oQ 4 4 true]
def qH4:qG:=sr [oC 0 2 1,oC 1 3 1] (.seq (sr qH6 (.blk 0 (.loop (sr [oB 0 17 .lss 16 15] (.seq (.cond (.t 17) .skip (.exit 0)) qH3))))) (sr qIB .ret))
def YM:qJ:=⟨1,50,[.t 2,.t 3,.t 4],sr qH5 (.seq (sr [oY 0 10 1 0 8,oD1 1 11 807 10,oJ 2 12 11] (.cond (.t 12) (sr [oC 0 2 0,oC 1 3 0,oQ 2 4 false] .ret) .skip)) qH4)⟩
def qDD:List qC:=[oY 0 7 1 0 8,oD1 1 8 445 7,oM 2 6 8,oV 3 9 6 0,oV 4 10 6 1,oV 5 11 6 2,oM 6 3 9,oM 7 4 10,oM 8 5 11]
def qDE:List qC:=[oM 0 12 5,oM 1 13 12,oG 2 14 13 true (.nop 1),oG 3 15 13 true (.lload 1 0 none),oG 4 16 13 true (.bin .neq (.t 15) (.c (.int .i64 10))),oPf 5 17 13 16,oM 6 18 17,oH 7 19 18 true 3,oG 8 20 18 true (.bin .leq (.t 19) (.c (.int .i64 24))),oPf 9 21 18 20,oM 10 22 21,oH 11 23 22 true 4,oG 12 24 22 true (.bin .leq (.t 23) (.c (.int .i64 160))),oPf 13 25 22 24,oM 14 2 25]
def Xd:qJ:=⟨1,26,[.t 2],sr [oP 0 1 (.lbox 8 (.t 0)),oQ 1 2 false] (sr qDD (sr qDE .ret))⟩
def kZ:List qC:=[oM 0 6 0,oE 1 7 .sub 6 1,oM 2 8 0,oP 3 9 (.sslc (.c (.str [43,45,42,47,60,61])) (some (.t 7)) (some (.t 8))),oM 4 2 9]
def Ws:qJ:=⟨1,10,[.t 2],sr [oP 0 2 (.mov (.c (.str [])))] (.seq (sr [oM 0 3 0,oD1 1 4 1050 3,oJ 2 5 4] (.cond (.t 5) (sr [oP 0 2 (.mov (.c (.str [])))] .ret) .skip)) (sr kZ .ret))⟩
def qCH:List qC:=[oM 0 8 3,oD1 1 9 1002 8,oM 2 10 0,oP 3 11 (.sop .eql (.t 9) (.t 10))]
def qCG:qG:=.seq (sr [oM 0 4 3,oE 1 5 .leq 4 6] (.cond (.t 5) .skip (.exit 0))) (.seq (.blk 1 (sr qCH (.cond (.t 11) (sr [oM 0 12 3,oM 1 2 12] .ret) .skip))) (.reg true [oM 0 6 3,oE 1 7 .add 6 1,oM 2 3 7]))
def XV:qJ:=⟨1,13,[.t 2],sr [oC 0 2 0] (.seq (sr [oC 0 3 1] (.blk 0 (.loop qCG))) (sr [oC 0 2 0] .ret))⟩
def qB3:qG:=sr [oA 0 11 1 7 9,oL 1 12 11,oM 2 6 12] (sr [oM 0 13 0,oM 1 14 6,oD2 2 15 721 13 14] (.cond (.t 15) (sr [oM 0 16 6,oD1 1 17 1383 16,oM 2 4 17] .ret) .skip))
def qB4:qG:=sr [oM 0 7 1,oW 1 8 7,oC 2 9 0] (.blk 0 (.loop (sr [oB 0 10 .lss 9 8] (.seq (.cond (.t 10) .skip (.exit 0)) (.seq (.blk 1 qB3) (.reg true [oE 0 18 .add 9 1,oM 1 9 18]))))))
def XN:qJ:=⟨2,19,[.t 4],sr [oC 0 4 0] (.seq qB4 (sr [oC 0 4 0] .ret))⟩
def qB5:List qC:=[oM 0 7 0,oY 1 8 4 0 8,oY 2 9 5 0 8,oP 3 10 (.bslice 8 (.agg [.int .i64 0,.int .i64 0,.str [],.int .i64 0,.str [],.nils,.nils,.nils]) 2 [(0,.t 8),(1,.t 9)]),oP 4 11 (.build (.agg [.int .i64 0,.int .i64 0,.str [],.int .i64 0,.str [],.nils,.nils,.nils]) [(0,1,.c (.int .i64 3)),(1,1,.t 7),(7,1,.t 10)]),oS 5 6 0 8 11]
def XO:qJ:=⟨3,12,[.l 6 (some 8)],sr [oP 0 4 (.lbox 8 (.t 1)),oP 1 5 (.lbox 8 (.t 2)),oP 2 6 (.lalloc (.agg [.int .i64 0,.int .i64 0,.str [],.int .i64 0,.str [],.nils,.nils,.nils]))] (sr qB5 .ret)⟩
def qCC:qG:=.seq (.blk 0 (.loop (.seq (sr [oM 0 9 0,oP 1 10 (.call 721 [.t 9,.c (.str [44])])] (.cond (.t 10) .skip (.exit 0))) (.blk 1 (.reg true [oM 0 11 1,oP 1 12 (.callv (.t 11) [])]))))) (.reg true [oM 0 13 0,oP 1 14 (.call 876 [.t 13,.c (.str [93])])])
def Zn:qJ:=⟨2,15,[],.seq (sr [oM 0 4 0,oP 1 5 (.call 721 [.t 4,.c (.str [91])]),oJ 2 6 5] (.cond (.t 6) .ret .skip)) (sr [oM 0 7 1,oP 1 8 (.callv (.t 7) [])] qCC)⟩
def qE2:List qC:=[oM 0 8 0,oD1 1 9 1101 8,oP 2 10 (.fld 1 none (.t 9)),oM 3 5 10]
def qE3:List qC:=[oM 0 11 0,oD1 1 12 1101 11,oP 2 13 (.fld 0 none (.t 12)),oE 3 14 .neq 13 4,oM 4 15 14,oH 5 16 15 false 1,oG 6 17 15 false (.not (.t 16)),oH 7 18 15 false 17,oH 8 19 18 true 5,oG 9 20 18 true (.sop .eql (.t 19) (.c (.str [50,49,52,55,52,56,51,54,52,56]))),oG 10 21 15 false (.pick (.t 18) (.t 20) (.c (.bool false))),oPt 11 22 15 21]
def qE4:List qC:=[oM 0 25 0,oK 1 26 25,oF 2 27 1 26,oL 3 28 27,oE 4 29 .add 28 1,oK 5 30 25,oF 6 31 1 30,oT 7 1 31 29]
def qE5:List qC:=[oM 0 32 1,oM 1 33 32,oH 2 34 33 true 5,oG 3 35 33 true (.sop .neq (.t 34) (.c (.str [48]))),oPf 4 36 33 35]
def qE6:List qC:=[oM 0 40 5,oD1 1 41 1091 40,oM 2 39 41,oV 3 42 39 0,oV 4 43 39 1,oM 5 6 42,oM 6 7 43]
def qE1:qG:=.seq (sr qE5 (.cond (.t 36) (.reg true [oM 0 37 5,oP 1 38 (.sop .add (.c (.str [45])) (.t 37)),oM 2 5 38]) .skip)) (sr qE6 (sr [oM 0 44 6,oP 1 45 (.build (.agg [.int .i64 0,.int .i64 0,.str [],.int .i64 0,.str [],.nils,.nils,.nils]) [(0,1,.c (.int .i64 2)),(1,1,.t 44)]),oS 2 4 0 8 45] .ret))
def Xy:qJ:=⟨2,46,[.l 4 (some 8)],sr [oP 0 4 (.lalloc (.agg [.int .i64 0,.int .i64 0,.str [],.int .i64 0,.str [],.nils,.nils,.nils]))] (sr qE2 (.seq (sr qE3 (.cond (.t 22) (.reg true [oM 0 23 0,oD1 1 24 719 23]) .skip)) (sr qE4 qE1)))⟩
def qEV:qG:=sr [oM 0 4 0,oP 1 5 (.call 721 [.t 4,.c (.str [45])])] (.cond (.t 5) (.reg true [oM 0 6 0,oP 1 7 (.call 1556 [.t 6,.c (.bool true)]),oS 2 3 0 8 7]) (.reg true [oM 0 8 0,oD1 1 9 511 8,oS 2 3 0 8 9]))
def Xv:qJ:=⟨1,13,[.l 2 (some 8)],sr [oP 0 2 (.lalloc (.agg [.int .i64 0,.int .i64 0,.str [],.int .i64 0,.str [],.nils,.nils,.nils]))] (sr [oP 0 3 (.lalloc (.agg [.int .i64 0,.int .i64 0,.str [],.int .i64 0,.str [],.nils,.nils,.nils]))] (.seq qEV (sr [oM 0 10 0,oP 1 11 (.call 876 [.t 10,.c (.str [41])])] (sr [oY 0 12 3 0 8,oS 1 2 0 8 12] .ret))))⟩
def qFG:List qC:=[oF 0 2 6 0,oL 1 3 2,oL 2 4 1,⟨3,some 5,none,.call 875 [.t 4,.c (.int .i64 1)],[⟨1,some 3,none,.load none (.t 2),[]⟩]⟩,oP 4 6 (.bslice 1 (.str []) 1 [(0,.t 5)]),oP 5 7 (.app 1 (.t 3) (.t 6)),oF 6 8 6 0,oT 7 1 8 7]
def X1:qJ:=⟨2,9,[],.reg true qFG⟩
def qFE:List qC:=[oL 0 4 1,oP 1 5 (.call 875 [.t 4,.c (.int .i64 2)]),oP 2 6 (.build (.agg [.int .i64 0,.int .i64 0,.str [],.int .i64 0,.str [],.nils,.nils,.nils]) [(0,1,.c (.int .i64 10)),(2,1,.t 5)]),oP 3 3 (.halloc 8 (.agg [.int .i64 0,.int .i64 0,.str [],.int .i64 0,.str [],.nils,.nils,.nils])),oT 4 8 3 6]
def qFF:List qC:=[oL 0 12 1,oD1 1 13 511 12,oP 2 14 (.bslice 8 (.agg [.int .i64 0,.int .i64 0,.str [],.int .i64 0,.str [],.nils,.nils,.nils]) 1 [(0,.t 13)]),oF 3 15 7 3,oT 4 1 15 14]
def qFD:qG:=sr [oL 0 7 1,oP 1 8 (.mkfn 1561 [.t 3,.t 1]),oD2 2 9 1327 7 8] (sr [oL 0 10 1,oP 1 11 (.call 876 [.t 10,.c (.str [45,62])])] (sr qFF (sr [oP 0 16 (.load (some 8) (.t 3)),oS 1 2 0 8 16] .ret)))
def X0:qJ:=⟨1,17,[.l 2 (some 8)],sr [oP 0 1 (.hbox 1 (.t 0)),oP 1 2 (.lalloc (.agg [.int .i64 0,.int .i64 0,.str [],.int .i64 0,.str [],.nils,.nils,.nils]))] (sr qFE qFD)⟩
def qEX:List qC:=[oM 0 4 0,oD1 1 5 511 4,oP 2 6 (.bslice 8 (.agg [.int .i64 0,.int .i64 0,.str [],.int .i64 0,.str [],.nils,.nils,.nils]) 1 [(0,.t 5)]),oP 3 7 (.build (.agg [.int .i64 0,.int .i64 0,.str [],.int .i64 0,.str [],.nils,.nils,.nils]) [(0,1,.c (.int .i64 9)),(7,1,.t 6)]),oP 4 3 (.lalloc (.agg [.int .i64 0,.int .i64 0,.str [],.int .i64 0,.str [],.nils,.nils,.nils])),oS 5 3 0 8 7]
def qEY:List qC:=[oU 0 10 3,oX 1 11 3 7,oM 2 12 0,oD1 3 13 1560 12,oP 4 14 (.bslice 8 (.agg [.int .i64 0,.int .i64 0,.str [],.int .i64 0,.str [],.nils,.nils,.nils]) 1 [(0,.t 13)]),oP 5 15 (.app 8 (.t 11) (.t 14)),oU 6 16 3,oS 7 3 7 1 15]
def qEZ:List qC:=[oU 0 19 3,oX 1 20 3 7,oM 2 21 0,oD1 3 22 1560 21,oP 4 23 (.bslice 8 (.agg [.int .i64 0,.int .i64 0,.str [],.int .i64 0,.str [],.nils,.nils,.nils]) 1 [(0,.t 22)]),oP 5 24 (.app 8 (.t 20) (.t 23)),oU 6 25 3,oS 7 3 7 1 24]
def qEW:qG:=.seq (.blk 0 (.loop (.seq (sr [oM 0 17 0,oP 1 18 (.call 721 [.t 17,.c (.str [59])])] (.cond (.t 18) .skip (.exit 0))) (.blk 1 (.reg true qEZ))))) (sr [oM 0 26 0,oP 1 27 (.call 876 [.t 26,.c (.str [125])])] (sr [oY 0 28 3 0 8,oS 1 2 0 8 28] .ret))
def Xw:qJ:=⟨1,29,[.l 2 (some 8)],sr [oP 0 2 (.lalloc (.agg [.int .i64 0,.int .i64 0,.str [],.int .i64 0,.str [],.nils,.nils,.nils]))] (sr qEX (sr [oM 0 8 0,oP 1 9 (.call 876 [.t 8,.c (.str [123])])] (sr qEY qEW)))⟩
def qE0:List qC:=[oF 0 2 7 0,oL 1 3 2,oL 2 4 1,oW 4 6 3,oP 5 7 (.mov (.c (.lst 8 [.agg [.int .i64 0,.int .i64 0,.str [],.int .i64 0,.str [],.nils,.nils,.nils]] false))),⟨3,some 5,none,.call 511 [.t 4],[⟨1,some 3,none,.load none (.t 2),[]⟩]⟩,oP 6 8 (.app 8 (.t 3) (.t 7)),oA 7 9 8 8 6,oF 9 10 7 0,oT 8 8 9 5,oN 10 (.store2 1 (.t 10) (.t 8) (.t 9))]
def Xx:qJ:=⟨2,11,[],.reg true qE0⟩
def qEB:List qC:=[oL 0 7 1,oD1 1 8 1539 7,oP 2 9 (.bslice 8 (.agg [.int .i64 0,.int .i64 0,.str [],.int .i64 0,.str [],.nils,.nils,.nils]) 1 [(0,.t 8)]),oP 3 10 (.build (.agg [.int .i64 0,.int .i64 0,.str [],.int .i64 0,.str [],.nils,.nils,.nils]) [(0,1,.c (.int .i64 6)),(7,1,.t 9)]),oS 4 2 0 8 10]
def qD7:qG:=.cond (.t 11) (sr [oL 0 14 1,oD1 1 15 1553 14,oS 2 2 0 8 15] .ret) (sr [oL 0 17 1,oP 1 18 (.call 721 [.t 17,.c (.str [109,97,116,99,104])]),oM 2 16 18] (.cond (.t 16) (sr [oL 0 19 1,oD1 1 20 1554 19,oS 2 2 0 8 20] .ret) .skip))
def qD8:qG:=sr [oL 0 5 1,oP 1 6 (.call 721 [.t 5,.c (.str [33])]),oM 2 4 6] (.cond (.t 4) (sr qEB .ret) (sr [oL 0 12 1,oP 1 13 (.call 721 [.t 12,.c (.str [40])]),oM 2 11 13] qD7))
def qEC:List qC:=[oL 0 26 1,oP 1 27 (.call 875 [.t 26,.c (.int .i64 1)]),oP 2 28 (.build (.agg [.int .i64 0,.int .i64 0,.str [],.int .i64 0,.str [],.nils,.nils,.nils]) [(0,1,.c (.int .i64 1)),(2,1,.t 27)]),oS 3 2 0 8 28]
def qED:List qC:=[oL 0 31 1,oP 1 32 (.call 875 [.t 31,.c (.int .i64 2)]),oP 2 33 (.build (.agg [.int .i64 0,.int .i64 0,.str [],.int .i64 0,.str [],.nils,.nils,.nils]) [(0,1,.c (.int .i64 8)),(2,1,.t 32)]),oP 3 3 (.halloc 8 (.agg [.int .i64 0,.int .i64 0,.str [],.int .i64 0,.str [],.nils,.nils,.nils])),oT 4 8 3 33]
def qD9:qG:=sr [oE 0 30 .eql 23 2,oM 1 29 30] (.cond (.t 29) (sr qED (sr [oL 0 34 1,oP 1 35 (.mkfn 1555 [.t 3,.t 1]),oD2 2 36 1327 34 35] (sr [oP 0 37 (.load (some 8) (.t 3)),oS 1 2 0 8 37] .ret))) .skip)
def qEA:qG:=.seq (sr [oL 0 21 1,oD1 1 22 1101 21,oP 2 23 (.fld 0 none (.t 22))] (.blk 1 (sr [oE 0 25 .eql 23 1,oM 1 24 25] (.cond (.t 24) (sr qEC .ret) qD9)))) (sr [oL 0 38 1,oP 1 39 (.call 1556 [.t 38,.c (.bool false)]),oS 2 2 0 8 39] .ret)
def Xq:qJ:=⟨1,40,[.l 2 (some 8)],sr [oP 0 1 (.hbox 1 (.t 0)),oP 1 2 (.lalloc (.agg [.int .i64 0,.int .i64 0,.str [],.int .i64 0,.str [],.nils,.nils,.nils]))] (.seq (.blk 0 qD8) qEA)⟩
def qEE:List qC:=[oM 0 4 0,oD1 1 5 1101 4,oP 2 3 (.lalloc (.agg [.int .i64 0,.str [],.int .i64 0])),oS 3 3 0 3 5]
def qEF:List qC:=[oU 0 6 3,oX 1 7 3 0,oE 2 8 .eql 7 1,oM 3 9 8,oG 4 10 9 false (.nop 3),oG 5 11 9 false (.lload 3 0 none),oG 6 12 9 false (.bin .eql (.t 11) (.c (.int .i64 2))),oPt 7 13 9 12,oM 8 14 13,oG 9 15 14 false (.nop 3),oG 10 16 14 false (.lload 3 0 none),oG 11 17 14 false (.bin .eql (.t 16) (.c (.int .i64 4))),oPt 12 18 14 17,oM 13 19 18,oH 14 20 19 false 0,oG 15 21 19 false (.call 1103 [.t 20,.c (.str [33])]),oPt 16 22 19 21,oM 17 23 22,oH 18 24 23 false 0,oG 19 25 23 false (.call 1103 [.t 24,.c (.str [40])]),oPt 20 26 23 25,oM 21 27 26,oH 22 28 27 false 0,oG 23 29 27 false (.call 1103 [.t 28,.c (.str [109,97,116,99,104])]),oPt 24 30 27 29,oM 25 2 30]
def Xr:qJ:=⟨1,31,[.t 2],sr [oQ 0 2 false] (sr qEE (sr qEF .ret))⟩
def qDU:List qC:=[oM 0 4 0,oD1 1 5 1539 4,oP 2 3 (.lalloc (.agg [.int .i64 0,.int .i64 0,.str [],.int .i64 0,.str [],.nils,.nils,.nils])),oS 3 3 0 8 5]
def qDV:List qC:=[oY 0 8 3 0 8,oM 1 9 0,oD1 2 10 1539 9,oP 3 11 (.bslice 8 (.agg [.int .i64 0,.int .i64 0,.str [],.int .i64 0,.str [],.nils,.nils,.nils]) 2 [(0,.t 8),(1,.t 10)]),oP 4 12 (.build (.agg [.int .i64 0,.int .i64 0,.str [],.int .i64 0,.str [],.nils,.nils,.nils]) [(0,1,.c (.int .i64 5)),(7,1,.t 11)]),oS 5 3 0 8 12]
def qDT:qG:=.seq (.blk 0 (.loop (.seq (sr [oM 0 6 0,oD1 1 7 1540 6] (.cond (.t 7) .skip (.exit 0))) (.blk 1 (.reg true qDV))))) (sr [oY 0 13 3 0 8,oS 1 2 0 8 13] .ret)
def Xm:qJ:=⟨1,14,[.l 2 (some 8)],sr [oP 0 2 (.lalloc (.agg [.int .i64 0,.int .i64 0,.str [],.int .i64 0,.str [],.nils,.nils,.nils]))] (sr qDU qDT)⟩
def qC4:List qC:=[oM 0 5 0,oD1 1 6 1511 5,oP 2 3 (.lalloc (.agg [.int .i64 0,.int .i64 0,.str [],.int .i64 0,.str [],.nils,.nils,.nils])),oS 3 3 0 8 6]
def qC5:List qC:=[oM 0 7 0,oP 1 8 (.bslice 1 (.str []) 2 [(0,.c (.str [42])),(1,.c (.str [47]))]),oD2 2 9 1189 7 8,oM 3 4 9]
def qC6:List qC:=[oM 0 15 4,oY 1 16 3 0 8,oM 2 17 0,oD1 3 18 1511 17,oP 4 19 (.call 1190 [.t 15,.t 16,.t 18]),oS 5 3 0 8 19]
def qC7:List qC:=[oM 0 12 0,oP 1 13 (.bslice 1 (.str []) 2 [(0,.c (.str [42])),(1,.c (.str [47]))]),oD2 2 14 1189 12 13,oM 3 4 14]
def qC3:qG:=.seq (sr qC5 (.blk 0 (.loop (.seq (sr [oM 0 10 4,oE 1 11 .neq 10 0] (.cond (.t 11) .skip (.exit 0))) (.seq (.blk 1 (.reg true qC6)) (.reg true qC7)))))) (sr [oY 0 20 3 0 8,oS 1 2 0 8 20] .ret)
def Xc:qJ:=⟨1,21,[.l 2 (some 8)],sr [oP 0 2 (.lalloc (.agg [.int .i64 0,.int .i64 0,.str [],.int .i64 0,.str [],.nils,.nils,.nils]))] (sr qC4 qC3)⟩
def qBZ:List qC:=[oM 0 5 0,oD1 1 6 1425 5,oP 2 3 (.lalloc (.agg [.int .i64 0,.int .i64 0,.str [],.int .i64 0,.str [],.nils,.nils,.nils])),oS 3 3 0 8 6]
def qB0:List qC:=[oM 0 7 0,oP 1 8 (.bslice 1 (.str []) 2 [(0,.c (.str [43])),(1,.c (.str [45]))]),oD2 2 9 1189 7 8,oM 3 4 9]
def qB1:List qC:=[oM 0 15 4,oY 1 16 3 0 8,oM 2 17 0,oD1 3 18 1425 17,oP 4 19 (.call 1190 [.t 15,.t 16,.t 18]),oS 5 3 0 8 19]
def qB2:List qC:=[oM 0 12 0,oP 1 13 (.bslice 1 (.str []) 2 [(0,.c (.str [43])),(1,.c (.str [45]))]),oD2 2 14 1189 12 13,oM 3 4 14]
def qBY:qG:=.seq (sr qB0 (.blk 0 (.loop (.seq (sr [oM 0 10 4,oE 1 11 .neq 10 0] (.cond (.t 11) .skip (.exit 0))) (.seq (.blk 1 (.reg true qB1)) (.reg true qB2)))))) (sr [oY 0 20 3 0 8,oS 1 2 0 8 20] .ret)
def XM:qJ:=⟨1,21,[.l 2 (some 8)],sr [oP 0 2 (.lalloc (.agg [.int .i64 0,.int .i64 0,.str [],.int .i64 0,.str [],.nils,.nils,.nils]))] (sr qBZ qBY)⟩
def qMR:List qC:=[oM 0 5 0,oD1 1 6 1188 5,oP 2 3 (.lalloc (.agg [.int .i64 0,.int .i64 0,.str [],.int .i64 0,.str [],.nils,.nils,.nils])),oS 3 3 0 8 6]
def qMS:List qC:=[oM 0 7 0,oP 1 8 (.bslice 1 (.str []) 2 [(0,.c (.str [60])),(1,.c (.str [61]))]),oD2 2 9 1189 7 8,oM 3 4 9]
def qMT:List qC:=[oM 0 12 4,oY 1 13 3 0 8,oM 2 14 0,oD1 3 15 1188 14,oP 4 16 (.call 1190 [.t 12,.t 13,.t 15]),oS 5 2 0 8 16]
def qMQ:qG:=sr qMR (.seq (sr qMS (sr [oM 0 10 4,oE 1 11 .neq 10 0] (.cond (.t 11) (sr qMT .ret) .skip))) (sr [oY 0 17 3 0 8,oS 1 2 0 8 17] .ret))
def Yq:qJ:=⟨1,18,[.l 2 (some 8)],sr [oP 0 2 (.lalloc (.agg [.int .i64 0,.int .i64 0,.str [],.int .i64 0,.str [],.nils,.nils,.nils]))] qMQ⟩
def qIV:List qC:=[oM 0 11 0,oP 1 12 (.call 875 [.t 11,.c (.int .i64 1)]),oP 2 13 (.build (.agg [.int .i64 0,.int .i64 0,.str [],.int .i64 0,.str [],.nils,.nils,.nils]) [(0,1,.c (.int .i64 4)),(2,1,.t 12)]),oP 3 3 (.lalloc (.agg [.int .i64 0,.int .i64 0,.str [],.int .i64 0,.str [],.nils,.nils,.nils])),oS 4 3 0 8 13]
def qIW:List qC:=[oM 0 16 0,oD1 1 17 335 16,oU 2 18 3,oS 3 3 3 3 17]
def qIY:List qC:=[oM 0 21 0,oD1 1 22 511 21,oP 2 23 (.bslice 8 (.agg [.int .i64 0,.int .i64 0,.str [],.int .i64 0,.str [],.nils,.nils,.nils]) 1 [(0,.t 22)]),oU 3 24 3,oS 4 3 7 1 23]
def qIT:qG:=sr [oM 0 14 0,oP 1 15 (.call 876 [.t 14,.c (.str [58])])] (sr qIW (sr [oM 0 19 0,oP 1 20 (.call 876 [.t 19,.c (.str [46])])] (sr qIY (sr [oY 0 25 3 0 8,oS 1 2 0 8 25] .ret))))
def qIZ:List qC:=[oM 0 29 0,oP 1 30 (.call 875 [.t 29,.c (.int .i64 1)]),oP 2 31 (.build (.agg [.int .i64 0,.int .i64 0,.str [],.int .i64 0,.str [],.nils,.nils,.nils]) [(0,1,.c (.int .i64 7)),(2,1,.t 30)]),oP 3 4 (.lalloc (.agg [.int .i64 0,.int .i64 0,.str [],.int .i64 0,.str [],.nils,.nils,.nils])),oS 4 4 0 8 31]
def qI0:List qC:=[oM 0 34 0,oD1 1 35 511 34,oP 2 5 (.lalloc (.agg [.int .i64 0,.int .i64 0,.str [],.int .i64 0,.str [],.nils,.nils,.nils])),oS 3 5 0 8 35]
def qI1:List qC:=[oY 0 38 5 0 8,oM 1 39 0,oD1 2 40 511 39,oP 3 41 (.bslice 8 (.agg [.int .i64 0,.int .i64 0,.str [],.int .i64 0,.str [],.nils,.nils,.nils]) 2 [(0,.t 38),(1,.t 40)]),oU 4 42 4,oS 5 4 7 1 41]
def qIU:qG:=sr [oM 0 32 0,oP 1 33 (.call 876 [.t 32,.c (.str [61])])] (sr qI0 (sr [oM 0 36 0,oP 1 37 (.call 876 [.t 36,.c (.str [105,110])])] (sr qI1 (sr [oY 0 43 4 0 8,oS 1 2 0 8 43] .ret))))
def qI2:List qC:=[oM 0 47 0,oD1 1 48 511 47,oP 2 6 (.lalloc (.agg [.int .i64 0,.int .i64 0,.str [],.int .i64 0,.str [],.nils,.nils,.nils])),oS 3 6 0 8 48]
def qI3:List qC:=[oM 0 51 0,oD1 1 52 511 51,oP 2 7 (.lalloc (.agg [.int .i64 0,.int .i64 0,.str [],.int .i64 0,.str [],.nils,.nils,.nils])),oS 3 7 0 8 52]
def qIX:List qC:=[oY 0 55 6 0 8,oY 1 56 7 0 8,oM 2 57 0,oD1 3 58 511 57,oP 4 59 (.bslice 8 (.agg [.int .i64 0,.int .i64 0,.str [],.int .i64 0,.str [],.nils,.nils,.nils]) 3 [(0,.t 55),(1,.t 56),(2,.t 58)]),oP 5 60 (.build (.agg [.int .i64 0,.int .i64 0,.str [],.int .i64 0,.str [],.nils,.nils,.nils]) [(0,1,.c (.int .i64 11)),(7,1,.t 59)]),oS 6 2 0 8 60]
def qIQ:qG:=sr qI2 (sr [oM 0 49 0,oP 1 50 (.call 876 [.t 49,.c (.str [116,104,101,110])])] (sr qI3 (sr [oM 0 53 0,oP 1 54 (.call 876 [.t 53,.c (.str [101,108,115,101])])] (sr qIX .ret))))
def qIR:qG:=sr [oM 0 27 0,oP 1 28 (.call 721 [.t 27,.c (.str [108,101,116])]),oM 2 26 28] (.cond (.t 26) (sr qIZ qIU) (sr [oM 0 45 0,oP 1 46 (.call 721 [.t 45,.c (.str [105,102])]),oM 2 44 46] (.cond (.t 44) qIQ .skip)))
def qIS:qG:=.seq (.blk 0 (sr [oM 0 9 0,oP 1 10 (.call 721 [.t 9,.c (.str [92])]),oM 2 8 10] (.cond (.t 8) (sr qIV qIT) qIR))) (sr [oM 0 61 0,oD1 1 62 877 61,oS 2 2 0 8 62] .ret)
def YO:qJ:=⟨1,63,[.l 2 (some 8)],sr [oP 0 2 (.lalloc (.agg [.int .i64 0,.int .i64 0,.str [],.int .i64 0,.str [],.nils,.nils,.nils]))] qIS⟩
def qFP:List qC:=[oM 0 5 0,oP 1 6 (.call 510 [.t 5,.f 511,.f 144]),oV 2 7 6 0,oV 3 8 6 1,oV 4 9 6 2,oS 5 2 0 8 7,oM 6 3 8,oM 7 4 9]
def X3:qJ:=⟨1,10,[.l 2 (some 8),.t 3,.t 4],sr [oP 0 2 (.lalloc (.agg [.int .i64 0,.int .i64 0,.str [],.int .i64 0,.str [],.nils,.nils,.nils])),oC 1 3 0,oC 2 4 0] (sr qFP .ret)⟩
def qI5:List qC:=[oM 0 6 0,oW 1 7 6,oM 2 8 1,oW 3 9 8,oB 4 10 .neq 7 9]
def qI6:List qC:=[oM 0 11 5,oM 1 12 0,oW 2 13 12,oB 3 14 .lss 11 13]
def qI7:List qC:=[oM 0 17 0,oM 1 18 5,oA 2 19 1 17 18,oL 3 20 19,oM 4 21 1,oM 5 22 5,oA 6 23 1 21 22,oL 7 24 23,oP 8 25 (.sop .neq (.t 20) (.t 24))]
def qI4:qG:=.loop (.seq (sr qI6 (.cond (.t 14) .skip (.exit 0))) (.seq (.blk 1 (sr qI7 (.cond (.t 25) (sr [oQ 0 4 false] .ret) .skip))) (.reg true [oM 0 15 5,oE 1 16 .add 15 1,oM 2 5 16])))
def YP:qJ:=⟨2,26,[.t 4],sr [oQ 0 4 false] (.seq (sr qI5 (.cond (.t 10) (sr [oQ 0 4 false] .ret) .skip)) (.seq (sr [oC 0 5 0] (.blk 0 qI4)) (sr [oQ 0 4 true] .ret)))⟩
def UR:qJ:=eqS 8 (some 8) 191
def qFS:List qC:=[oU 0 5 2,oX 1 6 2 0,oU 2 7 3,oX 3 8 3 0,oB 4 9 .neq 6 8]
def qFT:List qC:=[oU 0 10 2,oX 1 11 2 1,oU 2 12 3,oX 3 13 3 1,oB 4 14 .neq 11 13]
def qFU:List qC:=[oU 0 15 2,oX 1 16 2 2,oU 2 17 3,oX 3 18 3 2,oP 4 19 (.sop .neq (.t 16) (.t 18))]
def qFV:List qC:=[oU 0 20 2,oY 1 21 2 3 3,oU 2 22 3,oY 3 23 3 3 3,oD2 4 24 101 21 23,oJ 5 25 24]
def qFW:List qC:=[oU 0 26 2,oX 1 27 2 6,oU 2 28 3,oX 3 29 3 6,oD2 4 30 512 27 29,oJ 5 31 30]
def qFX:List qC:=[oU 0 32 2,oX 1 33 2 7,oU 2 34 3,oX 3 35 3 7,oD2 4 36 513 33 35,oJ 5 37 36]
def qFQ:qG:=.seq (sr qFV (.cond (.t 25) (sr [oQ 0 4 false] .ret) .skip)) (.seq (sr qFW (.cond (.t 31) (sr [oQ 0 4 false] .ret) .skip)) (.seq (sr qFX (.cond (.t 37) (sr [oQ 0 4 false] .ret) .skip)) (sr [oQ 0 4 true] .ret)))
def qFR:qG:=.seq (sr qFS (.cond (.t 9) (sr [oQ 0 4 false] .ret) .skip)) (.seq (sr qFT (.cond (.t 14) (sr [oQ 0 4 false] .ret) .skip)) (.seq (sr qFU (.cond (.t 19) (sr [oQ 0 4 false] .ret) .skip)) qFQ))
def X4:qJ:=⟨2,38,[.t 4],sr [oP 0 2 (.lbox 8 (.t 0)),oP 1 3 (.lbox 8 (.t 1)),oQ 2 4 false] qFR⟩
def qI9:List qC:=[oM 0 6 5,oM 1 7 0,oW 2 8 7,oB 3 9 .lss 6 8]
def qJA:List qC:=[oM 0 12 0,oM 1 13 5,oM 2 14 1,oD1 3 15 739 14,oA 4 16 1 12 13,oT 5 1 16 15]
def qI8:qG:=.seq (.blk 1 (sr qJA (.reg true [oM 0 17 1,oE 1 18 .add 17 1,oM 2 1 18]))) (.reg true [oM 0 10 5,oE 1 11 .add 10 1,oM 2 5 11])
def YQ:qJ:=⟨2,20,[.t 4],sr [oC 0 4 0] (.seq (sr [oC 0 5 0] (.blk 0 (.loop (.seq (sr qI9 (.cond (.t 9) .skip (.exit 0))) qI8)))) (sr [oM 0 19 1,oM 1 4 19] .ret))⟩
def qJE:List qC:=[oM 0 6 5,oM 1 7 0,oW 2 8 7,oB 3 9 .lss 6 8]
def qJF:List qC:=[oM 0 12 0,oM 1 13 5,oM 2 14 1,oA 3 15 8 12 13,oF 4 16 0 15,oT 5 1 16 14]
def qJG:List qC:=[oM 0 19 0,oM 1 20 5,oM 2 21 1,oA 3 22 8 19 20,oF 4 23 1 22,oT 5 1 23 21]
def qJH:List qC:=[oM 0 26 0,oM 1 27 5,oM 2 28 1,oD1 3 29 739 28,oA 4 30 8 26 27,oF 5 31 2 30,oT 6 1 31 29]
def qJI:List qC:=[oM 0 34 0,oM 1 35 5,oM 2 36 1,oA 3 37 8 34 35,oF 4 38 3 37,oF 5 39 0 38,oT 6 1 39 36]
def qJJ:List qC:=[oM 0 42 0,oM 1 43 5,oM 2 44 1,oD1 3 45 739 44,oA 4 46 8 42 43,oF 5 47 3 46,oF 6 48 1 47,oT 7 1 48 45]
def qJK:List qC:=[oM 0 51 0,oM 1 52 5,oA 2 53 8 51 52,oF 3 54 3 53,oF 4 55 2 54,oL 5 56 55,oM 6 57 1,oD2 7 58 362 56 57,oM 8 1 58]
def qJL:List qC:=[oM 0 59 0,oM 1 60 5,oA 2 61 8 59 60,oF 3 62 6 61,oL 4 63 62,oM 5 64 1,oD2 6 65 514 63 64,oM 7 1 65]
def qJM:List qC:=[oM 0 66 0,oM 1 67 5,oA 2 68 8 66 67,oF 3 69 7 68,oL 4 70 69,oM 5 71 1,oD2 6 72 515 70 71,oM 7 1 72]
def qJD:qG:=sr [oM 0 40 1,oE 1 41 .add 40 1,oM 2 1 41] (sr qJJ (sr [oM 0 49 1,oE 1 50 .add 49 1,oM 2 1 50] (sr qJK (sr qJL (.reg true qJM)))))
def qJB:qG:=sr [oM 0 24 1,oE 1 25 .add 24 1,oM 2 1 25] (sr qJH (sr [oM 0 32 1,oE 1 33 .add 32 1,oM 2 1 33] (sr qJI qJD)))
def qJC:qG:=.seq (.blk 1 (sr qJF (sr [oM 0 17 1,oE 1 18 .add 17 1,oM 2 1 18] (sr qJG qJB)))) (.reg true [oM 0 10 5,oE 1 11 .add 10 1,oM 2 5 11])
def YR:qJ:=⟨2,74,[.t 4],sr [oC 0 4 0] (.seq (sr [oC 0 5 0] (.blk 0 (.loop (.seq (sr qJE (.cond (.t 9) .skip (.exit 0))) qJC)))) (sr [oM 0 73 1,oM 1 4 73] .ret))⟩
def qFY:List qC:=[oU 0 5 2,oY 1 6 2 3 3,oM 2 7 1,oD2 3 8 102 6 7,oM 4 1 8]
def qFZ:List qC:=[oU 0 9 2,oX 1 10 2 6,oM 2 11 1,oD2 3 12 514 10 11,oM 4 1 12]
def qF0:List qC:=[oU 0 13 2,oX 1 14 2 7,oM 2 15 1,oD2 3 16 515 14 15,oM 4 1 16]
def X5:qJ:=⟨2,18,[.t 4],sr [oP 0 2 (.lbox 8 (.t 0)),oC 1 4 0] (sr qFY (sr qFZ (sr qF0 (sr [oM 0 17 1,oM 1 4 17] .ret))))⟩
def qJO:List qC:=[oM 0 6 5,oM 1 7 0,oW 2 8 7,oB 3 9 .lss 6 8]
def qJP:List qC:=[oM 0 12 0,oM 1 13 5,oA 2 14 1 12 13,oL 3 15 14,oM 4 16 1,⟨5,some 17,none,.call 739 [.t 16],[⟨3,some 15,none,.load none (.t 14),[]⟩]⟩,oP 6 18 (.sop .neq (.t 15) (.t 17))]
def qJN:qG:=.seq (.blk 1 (.seq (sr qJP (.cond (.t 18) (sr [oP 0 4 (.mov (.c (.int .i64 (-1))))] .ret) .skip)) (.reg true [oM 0 19 1,oE 1 20 .add 19 1,oM 2 1 20]))) (.reg true [oM 0 10 5,oE 1 11 .add 10 1,oM 2 5 11])
def YS:qJ:=⟨2,22,[.t 4],sr [oC 0 4 0] (.seq (sr [oC 0 5 0] (.blk 0 (.loop (.seq (sr qJO (.cond (.t 9) .skip (.exit 0))) qJN)))) (sr [oM 0 21 1,oM 1 4 21] .ret))⟩
def qJW:List qC:=[oM 0 6 5,oM 1 7 0,oW 2 8 7,oB 3 9 .lss 6 8]
def qJX:List qC:=[oM 0 12 0,oM 1 13 5,oA 2 14 8 12 13,oF 3 15 0 14,oL 4 16 15,oM 5 17 1,oB 6 18 .neq 16 17]
def qJY:List qC:=[oM 0 21 0,oM 1 22 5,oA 2 23 8 21 22,oF 3 24 1 23,oL 4 25 24,oM 5 26 1,oB 6 27 .neq 25 26]
def qJZ:List qC:=[oM 0 30 0,oM 1 31 5,oA 2 32 8 30 31,oF 3 33 2 32,oL 4 34 33,oM 5 35 1,⟨6,some 36,none,.call 739 [.t 35],[⟨4,some 34,none,.load none (.t 33),[]⟩]⟩,oP 7 37 (.sop .neq (.t 34) (.t 36))]
def qJ0:List qC:=[oM 0 40 0,oM 1 41 5,oA 2 42 8 40 41,oF 3 43 3 42,oF 4 44 0 43,oL 5 45 44,oM 6 46 1,oB 7 47 .neq 45 46]
def qJ1:List qC:=[oM 0 50 0,oM 1 51 5,oA 2 52 8 50 51,oF 3 53 3 52,oF 4 54 1 53,oL 5 55 54,oM 6 56 1,⟨7,some 57,none,.call 739 [.t 56],[⟨5,some 55,none,.load none (.t 54),[]⟩]⟩,oP 8 58 (.sop .neq (.t 55) (.t 57))]
def qJ2:List qC:=[oM 0 61 0,oM 1 62 5,oA 2 63 8 61 62,oF 3 64 3 63,oF 4 65 2 64,oL 5 66 65,oM 6 67 1,oD2 7 68 363 66 67,oM 8 1 68]
def qJ3:List qC:=[oM 0 71 0,oM 1 72 5,oA 2 73 8 71 72,oF 3 74 6 73,oL 4 75 74,oM 5 76 1,oD2 6 77 516 75 76,oM 7 1 77]
def qJ4:List qC:=[oM 0 80 0,oM 1 81 5,oA 2 82 8 80 81,oF 3 83 7 82,oL 4 84 83,oM 5 85 1,oD2 6 86 517 84 85,oM 7 1 86]
def qJV:qG:=.seq (sr [oM 0 78 1,oE 1 79 .lss 78 0] (.cond (.t 79) (sr [oP 0 4 (.mov (.c (.int .i64 (-1))))] .ret) .skip)) (sr qJ4 (sr [oM 0 87 1,oE 1 88 .lss 87 0] (.cond (.t 88) (sr [oP 0 4 (.mov (.c (.int .i64 (-1))))] .ret) .skip)))
def qJQ:qG:=sr [oM 0 59 1,oE 1 60 .add 59 1,oM 2 1 60] (sr qJ2 (.seq (sr [oM 0 69 1,oE 1 70 .lss 69 0] (.cond (.t 70) (sr [oP 0 4 (.mov (.c (.int .i64 (-1))))] .ret) .skip)) (sr qJ3 qJV)))
def qJR:qG:=.seq (sr qJ0 (.cond (.t 47) (sr [oP 0 4 (.mov (.c (.int .i64 (-1))))] .ret) .skip)) (sr [oM 0 48 1,oE 1 49 .add 48 1,oM 2 1 49] (.seq (sr qJ1 (.cond (.t 58) (sr [oP 0 4 (.mov (.c (.int .i64 (-1))))] .ret) .skip)) qJQ))
def qJS:qG:=sr [oM 0 28 1,oE 1 29 .add 28 1,oM 2 1 29] (.seq (sr qJZ (.cond (.t 37) (sr [oP 0 4 (.mov (.c (.int .i64 (-1))))] .ret) .skip)) (sr [oM 0 38 1,oE 1 39 .add 38 1,oM 2 1 39] qJR))
def qJT:qG:=.seq (sr qJX (.cond (.t 18) (sr [oP 0 4 (.mov (.c (.int .i64 (-1))))] .ret) .skip)) (sr [oM 0 19 1,oE 1 20 .add 19 1,oM 2 1 20] (.seq (sr qJY (.cond (.t 27) (sr [oP 0 4 (.mov (.c (.int .i64 (-1))))] .ret) .skip)) qJS))
def qJU:qG:=sr [oC 0 5 0] (.blk 0 (.loop (.seq (sr qJW (.cond (.t 9) .skip (.exit 0))) (.seq (.blk 1 qJT) (.reg true [oM 0 10 5,oE 1 11 .add 10 1,oM 2 5 11])))))
def YT:qJ:=⟨2,90,[.t 4],sr [oC 0 4 0] (.seq qJU (sr [oM 0 89 1,oM 1 4 89] .ret))⟩
def qF3:List qC:=[oU 0 5 2,oY 1 6 2 3 3,oM 2 7 1,oD2 3 8 103 6 7,oM 4 1 8]
def qF4:List qC:=[oU 0 11 2,oX 1 12 2 6,oM 2 13 1,oD2 3 14 516 12 13,oM 4 1 14]
def qF5:List qC:=[oU 0 17 2,oX 1 18 2 7,oM 2 19 1,oD2 3 20 517 18 19,oM 4 1 20]
def qF1:qG:=sr qF5 (.seq (sr [oM 0 21 1,oE 1 22 .lss 21 0] (.cond (.t 22) (sr [oP 0 4 (.mov (.c (.int .i64 (-1))))] .ret) .skip)) (sr [oM 0 23 1,oM 1 4 23] .ret))
def qF2:qG:=.seq (sr [oM 0 9 1,oE 1 10 .lss 9 0] (.cond (.t 10) (sr [oP 0 4 (.mov (.c (.int .i64 (-1))))] .ret) .skip)) (sr qF4 (.seq (sr [oM 0 15 1,oE 1 16 .lss 15 0] (.cond (.t 16) (sr [oP 0 4 (.mov (.c (.int .i64 (-1))))] .ret) .skip)) qF1))
def X6:qJ:=⟨2,24,[.t 4],sr [oP 0 2 (.lbox 8 (.t 0)),oC 1 4 0] (sr qF3 qF2)⟩
def qGK:List qC:=[oM 0 18 0,oD1 1 19 189 18,oM 2 17 19,oV 3 20 17 0,oV 4 21 17 1,oV 5 22 17 2,oP 6 3 (.lalloc (.agg [.int .i64 0,.int .i64 0,.str [],.int .i64 0,.str [],.nils,.nils,.nils])),oS 7 3 0 8 20,oM 8 4 21,oM 9 5 22]
def qGL:List qC:=[oM 0 24 0,oD1 1 25 190 24,oM 2 23 25,oV 3 26 23 0,oV 4 27 23 1,oV 5 28 23 2,oP 6 6 (.lalloc (.agg [.int .i64 0,.int .i64 0,.str [],.int .i64 0,.str [],.nils,.nils,.nils])),oS 7 6 0 8 26,oM 8 7 27,oM 9 8 28]
def qGM:List qC:=[oY 0 29 6 0 8,oY 1 30 3 0 8,oD2 2 31 191 29 30,oJ 3 32 31,oM 4 33 32,oH 5 34 33 false 7,oH 6 35 33 false 4,oG 7 36 33 false (.bin .neq (.t 34) (.t 35)),oPt 8 37 33 36,oM 9 38 37,oH 10 39 38 false 8,oH 11 40 38 false 5,oG 12 41 38 false (.bin .neq (.t 39) (.t 40)),oPt 13 42 38 41]
def qGN:List qC:=[oY 0 43 6 0 8,oM 1 44 9,oD2 2 45 192 43 44,oM 3 9 45]
def qGO:List qC:=[oY 0 46 6 0 8,oM 1 47 10,oD2 2 48 193 46 47,oM 3 10 48]
def qGP:List qC:=[oM 0 55 0,oD1 1 56 190 55,oM 2 54 56,oV 3 57 54 0,oV 4 58 54 1,oV 5 59 54 2,oP 6 11 (.lalloc (.agg [.int .i64 0,.int .i64 0,.str [],.int .i64 0,.str [],.nils,.nils,.nils])),oS 7 11 0 8 57,oM 8 12 58,oM 9 13 59]
def qGQ:List qC:=[oY 0 60 11 0 8,oY 1 61 3 0 8,oD2 2 62 191 60 61,oJ 3 63 62,oM 4 64 63,oH 5 65 64 false 12,oH 6 66 64 false 4,oG 7 67 64 false (.bin .neq (.t 65) (.t 66)),oPt 8 68 64 67,oM 9 69 68,oH 10 70 69 false 13,oH 11 71 69 false 5,oG 12 72 69 false (.bin .neq (.t 70) (.t 71)),oPt 13 73 69 72]
def qGR:List qC:=[oY 0 74 6 0 8,oM 1 75 10,oD2 2 76 193 74 75,oM 3 10 76]
def qGI:qG:=.seq (sr [oM 0 77 10,oE 1 78 .lss 77 0] (.cond (.t 78) (sr [oQ 0 2 false] .ret) .skip)) (.seq (sr [oM 0 79 10,oM 1 80 9,oB 2 81 .neq 79 80] (.cond (.t 81) (sr [oQ 0 2 false] .ret) .skip)) (sr [oQ 0 2 true] .ret))
def qGJ:qG:=.seq (sr [oM 0 51 10,oM 1 52 9,oB 2 53 .neq 51 52] (.cond (.t 53) (sr [oQ 0 2 false] .ret) .skip)) (sr qGP (.seq (sr qGQ (.cond (.t 73) (sr [oQ 0 2 false] .ret) .skip)) (sr [oC 0 10 1] (sr qGR qGI))))
def qGG:qG:=sr qGN (sr [oC 0 10 1] (sr qGO (.seq (sr [oM 0 49 10,oE 1 50 .lss 49 0] (.cond (.t 50) (sr [oQ 0 2 false] .ret) .skip)) qGJ)))
def qGH:qG:=.seq (sr [oM 0 14 0,oP 1 15 (.slen (.t 14)),oE 2 16 .gtr 15 1048576] (.cond (.t 16) (sr [oQ 0 2 true] .ret) .skip)) (sr qGK (sr qGL (.seq (sr qGM (.cond (.t 42) (sr [oQ 0 2 false] .ret) .skip)) (sr [oC 0 9 1] qGG))))
def F26:qJ:=⟨1,82,[.t 2],sr [oQ 0 2 false] qGH⟩
def Y0:jB:=⟨3,47,
 .reg true [⟨0,some 6,none,.lalloc (.agg [.int .i64 0,.int .i64 0,.str [],.int .i64 0,.str [],.nils,.nils,.nils]),[]⟩,
⟨1,some 7,none,.lalloc (.int .i64 0),[]⟩,
⟨2,some 8,none,.lalloc (.int .i64 0),[]⟩],
 .reg true [⟨0,some 9,none,.lalloc (.agg [.int .i64 0,.int .i64 0,.str [],.int .i64 0,.str [],.nils,.nils,.nils]),[]⟩],
 .reg true [⟨0,some 13,none,.mov (.t 0),[]⟩,
⟨1,some 14,none,.call 266 [.t 13],[]⟩,
⟨2,some 12,none,.mov (.t 14),[]⟩,
⟨3,some 15,none,.ext (.t 12) 0,[]⟩,
⟨4,some 16,none,.ext (.t 12) 1,[]⟩,
⟨5,some 17,none,.ext (.t 12) 2,[]⟩,
⟨6,some 10,none,.mov (.t 15),[]⟩,
⟨7,none,none,.lstore 7 0 1 (.t 16),[]⟩,
⟨8,none,none,.lstore 8 0 1 (.t 17),[]⟩],
 sr [⟨0,some 18,none,.lload 8 0 none,[]⟩,
⟨1,some 19,none,.bin .neq (.t 18) (.c (.int .i64 0)),[]⟩] (.cond (.t 19) (sr [⟨0,some 20,none,.lload 9 0 (some 8),[]⟩,
⟨1,some 21,none,.lload 7 0 none,[]⟩,
⟨2,some 22,none,.lload 8 0 none,[]⟩,
⟨3,none,none,.lstore 6 0 8 (.t 20),[]⟩,
⟨4,none,none,.lstore 7 0 1 (.t 21),[]⟩,
⟨5,none,none,.lstore 8 0 1 (.t 22),[]⟩] .ret) .skip),
 .reg true [⟨0,some 24,none,.mov (.t 10),[]⟩,
⟨1,some 25,none,.mov (.t 0),[]⟩,
⟨2,some 26,none,.slen (.t 25),[]⟩,
⟨3,some 27,none,.build (.agg [.nils,.int .i64 0,.int .i64 0]) [(0,1,.t 24),(2,1,.t 26)],[]⟩,
⟨4,some 28,none,.hbox 3 (.t 27),[]⟩,
⟨5,some 11,none,.mov (.t 28),[]⟩],
 [⟨0,some 29,none,.mov (.t 1),[]⟩,
⟨1,some 30,none,.mov (.t 11),[]⟩,
⟨2,some 31,none,.callv (.t 29) [.t 30],[]⟩,
⟨3,none,none,.lstore 6 0 8 (.t 31),[]⟩],
 .reg true [⟨0,some 32,none,.mov (.t 11),[]⟩,
⟨1,some 33,none,.nilchk (.t 32),[]⟩,
⟨2,some 34,none,.faddr 1 (.t 33),[]⟩,
⟨3,some 35,none,.load none (.t 34),[]⟩,
⟨4,some 36,none,.mov (.t 10),[]⟩,
⟨5,some 37,none,.len (.t 36),[]⟩,
⟨6,some 38,none,.bin .lss (.t 35) (.t 37),[]⟩],.t 38,
 [⟨0,some 39,none,.mov (.t 11),[]⟩,
⟨1,some 40,none,.call 719 [.t 39],[]⟩],
 .seq (sr [⟨0,some 41,none,.mov (.t 2),[]⟩,
⟨1,some 42,none,.lload 6 0 (some 8),[]⟩,
⟨2,some 43,none,.callv (.t 41) [.t 42],[]⟩,
⟨3,some 44,none,.not (.t 43),[]⟩] (.cond (.t 44) (sr [⟨0,some 45,none,.lload 9 0 (some 8),[]⟩,
⟨1,none,none,.lstore 6 0 8 (.t 45),[]⟩,
⟨2,none,none,.lstore 7 0 1 (.c (.int .i64 0)),[]⟩,
⟨3,none,none,.lstore 8 0 1 (.c (.int .i64 1)),[]⟩] .ret) .skip)) (sr [⟨0,some 46,none,.lload 6 0 (some 8),[]⟩,
⟨1,none,none,.lstore 6 0 8 (.t 46),[]⟩,
⟨2,none,none,.lstore 7 0 1 (.c (.int .i64 0)),[]⟩,
⟨3,none,none,.lstore 8 0 1 (.c (.int .i64 0)),[]⟩] .ret),
 sr [⟨0,some 5,none,.lalloc (.agg [.int .i64 0]),[]⟩,
⟨1,none,none,.lstore 5 0 1 (.t 12),[]⟩] (.reg true [⟨0,some 13,none,.lload 0 0 (some 8),[]⟩,
⟨1,some 14,none,.nop 5,[]⟩,
⟨2,some 15,none,.lload 5 0 none,[]⟩,
⟨3,none,none,.lstore 1 0 8 (.t 13),[]⟩,
⟨4,none,none,.lstore 2 0 1 (.t 15),[]⟩,
⟨5,none,none,.lstore 3 0 1 (.c (.int .i64 6)),[]⟩]),
 751,23,12,[9,6,7,8],[.l 6 (some 8),.l 7 none,.l 8 none],[.l 1 (some 8),.l 2 none,.l 3 none]⟩
@[go_sem] theorem rR0:OE qAI.eq_1/\OE qB6.eq_1/\OE qCD.eq_1/\OE ka.eq_1/\OE qA9.eq_1/\CE qA7.eq_1/\CE qA8.eq_1/\OE kb.eq_1/\OE qAG.eq_1/\OE qAH.eq_1/\CE qAE.eq_1/\CE qAF.eq_1/\OE qKR.eq_1/\OE qGY.eq_1/\OE qGZ.eq_1/\OE qG2.eq_1/\OE qG3.eq_1/\OE qG4.eq_1/\CE qGW.eq_1/\CE qGX.eq_1/\OE qG5.eq_1/\OE qG6.eq_1/\OE qG7.eq_1/\OE qG0.eq_1/\CE qGU.eq_1/\CE qGV.eq_1/\OE qG1.eq_1/\OE qLQ.eq_1/\OE qLR.eq_1/\OE qMU.eq_1/\OE qAA.eq_1/\OE qAC.eq_1/\OE qAD.eq_1/\CE qAB.eq_1/\OE ke.eq_1/\OE kf.eq_1/\OE qCE.eq_1/\OE ki.eq_1/\OE qKK.eq_1/\OE qKL.eq_1/\OE qKM.eq_1/\CE qKH.eq_1/\CE qKI.eq_1/\CE qKJ.eq_1/\OE qKN.eq_1/\OE qKO.eq_1/\OE qKP.eq_1/\OE qKQ.eq_1/\CE qKF.eq_1/\CE qKG.eq_1/\OE qGA.eq_1/\OE qGB.eq_1/\OE qGC.eq_1/\OE qGD.eq_1/\OE qGE.eq_1/\CE qF7.eq_1/\CE qF8.eq_1/\OE qGF.eq_1/\CE qF9.eq_1/\OE qAJ.eq_1:=by and_intros<;>first|exact OEM _|exact CEM _
@[go_sem] theorem rR1:OE qAK.eq_1/\OE qAL.eq_1/\OE qKS.eq_1/\OE qAM.eq_1/\OE qAN.eq_1/\OE qKX.eq_1/\OE qKY.eq_1/\OE qMM.eq_1/\OE qMN.eq_1/\OE qMO.eq_1/\CE qML.eq_1/\OE qMP.eq_1/\OE qMV.eq_1/\OE qKV.eq_1/\OE qKW.eq_1/\CE qKT.eq_1/\CE qKU.eq_1/\OE qKZ.eq_1/\OE qHE.eq_1/\OE qHF.eq_1/\OE qHG.eq_1/\OE qC8.eq_1/\OE qDA.eq_1/\OE qDB.eq_1/\CE qC9.eq_1/\OE qDC.eq_1/\OE qB9.eq_1/\OE qCA.eq_1/\OE qCB.eq_1/\CE qB8.eq_1/\OE qMW.eq_1/\OE qKA.eq_1/\CE qJ5.eq_1/\CE qJ6.eq_1/\OE qKB.eq_1/\OE qKC.eq_1/\OE qKD.eq_1/\OE qKE.eq_1/\CE qJ7.eq_1/\CE qJ8.eq_1/\CE qJ9.eq_1/\OE qF6.eq_1/\OE qCM.eq_1/\OE qB7.eq_1/\OE qDG.eq_1/\CE qDF.eq_1/\OE qDJ.eq_1/\OE qDK.eq_1/\OE qDL.eq_1/\OE qDM.eq_1/\CE qDH.eq_1/\CE qDI.eq_1/\OE qDO.eq_1/\OE qDP.eq_1/\CE qDN.eq_1/\OE qCR.eq_1/\OE qCS.eq_1/\OE qCT.eq_1/\OE qCU.eq_1/\CE qCN.eq_1:=by and_intros<;>first|exact OEM _|exact CEM _
@[go_sem] theorem rR2:CE qCO.eq_1/\CE qCP.eq_1/\OE qCV.eq_1/\OE qCW.eq_1/\CE qCQ.eq_1/\OE qBC.eq_1/\OE qBD.eq_1/\OE qBE.eq_1/\OE qBF.eq_1/\OE qBG.eq_1/\OE qBH.eq_1/\CE qBA.eq_1/\OE qBI.eq_1/\CE qBB.eq_1/\OE qLB.eq_1/\OE qLC.eq_1/\OE qLD.eq_1/\CE qLA.eq_1/\OE qHI.eq_1/\OE qHJ.eq_1/\OE qHK.eq_1/\OE qGT.eq_1/\OE qGS.eq_1/\OE qBJ.eq_1/\OE qLI.eq_1/\OE qLJ.eq_1/\OE qBP.eq_1/\OE qMC.eq_1/\OE qMD.eq_1/\OE qME.eq_1/\OE qMF.eq_1/\OE qMG.eq_1/\OE qMH.eq_1/\OE qLG.eq_1/\OE qLH.eq_1/\CE qLE.eq_1/\CE qLF.eq_1/\OE qHL.eq_1/\OE qHM.eq_1/\OE qLK.eq_1/\OE qLL.eq_1/\OE qHN.eq_1/\OE qHO.eq_1/\OE kn.eq_1/\OE kp.eq_1/\OE kq.eq_1/\CE kj.eq_1/\OE qLO.eq_1/\CE qLM.eq_1/\CE qLN.eq_1/\OE qHR.eq_1/\OE qHS.eq_1/\OE qHT.eq_1/\OE qHU.eq_1/\CE qHP.eq_1/\CE qHQ.eq_1/\OE ku.eq_1/\OE qHY.eq_1/\OE qHZ.eq_1/\OE qH0.eq_1:=by and_intros<;>first|exact OEM _|exact CEM _
@[go_sem] theorem rR3:OE qH1.eq_1/\CE qHV.eq_1/\CE qHW.eq_1/\CE qHX.eq_1/\OE kx.eq_1/\CE kw.eq_1/\OE qHA.eq_1/\OE qHB.eq_1/\OE qHC.eq_1/\OE qHD.eq_1/\CE qG8.eq_1/\CE qG9.eq_1/\OE qLP.eq_1/\CE qAO.eq_1/\CE qAP.eq_1/\CE qAQ.eq_1/\CE qAR.eq_1/\CE qAS.eq_1/\CE qAT.eq_1/\OE qCI.eq_1/\OE qK8.eq_1/\OE qK9.eq_1/\CE qK7.eq_1/\OE qCK.eq_1/\OE qCL.eq_1/\CE qCJ.eq_1/\OE qAW.eq_1/\OE qAX.eq_1/\OE qAZ.eq_1/\OE qA0.eq_1/\OE qA1.eq_1/\OE qA2.eq_1/\OE qA3.eq_1/\OE qA4.eq_1/\OE qA5.eq_1/\OE qA6.eq_1/\CE qAU.eq_1/\OE qAY.eq_1/\CE qAV.eq_1/\OE qK2.eq_1/\OE qK3.eq_1/\OE qK4.eq_1/\OE qK5.eq_1/\OE qK6.eq_1/\CE qK0.eq_1/\CE qK1.eq_1/\OE qHH.eq_1/\OE qC1.eq_1/\OE qC2.eq_1/\CE qC0.eq_1/\OE qBU.eq_1/\OE qBV.eq_1/\OE qBW.eq_1/\OE qBX.eq_1/\CE qBT.eq_1/\OE qCF.eq_1/\OE qEI.eq_1/\OE qEJ.eq_1/\OE qEK.eq_1/\CE qEG.eq_1:=by and_intros<;>first|exact OEM _|exact CEM _
@[go_sem] theorem rR4:CE qEH.eq_1/\OE qEN.eq_1/\OE qEO.eq_1/\CE qEL.eq_1/\OE qEP.eq_1/\OE qEQ.eq_1/\CE qEM.eq_1/\OE qE9.eq_1/\OE qFA.eq_1/\OE qFB.eq_1/\CE qE7.eq_1/\OE qFC.eq_1/\CE qE8.eq_1/\OE qES.eq_1/\OE qET.eq_1/\OE qEU.eq_1/\CE qER.eq_1/\OE qD1.eq_1/\OE qD2.eq_1/\OE qD3.eq_1/\CE qDW.eq_1/\CE qDX.eq_1/\OE qD4.eq_1/\CE qDY.eq_1/\OE qD5.eq_1/\CE qDZ.eq_1/\CE qD0.eq_1/\OE qD6.eq_1/\OE qDR.eq_1/\OE qDS.eq_1/\CE qDQ.eq_1/\OE qCY.eq_1/\OE qCZ.eq_1/\CE qCX.eq_1/\OE qBR.eq_1/\OE qBS.eq_1/\CE qBQ.eq_1/\OE qMJ.eq_1/\OE qMK.eq_1/\CE qMI.eq_1/\OE qIH.eq_1/\OE qII.eq_1/\OE qIK.eq_1/\CE qIF.eq_1/\OE qIL.eq_1/\OE qIM.eq_1/\OE qIN.eq_1/\CE qIG.eq_1/\OE qIO.eq_1/\OE qIP.eq_1/\OE qIJ.eq_1/\CE qIC.eq_1/\CE qID.eq_1/\CE qIE.eq_1/\OE qFI.eq_1/\OE qFJ.eq_1/\OE qFK.eq_1/\OE qFL.eq_1/\OE qFM.eq_1/\OE qFN.eq_1:=by and_intros<;>first|exact OEM _|exact CEM _
@[go_sem] theorem rR5:OE qFO.eq_1/\CE qFH.eq_1/\OE kz.eq_1/\OE qBK.eq_1/\OE qBM.eq_1/\OE qBN.eq_1/\CE qBL.eq_1/\OE qBO.eq_1/\OE qLX.eq_1/\OE qLY.eq_1/\OE qL4.eq_1/\OE qL5.eq_1/\OE qL6.eq_1/\OE qL7.eq_1/\OE qL8.eq_1/\OE qL9.eq_1/\OE qMA.eq_1/\OE qMB.eq_1/\OE qLZ.eq_1/\OE qL0.eq_1/\OE qL1.eq_1/\OE qL2.eq_1/\OE qL3.eq_1/\CE qLS.eq_1/\CE qLT.eq_1/\CE qLU.eq_1/\CE qLV.eq_1/\CE qLW.eq_1/\OE qH5.eq_1/\OE qH6.eq_1/\OE qH7.eq_1/\OE qH8.eq_1/\OE qH9.eq_1/\OE qIA.eq_1/\CE qH2.eq_1/\CE qH3.eq_1/\OE qIB.eq_1/\CE qH4.eq_1/\OE qDD.eq_1/\OE qDE.eq_1/\OE kZ.eq_1/\OE qCH.eq_1/\CE qCG.eq_1/\CE qB3.eq_1/\CE qB4.eq_1/\OE qB5.eq_1/\CE qCC.eq_1/\OE qE2.eq_1/\OE qE3.eq_1/\OE qE4.eq_1/\OE qE5.eq_1/\OE qE6.eq_1/\CE qE1.eq_1/\CE qEV.eq_1/\OE qFG.eq_1/\OE qFE.eq_1/\OE qFF.eq_1/\CE qFD.eq_1/\OE qEX.eq_1/\OE qEY.eq_1:=by and_intros<;>first|exact OEM _|exact CEM _
@[go_sem] theorem rR6:OE qEZ.eq_1/\CE qEW.eq_1/\OE qE0.eq_1/\OE qEB.eq_1/\CE qD7.eq_1/\CE qD8.eq_1/\OE qEC.eq_1/\OE qED.eq_1/\CE qD9.eq_1/\CE qEA.eq_1/\OE qEE.eq_1/\OE qEF.eq_1/\OE qDU.eq_1/\OE qDV.eq_1/\CE qDT.eq_1/\OE qC4.eq_1/\OE qC5.eq_1/\OE qC6.eq_1/\OE qC7.eq_1/\CE qC3.eq_1/\OE qBZ.eq_1/\OE qB0.eq_1/\OE qB1.eq_1/\OE qB2.eq_1/\CE qBY.eq_1/\OE qMR.eq_1/\OE qMS.eq_1/\OE qMT.eq_1/\CE qMQ.eq_1/\OE qIV.eq_1/\OE qIW.eq_1/\OE qIY.eq_1/\CE qIT.eq_1/\OE qIZ.eq_1/\OE qI0.eq_1/\OE qI1.eq_1/\CE qIU.eq_1/\OE qI2.eq_1/\OE qI3.eq_1/\OE qIX.eq_1/\CE qIQ.eq_1/\CE qIR.eq_1/\CE qIS.eq_1/\OE qFP.eq_1/\OE qI5.eq_1/\OE qI6.eq_1/\OE qI7.eq_1/\CE qI4.eq_1/\OE qFS.eq_1/\OE qFT.eq_1/\OE qFU.eq_1/\OE qFV.eq_1/\OE qFW.eq_1/\OE qFX.eq_1/\CE qFQ.eq_1/\CE qFR.eq_1/\OE qI9.eq_1/\OE qJA.eq_1/\CE qI8.eq_1/\OE qJE.eq_1:=by and_intros<;>first|exact OEM _|exact CEM _
@[go_sem] theorem rR7:OE qJF.eq_1/\OE qJG.eq_1/\OE qJH.eq_1/\OE qJI.eq_1/\OE qJJ.eq_1/\OE qJK.eq_1/\OE qJL.eq_1/\OE qJM.eq_1/\CE qJD.eq_1/\CE qJB.eq_1/\CE qJC.eq_1/\OE qFY.eq_1/\OE qFZ.eq_1/\OE qF0.eq_1/\OE qJO.eq_1/\OE qJP.eq_1/\CE qJN.eq_1/\OE qJW.eq_1/\OE qJX.eq_1/\OE qJY.eq_1/\OE qJZ.eq_1/\OE qJ0.eq_1/\OE qJ1.eq_1/\OE qJ2.eq_1/\OE qJ3.eq_1/\OE qJ4.eq_1/\CE qJV.eq_1/\CE qJQ.eq_1/\CE qJR.eq_1/\CE qJS.eq_1/\CE qJT.eq_1/\CE qJU.eq_1/\OE qF3.eq_1/\OE qF4.eq_1/\OE qF5.eq_1/\CE qF1.eq_1/\CE qF2.eq_1/\OE qGK.eq_1/\OE qGL.eq_1/\OE qGM.eq_1/\OE qGN.eq_1/\OE qGO.eq_1/\OE qGP.eq_1/\OE qGQ.eq_1/\OE qGR.eq_1/\CE qGI.eq_1/\CE qGJ.eq_1/\CE qGG.eq_1/\CE qGH.eq_1:=by and_intros<;>first|exact OEM _|exact CEM _
def kE:List (Nat×qJ):=[(1100,W8),(1206,XP),(1330,XS),(1012,Wv),(1106,XE),(732,Ye),(1013,Ww),(1099,W7),(717,YX),(331,YD),(74,F74),(889,Yr),(577,YV),(1051,W5),(1091,W6),(1014,Wx),(1331,XT),(1015,Wy),(632,YW),(266,X8),(1101,W9),(719,YY),(1103,XB),(721,Ya),(875,Yo),(876,Yp),(908,Ys),(911,Yt),(1102,XA),(720,YZ),(722,Yb),(335,YF),(340,YG),(1440,Xe),(1513,Xn),(1441,Xf),(1442,Xg),(1241,XR),(921,Yu),(541,YU),(208,X7),(1393,XY),(1237,XQ),(1496,Xi),(1497,Xj),(1498,Xk),(1394,XZ),(1107,XF),(735,Yf),(358,YI),(327,YA),(326,X9),(328,YB),(329,YC),(1108,XG),(737,Yg),(1185,XJ),(871,Yl),(872,Ym),(736,Zp),(359,Zo),(738,Yh),(360,YJ),(361,UQ),(101,Wu),(739,Yi),(362,YK),(102,Wz),(363,YL),(103,W0),(332,YE),(73,F73),(1104,XC),(1391,XW),(729,Yd),(1392,XX),(1105,XD),(728,Yc),(350,YH),(98,F98),(1470,Xh),(1424,Xb),(1187,XL),(1333,XU),(1550,Xs),(1551,Xt),(1559,Xz),(1552,Xu),(1537,Xo),(1538,Xp),(1510,Xl),(1423,Xa),(1186,XK),(873,Yn),(509,YN),(189,X2),(1050,W4),(1143,XH),(1144,XI),(807,Yj),(445,YM),(144,Xd),(1002,Ws),(1383,XV),(1189,XN),(1190,XO),(1327,Zn),(1556,Xy),(1553,Xv),(1561,X1),(1560,X0),(1554,Xw),(1555,Xx),(1539,Xq),(1540,Xr),(1511,Xm),(1425,Xc),(1188,XM),(877,Yq),(511,YO),(190,X3),(512,YP),(513,UR),(191,X4),(514,YQ),(515,YR),(192,X5),(516,YS),(517,YT),(193,X6),(26,F26)]
def kF:List (Nat×AFn):=[(510,.try Y0),(631,.ext (Js UU)),(957,.ext (Js UV)),(1382,.ext (Js UT))]
def Gm(g:Nat):Option AFn:=JH g kF kE
theorem g510:Gm 510=some (.try Y0):=by kernel_rfl
theorem g631:Gm 631=some (.ext (Js UU)):=by kernel_rfl
theorem g957:Gm 957=some (.ext (Js UV)):=by kernel_rfl
theorem qVT:Gm 1382=some (.ext (Js UT)):=by kernel_rfl
theorem qU6:Gm 1100=some (.fn W8):=by kernel_rfl
theorem qVN:Gm 1206=some (.fn XP):=by kernel_rfl
theorem qVQ:Gm 1330=some (.fn XS):=by kernel_rfl
theorem qUY:Gm 1012=some (.fn Wv):=by kernel_rfl
theorem qVC:Gm 1106=some (.fn XE):=by kernel_rfl
theorem g732:Gm 732=some (.fn Ye):=by kernel_rfl
theorem qUZ:Gm 1013=some (.fn Ww):=by kernel_rfl
theorem qU5:Gm 1099=some (.fn W7):=by kernel_rfl
theorem g717:Gm 717=some (.fn YX):=by kernel_rfl
theorem g331:Gm 331=some (.fn YD):=by kernel_rfl
theorem g74:Gm 74=some (.fn F74):=by kernel_rfl
theorem g889:Gm 889=some (.fn Yr):=by kernel_rfl
theorem g577:Gm 577=some (.fn YV):=by kernel_rfl
theorem qU3:Gm 1051=some (.fn W5):=by kernel_rfl
theorem qU4:Gm 1091=some (.fn W6):=by kernel_rfl
theorem qU0:Gm 1014=some (.fn Wx):=by kernel_rfl
theorem qVR:Gm 1331=some (.fn XT):=by kernel_rfl
theorem qU1:Gm 1015=some (.fn Wy):=by kernel_rfl
theorem g632:Gm 632=some (.fn YW):=by kernel_rfl
theorem g266:Gm 266=some (.fn X8):=by kernel_rfl
theorem qU7:Gm 1101=some (.fn W9):=by kernel_rfl
theorem g719:Gm 719=some (.fn YY):=by kernel_rfl
theorem qU9:Gm 1103=some (.fn XB):=by kernel_rfl
theorem g721:Gm 721=some (.fn Ya):=by kernel_rfl
theorem g875:Gm 875=some (.fn Yo):=by kernel_rfl
theorem g876:Gm 876=some (.fn Yp):=by kernel_rfl
theorem g908:Gm 908=some (.fn Ys):=by kernel_rfl
theorem g911:Gm 911=some (.fn Yt):=by kernel_rfl
theorem qU8:Gm 1102=some (.fn XA):=by kernel_rfl
theorem g720:Gm 720=some (.fn YZ):=by kernel_rfl
theorem g722:Gm 722=some (.fn Yb):=by kernel_rfl
theorem g335:Gm 335=some (.fn YF):=by kernel_rfl
theorem g340:Gm 340=some (.fn YG):=by kernel_rfl
theorem qV2:Gm 1440=some (.fn Xe):=by kernel_rfl
theorem qWB:Gm 1513=some (.fn Xn):=by kernel_rfl
theorem qV3:Gm 1441=some (.fn Xf):=by kernel_rfl
theorem qV4:Gm 1442=some (.fn Xg):=by kernel_rfl
theorem qVP:Gm 1241=some (.fn XR):=by kernel_rfl
theorem g921:Gm 921=some (.fn Yu):=by kernel_rfl
theorem g541:Gm 541=some (.fn YU):=by kernel_rfl
theorem g208:Gm 208=some (.fn X7):=by kernel_rfl
theorem qVX:Gm 1393=some (.fn XY):=by kernel_rfl
theorem qVO:Gm 1237=some (.fn XQ):=by kernel_rfl
theorem qV6:Gm 1496=some (.fn Xi):=by kernel_rfl
theorem qV7:Gm 1497=some (.fn Xj):=by kernel_rfl
theorem qV8:Gm 1498=some (.fn Xk):=by kernel_rfl
theorem qVY:Gm 1394=some (.fn XZ):=by kernel_rfl
theorem qVD:Gm 1107=some (.fn XF):=by kernel_rfl
theorem g735:Gm 735=some (.fn Yf):=by kernel_rfl
theorem g358:Gm 358=some (.fn YI):=by kernel_rfl
theorem g327:Gm 327=some (.fn YA):=by kernel_rfl
theorem g326:Gm 326=some (.fn X9):=by kernel_rfl
theorem g328:Gm 328=some (.fn YB):=by kernel_rfl
theorem g329:Gm 329=some (.fn YC):=by kernel_rfl
theorem qVE:Gm 1108=some (.fn XG):=by kernel_rfl
theorem g737:Gm 737=some (.fn Yg):=by kernel_rfl
theorem qVH:Gm 1185=some (.fn XJ):=by kernel_rfl
theorem g871:Gm 871=some (.fn Yl):=by kernel_rfl
theorem g872:Gm 872=some (.fn Ym):=by kernel_rfl
theorem g736:Gm 736=some (.fn Zp):=by kernel_rfl
theorem g359:Gm 359=some (.fn Zo):=by kernel_rfl
theorem g738:Gm 738=some (.fn Yh):=by kernel_rfl
theorem g360:Gm 360=some (.fn YJ):=by kernel_rfl
theorem g361:Gm 361=some (.fn UQ):=by kernel_rfl
theorem g101:Gm 101=some (.fn Wu):=by kernel_rfl
theorem g739:Gm 739=some (.fn Yi):=by kernel_rfl
theorem g362:Gm 362=some (.fn YK):=by kernel_rfl
theorem g102:Gm 102=some (.fn Wz):=by kernel_rfl
theorem g363:Gm 363=some (.fn YL):=by kernel_rfl
theorem g103:Gm 103=some (.fn W0):=by kernel_rfl
theorem g332:Gm 332=some (.fn YE):=by kernel_rfl
theorem g73:Gm 73=some (.fn F73):=by kernel_rfl
theorem qVA:Gm 1104=some (.fn XC):=by kernel_rfl
theorem qVV:Gm 1391=some (.fn XW):=by kernel_rfl
theorem g729:Gm 729=some (.fn Yd):=by kernel_rfl
theorem qVW:Gm 1392=some (.fn XX):=by kernel_rfl
theorem qVB:Gm 1105=some (.fn XD):=by kernel_rfl
theorem g728:Gm 728=some (.fn Yc):=by kernel_rfl
theorem g350:Gm 350=some (.fn YH):=by kernel_rfl
theorem g98:Gm 98=some (.fn F98):=by kernel_rfl
theorem qV5:Gm 1470=some (.fn Xh):=by kernel_rfl
theorem qV0:Gm 1424=some (.fn Xb):=by kernel_rfl
theorem qVJ:Gm 1187=some (.fn XL):=by kernel_rfl
theorem qVS:Gm 1333=some (.fn XU):=by kernel_rfl
theorem qWG:Gm 1550=some (.fn Xs):=by kernel_rfl
theorem qWH:Gm 1551=some (.fn Xt):=by kernel_rfl
theorem qWN:Gm 1559=some (.fn Xz):=by kernel_rfl
theorem qWI:Gm 1552=some (.fn Xu):=by kernel_rfl
theorem qWC:Gm 1537=some (.fn Xo):=by kernel_rfl
theorem qWD:Gm 1538=some (.fn Xp):=by kernel_rfl
theorem qV9:Gm 1510=some (.fn Xl):=by kernel_rfl
theorem qVZ:Gm 1423=some (.fn Xa):=by kernel_rfl
theorem qVI:Gm 1186=some (.fn XK):=by kernel_rfl
theorem g873:Gm 873=some (.fn Yn):=by kernel_rfl
theorem g509:Gm 509=some (.fn YN):=by kernel_rfl
theorem g189:Gm 189=some (.fn X2):=by kernel_rfl
theorem qU2:Gm 1050=some (.fn W4):=by kernel_rfl
theorem qVF:Gm 1143=some (.fn XH):=by kernel_rfl
theorem qVG:Gm 1144=some (.fn XI):=by kernel_rfl
theorem g807:Gm 807=some (.fn Yj):=by kernel_rfl
theorem g445:Gm 445=some (.fn YM):=by kernel_rfl
theorem g144:Gm 144=some (.fn Xd):=by kernel_rfl
theorem qUX:Gm 1002=some (.fn Ws):=by kernel_rfl
theorem qVU:Gm 1383=some (.fn XV):=by kernel_rfl
theorem qVL:Gm 1189=some (.fn XN):=by kernel_rfl
theorem qVM:Gm 1190=some (.fn XO):=by kernel_rfl
theorem qOR:Gm 1327=some (.fn Zn):=by kernel_rfl
theorem qWM:Gm 1556=some (.fn Xy):=by kernel_rfl
theorem qWJ:Gm 1553=some (.fn Xv):=by kernel_rfl
theorem qWP:Gm 1561=some (.fn X1):=by kernel_rfl
theorem qWO:Gm 1560=some (.fn X0):=by kernel_rfl
theorem qWK:Gm 1554=some (.fn Xw):=by kernel_rfl
theorem qWL:Gm 1555=some (.fn Xx):=by kernel_rfl
theorem qWE:Gm 1539=some (.fn Xq):=by kernel_rfl
theorem qWF:Gm 1540=some (.fn Xr):=by kernel_rfl
theorem qWA:Gm 1511=some (.fn Xm):=by kernel_rfl
theorem qV1:Gm 1425=some (.fn Xc):=by kernel_rfl
theorem qVK:Gm 1188=some (.fn XM):=by kernel_rfl
theorem g877:Gm 877=some (.fn Yq):=by kernel_rfl
theorem g511:Gm 511=some (.fn YO):=by kernel_rfl
theorem g190:Gm 190=some (.fn X3):=by kernel_rfl
theorem g512:Gm 512=some (.fn YP):=by kernel_rfl
theorem g513:Gm 513=some (.fn UR):=by kernel_rfl
theorem g191:Gm 191=some (.fn X4):=by kernel_rfl
theorem g514:Gm 514=some (.fn YQ):=by kernel_rfl
theorem g515:Gm 515=some (.fn YR):=by kernel_rfl
theorem g192:Gm 192=some (.fn X5):=by kernel_rfl
theorem g516:Gm 516=some (.fn YS):=by kernel_rfl
theorem g517:Gm 517=some (.fn YT):=by kernel_rfl
theorem g193:Gm 193=some (.fn X6):=by kernel_rfl
theorem g26:Gm 26=some (.fn F26):=by kernel_rfl
end Go.Ab
namespace Go.Ab
open Go
section
variable {E:Ev} {ks:List Fr1} {s m:qf} {h:List qD} {Q:qS->VSt->Prop} {l:List qC} {a b:List UInt8}
def qPR(t:Nat):Option AV->Option AV
 | some v=>some (.iface t v)
 | none=>none
@[go_sem] theorem qiK{t:Nat}{v:AV}:qPR t (some v)=some (.iface t v):=rfl
@[go_sem] theorem qf9{i t:Nat}{d:Option Nat}{g:Option (Nat×Bool)}{x:Ao}{ck:List qC}:Go1 E (.mk i d g (.mkif t x) ck) l ks ⟨s,m,h⟩ Q=Put E (qPR t (ev (toE s) x)) d l ks ⟨s,m,h⟩ Q:=by
 rw[zR rfl fun _=>rfl];congr 1;show (ev (toE s) x).map (AV.iface t)=_;cases ev (toE s) x<;>rfl
def KD:Bool->Option AV->Option AV
 | n,some (.iface _ _)=>some (.bool n)
 | n,some .nili=>some (.bool !n)
 | _,_=>none
@[go_sem] theorem qhG{n:Bool}{t:Nat}{v:AV}:KD n (some (.iface t v))=some (.bool n):=rfl
@[go_sem] theorem qhH{n:Bool}:KD n (some .nili)=some (.bool !n):=rfl
@[go_sem] theorem qfZ{i:Nat}{d:Option Nat}{g:Option (Nat×Bool)}{n:Bool}{x:Ao}{ck:List qC}:Go1 E (.mk i d g (.isnil 4 n x) ck) l ks ⟨s,m,h⟩ Q=Put E (KD n (ev (toE s) x)) d l ks ⟨s,m,h⟩ Q:=by
 rw[zR rfl fun _=>rfl];congr 1;show ((ev (toE s) x).bind (AV.isNil 4)).map (fun b=>AV.bool (if n then !b else b))=_;generalize ev (toE s) x=o;rcases o with _ | v
 ·rfl
 ·cases v<;>cases n<;>rfl
@[go_sem] theorem qk7:wS .eql a b=some (.bool (a==b)):=rfl
@[go_sem] theorem qk8:wS .neq a b=some (.bool (!(a==b))):=rfl
@[go_sem] theorem qk1{k:IntKind}:V9 (some (.str a)) (some (.int k 0))=(a[0]?).map fun b=>.int .u8 b.toNat:=qb8 (n:=0)
theorem kB(h:a.length+b.length<=9223372036854775807):wS .add a b=some (.str (a++b)):=if_pos h
theorem Wk{x lo hi:Ao}{k1 k2:IntKind}{n e:Nat}{hh:AH}{mm:Env}(h1:ev (toE s) x=some (.str a))(h2:ev (toE s) lo=some (.int k1 (n:Int)))(h3:ev (toE s) hi=some (.int k2 (e:Int)))(he:e<=a.length)(hb:n<=e):
  val (.sslc x (some lo) (some hi)) (toE s) mm hh=some (.str ((a.drop n).take (e-n))):=by
 simp only[val,h1,bnd,h3];rw[if_pos ⟨by omega,by omega⟩];simp only[h2];rw[if_pos ⟨by omega,by simpa using hb⟩];simp
theorem qcF{x lo:Ao}{k1:IntKind}{n:Nat}{hh:AH}{mm:Env}(h1:ev (toE s) x=some (.str a))(h2:ev (toE s) lo=some (.int k1 (n:Int)))(hb:n<=a.length):
  val (.sslc x (some lo) none) (toE s) mm hh=some (.str (a.drop n)):=by
 simp only[val,h1,bnd,h2];rw[if_pos ⟨by omega,by simpa using hb⟩];show some (AV.str (List.take (a.length-((n:Int)).toNat) (List.drop ((n:Int)).toNat a)))=_;rw[Int.toNat_natCast,List.take_of_length_le (by simp)]
end
abbrev Str:=List UInt8
def jD(b:UInt8):Bool:=decide (97<=b.toNat)&&decide (b.toNat<=122)
def jF(b:UInt8):Bool:=decide (65<=b.toNat)&&decide (b.toNat<=90)
def zH(b:UInt8):Bool:=decide (48<=b.toNat)&&decide (b.toNat<=57)
def zB(b:UInt8):Bool:=jD b || (jF b || zH b)
def kws:List Str:=[[100,97,116,97],[100,101,102],[108,101,116],[105,110],[109,97,116,99,104],[105,102],[116,104,101,110],[101,108,115,101]]
def zf(s:Str):Bool:=kws.contains s
def zr(s:Str):Bool:=match s with
 |[]=>false
 | c::_=>decide (s.length<=12)&&(!zH c&&(!zf s&&s.all zB))
def zk(s:Str):Bool:=zr s&&jF (s.headD 0)
def zj(s:Str):Bool:=zr s&&jD (s.headD 0)
def qe(t:Str)(i:Nat):Str:=(t.drop i).takeWhile zB
end Go.Ab
namespace Go.Ab
open Go
set_option maxRecDepth 10000
end Go.Ab
namespace Go.Ab
open Go
set_option maxRecDepth 10000
set_option maxHeartbeats 2000000
theorem qNH{b:UInt8}:Pure Gm 1100 [.int .u8 (b.toNat:Nat)] (.bool (jF b)):=by
 refine Pure.intro [] [] qU6 (by kernel_rfl) rfl (by simp[AV.trees,AV.tree,go_sem]) rfl ?_;simp only[W8,qI,go_sem]
 first | (apply J8<;>intro hc<;>simp only[hc,go_sem]) | (apply jR<;>intro hc<;>simp only[hc,go_sem])
 ·exact qE rfl (by first | (simp[jF]at hc|-;omega) | (simp only[dTe,decide_eq_false_iff_not]at hc;congr 1;rw[Bool.eq_iff_iff];simp[jF];omega))
 ·exact qE rfl (by first | (simp[jF]at hc|-;omega) | (simp only[dTe,decide_eq_false_iff_not]at hc;congr 1;rw[Bool.eq_iff_iff];simp[jF];omega))
theorem qNI{b:UInt8}:Pure Gm 1206 [.int .u8 (b.toNat:Nat)] (.bool (jD b)):=by
 refine Pure.intro [] [] qVN (by kernel_rfl) rfl (by simp[AV.trees,AV.tree,go_sem]) rfl ?_;simp only[XP,qI,go_sem]
 first | (apply J8<;>intro hc<;>simp only[hc,go_sem]) | (apply jR<;>intro hc<;>simp only[hc,go_sem])
 ·exact qE rfl (by first | (simp[jD]at hc|-;omega) | (simp only[dTe,decide_eq_false_iff_not]at hc;congr 1;rw[Bool.eq_iff_iff];simp[jD];omega))
 ·exact qE rfl (by first | (simp[jD]at hc|-;omega) | (simp only[dTe,decide_eq_false_iff_not]at hc;congr 1;rw[Bool.eq_iff_iff];simp[jD];omega))
theorem qNK{b:UInt8}:Pure Gm 1330 [.int .u8 (b.toNat:Nat)] (.bool (zH b)):=by
 refine Pure.intro [] [] qVQ (by kernel_rfl) rfl (by simp[AV.trees,AV.tree,go_sem]) rfl ?_;simp only[XS,qI,go_sem]
 first | (apply J8<;>intro hc<;>simp only[hc,go_sem]) | (apply jR<;>intro hc<;>simp only[hc,go_sem])
 ·exact qE rfl (by first | (simp[zH]at hc|-;omega) | (simp only[dTe,decide_eq_false_iff_not]at hc;congr 1;rw[Bool.eq_iff_iff];simp[zH];omega))
 ·exact qE rfl (by first | (simp[zH]at hc|-;omega) | (simp only[dTe,decide_eq_false_iff_not]at hc;congr 1;rw[Bool.eq_iff_iff];simp[zH];omega))
theorem Uk{b:UInt8}:Pure Gm 1012 [.int .u8 (b.toNat:Nat)] (.bool (zB b)):=by
 refine Pure.intro [] [] qUY (by kernel_rfl) rfl (by simp[AV.trees,AV.tree,go_sem]) rfl ?_;simp only[Wv,qI,go_sem];refine qH qNI ?_;simp only[go_sem];cases h1:jD b<;>simp only[go_sem]
 ·refine qH qNH ?_;simp only[go_sem];cases h2:jF b<;>simp only[go_sem]
  ·refine qH qNK ?_;simp only[go_sem];exact qE rfl (by simp[zB,h1,h2])
  ·exact qE rfl (by simp[zB,h1,h2])
 ·exact qE rfl (by simp[zB,h1])
end Go.Ab
namespace Go.Ab
open Go
set_option maxRecDepth 10000
set_option maxHeartbeats 2000000
theorem qSZ{xs:List Str}{v:Str}(hl:xs.length<=1048576):Pure Gm 1106 [.lst 1 (xs.map qQ) false,.str v] (.int .i64 (JG (fun x=>v==x) xs 0)):=by
 refine Pure.intro [] [] qVC (by kernel_rfl) rfl (by simp[AV.trees,AV.tree,jU shS.tree]) rfl ?_;simp only[XE,qI,go_sem];refine Sem.loop (fun i:Nat=>i<=xs.length/\JG (fun x=>v==x) xs 0=JG (fun x=>v==x) (xs.drop i) i) (fun i=>(⟨[(0,.lst 1 (xs.map qQ) false),(1,.str v),(7,.int .i64 xs.length),(8,.int .i64 (i:Nat))],[],[]⟩:VSt)) (fun i=>xs.length-i) 0 (by kernel_rfl) ⟨nZl _,by simp⟩ (Can.sub (by simp[go_sem]) (by simp[go_sem])) ?_;rintro i ⟨hi,hI⟩;simp only[go_sem];apply jR<;>intro hc<;>simp only[hc,go_sem]
 ·have hlt:i<xs.length:=by have:=odT hc;omega
  simp only[gMp,gEg hlt,oMs,shS.part,qQ,go_sem];have hd:xs.drop i=xs[i]::xs.drop (i+1):=by simp
  apply jR<;>intro hc<;>simp only[hc,go_sem]
  ·refine qE rfl ?_;have hq:=odT hc;rw[hI,hd];simp[JG,<-hq]
  ·simp only[zM (show i<4611686018427387904 by omega)];refine qx (i+1) ⟨by omega, ?_⟩ (by omega) (Can.sub (by simp[go_sem]) (by simp[go_sem]));have hq:=odF hc;rw[hI,hd];simp only[JG];rw[if_neg (by simpa using hq)]
 ·obtain rfl:i=xs.length:=by have:=odF hc;omega
  refine qE rfl ?_;rw[hI];simp[JG]
theorem c732{xs:List Str}{v:Str}(hl:xs.length<=1048576):Pure Gm 732 [.lst 1 (xs.map qQ) false,.str v] (.bool (xs.any fun x=>v==x)):=by
 refine Pure.intro [] [] g732 (by kernel_rfl) rfl (by simp[AV.trees,AV.tree,jU shS.tree]) rfl ?_;simp only[Ye,qI,go_sem];simp only[ctnF,qI];simp only[go_sem];refine qH (qSZ hl) ?_;simp only[go_sem];exact qE rfl (by rw[<-qOW _ xs 0])
theorem qND{v:Str}:Pure Gm 1013 [.str v] (.bool (zf v)):=by
 refine Pure.intro [] [] qUZ (by kernel_rfl) rfl (by simp[AV.trees,AV.tree,go_sem]) rfl ?_;simp only[Ww,qI,go_sem];rw[show zE _ _ _ _=some (kws.map qQ)from rfl];simp only[go_sem];refine QT (vs':=[.lst 1 (kws.map qQ) false,.str v]) (Cvs.cons (Cv.row rfl rfl rfl (by decide)) (Cvs.cons (.refl rfl) Cvs.nil)) (c732 (by decide)) rfl ?_;simp only[go_sem];exact qE rfl (by simp only[zf,List.contains_eq_any_beq])
theorem qNG{v:Str}(hl:v.length<=4611686018427387904):Pure Gm 1099 [.str v] (.bool (zr v)):=by
 refine Pure.intro [] [] qU5 (by kernel_rfl) rfl (by simp[AV.trees,AV.tree,go_sem]) rfl ?_;simp only[W7,qI,go_sem];by_cases h0:v.length<1
 ·have e0:decide ((v.length:Int)<1)=true:=decide_eq_true (by omega);simp only[e0,go_sem];exact qE rfl (by have:v=[]:=List.length_eq_zero_iff.1 (by omega);subst this;rfl)
 have e0:decide ((v.length:Int)<1)=false:=decide_eq_false (by omega);simp only[e0,go_sem];obtain⟨c,r,hv⟩:∃c r,v=c::r:=by cases v with
  | nil=>simp at h0
  | cons c r=>exact⟨c,r,rfl⟩
 by_cases h12:v.length<=12
 case neg=>
  have e1:decide ((v.length:Int)>12)=true:=decide_eq_true (by omega);simp only[gt_iff_lt]at e1;simp only[e1,go_sem];exact qE rfl (by subst hv;simp only[zr,decide_eq_false h12,Bool.false_and])
 have e1:decide ((v.length:Int)>12)=false:=decide_eq_false (by omega);simp only[gt_iff_lt]at e1;have eh:v[0]?=some c:=by rw[hv];rfl
 simp only[e1,go_sem,eh,oMs];refine qH qNK ?_;simp only[go_sem];cases hd:zH c
 case true=>
  simp only[go_sem];exact qE rfl (by subst hv;simp[zr,hd])
 simp only[go_sem];refine qH qND ?_;simp only[go_sem];cases hk:zf v
 case true=>
  simp only[go_sem];exact qE rfl (by subst hv;simp[zr,hk])
 simp only[go_sem];have hn:zr v=v.all zB:=by subst hv;simp only[zr,hd,hk,decide_eq_true h12,Bool.not_false,Bool.true_and]
 refine Sem.loop (fun i:Nat=>i<=v.length/\v.all zB=(v.drop i).all zB) (fun i=>(⟨[(0,.str v),(22,.int .i64 v.length),(23,.int .i64 (i:Nat))],[],[]⟩:VSt)) (fun i=>v.length-i) 0 (by kernel_rfl) ⟨nZl _,by simp⟩ (Can.sub (by simp[go_sem]) (by simp[go_sem])) ?_;rintro i ⟨hi,hI⟩;simp only[go_sem];apply jR<;>intro hc<;>simp only[hc,go_sem]
 ·have hlt:i<v.length:=by have:=odT hc;omega
  have hq:v.drop i=v[i]::v.drop (i+1):=by simp
  simp only[gEg hlt,oMs,go_sem];refine qH Uk ?_;simp only[go_sem];cases hw:zB v[i]
  ·simp only[Bool.not_false];simp only[go_sem];refine qE rfl ?_;rw[hn,hI,hq,lAc,hw,Bool.false_and]
  ·simp only[Bool.not_true];simp only[go_sem];simp only[zM (show i<4611686018427387904 by omega)];refine qx (i+1) ⟨by omega, ?_⟩ (by omega) (Can.sub (by simp[go_sem]) (by simp[go_sem]));rw[hI,hq,lAc,hw,Bool.true_and]
 ·obtain rfl:i=v.length:=by have:=odF hc;omega
  refine qE rfl ?_;rw[hn,hI];simp
theorem j6{v:Str}(hl:v.length<=4611686018427387904):Pure Gm 717 [.str v] (.bool (zk v)):=by
 refine Pure.intro [] [] g717 (by kernel_rfl) rfl (by simp[AV.trees,AV.tree,go_sem]) rfl ?_;simp only[YX,qI,go_sem];refine qH (qNG hl) ?_;simp only[go_sem];cases hn:zr v
 ·simp only[go_sem];exact qE rfl (by simp[zk,hn])
 ·cases v with
  | nil=>cases hn
  | cons c r=>
  simp only[List.getElem?_cons_zero,oMs,go_sem];refine qH qNH ?_;simp only[go_sem];exact qE rfl (by simp[zk,hn])
theorem j7{v:Str}(hl:v.length<=4611686018427387904):Pure Gm 889 [.str v] (.bool (zj v)):=by
 refine Pure.intro [] [] g889 (by kernel_rfl) rfl (by simp[AV.trees,AV.tree,go_sem]) rfl ?_;simp only[Yr,qI,go_sem];refine qH (qNG hl) ?_;simp only[go_sem];cases hn:zr v
 ·simp only[go_sem];exact qE rfl (by simp[zj,hn])
 ·cases v with
  | nil=>cases hn
  | cons c r=>
  simp only[List.getElem?_cons_zero,oMs,go_sem];refine qH qNI ?_;simp only[go_sem];exact qE rfl (by simp[zj,hn])
end Go.Ab
namespace Go.Ab
open Go
structure qL where
 Kind:Int
 Text:List UInt8
 At:Int
def qL.enc(x:qL):AV:=.agg [.int .i64 x.Kind,.str x.Text,.int .i64 x.At]
theorem qL.isSh:Sh qL.enc 3 (some 3):=⟨fun x=>by simp[qL.enc,AV.tree,AV.trees],fun _=>rfl,fun _=>rfl,by decide,fun x=>by simp[qL.enc]⟩
section
variable {x:qL}
@[go_sem] theorem qL.tr:x.enc.tree=true:=qL.isSh.tree x
@[go_sem] theorem qL.ln:x.enc.cells.length=3:=nr rfl
@[go_sem] theorem qL.all:x.enc.part 0 (some 3)=some x.enc:=nr rfl
@[go_sem] theorem qL.cs:x.enc.cells=[.int .i64 x.Kind,.str x.Text,.int .i64 x.At]:=nr rfl
@[go_sem] theorem qL.p0:x.enc.part 0 none=some (.int .i64 x.Kind):=nr rfl
@[go_sem] theorem qL.p1:x.enc.part 1 none=some (.str x.Text):=nr rfl
@[go_sem] theorem qL.p2:x.enc.part 2 none=some (.int .i64 x.At):=nr rfl
end
def qL.sz(x:qL):Nat:=x.Text.length
def qL.bd(x:qL):Prop:=x.Text.length<=140737488355328
def pfx(p s:Str):Bool:=decide (p.length<=s.length)&&decide (s.take p.length=p)
def zq:Str:=[43,45,42,47,60,61,40,41,91,93,123,125,44,59,58,46,124,33,92]
def ZA:Str:=[32,10,9]
def wX:Str:=[50,49,52,55,52,56,51,54,52,56]
def js(s:Str):Option Int:=match Lib.parseIntB 64 s with
 |.ok n=>if (-2147483648<=n/\n<=2147483647)/\Lib.itoa n=s then some n else none
 | _=>none
def Jl(s:Str):Bool:=match js s with
 | some n=>decide (0<=n)
 | none=>false
def zF(t:Str)(i:Nat):Int×Nat:=
 if 0<(qe t i).length then
  if zf (qe t i)then(3,i+(qe t i).length)else if zj (qe t i)then(1,i+(qe t i).length)else if zk (qe t i)then(2,i+(qe t i).length)
  else if decide (qe t i=wX) || Jl (qe t i)then(4,i+(qe t i).length)else(0,i)
 else if pfx [45,62] (t.drop i)then(5,i+2)else if 0<=Lib.indexByte zq (t.getD i 0).toNat.toUInt8 then(5,i+1)else(0,i)
def ji(t:Str):Nat->Nat->List qL->Except Nat (List qL)
 | 0,_,acc=>.ok acc
 | f+1,i,acc=>if i<t.length then
   if 0<=Lib.indexByte ZA (t.getD i 0).toNat.toUInt8 then ji t f (i+1) acc
   else if (zF t i).1=0 then .error i
   else ji t f (zF t i).2 (acc++[⟨(zF t i).1,(t.drop i).take ((zF t i).2-i),i⟩])
  else .ok acc
def JQ(t:Str):Except Nat (List qL):=ji t t.length 0 []
theorem qR3{p:UInt8->Bool}:∀{l:Str}{k:Nat},k<=(l.takeWhile p).length->((∃c,l[k]?=some c/\p c=true)↔k<(l.takeWhile p).length)
 |[],k,h=>by simp
 | x::l,k,h=>by
  by_cases hx:p x=true
  ·rw[List.takeWhile_cons_of_pos hx]at h|-;cases k with
   | zero=>simp[hx]
   | succ k=>
    simp only[lCo,Nat.add_le_add_iff_right]at h;have:=qR3 (p:=p) h;simpa using this
  ·rw[List.takeWhile_cons_of_neg hx]at h|-;have:k=0:=by simpa using h
   subst this;simp[hx]
theorem kL{p:UInt8->Bool}:∀{l:Str},l.take (l.takeWhile p).length=l.takeWhile p
 |[]=>rfl
 | x::l=>by
  by_cases hx:p x=true
  ·rw[List.takeWhile_cons_of_pos hx];simp[kL]
  ·rw[List.takeWhile_cons_of_neg hx];rfl
theorem qc5{p:UInt8->Bool}{l:Str}:(l.takeWhile p).length<=l.length:=by
 rw[<-kL (p:=p) (l:=l),lLt];omega
theorem kO{t:Str}{i k:Nat}(h:k<=(qe t i).length):(∃c,t[i+k]?=some c/\zB c=true)↔k<(qe t i).length:=by
 have:=qR3 (p:=zB) (l:=t.drop i) (k:=k) h;rw[gDr]at this;exact this
theorem kP{t:Str}{i:Nat}:(t.drop i).take (qe t i).length=qe t i:=kL
theorem UM{t:Str}{i:Nat}:i<=t.length->i+(qe t i).length<=t.length:=fun h=>by
 have:=qc5 (p:=zB) (l:=t.drop i);rw[List.length_drop]at this;unfold qe;omega
theorem Wn{t:Str}{i:Nat}(h:i<t.length):i<=(zF t i).2/\(zF t i).2<=t.length/\((zF t i).1≠0->i<(zF t i).2):=by
 have hw:=UM (t:=t) (i:=i) (by omega);have hp:pfx [45,62] (t.drop i)=true->i+2<=t.length:=fun q=>by
  simp only[pfx,bAt,dTe,List.length_drop,lCo,lNi]at q;omega
 unfold zF
 repeat' split
 all_goals first
  | (rename_i q;have:=hp q;refine⟨?_, ?_,fun _=> ?_⟩<;>simp only<;>omega)
  | (refine⟨?_, ?_,fun q=> ?_⟩<;>simp only at* <;>first | omega | exact absurd rfl q)
end Go.Ab
namespace Go.Ab
open Go
set_option maxRecDepth 10000
set_option maxHeartbeats 2000000
theorem qcE{E:Ev}{s:qf}{a:Str}{x hi:Ao}{k1:IntKind}{n:Nat}{hh:AH}{mm:Env}(h1:ev (toE s) x=some (.str a))(h2:ev (toE s) hi=some (.int k1 (n:Int)))(hb:n<=a.length):
  val (.sslc x none (some hi)) (toE s) mm hh=some (.str (a.take n)):=by
 simp only[val,h1,bnd,h2];rw[if_pos ⟨by omega,by omega⟩];simp
theorem qOY{s:Str}{c:UInt8}:Pure Gm 631 [.str s,.int .u8 (c.toNat:Nat)] (.int .i64 (Lib.indexByte s (c.toNat:Nat).toUInt8)):=
 Pure.told g631 rfl ⟨s,_,rfl,by simp⟩ rfl rfl
theorem qUU{n:Int}(h0: -9223372036854775808<=n)(h1:n<=9223372036854775807):Pure Gm 957 [.int .i64 n,.int .i64 10] (.str (Lib.itoa n)):=
 Pure.told g957 rfl ⟨n,rfl,h0,h1,rfl⟩ rfl rfl
theorem qaY{s:Str}{h:List qD}(hl:s.length<=140737488355328):SCallP Gm 1382 [.str s,.int .i64 10,.int .i64 64] h fun v=>v=Qo s:=
 SCallP.told qVT rfl ⟨s,rfl,hl,rfl⟩ (fun ρ=>by unfold Qo;split<;>simp only[RelV,RelVs]<;>simp)
theorem qS3{p s:Str}(hl:p.length<=1000000):Pure Gm 1331 [.str s,.str p] (.bool (pfx p s)):=by
 refine Pure.intro [] [] qVR (by kernel_rfl) rfl (by simp[AV.trees,AV.tree,go_sem]) rfl ?_;simp only[XT,qI,go_sem];by_cases hp:p.length<=s.length
 ·have e:decide ((s.length:Int)≥p.length)=true:=decide_eq_true (by omega);simp only[ge_iff_le]at e;simp only[e,go_sem];refine Qq (qcE (E:=⟨Gm,0,[],[]⟩) rfl rfl hp) ?_;simp only[go_sem];exact qE rfl (by simp[pfx,hp])
 ·have e:decide ((s.length:Int)≥p.length)=false:=decide_eq_false (by omega);simp only[ge_iff_le]at e;simp only[e,go_sem];exact qE rfl (by simp[pfx,hp])
theorem qSV{p s:Str}(hl:p.length<=1000000):Pure Gm 1015 [.str s,.str p] (.bool (pfx p s)):=by
 refine Pure.intro [] [] qU1 (by kernel_rfl) rfl (by simp[AV.trees,AV.tree,go_sem]) rfl ?_;simp only[Wy,qI,go_sem]
 repeat' (first | (refine zZ rfl ?_;simp only[go_sem]) | (first | (apply J8<;>intro hc<;>simp only[hc,go_sem]) | (apply jR<;>intro hc<;>simp only[hc,go_sem])) | (refine qH (qS3 hl) ?_;simp only[go_sem]) | refine qE rfl ?_ | refine zO (by rfl) ?_)
 all_goals (simp_all<;>omega)
theorem qNF{n:Int}:Pure Gm 1051 [.int .i64 n] (.bool (decide (-2147483648<=n)&&decide (n<=2147483647))):=by
 refine Pure.intro [] [] qU3 (by kernel_rfl) rfl (by simp[AV.trees,AV.tree,go_sem]) rfl ?_;simp only[W5,qI,go_sem]
 first | (apply J8<;>intro hc<;>simp only[hc,go_sem]) | (apply jR<;>intro hc<;>simp only[hc,go_sem])
 ·exact qE rfl (by have hq:=odT hc;simp<;>omega)
 ·exact qE rfl (by have hq:=odF hc;simp<;>omega)
theorem c577{n:Int}(h0: -9223372036854775808<=n)(h1:n<=9223372036854775807):Pure Gm 577 [.int .i64 n] (.str (Lib.itoa n)):=by
 refine Pure.intro [] [] g577 (by kernel_rfl) rfl (by simp[AV.trees,AV.tree,go_sem]) rfl ?_;simp only[YV,qI,go_sem]
 repeat' (first | (refine zZ rfl ?_;simp only[go_sem]) | (first | (apply J8<;>intro hc<;>simp only[hc,go_sem]) | (apply jR<;>intro hc<;>simp only[hc,go_sem])) | (refine qH (qUU h0 h1) ?_;simp only[go_sem]) | refine qE rfl ?_ | refine zO (by rfl) ?_)
 all_goals (simp_all<;>omega)
theorem Y9{s:Str}(hl:s.length<=140737488355328):Pure Gm 1091 [.str s] (.tup [.int .i64 ((js s).getD 0),.bool (js s).isSome]):=by
 refine Pure.intro [] [] qU4 (by kernel_rfl) rfl (by simp[AV.trees,AV.tree,go_sem]) rfl ?_;simp only[W6,qI,go_sem];refine qTC (qaY hl) ?_;unfold Qo;cases hp:Lib.parseIntB 64 s with
 | range=>
  simp only[go_sem];exact zO rfl (by simp[js,hp])
 | ok n=>
  simp only[go_sem];refine qH qNF ?_;simp only[go_sem];cases hb:(decide (-2147483648<=n)&&decide (n<=2147483647))
  ·simp only[Bool.not_false,Bool.not_true];simp only[go_sem];have hn:¬(-2147483648<=n/\n<=2147483647):=by intro q;rw[decide_eq_true q.1,decide_eq_true q.2]at hb;cases hb
   exact zO rfl (by simp[js,hp,hn])
  ·simp only[Bool.not_false,Bool.not_true];simp only[go_sem];simp only[bAt,dTe]at hb;refine qH (c577 (by omega) (by omega)) ?_;simp only[go_sem];by_cases he:Lib.itoa n=s
   ·simp only[he,decide_true,Bool.not_true];simp only[go_sem];exact zO rfl (by simp[js,hp,hb,he])
   ·simp only[he,decide_false,Bool.not_false];simp only[go_sem];exact zO rfl (by simp[js,hp,he])
 | _=>
  simp only[go_sem];exact zO rfl (by simp[js,hp])
theorem qSU{s:Str}(hl:s.length<=140737488355328):Pure Gm 1014 [.str s] (.bool (Jl s)):=by
 refine Pure.intro [] [] qU0 (by kernel_rfl) rfl (by simp[AV.trees,AV.tree,go_sem]) rfl ?_;simp only[Wx,qI,go_sem];refine qH (Y9 hl) ?_;simp only[go_sem];cases hr:js s with
 | none=>
  simp only[Option.isSome_none];simp only[go_sem];exact qE rfl (by simp[Jl,hr])
 | some n=>
  simp only[Option.isSome_some,Option.getD_some];simp only[go_sem];exact qE rfl (by simp[Jl,hr])
end Go.Ab
namespace Go.Ab
open Go
set_option maxRecDepth 10000
set_option maxHeartbeats 2000000
theorem c632{t:Str}{i:Nat}(hi:i<t.length)(hl:t.length<=20000):Pure Gm 632 [.str t,.int .i64 (i:Nat)] (.tup [.int .i64 (zF t i).1,.int .i64 ((zF t i).2:Nat)]):=by
 refine Pure.intro [] [] g632 (by kernel_rfl) rfl (by simp[AV.trees,AV.tree,go_sem]) rfl ?_;simp only[YW,qI,go_sem];refine Sem.loop (fun k:Nat=>k<=(qe t i).length) (fun k=>(⟨[(0,.str t),(1,.int .i64 (i:Nat)),(6,.int .i64 ((i+k:Nat):Int))],[],[]⟩:VSt)) (fun k=>(qe t i).length-k) 0 (by kernel_rfl) (nZl _) (Can.sub (by simp[go_sem]) (by simp[go_sem])) ?_;intro k hk;have ws:=kO hk;have wl:=UM (t:=t) (i:=i) (by omega);simp only[go_sem];have hcase:(k<(qe t i).length/\∃h:i+k<t.length,zB t[i+k]=true)\/(k=(qe t i).length/\(¬i+k<t.length\/∃h:i+k<t.length,zB t[i+k]=false)):=by
  by_cases h1:i+k<t.length
  ·rcases hb:zB t[i+k]with _ | _
   ·have h2:=hb;right;refine⟨?_,.inr ⟨h1,h2⟩⟩;have:¬k<(qe t i).length:=fun q=>by
     obtain⟨c,e1,e2⟩:=ws.2 q;rw[gEg h1]at e1;cases e1;rw[h2]at e2;cases e2
    omega
   ·exact .inl ⟨ws.1 ⟨_,gEg h1,hb⟩,h1,hb⟩
  ·right;exact⟨by omega,.inl h1⟩
 rcases hcase with⟨h1,hlt,hw⟩ | ⟨rfl,hx⟩
 ·have e:decide (((i+k:Nat):Int)<t.length)=true:=decide_eq_true (by omega);simp only[e,gEg hlt,oMs,go_sem];refine qH Uk ?_;simp only[go_sem];simp only[hw];simp only[go_sem];simp only[zM (show i+k<4611686018427387904 by omega)];exact qx (k+1) h1 (by omega) (Can.sub (by simp[go_sem,Nat.add_assoc]) (by simp[go_sem]))
 rcases hx with hx | ⟨hlt,hw⟩
 case' inl=>
  have e:decide (((i+(qe t i).length:Nat):Int)<t.length)=false:=decide_eq_false (by omega);simp only[e,go_sem]
 case' inr=>
  have e:decide (((i+(qe t i).length:Nat):Int)<t.length)=true:=decide_eq_true (by omega);simp only[e,gEg hlt,oMs,go_sem];refine qH Uk ?_;simp only[go_sem];simp only[hw];simp only[go_sem]
 all_goals
  by_cases hp:0<(qe t i).length
  ·have e:decide ((i:Int)<((i+(qe t i).length:Nat):Int))=true:=decide_eq_true (by omega);simp only[e,go_sem];refine Qq (Wk rfl rfl rfl (by omega) (by omega)) ?_;rw[Nat.add_sub_cancel_left,kP];have hwl:(qe t i).length<=20000:=by omega
   generalize hW:qe t i=W at*;have r1:zF t i=if zf W then(3,i+W.length)else if zj W then(1,i+W.length)else if zk W then(2,i+W.length)else if decide (W=wX) || Jl W then(4,i+W.length)else(0,i):=by
    unfold zF;rw[hW,if_pos hp]
   simp only[go_sem];refine qH qND ?_;simp only[go_sem];cases k1:zf W
   case true=>simp only[go_sem];exact zO rfl (by simp[r1,k1])
   simp only[go_sem];refine qH (j7 (by omega)) ?_;simp only[go_sem];cases k2:zj W
   case true=>simp only[go_sem];exact zO rfl (by simp[r1,k1,k2])
   simp only[go_sem];refine qH (j6 (by omega)) ?_;simp only[go_sem];cases k3:zk W
   case true=>simp only[go_sem];exact zO rfl (by simp[r1,k1,k2,k3])
   simp only[go_sem];by_cases k4:W=wX
   ·have e4:decide (W=[50,49,52,55,52,56,51,54,52,56])=true:=decide_eq_true k4;simp only[e4,go_sem];exact zO rfl (by rw[r1];simp only[k1,k2,k3,decide_eq_true k4,Bool.true_or,bFt,if_false,if_true])
   ·have e4:decide (W=[50,49,52,55,52,56,51,54,52,56])=false:=decide_eq_false k4;simp only[e4,go_sem];refine qH (qSU (by omega)) ?_;simp only[go_sem];cases k5:Jl W
    ·simp only[go_sem];exact zO rfl (by simp[r1,k1,k2,k3,k4,k5])
    ·simp only[go_sem];exact zO rfl (by simp[r1,k1,k2,k3,k4,k5])
  ·have e:decide ((i:Int)<((i+(qe t i).length:Nat):Int))=false:=decide_eq_false (by omega);have r1:zF t i=if pfx [45,62] (t.drop i)then(5,i+2)else if 0<=Lib.indexByte zq (t.getD i 0).toNat.toUInt8 then(5,i+1)else(0,i):=by
    unfold zF;rw[if_neg hp]
   simp only[e,go_sem];refine Qq (qcF rfl rfl (by omega)) ?_;simp only[go_sem];refine qH (qSV (by simp)) ?_;simp only[go_sem];cases k1:pfx [45,62] (t.drop i)
   case true=>
    simp only[go_sem];simp only[qu (n:=(i:Int)+2) (by omega) (by omega)];exact zO rfl (by simp[r1,k1])
   simp only[gEg hi,oMs,go_sem];refine qH qOY ?_;simp only[go_sem];have eg:t.getD i 0=t[i]:=by simp[List.getD,gEg hi]
   by_cases k2:0<=Lib.indexByte zq t[i].toNat.toUInt8
   ·have e2:decide (0<=Lib.indexByte [43,45,42,47,60,61,40,41,91,93,123,125,44,59,58,46,124,33,92] t[i].toNat.toUInt8)=true:=decide_eq_true k2;simp only[e2,go_sem];simp only[qu (n:=(i:Int)+1) (by omega) (by omega)];exact zO rfl (by simp only[r1,k1,eg,if_pos k2];simp)
   ·have e2:decide (0<=Lib.indexByte [43,45,42,47,60,61,40,41,91,93,123,125,44,59,58,46,124,33,92] t[i].toNat.toUInt8)=false:=decide_eq_false k2;simp only[e2,go_sem];exact zO rfl (by simp only[r1,k1,eg,if_neg k2];simp)
end Go.Ab
namespace Go.Ab
open Go
set_option maxRecDepth 10000
set_option maxHeartbeats 2000000
theorem ze{E:Ev}{d:Option Nat}{w:Nat}{z v:AV}{x:Ao}{l:List qC}{ks:List Fr1}{s m:qf}{h:List qD}{Q:qS->VSt->Prop}(hx:ev (toE s) x=some v)(hl:v.cells.length=w)
  (hr:wH E d (.row w [v] true) (.slice w h.length 0 1 false) l ks ⟨s,m,h⟩ Q):Bsl E d w 1 (zE (toE s) w (List.replicate 1 z) [(0,x)]) l ks ⟨s,m,h⟩ Q:=by
 have e:zE (toE s) w (List.replicate 1 z) [(0,x)]=some [v]:=by simp[zE,hx,hl,List.replicate]
 rw[e,qSR];exact hr
theorem wm{h:List qD}{a b v:AV}{vs:List AV}(hc:Cv h (.tup (a::b::vs)) v):Fin (some (a::b::vs)) h v:=by unfold Fin;exact hc
theorem Cvs.tup{h:List qD}{as bs:List AV}(x:Cvs h as bs):Cv h (.tup as) (.tup bs):=.tup x.1 x.2
def jO(t:Str)(i:Nat):qL:=⟨(zF t i).1,(t.drop i).take ((zF t i).2-i),i⟩
theorem qRV{t:Str}:∀(f:Nat){i:Nat}{acc:List qL},t.length-i<=f->ji t f i acc=ji t (t.length-i) i acc:=by
 intro f
 induction f using Nat.strongRecOn with
 | _ f ih=>
 intro i acc hf;cases f with
 | zero=>rw[show t.length-i=0 by omega]
 | succ f=>
  by_cases hi:i<t.length
  ·obtain⟨g,hg⟩:∃g,t.length-i=g+1:=⟨t.length-i-1,by omega⟩;rw[hg];obtain⟨h1,h2,h3⟩:=Wn hi;simp only[ji,if_pos hi];split
   ·rw[ih f (by omega) (by omega),ih g (by omega) (by omega)]
   ·split
    ·rfl
    ·rename_i hk;have:=h3 hk;rw[ih f (by omega) (by omega),ih g (by omega) (by omega)]
  ·rw[show t.length-i=0 by omega];simp only[ji,if_neg hi]
def QO(t:Str)(i:Nat)(acc:List qL):Except Nat (List qL):=ji t (t.length-i) i acc
theorem qRW{t:Str}{i:Nat}{acc:List qL}(hi:¬i<t.length):QO t i acc=.ok acc:=by
 unfold QO;rw[show t.length-i=0 by omega];rfl
theorem qRX{t:Str}{i:Nat}{acc:List qL}(hi:i<t.length):QO t i acc=if 0<=Lib.indexByte ZA (t.getD i 0).toNat.toUInt8 then QO t (i+1) acc else if (zF t i).1=0 then .error i else QO t (zF t i).2 (acc++[jO t i]):=by
 obtain⟨g,hg⟩:∃g,t.length-i=g+1:=⟨t.length-i-1,by omega⟩;obtain⟨h1,h2,h3⟩:=Wn hi;unfold QO;rw[hg];simp only[ji,if_pos hi];split
 ·rw[qRV g (by omega)]
 ·split
  ·rfl
  ·rename_i hk;have:=h3 hk;rw[qRV g (by omega)];rfl
def qZ(t:Str):List qL×Int×Int:=if 20000<t.length then([],0,2)else match JQ t with
 |.error i=>([],i,6)
 |.ok l=>(l,0,0)
theorem c266{t:Str}:Pure Gm 266 [.str t] (.tup [.lst 3 ((qZ t).1.map qL.enc) false,.int .i64 (qZ t).2.1,.int .i64 (qZ t).2.2]):=by
 refine Pure.intro [] [] g266 (by kernel_rfl) rfl (by simp[AV.trees,AV.tree,go_sem]) (by simp[AV.tree,AV.trees,jU qL.isSh.tree]) ?_;simp only[X8,qI,go_sem];by_cases hl:20000<t.length
 ·have e:decide ((20000:Int)<t.length)=true:=decide_eq_true (by omega);simp only[e,go_sem];have er:qZ t=([],0,2):=by rw[qZ,if_pos hl]
  rw[er];refine wm (Cvs.tup (Cvs.cons .nils (Cvs.cons (.refl rfl) (Cvs.cons (.refl rfl) Cvs.nil))))
 have e:decide ((20000:Int)<t.length)=false:=decide_eq_false (by omega);simp only[e,go_sem];have er:qZ t=match JQ t with
  |.error i=>([],i,6)
  |.ok l=>(l,0,0):=by rw[qZ,if_neg hl]
 refine Sem.loop (fun a:Nat×List qL=>a.1<=t.length/\a.2.length<=a.1/\JQ t=QO t a.1 a.2) (fun a=>(⟨[(0,.str t),(5,.slice 3 0 0 a.2.length false),(6,.int .i64 (a.1:Nat))],[],[.row 3 (a.2.map qL.enc) true]⟩:VSt)) (fun a=>t.length-a.1) (0,[]) (by kernel_rfl) ⟨nZl _,nZl _,rfl⟩ (Can.renum [none] rfl ⟨.ph,trivial⟩ ⟨⟨_,rfl,.tree rfl⟩,⟨_,rfl,.ph rfl⟩,⟨_,rfl,.tree rfl⟩,trivial⟩ trivial) ?_;rintro⟨i,acc⟩ ⟨hi,ha,hI⟩;simp only at hi ha hI;simp only[go_sem];by_cases hlt:i<t.length
 case neg=>
  have e:decide ((i:Int)<t.length)=false:=decide_eq_false (by omega);simp only[e,go_sem];rw[hI,qRW hlt]at er;rw[er];refine wm (Cvs.tup (Cvs.cons (Cv.row rfl (by simp) (jU qL.isSh.tree _) (by decide)) (Cvs.cons (.refl rfl) (Cvs.cons (.refl rfl) Cvs.nil))))
 have e:decide ((i:Int)<t.length)=true:=decide_eq_true (by omega);simp only[e,gEg hlt,oMs,go_sem];refine qH qOY ?_;simp only[go_sem];rw[qRX hlt]at hI;have eg:t.getD i 0=t[i]:=by simp[List.getD,gEg hlt]
 rw[eg]at hI;by_cases hb:0<=Lib.indexByte ZA t[i].toNat.toUInt8
 ·have e:decide (0<=Lib.indexByte [32,10,9] t[i].toNat.toUInt8)=true:=decide_eq_true hb;simp only[e,go_sem];simp only[zM (show i<4611686018427387904 by omega)];rw[if_pos hb]at hI;exact qx (i+1,acc) ⟨by simp only;omega,by simp only;omega,hI⟩ (by simp only;omega) (Can.sub (by simp[go_sem]) (by simp[go_sem]))
 have e:decide (0<=Lib.indexByte [32,10,9] t[i].toNat.toUInt8)=false:=decide_eq_false hb;simp only[e,go_sem];rw[if_neg hb]at hI;refine qH (c632 hlt (by omega)) ?_;simp only[go_sem];obtain⟨t1,t2,t3⟩:=Wn hlt;by_cases hk:(zF t i).1=0
 ·simp only[hk,decide_true,go_sem];rw[if_pos hk]at hI;rw[hI]at er;rw[er];refine wm (Cvs.tup (Cvs.cons .nils (Cvs.cons (.refl rfl) (Cvs.cons (.refl rfl) Cvs.nil))))
 have t4:=t3 hk;rw[if_neg hk]at hI;simp only[decide_eq_false hk,go_sem];refine Qq (Wk rfl rfl rfl (by omega) (by omega)) ?_;simp only[go_sem];refine ze (v:=(jO t i).enc) rfl rfl ?_;simp only[go_sem];refine Uc (el:=acc.map qL.enc) rfl rfl (by simp) (by omega) ?_;simp only[go_sem];refine qx ((zF t i).2,acc++[jO t i]) ⟨by simp only;omega,by simp only[lAp,lCo,lNi];omega,hI⟩ (by simp only;omega) ?_;simp only[lAp,lCo,lNi,nZa];refine Can.renum [some 2] rfl ⟨.row rfl ?_,trivial⟩ ⟨⟨_,rfl,.tree rfl⟩,⟨_,rfl,.slice rfl⟩,⟨_,rfl,.tree rfl⟩,trivial⟩ trivial;rw[lMa];have tt:=jU qL.isSh.tree (acc++[jO t i]);rw[lMa]at tt;exact VR2s.trees tt
end Go.Ab
namespace Go.Ab
open Go
set_option maxRecDepth 10000
set_option maxHeartbeats 2000000
section
variable {E:Ev} {l:List qC} {ks:List Fr1} {s m:qf} {h h0:List qD} {Q:qS->VSt->Prop} {k e:Nat} {vs:List AV} {v0:AV}
theorem qa{ck:List qC}(hck:ck=[])(hp:SCall E.Γ k vs h fun v h'=>v=v0/\h'=h0)(hr:R E (.ops l::ks) ⟨(e,v0)::s,m,h0⟩ Q):jW E (some (k,vs)) ck (some e) l ks ⟨s,m,h⟩ Q:=by
 subst hck;exact qT (hp.mono fun v h' ⟨h1,h2⟩=>by subst h1;subst h2;exact hr)
end
@[go_sem] theorem qeZ{off:Nat}{sh:Option Nat}{x:qL}:U0 off sh (some x.enc)=x.enc.part off sh:=rfl
def prI(toks:List qL)(a:Nat)(e:Int):qD:=.row 3 [.agg [.lst 3 (toks.map qL.enc) false,.int .i64 (a:Nat),.int .i64 e]] true
def nxt(toks:List qL)(a:Nat)(e:Int):qL:=(toks[a]?).getD ⟨0,[],e⟩
def isI(toks:List qL)(a:Nat)(e:Int)(s:Str):Bool:=decide ((nxt toks a e).Text=s)&&(decide ((nxt toks a e).Kind=5) || decide ((nxt toks a e).Kind=3))
def JO(i:Int):AV:=.iface 751 (.agg [.int .i64 i])
section
variable {h:List qD} {id a:Nat} {toks:List qL} {e:Int}
theorem Qh(ho:h[id]?=some (prI toks a e)):SCall Gm 1101 [.ptr id 0 0] h fun v h'=>v=(nxt toks a e).enc/\h'=h:=by
 refine SCall.run [] [] qU7 (by kernel_rfl) rfl ?_;unfold prI at ho;simp only[W9,qI,go_sem,ho,oMs,lMp];by_cases hlt:a<toks.length
 ·have e1:decide ((a:Int)<toks.length)=true:=decide_eq_true (by omega);simp only[e1,go_sem,ho,gMp,gEg hlt,oMs];refine qM rfl rfl ⟨_,rfl⟩ (by decide) ?_;simp only[go_sem];exact⟨by simp[nxt,gEg hlt],trivial⟩
 ·have e1:decide ((a:Int)<toks.length)=false:=decide_eq_false (by omega);simp only[e1,go_sem,ho];refine qM rfl rfl ⟨_,rfl⟩ (by decide) ?_;simp only[go_sem];exact⟨by simp[nxt,gEn (show toks.length<=a by omega),qL.enc],trivial⟩
theorem WS(ho:h[id]?=some (prI toks a e)):SCallX Gm 719 [.ptr id 0 0] h (fun _ _=>False) fun v h'=>v=JO (nxt toks a e).At/\h'=h:=by
 refine SCallX.run [] [] g719 (by kernel_rfl) rfl ?_;simp only[YY,qI,go_sem];refine qa rfl (Qh ho) ?_;simp only[go_sem];exact⟨rfl,rfl,rfl,trivial⟩
theorem Vi{s:Str}(ho:h[id]?=some (prI toks a e)):SCall Gm 1103 [.ptr id 0 0,.str s] h fun v h'=>v=.bool (isI toks a e s)/\h'=h:=by
 refine SCall.run [] [] qU9 (by kernel_rfl) rfl ?_;simp only[XB,qI,go_sem];refine qa rfl (Qh ho) ?_;simp only[go_sem];refine qM rfl rfl ⟨_,rfl⟩ (by decide) ?_;simp only[go_sem];by_cases h1:(nxt toks a e).Text=s
 case neg=>
  simp only[decide_eq_false h1,go_sem];exact⟨by simp[isI,h1],trivial⟩
 simp only[decide_eq_true h1,go_sem];by_cases h2:(nxt toks a e).Kind=5
 ·simp only[decide_eq_true h2,go_sem];exact⟨by simp[isI,h1,h2],trivial⟩
 ·simp only[decide_eq_false h2,go_sem];exact⟨by simp[isI,h1,h2],trivial⟩
theorem qW8{s:Str}(hs:s≠[])(q:isI toks a e s=true):a<toks.length:=by
 rcases Nat.lt_or_ge a toks.length with h1 | h1
 ·exact h1
 ·exfalso;simp only[isI,nxt,gEn h1,Option.getD_none,bAt,dTe]at q;exact hs q.1.symm
theorem QH{k:Int}(hk:k≠0)(q:(nxt toks a e).Kind=k):a<toks.length:=by
 rcases Nat.lt_or_ge a toks.length with h1 | h1
 ·exact h1
 ·exfalso;simp only[nxt,gEn h1,Option.getD_none]at q;exact hk q.symm
theorem jd{s:Str}(ho:h[id]?=some (prI toks a e))(hl:toks.length<=1048576)(hs:s≠[]):SCall Gm 721 [.ptr id 0 0,.str s] h fun v h'=>v=.bool (isI toks a e s)/\h'=if isI toks a e s then h.set id (prI toks (a+1) e)else h:=by
 refine SCall.run [] [] g721 (by kernel_rfl) rfl ?_;simp only[Ya,qI,go_sem];refine qa rfl (Vi ho) ?_;simp only[go_sem];cases hi:isI toks a e s
 ·simp only[Bool.not_false,go_sem];exact⟨trivial,by simp⟩
 ·have hlt:=qW8 hs hi;have ho':=ho;unfold prI at ho';simp only[Bool.not_true,go_sem,ho',oMs];simp only[zM (show a<4611686018427387904 by omega)];refine jA rfl ho' rfl rfl ?_;simp only[go_sem];exact⟨trivial,rfl⟩
theorem wB{s:Str}(ho:h[id]?=some (prI toks a e))(hl:toks.length<=1048576)(hs:s≠[]):SCallX Gm 876 [.ptr id 0 0,.str s] h (fun _ h'=>isI toks a e s=true/\h'=h.set id (prI toks (a+1) e)) fun v h'=>isI toks a e s=false/\v=JO (nxt toks a e).At/\h'=h:=by
 refine SCallX.run [] [] g876 (by kernel_rfl) rfl ?_;simp only[Yp,qI,go_sem];refine qa rfl (jd ho hl hs) ?_;simp only[go_sem];cases hi:isI toks a e s
 ·simp only[Bool.not_false,bFt,if_false,go_sem];refine qb ((WS ho).mono (fun _ _ q=>q.elim) ?_);rintro v h' ⟨rfl,rfl⟩;exact⟨rfl,trivial,rfl,rfl⟩
 ·simp only[Bool.not_true,if_true,go_sem];exact⟨trivial,trivial⟩
theorem Qj{k:Int}(ho:h[id]?=some (prI toks a e))(hl:toks.length<=1048576)(hk:k≠0):SCallX Gm 875 [.ptr id 0 0,.int .i64 k] h (fun v h'=>(nxt toks a e).Kind=k/\v=.str (nxt toks a e).Text/\h'=h.set id (prI toks (a+1) e)) fun v h'=>(nxt toks a e).Kind≠k/\v=JO (nxt toks a e).At/\h'=h:=by
 refine SCallX.run [] [] g875 (by kernel_rfl) rfl ?_;simp only[Yo,qI,go_sem];refine qa rfl (Qh ho) ?_;simp only[go_sem];refine qM rfl rfl ⟨_,rfl⟩ (by decide) ?_;simp only[go_sem];by_cases hi:(nxt toks a e).Kind=k
 ·have hlt:=QH hk hi;have ho':=ho;unfold prI at ho';simp only[hi,decide_true,Bool.not_true,go_sem,ho',oMs];simp only[zM (show a<4611686018427387904 by omega)];refine jA rfl ho' rfl rfl ?_;simp only[go_sem];exact⟨trivial,trivial,rfl⟩
 ·simp only[decide_eq_false hi,Bool.not_false,go_sem];refine qb ((WS ho).mono (fun _ _ q=>q.elim) ?_);rintro v h' ⟨rfl,rfl⟩;exact⟨rfl,hi,rfl,rfl⟩
end
end Go.Ab
namespace Go.Ab
open Go
set_option maxRecDepth 10000
set_option maxHeartbeats 2000000
structure PS(h:List qD)(id:Nat)(o:qD)(h':List qD):Prop where
 at':h'[id]?=some o
 len:h.length<=h'.length
 old:∀j,j≠id->j<h.length->h'[j]?=h[j]?
theorem PS.set{h:List qD}{id:Nat}{o0 o:qD}(ho:h[id]?=some o0):PS h id o (h.set id o) where
 at':=by rw[gSs (gSi.1 ho).1]
 len:=by simp
 old:=fun j hj _=>gSn (Ne.symm hj)
theorem PS.refl{h:List qD}{id:Nat}{o:qD}(ho:h[id]?=some o):PS h id o h:=⟨ho,nLr _,fun _ _ _=>rfl⟩
theorem PS.trans{h h1 h2:List qD}{id:Nat}{o1 o2:qD}(a:PS h id o1 h1)(b:PS h1 id o2 h2):PS h id o2 h2:=
 ⟨b.at',nLt a.len b.len,fun j hj hl=>(b.old j hj (Nat.lt_of_lt_of_le hl a.len)).trans (a.old j hj hl)⟩
theorem PS.push{h h1:List qD}{id:Nat}{o x:qD}(a:PS h id o h1):PS h id o (h1++[x]):=
 ⟨by rw[gAl (gSi.1 a.at').1];exact a.at',by have:=a.len;simp;omega,fun j hj hl=>by rw[gAl (Nat.lt_of_lt_of_le hl a.len)];exact a.old j hj hl⟩
def Bh(b:Nat)(S:List (Option Nat))(h:List qD):Prop:=∀j,some j∈S->b<=j/\j<h.length
theorem qj.ps{S:List (Option Nat)}{h1 h2:List qD}{id b:Nat}{o:qD}{v t:AV}(x:qj S h1 v t)(hb:Bh b S h1)(hid:id<b)(a:PS h1 id o h2):qj S h2 v t/\Bh b S h2:=
 ⟨x.heap fun j hj=>a.old j (by have:=(hb j hj).1;omega) (hb j hj).2,fun j hj=>⟨(hb j hj).1,Nat.lt_of_lt_of_le (hb j hj).2 a.len⟩⟩
theorem qj.push{S:List (Option Nat)}{h1:List qD}{b:Nat}{v t:AV}{y:qD}(x:qj S h1 v t)(hb:Bh b S h1):qj S (h1++[y]) v t/\Bh b S (h1++[y]):=
 ⟨x.heap fun j hj=>gAl (hb j hj).2,fun j hj=>⟨(hb j hj).1,by have:=(hb j hj).2;simp;omega⟩⟩
theorem WY{S:List (Option Nat)}{h:List qD}{k:Int}{n:Str}{v2:AV}{ks:List qB}(x:qj S h v2 (.lst 3 (ks.map qB.enc) false)):qj S h (.agg [.int .i64 k,.str n,v2]) (qB.mk k n ks).enc:=by
 have h1:=(q9.nil (h:=h)).scal (a:=.int .i64 k) (fun _=>rfl) rfl rfl;have h2:=h1.scal (a:=.str n) (fun _=>rfl) rfl rfl;have h3:=(h2.snoc x (fun j hj=>by cases hj)).agg;rw[qB.enc_eq];exact h3
theorem Za{h:List qD}{k:Int}{n:Str}:qj [none] h (.agg [.int .i64 k,.str n,.nils]) (qB.mk k n []).enc:=WY (ks:=[]) (qj.nils (c:=false))
theorem QL{S:List (Option Nat)}{h:List qD}{v:AV}{t:qB}(x:qj S h v t.enc):∃a b c,v=.agg [a,b,c]:=by
 rw[qB.enc_eq]at x;obtain⟨vs,rfl,y⟩:=x.aggs;have:=y.cnt
 match vs,this with
 |[a,b,c],_=>exact⟨a,b,c,rfl⟩
theorem qQJ{S:List (Option Nat)}{h:List qD}{b:Nat}{v:AV}{t:qB}(x:qj S h v t.enc)(hb:Bh b S h)(hl:b<=h.length):
  qj (some h.length::S) (h++[.row 3 [v] true]) (.slice 3 h.length 0 1 false) (.lst 3 ([t].map qB.enc) false)/\Bh b (some h.length::S) (h++[.row 3 [v] true]):=by
 obtain⟨x1,b1⟩:=x.push (y:=.row 3 [v] true) hb;refine⟨x1.one.row (by simp) (fun hj=>by have:=(hb _ hj).2;omega),fun j hj=> ?_⟩;rcases List.mem_cons.1 hj with e | hj
 ·cases e;exact⟨hl,by simp⟩
 ·exact b1 j hj
theorem qQK{S S':List (Option Nat)}{h:List qD}{b c:Nat}{v u:AV}{t r:qB}(x:qj S h v t.enc)(y:qj S' h u r.enc)(hb:Bh b S h)(hc:Bh c S' h)(hl:b<=h.length)(hl':b<=c)(hbc:∀j,some j∈S->j<c):
  qj (some h.length::(S++S')) (h++[.row 3 [v,u] true]) (.slice 3 h.length 0 2 false) (.lst 3 ([t,r].map qB.enc) false)/\Bh b (some h.length::(S++S')) (h++[.row 3 [v,u] true]):=by
 obtain⟨x1,b1⟩:=x.push (y:=.row 3 [v,u] true) hb;obtain⟨y1,c1⟩:=y.push (y:=.row 3 [v,u] true) hc;have z:=x1.one.app y1.one (fun j hj hk=>by have:=hbc j hj;have:=(hc j hk).1;omega);refine⟨z.row (by simp) (fun hj=> ?_),fun j hj=> ?_⟩
 ·rcases jG.1 hj with hj | hj
  ·have:=(hb _ hj).2;omega
  ·have:=(hc _ hj).2;omega
 ·rcases List.mem_cons.1 hj with e | hj
  ·cases e;exact⟨hl,by simp⟩
  ·rcases jG.1 hj with hj | hj
   ·exact b1 j hj
   ·have:=c1 j hj;exact⟨by omega,this.2⟩
def QX:qB:=.mk 1 [] []
def JW(s:Str):qB:=.mk 2 s []
def J7(a b:qB):qB:=.mk 3 [] [a,b]
def QR(a:qB):qB:=.mk 4 [] [a]
section
variable {h:List qD} {a0 a1 a2 b0 b1 b2:AV} {s:Str}
theorem n908:SCall Gm 908 [] h fun v h'=>v=.agg [.int .i64 1,.str [],.nils]/\h'=h:=by
 refine SCall.run [] [] g908 (by kernel_rfl) rfl ?_;simp only[Ys,qI,go_sem];refine qM rfl rfl ⟨_,rfl⟩ (by decide) ?_;simp only[go_sem];exact⟨trivial,trivial⟩
theorem qZ4:SCall Gm 1102 [.str s] h fun v h'=>v=.agg [.int .i64 2,.str s,.nils]/\h'=h:=by
 refine SCall.run [] [] qU8 (by kernel_rfl) rfl ?_;simp only[XA,qI,go_sem];refine qM rfl rfl ⟨_,rfl⟩ (by decide) ?_;simp only[go_sem];exact⟨trivial,trivial⟩
theorem n911:SCall Gm 911 [.agg [a0,a1,a2]] h fun v h'=>v=.agg [.int .i64 4,.str [],.slice 3 h.length 0 1 false]/\h'=h++[.row 3 [.agg [a0,a1,a2]] true]:=by
 refine SCall.run [] [] g911 (by kernel_rfl) rfl ?_;simp only[Yt,qI,go_sem];refine zZ rfl ?_;simp only[go_sem];refine ze (v:=.agg [a0,a1,a2]) rfl rfl ?_;simp only[go_sem];refine qM rfl rfl ⟨_,rfl⟩ (by decide) ?_;simp only[go_sem];exact⟨trivial,trivial⟩
theorem n722:SCall Gm 722 [.agg [a0,a1,a2],.agg [b0,b1,b2]] h fun v h'=>v=.agg [.int .i64 3,.str [],.slice 3 h.length 0 2 false]/\h'=h++[.row 3 [.agg [a0,a1,a2],.agg [b0,b1,b2]] true]:=by
 refine SCall.run [] [] g722 (by kernel_rfl) rfl ?_;simp only[Yb,qI,go_sem];refine zZ rfl ?_;simp only[go_sem];refine zZ rfl ?_;simp only[go_sem];rw[show zE _ 3 _ _=some [.agg [a0,a1,a2],.agg [b0,b1,b2]]from rfl];simp only[go_sem];refine qM rfl rfl ⟨_,rfl⟩ (by decide) ?_;simp only[go_sem];exact⟨trivial,trivial⟩
end
end Go.Ab
namespace Go.Ab
open Go
set_option maxRecDepth 10000
set_option maxHeartbeats 2000000
def isP(toks:List qL)(a:Nat)(s:Str):Bool:=match toks[a]? with
 | some t=>decide (t.Text=s)&&(decide (t.Kind=5) || decide (t.Kind=3))
 | none=>false
theorem qw{toks:List qL}{a:Nat}{e:Int}{s:Str}(hs:s≠[]):isI toks a e s=isP toks a s:=by
 unfold isI isP nxt;cases h:toks[a]? with
 | none=>
  have:¬([]:Str)=s:=fun q=>hs q.symm;simp[this]
 | some t=>simp
theorem qk{toks:List qL}{a:Nat}{s:Str}(q:isP toks a s=true):a<toks.length:=by
 rcases Nat.lt_or_ge a toks.length with h1 | h1
 ·exact h1
 ·rw[isP,gEn h1]at q;cases q
def pT(toks:List qL):Nat->Bool->Nat->Except Nat (qB×Nat)
 | 0,_,a=>.error a
 | f+1,true,a=>if isP toks a [33]then(match pT toks f true (a+1)with
   |.ok (t,b)=>.ok (QR t,b)
   |.error b=>.error b)
  else if isP toks a [40]then(match pT toks f false (a+1)with
   |.ok (t,b)=>if isP toks b [41]then .ok (t,b+1)else .error b
   |.error b=>.error b)
  else(match toks[a]? with
   | some t=>if t.Kind=2 then .ok (if t.Text=[73,110,116]then QX else JW t.Text,a+1)else .error a
   | none=>.error a)
 | f+1,false,a=>(match pT toks f true a with
   |.ok (t,b)=>if isP toks b [45,62]then(match pT toks f false (b+1)with
     |.ok (u,c)=>.ok (J7 t u,c)
     |.error c=>.error c)
    else .ok (t,b)
   |.error b=>.error b)
def jc(toks:List qL)(flag:Bool)(a:Nat):Nat:=2*(toks.length-a)+(if flag then 1 else 2)
theorem wP{toks:List qL}:∀(f:Nat)(flag:Bool)(a:Nat){t:qB}{b:Nat},pT toks f flag a=.ok (t,b)->a<b/\b<=toks.length:=by
 intro f
 induction f with
 | zero=>intro flag a t b h;simp[pT]at h
 | succ f ih=>
  intro flag a t b h;cases flag with
  | true=>
   simp only[pT]at h;split at h
   ·rename_i h1;have:=qk h1;split at h
    ·rename_i h2;have:=ih _ _ h2;cases h;omega
    ·cases h
   ·split at h
    ·rename_i h1;have:=qk h1;split at h
     ·rename_i h2;have:=ih _ _ h2;split at h
      ·rename_i h3;have:=qk h3;cases h;omega
      ·cases h
     ·cases h
    ·split at h
     ·rename_i h1;have:=(gSi.1 h1).1;split at h
      ·cases h;omega
      ·cases h
     ·cases h
  | false=>
   simp only[pT]at h;split at h
   ·rename_i h2;have:=ih _ _ h2;split at h
    ·rename_i h1;have:=qk h1;split at h
     ·rename_i h3;have:=ih _ _ h3;cases h;omega
     ·cases h
    ·cases h;omega
   ·cases h
section
variable {id:Nat} {toks:List qL} {e:Int}
theorem qZ9(hl:toks.length<=1048576):∀(f:Nat)(flag:Bool)(a:Nat)(h:List qD),jc toks flag a<=f->a<=toks.length->h[id]?=some (prI toks a e)->
  SCallX Gm (if flag then 720 else 335) [.ptr id 0 0] h (fun v h'=>∃t b S,pT toks f flag a=.ok (t,b)/\PS h id (prI toks b e) h'/\qj S h' v t.enc/\Bh h.length S h') (fun v h'=>∃b,pT toks f flag a=.error b/\v=JO (nxt toks b e).At):=by
 intro f
 induction f with
 | zero=>intro flag a h hf;exfalso;unfold jc at hf;cases flag<;>simp at hf
 | succ f ih=>
 intro flag a h hf ha ho;have hid:id<h.length:=(gSi.1 ho).1;cases flag with
 | true=>
  refine SCallX.run [] [] g720 (by kernel_rfl) rfl ?_;simp only[YZ,qI,go_sem];refine qa rfl (jd ho hl (by decide)) ?_;rw[qw (by decide)];simp only[go_sem];cases hb:isP toks a [33]
  case true=>
   have hlt:=qk hb;simp only[if_true,go_sem];refine qb ((ih true (a+1) (h.set id (prI toks (a+1) e)) (by unfold jc at hf|-;simp at hf|-;omega) (by omega) (by rw[gSs hid])).mono ?_ ?_)
   ·rintro v h1 ⟨t,b,S,q1,q2,q3,q4⟩;obtain⟨x0,x1,x2,rfl⟩:=QL q3;simp only[go_sem];refine qa rfl n911 ?_;simp only[go_sem];refine qM rfl rfl ⟨_,rfl⟩ (by decide) ?_;simp only[go_sem];rw[lLs]at q4;obtain⟨r1,r2⟩:=qQJ q3 q4 (by have:=q2.len;rw[lLs]at this;exact this);refine⟨QR t,b,_,by simp only[pT,hb,if_true,q1],((PS.set ho).trans q2).push,WY r1,r2⟩
   ·rintro v h1 ⟨b,q1,rfl⟩;exact⟨rfl,b,by simp only[pT,hb,if_true,q1],rfl⟩
  simp only[bFt,if_false,go_sem];refine qa rfl (jd ho hl (by decide)) ?_;rw[qw (by decide)];simp only[go_sem];cases hc:isP toks a [40]
  case true=>
   have hlt:=qk hc;simp only[if_true,go_sem];refine qb ((ih false (a+1) (h.set id (prI toks (a+1) e)) (by unfold jc at hf|-;simp at hf|-;omega) (by omega) (by rw[gSs hid])).mono ?_ ?_)
   ·rintro v h1 ⟨t,b,S,q1,q2,q3,q4⟩;have hb2:=wP _ _ _ q1;obtain⟨x0,x1,x2,rfl⟩:=QL q3;simp only[go_sem];refine qM rfl rfl ⟨_,rfl⟩ (by decide) ?_;simp only[go_sem];refine qb ((wB q2.at' hl (by decide)).mono ?_ ?_)
    ·rintro v2 h2 ⟨e1,rfl⟩;rw[qw (by decide)]at e1;simp only[go_sem];refine qM rfl rfl ⟨_,rfl⟩ (by decide) ?_;simp only[go_sem];rw[lLs]at q4;obtain⟨r1,r2⟩:=q3.ps q4 hid (PS.set q2.at' (o:=prI toks (b+1) e));exact⟨t,b+1,S,by simp only[pT,hb,hc,bFt,if_false,if_true,q1,e1],((PS.set ho).trans q2).trans (PS.set q2.at'),r1,r2⟩
    ·rintro v2 h2 ⟨e1,rfl,rfl⟩;rw[qw (by decide)]at e1;exact⟨rfl,b,by simp only[pT,hb,hc,bFt,if_false,if_true,q1,e1],rfl⟩
   ·rintro v h1 ⟨b,q1,rfl⟩;exact⟨rfl,b,by simp only[pT,hb,hc,bFt,if_false,if_true,q1],rfl⟩
  simp only[bFt,if_false,go_sem];refine qb ((Qj ho hl (by decide)).mono ?_ ?_)
  ·rintro v h1 ⟨e1,rfl,rfl⟩;have hlt:=QH (by decide) e1;have en:nxt toks a e=toks[a]:=by simp[nxt,gEg hlt]
   rw[en]at e1|-;simp only[go_sem];by_cases hn:toks[a].Text=[73,110,116]
   ·simp only[decide_eq_true hn,Bool.not_true,go_sem];refine qa rfl n908 ?_;simp only[go_sem];refine qM rfl rfl ⟨_,rfl⟩ (by decide) ?_;simp only[go_sem];exact⟨QX,a+1,[none],by simp[pT,hb,hc,gEg hlt,e1,hn],PS.set ho,Za,fun j hj=>by simp at hj⟩
   ·simp only[decide_eq_false hn,Bool.not_false,go_sem];refine qa rfl qZ4 ?_;simp only[go_sem];refine qM rfl rfl ⟨_,rfl⟩ (by decide) ?_;simp only[go_sem];exact⟨JW toks[a].Text,a+1,[none],by simp[pT,hb,hc,gEg hlt,e1,hn],PS.set ho,Za,fun j hj=>by simp at hj⟩
  ·rintro v h1 ⟨e1,rfl,rfl⟩;refine⟨rfl,a, ?_,rfl⟩;simp only[pT,hb,hc,bFt,if_false];unfold nxt at e1;split
   ·rename_i t ht;rw[ht]at e1;rw[if_neg (by simpa using e1)]
   ·rfl
 | false=>
  refine SCallX.run [] [] g335 (by kernel_rfl) rfl ?_;simp only[YF,qI,go_sem];refine qb ((ih true a h (by unfold jc at hf|-;simp at hf|-;omega) ha ho).mono ?_ ?_)
  ·rintro v h1 ⟨t,b,S,q1,q2,q3,q4⟩;obtain⟨b1,b2⟩:=wP _ _ _ q1;obtain⟨x0,x1,x2,rfl⟩:=QL q3;simp only[go_sem];refine qM rfl rfl ⟨_,rfl⟩ (by decide) ?_;simp only[go_sem];refine qa rfl (jd q2.at' hl (by decide)) ?_;rw[qw (by decide)];simp only[go_sem];cases hb:isP toks b [45,62]
   ·simp only[bFt,if_false,go_sem];refine qM rfl rfl ⟨_,rfl⟩ (by decide) ?_;simp only[go_sem];exact⟨t,b,S,by simp only[pT,q1,hb,bFt,if_false],q2,q3,q4⟩
   ·have hlt:=qk hb;simp only[if_true,go_sem];have hid1:id<h1.length:=Nat.lt_of_lt_of_le hid q2.len;have q2':=q2.trans (PS.set q2.at' (o:=prI toks (b+1) e));obtain⟨q3',q4'⟩:=q3.ps q4 hid (PS.set q2.at' (o:=prI toks (b+1) e));refine qb ((ih false (b+1) (h1.set id (prI toks (b+1) e)) (by unfold jc at hf|-;simp at hf|-;omega) (by omega) (by rw[gSs hid1])).mono ?_ ?_)
    ·rintro v2 h2 ⟨u,c,S2,p1,p2,p3,p4⟩;obtain⟨y0,y1,y2,rfl⟩:=QL p3;simp only[go_sem];refine qa rfl n722 ?_;simp only[go_sem];refine qM rfl rfl ⟨_,rfl⟩ (by decide) ?_;simp only[go_sem];obtain⟨z3,z4⟩:=q3'.ps q4' hid p2;obtain⟨r1,r2⟩:=qQK z3 p3 z4 p4 (by have:=q2.len;have:=p2.len;rw[lLs]at this;omega) (by have:=q2.len;rw[lLs];omega) (fun j hj=>(q4' j hj).2);exact⟨J7 t u,c,_,by simp only[pT,q1,hb,if_true,p1],(q2'.trans p2).push,WY r1,r2⟩
    ·rintro v2 h2 ⟨c,p1,rfl⟩;exact⟨rfl,c,by simp only[pT,q1,hb,if_true,p1],rfl⟩
  ·rintro v h1 ⟨b,q1,rfl⟩;exact⟨rfl,b,by simp only[pT,q1],rfl⟩
end
end Go.Ab
namespace Go.Ab
open Go
set_option maxRecDepth 10000
set_option maxHeartbeats 2000000
def okT(k:Int)(n:Str)(l:Nat):Bool:=if k=1 then decide (n=[])&&decide (l=0)else if k=2 then zk n&&(!decide (n=[73,110,116])&&decide (l=0))else if k=3 then decide (n=[])&&decide (l=2)else if k=4 then decide (n=[])&&decide (l=1)else false
mutual
def qB.shp:qB->Nat×Nat×Bool
 |.mk k n ks=>match qB.shps ks 1 1 with
  | none=>(0,0,false)
  | some (d,s)=>(d,s,okT k n ks.length)
def qB.shps:List qB->Nat->Nat->Option (Nat×Nat)
 |[],d,s=>some (d,s)
 | x::xs,d,s=>match x.shp with
  | (d',s',true)=>qB.shps xs (max d (d'+1)) (s+s')
  | (_,_,false)=>none
end
mutual
def qB.nd:qB->Nat
 |.mk _ _ ks=>1+qB.nds ks
def qB.nds:List qB->Nat
 |[]=>0
 | x::xs=>x.nd+qB.nds xs
end
theorem qB.nds_eq:∀xs,qB.nds xs=qF qB.nd xs
 |[]=>by simp[qB.nds,qF]
 | x::xs=>by simp[qB.nds,qF,qB.nds_eq xs]
theorem qB.nd_eq(x:qB):x.nd=1+qF qB.nd x.Kids:=by cases x;simp[qB.nd,qB.nds_eq,qB.Kids]
theorem qB.shp_eq(x:qB):x.shp=match qB.shps x.Kids 1 1 with
  | none=>(0,0,false)
  | some (d,s)=>(d,s,okT x.Kind x.Name x.Kids.length):=by cases x;rfl
theorem qB.shps_le{xs:List qB}(ih:∀y∈xs,y.shp.1<=y.shp.2.1/\y.shp.2.1<=y.nd):∀{d s d1 s1:Nat},d<=s->1<=s->qB.shps xs d s=some (d1,s1)->d1<=s1/\s1<=s+qF qB.nd xs:=by
 induction xs with
 | nil=>intro d s d1 s1 h1 h2 h;simp only[qB.shps,oSi,Prod.mk.injEq]at h;obtain⟨rfl,rfl⟩:=h;simp[qF];exact h1
 | cons x xs ihx=>
  intro d s d1 s1 h1 h2 h;have hx:=ih x (by simp);simp only[qB.shps]at h;split at h
  ·rename_i d' s' he;rw[he]at hx;simp only at hx;have:=ihx (fun y hy=>ih y (by simp[hy])) (by omega) (by omega) h;simp only[qF];omega
  ·cases h
theorem qB.shp_le:∀x:qB,x.shp.1<=x.shp.2.1/\x.shp.2.1<=x.nd:=qB.ind fun x ih=>by
 rw[qB.shp_eq,qB.nd_eq];split
 ·simp
 ·rename_i d s h;have:=qB.shps_le ih (nLr _) (nLr _) h;simp only;omega
def Jv(x:qB):Bool:=x.shp.2.2&&(decide (x.shp.1<=6)&&decide (x.shp.2.1<=16))
theorem c331(x:qB):∀(hb:x.bd)(hn:x.nd<=1048576),Pure Gm 331 [x.enc] (.tup [.int .i64 (x.shp.1:Nat),.int .i64 (x.shp.2.1:Nat),.bool x.shp.2.2]):=by
 induction x using qB.ind with
 | _ x ih=>
 intro hb hn;refine Pure.intro [] [] g331 (by kernel_rfl) rfl (by simp[AV.trees,AV.tree,go_sem]) rfl ?_;simp only[YD,qI,go_sem];refine zZ qB.ln ?_;simp only[go_sem];rw[qB.nd_eq]at hn;rw[qB.bd_eq]at hb;obtain⟨b1,b2,b3⟩:=hb;have hs:=qB.shp_eq x;have e0:x.Kids.length<=1048576:=by
  have:∀xs:List qB,xs.length<=qF qB.nd xs:=fun xs=>by
   induction xs with
   | nil=>simp
   | cons y ys ihy=>have:=qB.nd_eq y;simp only[lCo,qF];omega
  have:=this x.Kids;omega
 refine Sem.loop (fun a:Nat×Nat×Nat=>a.1<=x.Kids.length/\a.2.1<=a.2.2/\1<=a.2.2/\a.2.2+qF qB.nd (x.Kids.drop a.1)<=1048576/\qB.shps x.Kids 1 1=qB.shps (x.Kids.drop a.1) a.2.1 a.2.2)
  (fun a=>(⟨[(2,.int .i64 (a.2.1:Nat)),(3,.int .i64 (a.2.2:Nat)),(4,.bool false),(11,.lst 3 (x.Kids.map qB.enc) false),(12,.int .i64 x.Kids.length),(13,.int .i64 (a.1:Nat))],[(1,x.enc)],[]⟩:VSt)) (fun a=>x.Kids.length-a.1) (0,1,1) (by kernel_rfl) ⟨nZl _,nLr _,nLr _,by simpa using hn,rfl⟩ (Can.sub (by simp[go_sem]) (by simp[go_sem])) ?_
 rintro⟨i,d,s⟩ ⟨hi,h1,h2,h3,hI⟩;simp only at hi h1 h2 h3 hI;simp only[go_sem];apply jR<;>intro hc<;>simp only[hc,go_sem]
 ·have hlt:i<x.Kids.length:=by have:=odT hc;omega
  simp only[gMp,gEg hlt,oMs,go_sem];refine qM rfl qB.ln (by exact⟨_,qB.enc_eq _⟩) (by decide) ?_;simp only[go_sem];have hm:=gMm hlt;have hd:x.Kids.drop i=x.Kids[i]::x.Kids.drop (i+1):=by simp
  rw[hd]at h3;simp only[qF]at h3;refine qH (ih _ hm (b3 _ hm) (by omega)) ?_;simp only[go_sem];have hle:=qB.shp_le x.Kids[i];cases hg:x.Kids[i].shp.2.2
  ·simp only[Bool.not_false];simp only[go_sem];refine zO rfl ?_;have:qB.shps x.Kids 1 1=none:=by
    rw[hI,hd,qB.shps];split
    ·rename_i he;rw[he]at hg;cases hg
    ·rfl
   rw[hs,this];rfl
  ·simp only[Bool.not_true];simp only[go_sem];simp only[qu (n:=((x.Kids[i].shp.1:Nat):Int)+1) (by omega) (by omega),qu (n:=(s:Int)+((x.Kids[i].shp.2.1:Nat):Int)) (by omega) (by omega)];have em:max ((d:Nat):Int) (((x.Kids[i].shp.1:Nat):Int)+1)=((max d (x.Kids[i].shp.1+1):Nat):Int):=by omega
   have es:(s:Int)+((x.Kids[i].shp.2.1:Nat):Int)=((s+x.Kids[i].shp.2.1:Nat):Int):=by omega
   rw[em,es];simp only[zM (show i<4611686018427387904 by omega)];refine qx (i+1,max d (x.Kids[i].shp.1+1),s+x.Kids[i].shp.2.1) ⟨by simp only;omega,by simp only;omega,by simp only;omega,by simp only;omega, ?_⟩ (by simp only;omega) ?_
   ·simp only;rw[hI,hd,qB.shps];split
    ·rename_i he;rw[he]
    ·rename_i he;rw[he]at hg;cases hg
   ·exact Can.sub (by simp[go_sem]) (by simp[go_sem])
 ·obtain rfl:i=x.Kids.length:=by have:=odF hc;omega
  have hk:qB.shps x.Kids 1 1=some (d,s):=by rw[hI];simp[qB.shps]
  rw[hk]at hs;simp only at hs;rw[hs];clear hs hk;have ek:decide (((x.Kids.length:Nat):Int)=0)=decide (x.Kids.length=0):=by rw[decide_eq_decide];omega
  have ek2:decide (((x.Kids.length:Nat):Int)=2)=decide (x.Kids.length=2):=by rw[decide_eq_decide];omega
  have ek1:decide (((x.Kids.length:Nat):Int)=1)=decide (x.Kids.length=1):=by rw[decide_eq_decide];omega
  by_cases k1:x.Kind=1
  ·simp only[decide_eq_true k1,go_sem];by_cases q:x.Name=[]
   ·simp only[decide_eq_true q,go_sem];exact zO rfl (by rw[ek];simp[okT,k1,q])
   ·simp only[decide_eq_false q,go_sem];exact zO rfl (by simp[okT,k1,q])
  simp only[decide_eq_false k1,go_sem];by_cases k2:x.Kind=2
  ·simp only[decide_eq_true k2,go_sem];refine qH (j6 (by omega)) ?_;simp only[go_sem];cases q:zk x.Name
   ·simp only[go_sem];exact zO rfl (by simp[okT,k2,q])
   ·simp only[go_sem];by_cases q2:x.Name=[73,110,116]
    ·simp only[decide_eq_true q2,Bool.not_true,go_sem];exact zO rfl (by simp[okT,k2,q2])
    ·simp only[decide_eq_false q2,Bool.not_false,go_sem];exact zO rfl (by rw[ek];simp[okT,k2,q,q2])
  simp only[decide_eq_false k2,go_sem];by_cases k3:x.Kind=3
  ·simp only[decide_eq_true k3,go_sem];by_cases q:x.Name=[]
   ·simp only[decide_eq_true q,go_sem];exact zO rfl (by rw[ek2];simp[okT,k3,q])
   ·simp only[decide_eq_false q,go_sem];exact zO rfl (by simp[okT,k3,q])
  simp only[decide_eq_false k3,go_sem];by_cases k4:x.Kind=4
  ·simp only[decide_eq_true k4,go_sem];by_cases q:x.Name=[]
   ·simp only[decide_eq_true q,go_sem];exact zO rfl (by rw[ek1];simp[okT,k4,q])
   ·simp only[decide_eq_false q,go_sem];exact zO rfl (by simp[okT,k4,q])
  simp only[decide_eq_false k4,go_sem];exact zO rfl (by simp[okT,k1,k2,k3,k4])
theorem c74{x:qB}(hb:x.bd)(hn:x.nd<=1048576):Pure Gm 74 [x.enc] (.bool (Jv x)):=by
 refine Pure.intro [] [] g74 (by kernel_rfl) rfl (by simp[AV.trees,AV.tree,go_sem]) rfl ?_;simp only[F74,qI,go_sem];refine zZ qB.ln ?_;simp only[go_sem];refine qH (c331 x hb hn) ?_;simp only[go_sem];have e1:decide (((x.shp.1:Nat):Int)<=6)=decide (x.shp.1<=6):=by rw[decide_eq_decide];omega
 have e2:decide (((x.shp.2.1:Nat):Int)<=16)=decide (x.shp.2.1<=16):=by rw[decide_eq_decide];omega
 cases h1:x.shp.2.2
 ·simp only[go_sem];exact qE rfl (by simp[Jv,h1])
 ·simp only[go_sem,e1];by_cases h2:x.shp.1<=6
  ·simp only[decide_eq_true h2,go_sem,e2];exact qE rfl (by simp[Jv,h1,h2])
  ·simp only[decide_eq_false h2,go_sem];exact qE rfl (by simp[Jv,h1,h2])
end Go.Ab
namespace Go.Ab
open Go
set_option maxRecDepth 10000
set_option maxHeartbeats 2000000
theorem Fresh.ofS{Γ:Nat->Option AFn}{g:Nat}{as:List AV}{t:AV}(ht:AV.trees as=true)(hp:t.pl=true)(hs:SCall Γ g as [] fun v h'=>∃S,qj S h' v t):Fresh Γ g as t:=by
 unfold Fresh;refine⟨ht,hp,fun hr ar har=> ?_⟩;obtain⟨k,r,hr',ρ',v,h',hx,⟨S,own⟩,g1,g2,g3,_⟩:=hs ρ0 hr ar ⟨(fun i o h=>by simp at h),(fun i j a o o' h=>by cases h),(fun _ _=>rfl),(fun i a h=>by cases h)⟩ har;obtain⟨r1,r2⟩:=K1 own.d own.o g1;exact⟨k,r,hr',_,hx,r1,own.v.rel g2,g3.trans r2⟩
@[go_sem] theorem qiG{E:Ev}{l:List qC}{ks:List Fr1}{s m:qf}{h:List qD}{Q:qS->VSt->Prop}{t:Nat}{k k':IntKind}{a b:Int}:Lst E t 0 1 (some (.int k a)) (some (.int k' b)) l ks ⟨s,m,h⟩ Q=R E (.ops l::ks) ⟨s,(t,.int k' b)::m,h⟩ Q:=by
 unfold Lst;simp[AV.put,AV.cells]
@[go_sem] theorem qlA{E:Ev}{t:jB}{K:AV->List qD->Prop}{st:VSt}:UH E t K .ret st=jw (qq (zQ st) t.res) st.h K:=rfl
@[go_sem] theorem qk9{E:Ev}{t:jB}{K:AV->List qD->Prop}{st:VSt}:UH E t K .nrm st=((∀i∈t.cap,get st.l i≠none)/\get st.s t.d5=none/\R E [.code t.mid] st (wq fun st=>R E [.ops t.l7] st (UI E t K))):=rfl
@[go_sem] theorem qlB{E:Ev}{t:jB}{K:AV->List qD->Prop}{st:VSt}:UI E t K .nrm st=R E [.code t.r8] st (wq (Q1 E t K)):=rfl
@[go_sem] theorem qc2{E:Ev}{t:jB}{K:AV->List qD->Prop}{st:VSt}{v:AV}:UI E t K (.pan v) st=Ju E t K v st:=rfl
theorem qc3{E:Ev}{t:jB}{K:AV->List qD->Prop}{st:VSt}(h:ev (toE st.s) t.x=some (.bool false))(hr:R E [.code t.tail] st (J6 t.res K)):Q1 E t K st:=by
 unfold Q1;rw[h];exact hr
theorem qc4{E:Ev}{t:jB}{K:AV->List qD->Prop}{st:VSt}(h:ev (toE st.s) t.x=some (.bool true))(hr:R E [.ops t.l9] st (Kv (Ju E t K))):Q1 E t K st:=by
 unfold Q1;rw[h];exact hr
theorem qR2{E:Ev}{t:jB}{K:AV->List qD->Prop}{st:VSt}{T:Nat}{x:AV}(hT:T=t.T)(hl:x.leaf=true)(hr:R E [.code t.hnd] ⟨[(t.nh,x)],wI st.l 0 t.cap,st.h⟩ (wq fun s=>jw (qq (zQ s) t.resH) s.h K)):Ju E t K (.iface T x) st:=⟨hT,hl,hr⟩
@[go_sem] theorem qdV{l:qf}{n:Nat}:wI l n []=[]:=rfl
def qNR(v:Option AV)(n:Nat)(r:qf):qf:=match v with
 | some v=>(n,v)::r
 | none=>r
@[go_sem] theorem qdT{v:AV}{n:Nat}{r:qf}:qNR (some v) n r=(n,v)::r:=rfl
@[go_sem] theorem qdU{l:qf}{n c:Nat}{r:List Nat}:wI l n (c::r)=qNR (get l c) n (wI l (n+1) r):=by
 rw[wI];cases get l c<;>rfl
theorem kH{t:Str}:∀(f:Nat){i:Nat}{acc l:List qL},ji t f i acc=.ok l->i<=t.length->acc.length<=i->(∀x∈acc,x.Text.length<=t.length)->l.length<=t.length/\∀x∈l,x.Text.length<=t.length
 | 0,i,acc,l,h,hi,ha,hx=>by simp only[ji,Except.ok.injEq]at h;subst h;exact⟨by omega,hx⟩
 | f+1,i,acc,l,h,hi,ha,hx=>by
  simp only[ji]at h;split at h
  ·rename_i hlt;obtain⟨t1,t2,t3⟩:=Wn hlt;split at h
   ·exact kH f h (by omega) (by omega) hx
   ·split at h
    ·cases h
    ·rename_i hk;have:=t3 hk;refine kH f h (by omega) (by simp;omega) fun x hm=> ?_;rcases jG.1 hm with hm | hm
     ·exact hx x hm
     ·simp only[lMg]at hm;subst hm;simp only[lLt,List.length_drop];omega
  ·simp only[Except.ok.injEq]at h;subst h;exact⟨by omega,hx⟩
theorem qRU{t:Str}:(qZ t).1.length<=20000/\∀x∈(qZ t).1,x.Text.length<=20000:=by
 unfold qZ;split
 ·exact⟨by simp,fun x hx=>by simp at hx⟩
 ·rename_i hl;split
  ·exact⟨by simp,fun x hx=>by simp at hx⟩
  ·rename_i l h;obtain⟨h1,h2⟩:=kH _ h (nZl _) (nLr _) (fun x hx=>by simp at hx);exact⟨by simp only;omega,fun x hx=>by have:=h2 x hx;omega⟩
theorem UE{t:Str}:(qZ t).1.length<=20000:=qRU.1
theorem qcZ{t:Str}:∀x∈(qZ t).1,x.Text.length<=20000:=qRU.2
theorem qaR{toks:List qL}(hx:∀x∈toks,x.Text.length<=20000):∀(f:Nat)(flag:Bool)(a:Nat){t:qB}{b:Nat},pT toks f flag a=.ok (t,b)->t.bd/\t.nd<=b-a:=by
 intro f
 induction f with
 | zero=>intro flag a t b h;simp[pT]at h
 | succ f ih=>
  intro flag a t b h;have hp:=wP _ _ _ h;cases flag with
  | true=>
   simp only[pT]at h;split at h
   ·split at h
    ·rename_i t1 b1 h2;obtain⟨i1,i2⟩:=ih _ _ h2;have:=wP _ _ _ h2;cases h;refine⟨by rw[qB.bd_eq];exact⟨by simp[QR,qB.Name],by simp[QR,qB.Kids],fun y hy=>by simp[QR,qB.Kids]at hy;subst hy;exact i1⟩, ?_⟩;rw[qB.nd_eq];simp only[QR,qB.Kids,qF];omega
    ·cases h
   ·split at h
    ·split at h
     ·rename_i t1 b1 h2;obtain⟨i1,i2⟩:=ih _ _ h2;have:=wP _ _ _ h2;split at h
      ·cases h;exact⟨i1,by omega⟩
      ·cases h
     ·cases h
    ·split at h
     ·rename_i tk h1;split at h
      ·cases h;split
       ·exact⟨by rw[qB.bd_eq];exact⟨by simp[QX,qB.Name],by simp[QX,qB.Kids],fun y hy=>by simp[QX,qB.Kids]at hy⟩,by rw[qB.nd_eq];simp only[QX,qB.Kids,qF];omega⟩
       ·exact⟨by rw[qB.bd_eq];exact⟨by have:=hx _ (lMo h1);simp only[JW,qB.Name];omega,by simp[JW,qB.Kids],fun y hy=>by simp[JW,qB.Kids]at hy⟩,by rw[qB.nd_eq];simp only[JW,qB.Kids,qF];omega⟩
      ·cases h
     ·cases h
  | false=>
   simp only[pT]at h;split at h
   ·rename_i t1 b1 h2;obtain⟨i1,i2⟩:=ih _ _ h2;have:=wP _ _ _ h2;split at h
    ·split at h
     ·rename_i u c h3;obtain⟨j1,j2⟩:=ih _ _ h3;have:=wP _ _ _ h3;cases h;refine⟨by rw[qB.bd_eq];exact⟨by simp[J7,qB.Name],by simp[J7,qB.Kids],fun y hy=>by simp[J7,qB.Kids]at hy;rcases hy with rfl | rfl;exact i1;exact j1⟩, ?_⟩;rw[qB.nd_eq];simp only[J7,qB.Kids,qF];omega
     ·cases h
    ·cases h;exact⟨i1,i2⟩
   ·cases h
theorem Vy{α:Type}{enc:α->AV}:∀{xs:List α},(∀x∈xs,(enc x).pl=true)->AV.pls (xs.map enc)=true
 |[],_=>rfl
 | x::xs,h=>by simp only[lMc,AV.pls,h x (by simp),Vy (xs:=xs) (fun y hy=>h y (by simp[hy])),Bool.and_self]
theorem VE{α:Type}{enc:α->AV}:∀{xs:List α},(∀x∈xs,(enc x).cn=true)->AV.cns (xs.map enc)=true
 |[],_=>rfl
 | x::xs,h=>by simp only[lMc,AV.cns,h x (by simp),VE (xs:=xs) (fun y hy=>h y (by simp[hy])),Bool.and_self]
theorem qB.plx:∀x:qB,x.enc.pl=true:=qB.ind fun x ih=>by
 rw[qB.enc_eq];simp[AV.pl,AV.pls,Vy ih]
theorem qB.cnx:∀x:qB,x.enc.cn=true:=qB.ind fun x ih=>by
 rw[qB.enc_eq];simp[AV.cn,AV.cns,VE ih]
end Go.Ab
namespace Go.Ab
open Go
set_option maxRecDepth 10000
set_option maxHeartbeats 2000000
theorem Zz{n lo hi:Int}:Pure Gm 340 [.int .i64 n,.int .i64 lo,.int .i64 hi] (.bool (decide (lo<=n)&&decide (n<=hi))):=by
 refine Pure.intro [] [] g340 (by kernel_rfl) rfl (by simp[AV.trees,AV.tree,go_sem]) rfl ?_;simp only[YG,qI,go_sem]
 first | (apply J8<;>intro hc<;>simp only[hc,go_sem]) | (apply jR<;>intro hc<;>simp only[hc,go_sem])
 ·exact qE rfl (by have hq:=odT hc;simp<;>omega)
 ·exact qE rfl (by have hq:=odF hc;simp<;>omega)
theorem VA{b:UInt8}:Pure Gm 1440 [.int .u8 (b.toNat:Nat)] (.bool (jD b || jF b)):=by
 refine Pure.intro [] [] qV2 (by kernel_rfl) rfl (by simp[AV.trees,AV.tree,go_sem]) rfl ?_;simp only[Xe,qI,go_sem];by_cases h1:97<=b.toNat
 ·have e1:decide ((97:Int)<=(b.toNat:Nat))=true:=decide_eq_true (by omega);simp only[ge_iff_le,e1,go_sem];by_cases h2:b.toNat<=122
  ·have e2:decide (((b.toNat:Nat):Int)<=122)=true:=decide_eq_true (by omega);simp only[e2,go_sem];exact qE rfl (by simp[jD,h1,h2])
  ·have e2:decide (((b.toNat:Nat):Int)<=122)=false:=decide_eq_false (by omega);have e3:decide ((65:Int)<=(b.toNat:Nat))=true:=decide_eq_true (by omega);have e4:decide (((b.toNat:Nat):Int)<=90)=false:=decide_eq_false (by omega);simp only[e2,e3,e4,go_sem];exact qE rfl (by simp[jD,jF,h2];omega)
 ·have e1:decide ((97:Int)<=(b.toNat:Nat))=false:=decide_eq_false (by omega);simp only[ge_iff_le,e1,go_sem];by_cases h2:65<=b.toNat
  ·have e2:decide ((65:Int)<=(b.toNat:Nat))=true:=decide_eq_true (by omega);simp only[e2,go_sem];exact qE rfl (by congr 1;rw[Bool.eq_iff_iff];simp[jD,jF];omega)
  ·have e2:decide ((65:Int)<=(b.toNat:Nat))=false:=decide_eq_false (by omega);simp only[e2,go_sem];exact qE rfl (by simp[jD,jF,h1,h2])
theorem Zy{b:UInt8}:Pure Gm 1442 [.int .u8 (b.toNat:Nat)] (.bool (zH b)):=by
 refine Pure.intro [] [] qV4 (by kernel_rfl) rfl (by simp[AV.trees,AV.tree,go_sem]) rfl ?_;simp only[Xg,qI,go_sem]
 first | (apply J8<;>intro hc<;>simp only[hc,go_sem]) | (apply jR<;>intro hc<;>simp only[hc,go_sem])
 ·exact qE rfl (by first | (simp[zH]at hc|-;omega) | (simp only[dTe,decide_eq_false_iff_not]at hc;congr 1;rw[Bool.eq_iff_iff];simp[zH];omega))
 ·exact qE rfl (by first | (simp[zH]at hc|-;omega) | (simp only[dTe,decide_eq_false_iff_not]at hc;congr 1;rw[Bool.eq_iff_iff];simp[zH];omega))
theorem qNO:Pure Gm 1513 [] (.lst 1 (kws.map qQ) false):=by
 refine Pure.intro [] [] qWB (by kernel_rfl) rfl (by simp[AV.trees,AV.tree,go_sem]) rfl ?_;simp only[Xn,qI,go_sem];rw[show zE _ _ _ _=some (kws.map qQ)from rfl];simp only[go_sem];exact qON (Cv.row rfl rfl rfl (by decide))
theorem qNM{v:Str}:Pure Gm 1441 [.str v] (.bool (zf v)):=by
 refine Pure.intro [] [] qV3 (by kernel_rfl) rfl (by simp[AV.trees,AV.tree,go_sem]) rfl ?_;simp only[Xf,qI,go_sem];have hk:zf v=kws.any fun x=>v==x:=by simp only[zf,List.contains_eq_any_beq]
 have h8:kws.length=8:=rfl;refine Sem.loop (fun i:Nat=>i<=kws.length/\(kws.any fun x=>v==x)=((kws.drop i).any fun x=>v==x)) (fun i=>(⟨[(0,.str v),(3,.int .i64 (i:Nat))],[],[]⟩:VSt)) (fun i=>kws.length-i) 0 (by kernel_rfl) ⟨nZl _,rfl⟩ (Can.sub (by simp[go_sem]) (by simp[go_sem])) ?_;rintro i ⟨hi,hI⟩;simp only[go_sem];refine qH qNO ?_;simp only[go_sem];by_cases hlt:i<kws.length
 ·have e1:decide ((i:Int)<kws.length)=true:=decide_eq_true (by omega);simp only[e1,go_sem];refine qH qNO ?_;simp only[go_sem];simp only[gMp,gEg hlt,oMs,shS.part,qQ,go_sem];have hd:kws.drop i=kws[i]::kws.drop (i+1):=by simp
  rw[hd,List.any_cons]at hI;by_cases he:kws[i]=v
  ·simp only[decide_eq_true he,go_sem];refine qE rfl ?_;rw[hk,hI,he];simp
  ·simp only[decide_eq_false he,go_sem];simp only[zM (show i<4611686018427387904 by omega)];refine qx (i+1) ⟨by omega, ?_⟩ (by omega) (Can.sub (by simp[go_sem]) (by simp[go_sem]));rw[hI,show (v==kws[i])=false from by simpa using fun q=>he q.symm,Bool.false_or]
 ·have e1:decide ((i:Int)<kws.length)=false:=decide_eq_false (by omega);obtain rfl:i=kws.length:=by omega
  simp only[e1,go_sem];refine qE rfl ?_;rw[hk,hI];simp
theorem qNJ{v:Str}(hl:v.length<=4611686018427387904):Pure Gm 1241 [.str v] (.bool (zr v)):=by
 refine Pure.intro [] [] qVP (by kernel_rfl) rfl (by simp[AV.trees,AV.tree,go_sem]) rfl ?_;simp only[XR,qI,go_sem];by_cases h0:v.length<1
 ·have e0:decide ((v.length:Int)<1)=true:=decide_eq_true (by omega);simp only[e0,go_sem];exact qE rfl (by have:v=[]:=List.length_eq_zero_iff.1 (by omega);subst this;rfl)
 have e0:decide ((v.length:Int)<1)=false:=decide_eq_false (by omega);simp only[e0,go_sem];obtain⟨c,r,hv⟩:∃c r,v=c::r:=by cases v with
  | nil=>simp at h0
  | cons c r=>exact⟨c,r,rfl⟩
 by_cases h12:v.length<=12
 case neg=>
  have e1:decide ((v.length:Int)>12)=true:=decide_eq_true (by omega);simp only[gt_iff_lt]at e1;simp only[e1,go_sem];exact qE rfl (by subst hv;simp only[zr,decide_eq_false h12,Bool.false_and])
 have e1:decide ((v.length:Int)>12)=false:=decide_eq_false (by omega);simp only[gt_iff_lt]at e1;have eh:v[0]?=some c:=by rw[hv];rfl
 simp only[e1,go_sem,eh,oMs];refine qH VA ?_;simp only[go_sem];cases hd:(jD c || jF c)
 case false=>
  simp only[Bool.not_false];simp only[go_sem];refine qE rfl ?_;subst hv;have:zr (c::r)=false:=by
   simp only[zr,lAc,zB];rw[Bool.or_eq_false_iff]at hd;simp only[hd.1,hd.2,Bool.false_or];cases zH c<;>simp
  rw[this]
 simp only[Bool.not_true];simp only[go_sem];have hdd:zH c=false:=by
  rw[Bool.or_eq_true]at hd;rcases hd with hd | hd<;>simp[jD,jF,zH]at hd|-<;>omega
 refine qH qNM ?_;simp only[go_sem];cases hk:zf v
 case true=>
  simp only[go_sem];exact qE rfl (by subst hv;simp[zr,hk])
 simp only[go_sem];have hn:zr v=v.all zB:=by subst hv;simp only[zr,hdd,hk,decide_eq_true h12,Bool.not_false,Bool.true_and]
 refine Sem.loop (fun i:Nat=>i<=v.length/\v.all zB=(v.drop i).all zB) (fun i=>(⟨[(0,.str v),(3,.int .i64 (i:Nat))],[],[]⟩:VSt)) (fun i=>v.length-i) 0 (by kernel_rfl) ⟨nZl _,rfl⟩ (Can.sub (by simp[go_sem]) (by simp[go_sem])) ?_;rintro i ⟨hi,hI⟩;simp only[go_sem];apply jR<;>intro hc<;>simp only[hc,go_sem]
 ·have hlt:i<v.length:=by have:=odT hc;omega
  have hq:v.drop i=v[i]::v.drop (i+1):=by simp
  rw[hq,lAc]at hI;simp only[gEg hlt,oMs];simp only[go_sem];refine qH VA ?_;simp only[go_sem];cases hw:(jD v[i] || jF v[i])
  ·simp only[Bool.not_false];simp only[go_sem];simp only[gEg hlt,oMs];simp only[go_sem];refine qH Zy ?_;simp only[go_sem];have hw2:zB v[i]=zH v[i]:=by rw[Bool.or_eq_false_iff]at hw;simp[zB,hw.1,hw.2]
   cases hw3:zH v[i]
   ·simp only[Bool.not_false];simp only[go_sem];refine qE rfl ?_;rw[hn,hI,hw2,hw3,Bool.false_and]
   ·simp only[Bool.not_true];simp only[go_sem];simp only[zM (show i<4611686018427387904 by omega)];refine qx (i+1) ⟨by omega, ?_⟩ (by omega) (Can.sub (by simp[go_sem]) (by simp[go_sem]));rw[hI,hw2,hw3,Bool.true_and]
  ·simp only[Bool.not_true];simp only[go_sem];have hw2:zB v[i]=true:=by rw[Bool.or_eq_true]at hw;simp only[zB];rcases hw with hw | hw<;>simp[hw]
   simp only[zM (show i<4611686018427387904 by omega)];refine qx (i+1) ⟨by omega, ?_⟩ (by omega) (Can.sub (by simp[go_sem]) (by simp[go_sem]));rw[hI,hw2,Bool.true_and]
 ·obtain rfl:i=v.length:=by have:=odF hc;omega
  refine qE rfl ?_;rw[hn,hI];simp
theorem qO2{c:UInt8}{r:Str}(h:zr (c::r)=true):jD c=true\/jF c=true:=by
 simp only[zr,lAc,zB,bAt,Bool.or_eq_true,bNt]at h;obtain⟨_,h1,_,h2,_⟩:=h;rcases h2 with h2 | h2 | h2
 ·exact .inl h2
 ·exact .inr h2
 ·rw[h1]at h2;cases h2
theorem QS{v:Str}(hl:v.length<=4611686018427387904):Pure Gm 921 [.str v] (.bool (zk v)):=by
 refine Pure.intro [] [] g921 (by kernel_rfl) rfl (by simp[AV.trees,AV.tree,go_sem]) rfl ?_;simp only[Yu,qI,go_sem];refine qH (qNJ hl) ?_;simp only[go_sem];cases hn:zr v
 ·simp only[go_sem];exact qE rfl (by simp[zk,hn])
 ·cases v with
  | nil=>cases hn
  | cons c r=>
  have hh:=qO2 hn;simp only[List.getElem?_cons_zero,oMs,go_sem];exact qE rfl (by simp only[zk,hn,List.headD_cons,Bool.true_and];congr 1;rw[Bool.eq_iff_iff];simp[jD,jF]at hh|-;omega)
theorem ZB{v:Str}(hl:v.length<=4611686018427387904):Pure Gm 1237 [.str v] (.bool (zj v)):=by
 refine Pure.intro [] [] qVO (by kernel_rfl) rfl (by simp[AV.trees,AV.tree,go_sem]) rfl ?_;simp only[XQ,qI,go_sem];refine qH (qNJ hl) ?_;simp only[go_sem];cases hn:zr v
 ·simp only[go_sem];exact qE rfl (by simp[zj,hn])
 ·cases v with
  | nil=>cases hn
  | cons c r=>
  have hh:=qO2 hn;simp only[List.getElem?_cons_zero,oMs,go_sem];exact qE rfl (by simp only[zj,hn,List.headD_cons,Bool.true_and];congr 1;rw[Bool.eq_iff_iff];simp[jD,jF]at hh|-;omega)
theorem qS5{b:UInt8}:Pure Gm 1393 [.int .u8 (b.toNat:Nat)] (.bool (decide (0<=Lib.indexByte ZA (b.toNat:Nat).toUInt8))):=by
 refine Pure.intro [] [] qVX (by kernel_rfl) rfl (by simp[AV.trees,AV.tree,go_sem]) rfl ?_;simp only[XY,qI,go_sem];have hb:(b.toNat:Nat).toUInt8=b:=by simp
 rw[hb];by_cases h1:b=32
 ·subst h1;have e1:decide ((((32:UInt8).toNat:Nat):Int)=32)=true:=rfl;simp only[e1,go_sem];exact qE rfl rfl
 by_cases h2:b=10
 ·subst h2;have e1:decide ((((10:UInt8).toNat:Nat):Int)=32)=false:=rfl;have e2:decide ((((10:UInt8).toNat:Nat):Int)=10)=true:=rfl;simp only[e1,e2,go_sem];exact qE rfl rfl
 by_cases h3:b=9
 ·subst h3;have e1:decide ((((9:UInt8).toNat:Nat):Int)=32)=false:=rfl;have e2:decide ((((9:UInt8).toNat:Nat):Int)=10)=false:=rfl;have e3:decide ((((9:UInt8).toNat:Nat):Int)=9)=true:=rfl;simp only[e1,e2,e3,go_sem];exact qE rfl rfl
 have hne:∀c:UInt8,¬b=c->decide (((b.toNat:Nat):Int)=(c.toNat:Nat))=false:=fun c hc=>decide_eq_false fun q=>hc (UInt8.toNat_inj.1 (by omega));have e1:decide (((b.toNat:Nat):Int)=32)=false:=hne 32 h1;have e2:decide (((b.toNat:Nat):Int)=10)=false:=hne 10 h2;have e3:decide (((b.toNat:Nat):Int)=9)=false:=hne 9 h3;simp only[e1,e2,e3,go_sem];exact qE rfl (by simp[Lib.indexByte,ZA,Ne.symm h1,Ne.symm h2,Ne.symm h3])
theorem qS8{t:Str}{i:Nat}(hi:i<=t.length)(hl:t.length<=20000):Pure Gm 1496 [.str t,.int .i64 (i:Nat)] (.int .i64 ((i+(qe t i).length:Nat):Int)):=by
 refine Pure.intro [] [] qV6 (by kernel_rfl) rfl (by simp[AV.trees,AV.tree,go_sem]) rfl ?_;simp only[Xi,qI,go_sem];refine Sem.loop (fun k:Nat=>k<=(qe t i).length) (fun k=>(⟨[(0,.str t),(1,.int .i64 ((i+k:Nat):Int))],[],[]⟩:VSt)) (fun k=>(qe t i).length-k) 0 (by kernel_rfl) (nZl _) (Can.sub (by simp[go_sem]) (by simp[go_sem])) ?_;intro k hk;have ws:=kO hk;simp only[go_sem];by_cases hlt:i+k<t.length
 case neg=>
  have e:decide (((i+k:Nat):Int)<t.length)=false:=decide_eq_false (by omega);simp only[e,go_sem];have:k=(qe t i).length:=by have:=UM (t:=t) (i:=i) hi;omega
  exact qE rfl (by rw[this])
 have e:decide (((i+k:Nat):Int)<t.length)=true:=decide_eq_true (by omega);simp only[e,gEg hlt,oMs,go_sem];refine qH VA ?_;simp only[go_sem];have go:zB t[i+k]=true->k<(qe t i).length:=fun q=>ws.1 ⟨_,gEg hlt,q⟩;have no:zB t[i+k]=false->k=(qe t i).length:=fun q=>by
  have:¬k<(qe t i).length:=fun q2=>by
   obtain⟨c,e1,e2⟩:=ws.2 q2;rw[gEg hlt]at e1;cases e1;rw[q]at e2;cases e2
  omega
 cases hw:(jD t[i+k] || jF t[i+k])
 ·simp only[gEg hlt,oMs,go_sem];refine qH Zy ?_;simp only[go_sem];have hw2:zB t[i+k]=zH t[i+k]:=by rw[Bool.or_eq_false_iff]at hw;simp[zB,hw.1,hw.2]
  cases hw3:zH t[i+k]
  ·simp only[go_sem];exact qE rfl (by rw[<-no (by rw[hw2,hw3])])
  ·simp only[go_sem];have h1:=go (by rw[hw2,hw3]);simp only[zM (show i+k<4611686018427387904 by omega)];exact qx (k+1) h1 (by omega) (Can.sub (by simp[go_sem,Nat.add_assoc]) (by simp[go_sem]))
 ·simp only[go_sem];have h1:=go (by rw[Bool.or_eq_true]at hw;simp only[zB];rcases hw with hw | hw<;>simp[hw]);simp only[zM (show i+k<4611686018427387904 by omega)];exact qx (k+1) h1 (by omega) (Can.sub (by simp[go_sem,Nat.add_assoc]) (by simp[go_sem]))
end Go.Ab
namespace Go.Ab
open Go
def jf(a:Nat)(s:Str):Nat:=s.foldl (fun a c=>10*a+(c.toNat-48)) a
def qX(s:Str):Nat:=jf 0 s
def zo(s:Str):Bool:=decide (s.length<=10)&&(!(decide (1<s.length)&&decide (s.headD 0=48))&&(s.all zH&&decide (qX s<=2147483648)))
theorem wO{a:Nat}:jf a []=a:=by unfold jf;rw[List.foldl_nil]
theorem wt{a:Nat}{c:UInt8}{s:Str}:jf a (c::s)=jf (10*a+(c.toNat-48)) s:=by unfold jf;rw[List.foldl_cons]
theorem Vo{s r:Str}{a:Nat}:jf a (s++r)=jf (jf a s) r:=List.foldl_append ..
theorem qP4{s:Str}:∀{a:Nat},a<=jf a s:=by
 induction s with
 | nil=>intro a;exact nLr _
 | cons c s ih=>intro a;rw[wt];exact nLt (by omega) ih
theorem JF{c:UInt8}:zH c=true↔48<=c.toNat/\c.toNat<=57:=by simp[zH]
theorem qP5:∀{s:Str}{a k:Nat},s.all zH=true->a<10^k->jf a s<10^(k+s.length)
 |[],a,k,_,h=>by rw[wO];exact h
 | c::s,a,k,hd,h=>by
  simp only[lAc,bAt]at hd;rw[wt,show k+(c::s).length=(k+1)+s.length by simp;omega];have:=JF.1 hd.1;exact qP5 hd.2 (by rw[Nat.pow_succ];omega)
theorem qP7{s:Str}(hd:s.all zH=true):qX s<10^s.length:=by
 have:=qP5 (k:=0) (a:=0) hd (by decide);rwa[nZa]at this
theorem Kx{M:Nat}(hM:M=2^64-1):∀{s:Str}{a:Nat},s.all zH=true->jf a s<=9000000000000000000->Lib.parseUintM M a s=.ok (jf a s)
 |[],a,_,_=>by rw[wO];rfl
 | c::s,a,hd,h=>by
  simp only[lAc,bAt]at hd;have h1:=JF.1 hd.1;rw[wt]at h|-;have h2:=qP4 (s:=s) (a:=10*a+(c.toNat-48));rw[Lib.parseUintM,if_pos h1,if_neg (by omega),if_neg (by subst hM;omega),show a*10+(c.toNat-48)=10*a+(c.toNat-48) by omega];exact Kx hM hd.2 h
theorem qQM{s:Str}(hn:s≠[])(hd:s.all zH=true)(h:qX s<=9000000000000000000):Lib.parseIntB 64 s=.ok (qX s:Int):=by
 cases s with
 | nil=>exact absurd rfl hn
 | cons c r=>
  have h1:=JF.1 (by simp only[lAc,bAt]at hd;exact hd.1);unfold Lib.parseIntB;simp only;rw[if_neg (by omega),Lib.parseUintB,if_neg (by simp),Kx rfl hd h];simp only;rw[if_neg (by intro q;have:=q.2;change qX (c::r)<=_ at h;unfold qX at h;omega),if_neg (by omega),if_neg (by omega)];rfl
theorem Z3{u:Nat}(h:u<10):Lib.decDigits u=[UInt8.ofNat (48+u)]:=by rw[Lib.decDigits,dif_pos h]
theorem VH{u:Nat}(h:¬u<10):Lib.decDigits u=Lib.decDigits (u/10)++[UInt8.ofNat (48+u%10)]:=by rw[Lib.decDigits,dif_neg h]
theorem ofN{d:Nat}(h:d<10):(UInt8.ofNat (48+d)).toNat=48+d:=by
 rw[UInt8.toNat_ofNat'];omega
theorem qN3:∀u:Nat,(Lib.decDigits u).all zH=true/\qX (Lib.decDigits u)=u/\Lib.decDigits u≠[]/\(1<(Lib.decDigits u).length->(Lib.decDigits u).headD 0≠48)/\(0<u->(Lib.decDigits u).headD 0≠48):=by
 intro u
 induction u using Nat.strongRecOn with
 | _ u ih=>
 by_cases h:u<10
 ·rw[Z3 h];have hu:=ofN h;refine⟨by simp only[lAc,List.all_nil,Bool.and_true];rw[JF,hu];omega,by simp only[qX,wt,wO,hu];omega,by simp,by simp,fun h0 q=> ?_⟩;simp only[List.headD_cons]at q;rw[q]at hu;have:(48:UInt8).toNat=48:=rfl;omega
 ·rw[VH h];obtain⟨i1,i2,i3,i4,i5⟩:=ih (u/10) (by omega);have hu:=ofN (d:=u%10) (by omega);obtain⟨c,r,e⟩:∃c r,Lib.decDigits (u/10)=c::r:=by
   cases hq:Lib.decDigits (u/10)with
   | nil=>exact absurd hq i3
   | cons c r=>exact⟨c,r,rfl⟩
  have h5:=i5 (by omega);refine⟨?_, ?_,by simp,fun _=> ?_,fun _=> ?_⟩
  ·rw[List.all_append,i1];simp only[lAc,List.all_nil,Bool.and_true,Bool.true_and];rw[JF,hu];omega
  ·unfold qX at i2|-;rw[Vo,i2,wt,wO,hu];omega
  ·rw[e]at h5|-;exact h5
  ·rw[e]at h5|-;exact h5
theorem qN4:∀(n:Nat){s:Str},s.length=n->s≠[]->s.all zH=true->(1<s.length->s.headD 0≠48)->Lib.decDigits (qX s)=s:=by
 intro n
 induction n using Nat.strongRecOn with
 | _ n ih=>
 intro s hl hn hd h0;obtain⟨l,c,rfl⟩:∃l c,s=l++[c]:=⟨s.dropLast,s.getLast hn,(List.dropLast_concat_getLast hn).symm⟩;rw[List.all_append,bAt]at hd;have hc:=JF.1 (by simpa using hd.2);have e:qX (l++[c])=10*qX l+(c.toNat-48):=by unfold qX;rw[Vo,wt,wO]
 have ec:UInt8.ofNat (48+(c.toNat-48))=c:=by
  apply UInt8.toNat_inj.1;rw[ofN (by omega)];omega
 rw[e];cases l with
 | nil=>
  simp only[qX,wO,lNa];rw[Z3 (by omega),show 48+(10*0+(c.toNat-48))=48+(c.toNat-48) by omega,ec]
 | cons x r=>
  have hx:=h0 (by simp);simp only[lCa,List.headD_cons]at hx;have hxd:=JF.1 (by have:=hd.1;simp only[lAc,bAt]at this;exact this.1);have hpos:1<=qX (x::r):=by
   unfold qX;rw[wt];refine nLt ?_ (qP4 (s:=r));have:x.toNat≠48:=fun q=>hx (UInt8.toNat_inj.1 q);omega
  have hi:=ih (x::r).length (by rw[<-hl];simp) rfl (by simp) hd.1 (fun _=>by simpa using hx);rw[VH (by omega),show (10*qX (x::r)+(c.toNat-48))/10=qX (x::r) by omega,hi,show (10*qX (x::r)+(c.toNat-48))%10=c.toNat-48 by omega,ec]
theorem qTW{u:Nat}(h:u<=2147483648):(Lib.decDigits u).length<=10:=by
 rcases Nat.lt_or_ge 10 (Lib.decDigits u).length with q | q
 ·exfalso;obtain⟨h1,h2,h3,h4,_⟩:=qN3 u;obtain⟨c,r,e⟩:∃c r,Lib.decDigits u=c::r:=by
   cases hq:Lib.decDigits u with
   | nil=>exact absurd hq h3
   | cons c r=>exact⟨c,r,rfl⟩
  have h5:=h4 (by omega);rw[e]at h1 h2 h5 q;simp only[List.headD_cons]at h5;have hd:=h1;simp only[lAc,bAt]at hd;have hxd:=JF.1 hd.1;have:c.toNat≠48:=fun q=>h5 (UInt8.toNat_inj.1 q);have low:∀(s:Str)(a:Nat),a*10^s.length<=jf a s:=fun s=>by
   induction s with
   | nil=>intro a;simp[wO]
   | cons y s ihs=>
    intro a;rw[wt];refine nLt ?_ (ihs _);rw[lCo,Nat.pow_succ,Nat.mul_comm (10^s.length) 10,<-Nat.mul_assoc];exact Nat.mul_le_mul_right _ (by omega)
  have hb:=low r (10*0+(c.toNat-48));have hb2:10^10<=10^r.length:=Nat.pow_le_pow_right (by decide) (by simp at q;omega);have hb3:1*10^r.length<=(10*0+(c.toNat-48))*10^r.length:=Nat.mul_le_mul_right _ (by omega);have e2:qX (c::r)=jf (10*0+(c.toNat-48)) r:=by unfold qX;rw[wt]
  rw[e2]at h2;have:(10:Nat)^10=10000000000:=by decide
  omega
 ·exact q
theorem qaI{s:Str}(hn:s≠[]):zo s=(decide (s=wX) || Jl s):=by
 rw[Bool.eq_iff_iff];constructor
 ·intro h;simp only[zo,bAt,dTe,bNt,Bool.and_eq_false_iff,decide_eq_false_iff_not]at h;obtain⟨h1,h2,h3,h4⟩:=h;have hu:=qN4 _ rfl hn h3 (fun q=>by rcases h2 with h2 | h2;exact absurd q h2;exact h2);by_cases e:qX s=2147483648
  ·rw[e]at hu;have:Lib.decDigits 2147483648=wX:=by
    repeat rw[VH (by decide)]
    rw[Z3 (by decide)];rfl
   rw[this]at hu;simp[<-hu]
  ·have hp:=qQM hn h3 (by omega);have hi:Lib.itoa (qX s:Int)=s:=by
    unfold Lib.itoa;rw[if_neg (by omega),Int.toNat_natCast];exact hu
   have hr:js s=some (qX s:Int):=by
    unfold js;rw[hp];simp only;rw[if_pos ⟨⟨by omega,by omega⟩,hi⟩]
   simp[Jl,hr]
 ·intro h;have key:∀u:Nat,u<=2147483648->zo (Lib.decDigits u)=true:=fun u hu=>by
   obtain⟨d1,d2,d3,d4,_⟩:=qN3 u;have d5:=qTW hu;simp only[zo,bAt,dTe,bNt,Bool.and_eq_false_iff,decide_eq_false_iff_not];refine⟨d5, ?_,d1,by omega⟩;by_cases q:1<(Lib.decDigits u).length
   ·exact .inr (d4 q)
   ·exact .inl q
  rw[Bool.or_eq_true]at h;rcases h with h | h
  ·have e:=odT h;subst e;decide
  ·unfold Jl at h;split at h
   ·rename_i n hr;have h0:=odT h;unfold js at hr;split at hr
    ·split at hr
     ·rename_i hq;cases hr;obtain⟨⟨q1,q2⟩,q3⟩:=hq;unfold Lib.itoa at q3;rw[if_neg (by omega)]at q3;rw[<-q3];exact key _ (by omega)
     ·cases hr
    ·cases hr
   ·cases h
end Go.Ab
namespace Go.Ab
open Go
set_option maxRecDepth 10000
set_option maxHeartbeats 2000000
theorem qOX:∀{l:Str}{c:UInt8},decide (0<=Lib.indexByte l c)=l.any fun x=>x==c
 |[],c=>by simp[Lib.indexByte]
 | b::l,c=>by
  have ih:=qOX (l:=l) (c:=c);have hg:=Lib.indexByte_ge l c;unfold Lib.indexByte;rw[List.any_cons,<-ih];by_cases h:(b==c)=true
  ·rw[if_pos h,h];simp
  ·rw[if_neg h];have h':(b==c)=false:=by simpa using h
   rw[h',Bool.false_or];split
   ·rename_i q;have q':Lib.indexByte l c= -1:=by simpa using q
    simp[q']
   ·rename_i q;have q':Lib.indexByte l c≠-1:=by simpa using q
    rw[decide_eq_decide];omega
theorem qaJ{s:Str}(h:zo s=true):s.all zH=true:=by
 simp only[zo,bAt]at h;exact h.2.2.1
theorem qO3{s:Str}(h:zr s=true):zo s=false:=by
 cases s with
 | nil=>cases h
 | cons c r=>
  rw[<-Bool.not_eq_true];intro q;have:=qaJ q;simp only[lAc,bAt]at this;simp only[zr,bAt,bNt]at h;rw[h.2.1]at this;cases this.1
theorem qW9{s:Str}(h:zf s=true):zj s=false/\zk s=false/\zo s=false:=by
 have hn:zr s=false:=by
  cases s with
  | nil=>rfl
  | cons c r=>simp only[zr,h,Bool.not_true,Bool.false_and,Bool.and_false]
 refine⟨by simp[zj,hn],by simp[zk,hn], ?_⟩;have:s∈kws:=by simpa[zf]using h
 simp only[kws,List.mem_cons,List.not_mem_nil,or_false]at this;rcases this with rfl | rfl | rfl | rfl | rfl | rfl | rfl | rfl<;>decide
theorem qXB{s:Str}(h:zj s=true):zk s=false/\zo s=false:=by
 simp only[zj,bAt]at h;refine⟨?_,qO3 h.1⟩;simp only[zk,Bool.and_eq_false_iff];right;have:=h.2;simp[jD]at this;simp[jF];omega
theorem qXF{s:Str}(h:zk s=true):zo s=false:=by
 simp only[zk,bAt]at h;exact qO3 h.1
def j4(t:Str)(i:Nat):qL:=if (zF t i).1=0 then(if 0<(qe t i).length then⟨0,qe t i,i⟩else⟨0,[],0⟩)else jO t i
theorem VB{s:Str}(hs:s≠[])(hl:s.length<=20000):Pure Gm 1497 [.str s] (.bool (zo s)):=by
 refine Pure.intro [] [] qV7 (by kernel_rfl) rfl (by simp[AV.trees,AV.tree,go_sem]) rfl ?_;simp only[Xj,qI,go_sem];obtain⟨c,r,hv⟩:∃c r,s=c::r:=by cases s with
  | nil=>exact absurd rfl hs
  | cons c r=>exact⟨c,r,rfl⟩
 have eh:s[0]?=some c:=by rw[hv];rfl
 have ehd:s.headD 0=c:=by rw[hv];rfl
 have h1:1<=s.length:=by rw[hv];simp
 by_cases h10:s.length<=10
 case neg=>
  have e0:decide ((10:Int)<(s.length:Nat))=true:=decide_eq_true (by omega);simp only[e0,go_sem];exact qE rfl (by simp[zo,h10])
 have e0:decide ((10:Int)<(s.length:Nat))=false:=decide_eq_false (by omega);simp only[e0,go_sem];have hz:(!(decide (1<s.length)&&decide (s.headD 0=48)))=true\/(1<s.length/\c=48):=by
  rw[ehd];by_cases q1:1<s.length
  ·by_cases q2:c=48
   ·exact .inr ⟨q1,q2⟩
   ·left;simp[q2]
  ·left;simp[q1]
 have fin0:(1<s.length/\c=48)->zo s=false:=fun q=>by
  rw[zo,ehd,decide_eq_true q.1,decide_eq_true q.2];simp
 by_cases q1:1<s.length
 case' pos=>
  have e1:decide ((1:Int)<(s.length:Nat))=true:=decide_eq_true (by omega);simp only[e1,eh,oMs,go_sem];by_cases q2:c=48
  case pos=>
   have e2:decide (((c.toNat:Nat):Int)=48)=true:=by subst q2;rfl
   simp only[e2,go_sem];exact qE rfl (by rw[fin0 ⟨q1,q2⟩])
  case' neg=>
   have e2:decide (((c.toNat:Nat):Int)=48)=false:=decide_eq_false fun q=>q2 (UInt8.toNat_inj.1 (by have:(48:UInt8).toNat=48:=rfl;omega));simp only[e2,go_sem]
 case' neg=>
  have e1:decide ((1:Int)<(s.length:Nat))=false:=decide_eq_false (by omega);simp only[e1,go_sem]
 all_goals
  have hz':(!(decide (1<s.length)&&decide (s.headD 0=48)))=true:=by
   rcases hz with q | q
   ·exact q
   ·first | exact absurd q.1 q1 | exact absurd q.2 q2
  have hn:zo s=(s.all zH&&decide (qX s<=2147483648)):=by rw[zo,decide_eq_true h10,hz',Bool.true_and,Bool.true_and]
  refine Sem.loop (fun i:Nat=>i<=s.length/\(s.take i).all zH=true) (fun i=>(⟨[(0,.str s),(3,.int .i64 (qX (s.take i):Nat)),(4,.int .i64 (i:Nat))],[],[]⟩:VSt)) (fun i=>s.length-i) 0 (by kernel_rfl) ⟨nZl _,by simp⟩ (Can.sub (by simp[go_sem,qX,wO]) (by simp[go_sem])) ?_;rintro i ⟨hi,hI⟩;simp only[go_sem];by_cases hlt:i<s.length
  ·have e1:decide ((i:Int)<(s.length:Nat))=true:=decide_eq_true (by omega);simp only[e1,gEg hlt,oMs,go_sem];refine qH Zy ?_;simp only[go_sem];have et:s.take (i+1)=s.take i++[s[i]]:=by rw[List.take_add_one,gEg hlt];rfl
   cases hd:zH s[i]
   ·simp only[Bool.not_false,go_sem];refine qE rfl ?_;have:s.all zH=false:=by
     rw[<-Bool.not_eq_true];intro q;rw[lAt]at q;rw[q _ (gMm hlt)]at hd;cases hd
    rw[hn,this,Bool.false_and]
   ·simp only[Bool.not_true,gEg hlt,oMs,go_sem];have hb:=JF.1 hd;have hv:=qP7 hI;have hp:10^(s.take i).length<=10^10:=Nat.pow_le_pow_right (by decide) (by simp;omega);have h10':(10:Nat)^10=10000000000:=by decide
    have w1:IntKind.u8.wrap (((s[i].toNat:Nat):Int)-48)=((s[i].toNat-48:Nat):Int):=by rw[IntWalk.u8_in _ ⟨by omega,by omega⟩];omega
    simp only[w1,qu (n:=((s[i].toNat-48:Nat):Int)) (by omega) (by omega),qu (n:=10*((qX (s.take i):Nat):Int)) (by omega) (by omega),qu (n:=10*((qX (s.take i):Nat):Int)+((s[i].toNat-48:Nat):Int)) (by omega) (by omega),zM (show i<4611686018427387904 by omega)];have en:qX (s.take (i+1))=10*qX (s.take i)+(s[i].toNat-48):=by rw[et];unfold qX;rw[Vo,wt,wO]
    have ee:10*((qX (s.take i):Nat):Int)+((s[i].toNat-48:Nat):Int)=((qX (s.take (i+1)):Nat):Int):=by rw[en];omega
    rw[ee];refine qx (i+1) ⟨by omega,by rw[et,List.all_append,hI];simp[hd]⟩ (by omega) ?_;exact Can.sub (by simp[go_sem]) (by simp[go_sem])
  ·have e1:decide ((i:Int)<(s.length:Nat))=false:=decide_eq_false (by omega);obtain rfl:i=s.length:=by omega
   simp only[e1,go_sem];rw[lTl]at hI|-;refine qE rfl ?_;rw[hn,hI,Bool.true_and];congr 1;rw[decide_eq_decide];omega
theorem qS9{b:UInt8}:Pure Gm 1498 [.int .u8 (b.toNat:Nat)] (.bool (decide (0<=Lib.indexByte zq b))):=by
 refine Pure.intro [] [] qV8 (by kernel_rfl) rfl (by simp[AV.trees,AV.tree,go_sem]) rfl ?_;simp only[Xk,qI,go_sem];have hk:decide (0<=Lib.indexByte zq b)=zq.any fun x=>x==b:=qOX;have h8:zq.length=19:=rfl;have es:([43,45,42,47,60,61,40,41,91,93,123,125,44,59,58,46,124,33,92]:Str)=zq:=rfl;rw[es];refine Sem.loop (fun i:Nat=>i<=zq.length/\(zq.any fun x=>x==b)=((zq.drop i).any fun x=>x==b)) (fun i=>(⟨[(0,.int .u8 (b.toNat:Nat)),(3,.str zq),(4,.int .i64 (i:Nat))],[],[]⟩:VSt)) (fun i=>zq.length-i) 0 (by kernel_rfl) ⟨nZl _,rfl⟩ (Can.sub (by simp[go_sem]) (by simp[go_sem])) ?_;rintro i ⟨hi,hI⟩;simp only[go_sem];by_cases hlt:i<zq.length
 ·have e1:decide ((i:Int)<(zq.length:Nat))=true:=decide_eq_true (by omega);simp only[e1,gEg hlt,oMs,go_sem];have hd:zq.drop i=zq[i]::zq.drop (i+1):=by simp
  rw[hd,List.any_cons]at hI;by_cases he:zq[i]=b
  ·have e2:decide (((zq[i].toNat:Nat):Int)=(b.toNat:Nat))=true:=decide_eq_true (by rw[he]);simp only[e2,go_sem];refine qE rfl ?_;rw[hk,hI,he];simp
  ·have e2:decide (((zq[i].toNat:Nat):Int)=(b.toNat:Nat))=false:=decide_eq_false fun q=>he (UInt8.toNat_inj.1 (by omega));simp only[e2,go_sem];simp only[zM (show i<4611686018427387904 by omega)];refine qx (i+1) ⟨by omega, ?_⟩ (by omega) (Can.sub (by simp[go_sem]) (by simp[go_sem]));rw[hI,show (zq[i]==b)=false from by simpa using he,Bool.false_or]
 ·have e1:decide ((i:Int)<(zq.length:Nat))=false:=decide_eq_false (by omega);obtain rfl:i=zq.length:=by omega
  simp only[e1,go_sem];refine qE rfl ?_;rw[hk,hI];simp
end Go.Ab
namespace Go.Ab
open Go
set_option maxRecDepth 10000
set_option maxHeartbeats 2000000
theorem qdB{t:Str}{i:Nat}(hi:i<t.length):zB t[i]=decide (0<(qe t i).length):=by
 have:=kO (t:=t) (i:=i) (k:=0) (nZl _);rw[nAz]at this;rw[Bool.eq_iff_iff,dTe,<-this];constructor
 ·intro q;exact⟨_,gEg hi,q⟩
 ·rintro⟨c,e1,e2⟩;rw[gEg hi]at e1;cases e1;exact e2
theorem UD{t:Str}{i:Nat}(h:0<(qe t i).length):zF t i=if zf (qe t i)then(3,i+(qe t i).length)else if zj (qe t i)then(1,i+(qe t i).length)else if zk (qe t i)then(2,i+(qe t i).length)else if zo (qe t i)then(4,i+(qe t i).length)else(0,i):=by
 rw[qaI (fun q=>by rw[q]at h;simp at h)];unfold zF;rw[if_pos h]
theorem kG{t:Str}{i:Nat}(h:0<(qe t i).length):j4 t i=⟨(zF t i).1,qe t i,i⟩:=by
 unfold j4 jO;rw[if_pos h];have e:=UD h;split
 ·rename_i q;rw[q]
 ·rename_i q;have:(zF t i).2=i+(qe t i).length:=by
   rw[e]at q|-
   repeat' split
   all_goals first | rfl | (simp_all;done)
  rw[this,Nat.add_sub_cancel_left,kP]
theorem qcW{t:Str}{i:Nat}(hi:i<t.length)(h:¬0<(qe t i).length):zF t i=if pfx [45,62] (t.drop i)then(5,i+2)else if 0<=Lib.indexByte zq t[i]then(5,i+1)else(0,i):=by
 have eg:t.getD i 0=t[i]:=by simp[List.getD,gEg hi]
 unfold zF;rw[if_neg h,eg];simp
theorem qa0{t:Str}{i:Nat}(hi:i<t.length):pfx [45,62] (t.drop i)=(decide (t[i]=45)&&(match t[i+1]? with | some c=>decide (c=62) | none=>false)):=by
 have e:t.drop i=t[i]::t.drop (i+1):=by simp
 unfold pfx;rw[e];by_cases h1:i+1<t.length
 ·have e1:t.drop (i+1)=t[i+1]::t.drop (i+2):=by simp
  rw[e1,gEg h1];generalize t.drop (i+2)=r;simp
 ·have e1:t.drop (i+1)=[]:=List.drop_eq_nil_of_le (by omega);rw[e1,gEn (by omega)];simp
theorem qS6{t:Str}{i:Nat}(hi:i<t.length)(hl:t.length<=20000):Pure Gm 1394 [.str t,.int .i64 (i:Nat)] ((j4 t i).enc):=by
 refine Pure.intro [] [] qVY (by kernel_rfl) rfl (by simp[AV.trees,AV.tree,go_sem]) (by simp[go_sem]) ?_;simp only[XZ,qI,go_sem];have wl:=UM (t:=t) (i:=i) (by omega);have wp:=qdB hi;simp only[gEg hi,oMs,go_sem];refine qH VA ?_;simp only[go_sem];have hw:zB t[i]=((jD t[i] || jF t[i]) || zH t[i]):=by simp[zB,Bool.or_assoc]
 by_cases hp:0<(qe t i).length
 ·rw[decide_eq_true hp]at wp;rw[wp]at hw;have er:=kG hp;have ee:=UD hp;have hne:qe t i≠[]:=fun q=>by rw[q]at hp;simp at hp
  cases hq:(jD t[i] || jF t[i])
  case' false=>
   rw[hq,Bool.false_or]at hw;simp only[go_sem];refine qH Zy ?_;simp only[go_sem];simp only[<-hw,go_sem]
  case' true=>
   simp only[go_sem]
  all_goals
   refine qH (qS8 (by omega) hl) ?_;simp only[go_sem];refine Qq (Wk rfl rfl rfl (by omega) (by omega)) ?_;rw[Nat.add_sub_cancel_left,kP];simp only[go_sem];refine qM rfl rfl ⟨_,rfl⟩ (by decide) ?_;simp only[go_sem];refine qH qNM ?_;simp only[go_sem];cases k1:zf (qe t i)
   case' true=>
    obtain⟨f1,f2,f3⟩:=qW9 k1;simp only[go_sem];refine qH (ZB (by omega)) ?_;simp only[f1,go_sem];refine qH (QS (by omega)) ?_;simp only[f2,go_sem];refine qH (VB hne (by omega)) ?_;simp only[f3,go_sem];refine qM rfl rfl ⟨_,rfl⟩ (by decide) ?_;simp only[go_sem];exact qE rfl (by rw[er,ee,k1];rfl)
   case' false=>
    simp only[go_sem];refine qH (ZB (by omega)) ?_;simp only[go_sem];cases k2:zj (qe t i)
    case' true=>
     obtain⟨f2,f3⟩:=qXB k2;simp only[go_sem];refine qH (QS (by omega)) ?_;simp only[f2,go_sem];refine qH (VB hne (by omega)) ?_;simp only[f3,go_sem];refine qM rfl rfl ⟨_,rfl⟩ (by decide) ?_;simp only[go_sem];exact qE rfl (by rw[er,ee,k1,k2];rfl)
    case' false=>
     simp only[go_sem];refine qH (QS (by omega)) ?_;simp only[go_sem];cases k3:zk (qe t i)
     case' true=>
      have f3:=qXF k3;simp only[go_sem];refine qH (VB hne (by omega)) ?_;simp only[f3,go_sem];refine qM rfl rfl ⟨_,rfl⟩ (by decide) ?_;simp only[go_sem];exact qE rfl (by rw[er,ee,k1,k2,k3];rfl)
     case' false=>
      simp only[go_sem];refine qH (VB hne (by omega)) ?_;simp only[go_sem];cases k4:zo (qe t i)
      case' true=>
       simp only[go_sem];refine qM rfl rfl ⟨_,rfl⟩ (by decide) ?_;simp only[go_sem];exact qE rfl (by rw[er,ee,k1,k2,k3,k4];rfl)
      case' false=>
       simp only[go_sem];refine qM rfl rfl ⟨_,rfl⟩ (by decide) ?_;simp only[go_sem];exact qE rfl (by rw[er,ee,k1,k2,k3,k4];rfl)
 ·rw[decide_eq_false hp]at wp;rw[wp]at hw;have hw1:(jD t[i] || jF t[i])=false/\zH t[i]=false:=by rw[<-Bool.or_eq_false_iff];exact hw.symm
  simp only[hw1.1,go_sem];refine qH Zy ?_;simp only[go_sem];simp only[hw1.2,go_sem];have ee:=qcW hi hp;have p2:=qa0 hi;have e3:((i:Nat):Int)+1=((i+1:Nat):Int):=by omega
  have hcc:(t[i]=45/\∃h:i+1<t.length,t[i+1]=62)\/(t[i]=45/\∃h:i+1<t.length,¬t[i+1]=62)\/(t[i]=45/\¬i+1<t.length)\/¬t[i]=45:=by
   by_cases q1:t[i]=45
   ·by_cases q2:i+1<t.length
    ·by_cases q3:t[i+1]=62
     ·exact .inl ⟨q1,q2,q3⟩
     ·exact .inr (.inl ⟨q1,q2,q3⟩)
    ·exact .inr (.inr (.inl ⟨q1,q2⟩))
   ·exact .inr (.inr (.inr q1))
  have n45:t[i]=45->decide (((t[i].toNat:Nat):Int)=45)=true:=fun q=>by rw[q];rfl
  rcases hcc with⟨q1,q2,q3⟩ | ⟨q1,q2,q3⟩ | ⟨q1,q2⟩ | q1
  case inl=>
   have e2:decide ((i:Int)+1<(t.length:Nat))=true:=decide_eq_true (by omega);simp only[n45 q1,go_sem,qu (n:=(i:Int)+1) (by omega) (by omega)];simp only[e2,go_sem,qu (n:=(i:Int)+1) (by omega) (by omega)];simp only[e3,gEg q2,oMs,go_sem];have e4:decide (((t[i+1].toNat:Nat):Int)=62)=true:=by rw[q3];rfl
   simp only[e4,go_sem];refine qM rfl rfl ⟨_,rfl⟩ (by decide) ?_;simp only[go_sem];have hpf:pfx [45,62] (t.drop i)=true:=by rw[p2,gEg q2];simp[q1,q3]
   rw[hpf,if_pos rfl]at ee;have et:(t.drop i).take 2=[45,62]:=by
    unfold pfx at hpf;simp only[bAt,dTe]at hpf;exact hpf.2
   refine qE rfl ?_;unfold j4 jO;rw[ee,if_neg (by simp)];simp only[Nat.add_sub_cancel_left,et];rfl
  case' inr.inl=>
   have e2:decide ((i:Int)+1<(t.length:Nat))=true:=decide_eq_true (by omega);simp only[n45 q1,go_sem,qu (n:=(i:Int)+1) (by omega) (by omega)];simp only[e2,go_sem,qu (n:=(i:Int)+1) (by omega) (by omega)];simp only[e3,gEg q2,oMs,go_sem];have e4:decide (((t[i+1].toNat:Nat):Int)=62)=false:=decide_eq_false fun q=>q3 (UInt8.toNat_inj.1 (by have:(62:UInt8).toNat=62:=rfl;omega));simp only[e4,go_sem];have hpf:pfx [45,62] (t.drop i)=false:=by rw[p2,gEg q2];simp[q3]
  case' inr.inr.inl=>
   have e2:decide ((i:Int)+1<(t.length:Nat))=false:=decide_eq_false (by omega);simp only[n45 q1,go_sem,qu (n:=(i:Int)+1) (by omega) (by omega)];simp only[e2,go_sem];have hpf:pfx [45,62] (t.drop i)=false:=by rw[p2,gEn (by omega)];simp
  case' inr.inr.inr=>
   have e1:decide (((t[i].toNat:Nat):Int)=45)=false:=decide_eq_false fun q=>q1 (UInt8.toNat_inj.1 (by have:(45:UInt8).toNat=45:=rfl;omega));simp only[e1,go_sem];have hpf:pfx [45,62] (t.drop i)=false:=by rw[p2];simp[q1]
  all_goals
   rw[hpf,if_neg (by decide)]at ee;refine qH qS9 ?_;simp only[go_sem];by_cases q5:0<=Lib.indexByte zq t[i]
   ·rw[if_pos q5]at ee;simp only[decide_eq_true q5,go_sem,qu (n:=(i:Int)+1) (by omega) (by omega)];refine Qq (Wk (e:=i+1) rfl rfl (by simp only[go_sem];rfl) (by omega) (by omega)) ?_;simp only[go_sem];refine qM rfl rfl ⟨_,rfl⟩ (by decide) ?_;simp only[go_sem];refine qE rfl ?_;unfold j4 jO;rw[ee,if_neg (by simp)];rfl
   ·rw[if_neg q5]at ee;simp only[decide_eq_false q5,go_sem];refine qM rfl rfl ⟨_,rfl⟩ (by decide) ?_;simp only[go_sem];refine qE rfl ?_;unfold j4;rw[ee,if_pos rfl,if_neg hp];rfl
theorem qc0{t:Str}{i:Nat}:(j4 t i).Kind=(zF t i).1:=by
 unfold j4;split
 ·rename_i h;split<;>exact h.symm
 ·rfl
def Wo(t:Str):List qL×Int×Bool:=match JQ t with
 |.error i=>([],i,false)
 |.ok l=>(l,0,true)
theorem qS0{t:Str}(hl:t.length<=20000):Pure Gm 1107 [.str t] (.tup [.lst 3 ((Wo t).1.map qL.enc) false,.int .i64 (Wo t).2.1,.bool (Wo t).2.2]):=by
 refine Pure.intro [] [] qVD (by kernel_rfl) rfl (by simp[AV.trees,AV.tree,go_sem]) (by simp[AV.tree,AV.trees,jU qL.isSh.tree]) ?_;simp only[XF,qI,go_sem];have er:Wo t=match JQ t with
  |.error i=>([],i,false)
  |.ok l=>(l,0,true):=rfl
 refine Sem.loop (fun a:Nat×List qL=>a.1<=t.length/\a.2.length<=a.1/\JQ t=QO t a.1 a.2) (fun a=>(⟨[(0,.str t),(5,.slice 3 0 0 a.2.length false),(6,.int .i64 (a.1:Nat))],[],[.row 3 (a.2.map qL.enc) true]⟩:VSt)) (fun a=>t.length-a.1) (0,[]) (by kernel_rfl) ⟨nZl _,nZl _,rfl⟩ (Can.renum [none] rfl ⟨.ph,trivial⟩ ⟨⟨_,rfl,.tree rfl⟩,⟨_,rfl,.ph2 rfl⟩,⟨_,rfl,.tree rfl⟩,trivial⟩ trivial) ?_;rintro⟨i,acc⟩ ⟨hi,ha,hI⟩;simp only at hi ha hI;simp only[go_sem];by_cases hlt:i<t.length
 case neg=>
  have e:decide ((i:Int)<t.length)=false:=decide_eq_false (by omega);simp only[e,go_sem];rw[hI,qRW hlt]at er;rw[er];refine wm (Cvs.tup (Cvs.cons (Cv.row rfl (by simp) (jU qL.isSh.tree _) (by decide)) (Cvs.cons (.refl rfl) (Cvs.cons (.refl rfl) Cvs.nil))))
 have e:decide ((i:Int)<t.length)=true:=decide_eq_true (by omega);simp only[e,gEg hlt,oMs,go_sem];refine qH qS5 ?_;simp only[go_sem];rw[qRX hlt]at hI;have eg:t.getD i 0=t[i]:=by simp[List.getD,gEg hlt]
 rw[eg]at hI;by_cases hb:0<=Lib.indexByte ZA t[i].toNat.toUInt8
 ·simp only[decide_eq_true hb,go_sem];simp only[zM (show i<4611686018427387904 by omega)];rw[if_pos hb]at hI;exact qx (i+1,acc) ⟨by simp only;omega,by simp only;omega,hI⟩ (by simp only;omega) (Can.sub (by simp[go_sem]) (by simp[go_sem]))
 simp only[decide_eq_false hb,go_sem];rw[if_neg hb]at hI;refine qH (qS6 hlt (by omega)) ?_;simp only[go_sem];refine qM rfl rfl ⟨_,rfl⟩ (by decide) ?_;simp only[go_sem];obtain⟨t1,t2,t3⟩:=Wn hlt;have tk:=qc0 (t:=t) (i:=i);by_cases hk:(zF t i).1=0
 ·rw[hk]at tk;simp only[decide_eq_true tk,go_sem];rw[if_pos hk]at hI;rw[hI]at er;rw[er];refine wm (Cvs.tup (Cvs.cons .nils (Cvs.cons (.refl rfl) (Cvs.cons (.refl rfl) Cvs.nil))))
 have t4:=t3 hk;rw[if_neg hk]at hI;have hk':¬(j4 t i).Kind=0:=by rw[tk];exact hk
 simp only[decide_eq_false hk',go_sem];have ets:j4 t i=jO t i:=by unfold j4;rw[if_neg hk]
 rw[ets];refine ze (v:=(jO t i).enc) rfl rfl ?_;simp only[go_sem];refine Uc (el:=acc.map qL.enc) rfl rfl (by simp) (by omega) ?_;simp only[go_sem];have elen:(jO t i).Text.length=(zF t i).2-i:=by simp only[jO,lLt,List.length_drop];omega
 simp only[elen,qu (n:=(i:Int)+(((zF t i).2-i:Nat):Int)) (by omega) (by omega)];have ee:(i:Int)+(((zF t i).2-i:Nat):Int)=(((zF t i).2:Nat):Int):=by omega
 rw[ee];refine qx ((zF t i).2,acc++[jO t i]) ⟨by simp only;omega,by simp only[lAp,lCo,lNi];omega,hI⟩ (by simp only;omega) ?_;simp only[lAp,lCo,lNi,nZa];refine Can.renum [some 2] rfl ⟨.row rfl ?_,trivial⟩ ⟨⟨_,rfl,.tree rfl⟩,⟨_,rfl,.slice rfl⟩,⟨_,rfl,.tree rfl⟩,trivial⟩ trivial;rw[lMa];have tt:=jU qL.isSh.tree (acc++[jO t i]);rw[lMa]at tt;exact VR2s.trees tt
theorem c735{t:Str}:Pure Gm 735 [.str t] (.tup [.lst 3 ((qZ t).1.map qL.enc) false,.int .i64 (qZ t).2.1,.int .i64 (qZ t).2.2]):=by
 refine Pure.intro [] [] g735 (by kernel_rfl) rfl (by simp[AV.trees,AV.tree,go_sem]) (by simp[AV.tree,AV.trees,jU qL.isSh.tree]) ?_;simp only[Yf,qI,go_sem];by_cases hl:20000<t.length
 ·have e:decide ((20000:Int)<t.length)=true:=decide_eq_true (by omega);simp only[e,go_sem];have er:qZ t=([],0,2):=by rw[qZ,if_pos hl]
  rw[er];exact wm (Cvs.tup (Cvs.cons .nils (Cvs.cons (.refl rfl) (Cvs.cons (.refl rfl) Cvs.nil))))
 have e:decide ((20000:Int)<t.length)=false:=decide_eq_false (by omega);simp only[e,go_sem];refine qH (qS0 (by omega)) ?_;simp only[go_sem];have er:qZ t=match JQ t with
  |.error i=>([],i,6)
  |.ok l=>(l,0,0):=by unfold qZ;rw[if_neg hl]<;>(cases JQ t<;>rfl)
 have eq:Wo t=match JQ t with
  |.error i=>([],i,false)
  |.ok l=>(l,0,true):=rfl
 cases ho:JQ t with
 | error i=>
  rw[ho]at er eq;simp only[eq,Bool.not_false,go_sem];rw[er];exact wm (Cvs.tup (Cvs.cons .nils (Cvs.cons (.refl rfl) (Cvs.cons (.refl rfl) Cvs.nil))))
 | ok l=>
  rw[ho]at er eq;simp only[eq,Bool.not_true,go_sem];rw[er];exact zO (by simp[AV.tree,AV.trees,jU qL.isSh.tree]) rfl
end Go.Ab
namespace Go.Ab
open Go
set_option maxRecDepth 10000
set_option maxHeartbeats 2000000
def prS(toks:List qL)(a:Nat)(bad:Bool):qD:=.row 3 [.agg [.lst 3 (toks.map qL.enc) false,.int .i64 (a:Nat),.bool bad]] true
def isS(toks:List qL)(a:Nat)(bad:Bool)(s:Str):Bool:= !bad&&(match toks[a]? with
 | some t=>decide (t.Text=s)
 | none=>false)
def kdS(toks:List qL)(a:Nat)(bad:Bool)(k:Int):Bool:= !bad&&(match toks[a]? with
 | some t=>decide (t.Kind=k)
 | none=>false)
def JT(x:qL):Prop:=x.Kind≠5->x.Kind≠3->x.Text.all zB=true/\zf x.Text=false
theorem JZ{toks:List qL}{a:Nat}{s:Str}(hw:∀x∈toks,JT x)(hs:s.all zB=false\/zf s=true):isS toks a false s=isP toks a s:=by
 unfold isS isP;cases h:toks[a]? with
 | none=>rfl
 | some t=>
  simp only[Bool.not_false,Bool.true_and];by_cases h1:t.Text=s
  ·rw[decide_eq_true h1,Bool.true_and];by_cases h5:t.Kind=5
   ·simp[h5]
   ·by_cases h3:t.Kind=3
    ·simp[h3]
    ·exfalso;obtain⟨q1,q2⟩:=hw t (lMo h) h5 h3;rw[h1]at q1 q2;rcases hs with hs | hs
     ·rw[q1]at hs;cases hs
     ·rw[q2]at hs;cases hs
  ·rw[decide_eq_false h1,Bool.false_and]
theorem qXE{toks:List qL}{a:Nat}{b:Bool}{s:Str}(q:isS toks a b s=true):a<toks.length/\b=false:=by
 unfold isS at q;rw[bAt]at q;refine⟨?_,by simpa using q.1⟩;rcases Nat.lt_or_ge a toks.length with h1 | h1
 ·exact h1
 ·rw[gEn h1]at q;cases q.2
theorem QA{toks:List qL}{a:Nat}{b:Bool}{k:Int}(q:kdS toks a b k=true):∃h:a<toks.length,b=false/\toks[a].Kind=k:=by
 unfold kdS at q;rw[bAt]at q;rcases Nat.lt_or_ge a toks.length with h1 | h1
 ·rw[gEg h1]at q;exact⟨h1,by simpa using q.1,by simpa using q.2⟩
 ·rw[gEn h1]at q;cases q.2
section
variable {h:List qD} {id a:Nat} {toks:List qL} {bad:Bool}
theorem WQ{s:Str}(ho:h[id]?=some (prS toks a bad)):SCall Gm 1108 [.ptr id 0 0,.str s] h fun v h'=>v=.bool (isS toks a bad s)/\h'=h:=by
 refine SCall.run [] [] qVE (by kernel_rfl) rfl ?_;unfold prS at ho;simp only[XG,qI,go_sem,ho,oMs,lMp];cases bad
 ·simp only[Bool.not_false,go_sem,ho];by_cases hlt:a<toks.length
  ·have e1:decide ((a:Int)<toks.length)=true:=decide_eq_true (by omega);simp only[e1,go_sem,ho,gMp,gEg hlt,oMs];exact⟨by simp[isS,gEg hlt],trivial⟩
  ·have e1:decide ((a:Int)<toks.length)=false:=decide_eq_false (by omega);simp only[e1,go_sem];exact⟨by simp[isS,gEn (show toks.length<=a by omega)],trivial⟩
 ·simp only[Bool.not_true,go_sem];exact⟨by simp[isS],trivial⟩
theorem Qi{k:Int}(ho:h[id]?=some (prS toks a bad)):SCall Gm 1185 [.ptr id 0 0,.int .i64 k] h fun v h'=>v=.bool (kdS toks a bad k)/\h'=h:=by
 refine SCall.run [] [] qVH (by kernel_rfl) rfl ?_;unfold prS at ho;simp only[XJ,qI,go_sem,ho,oMs,lMp];cases bad
 ·simp only[Bool.not_false,go_sem,ho];by_cases hlt:a<toks.length
  ·have e1:decide ((a:Int)<toks.length)=true:=decide_eq_true (by omega);simp only[e1,go_sem,ho,gMp,gEg hlt,oMs];exact⟨by simp[kdS,gEg hlt],trivial⟩
  ·have e1:decide ((a:Int)<toks.length)=false:=decide_eq_false (by omega);simp only[e1,go_sem];exact⟨by simp[kdS,gEn (show toks.length<=a by omega)],trivial⟩
 ·simp only[Bool.not_true,go_sem];exact⟨by simp[kdS],trivial⟩
theorem QG{s:Str}(ho:h[id]?=some (prS toks a bad))(hl:toks.length<=1048576):SCall Gm 737 [.ptr id 0 0,.str s] h fun v h'=>v=.bool (isS toks a bad s)/\h'=if isS toks a bad s then h.set id (prS toks (a+1) bad)else h:=by
 refine SCall.run [] [] g737 (by kernel_rfl) rfl ?_;simp only[Yg,qI,go_sem];refine qa rfl (WQ ho) ?_;simp only[go_sem];cases hi:isS toks a bad s
 ·simp only[Bool.not_false,go_sem];exact⟨trivial,by simp⟩
 ·obtain⟨hlt,rfl⟩:=qXE hi;have ho':=ho;unfold prS at ho';simp only[Bool.not_true,go_sem,ho',oMs];simp only[zM (show a<4611686018427387904 by omega)];refine jA rfl ho' rfl rfl ?_;simp only[go_sem];exact⟨trivial,rfl⟩
theorem n872{s:Str}(ho:h[id]?=some (prS toks a bad))(hl:toks.length<=1048576):SCall Gm 872 [.ptr id 0 0,.str s] h fun _ h'=>h'=if isS toks a bad s then h.set id (prS toks (a+1) bad)else h.set id (prS toks a true):=by
 refine SCall.run [] [] g872 (by kernel_rfl) rfl ?_;simp only[Ym,qI,go_sem];refine qa rfl (QG ho hl) ?_;simp only[go_sem];cases hi:isS toks a bad s
 ·simp only[Bool.not_false,bFt,if_false,go_sem];have ho':=ho;unfold prS at ho';refine jA rfl ho' rfl rfl ?_;simp only[go_sem];rfl
 ·simp only[Bool.not_true,if_true,go_sem]
theorem Kj{k:Int}(ho:h[id]?=some (prS toks a bad))(hl:toks.length<=1048576):SCall Gm 871 [.ptr id 0 0,.int .i64 k] h fun v h'=>if kdS toks a bad k then v=.str ((toks[a]?).getD ⟨0,[],0⟩).Text/\h'=h.set id (prS toks (a+1) bad)else v=.str []/\h'=h.set id (prS toks a true):=by
 refine SCall.run [] [] g871 (by kernel_rfl) rfl ?_;simp only[Yl,qI,go_sem];refine qa rfl (Qi ho) ?_;simp only[go_sem];have ho':=ho;unfold prS at ho';have hid:id<h.length:=(gSi.1 ho).1;cases hi:kdS toks a bad k
 ·simp only[Bool.not_false,bFt,if_false,go_sem];refine jA rfl ho' rfl rfl ?_;simp only[go_sem];exact⟨trivial,rfl⟩
 ·obtain⟨hlt,rfl,hk⟩:=QA hi;simp only[Bool.not_true,if_true,go_sem,ho',oMs];simp only[zM (show a<4611686018427387904 by omega)];refine jA (e':=.agg [.lst 3 (toks.map qL.enc) false,.int .i64 ((a+1:Nat):Int),.bool false]) rfl ho' rfl rfl ?_;rw[lSz];generalize hg:h.set id _=G;have hG:G[id]?=some (.row 3 [.agg [.lst 3 (toks.map qL.enc) false,.int .i64 ((a+1:Nat):Int),.bool false]] true):=by rw[<-hg];exact gSs hid
  have e1:((a+1:Nat):Int)-1=((a:Nat):Int):=by omega
  simp only[go_sem,hG,qu (n:=((a+1:Nat):Int)-1) (by omega) (by omega)];simp only[e1,gMp,gEg hlt,oMs,go_sem];exact⟨by simp,by rw[<-hg];rfl⟩
end
section
variable {h:List qD} {a0 a1 a2 b0 b1 b2:AV} {s:Str}
theorem n328:SCall Gm 328 [] h fun v h'=>v=.agg [.int .i64 1,.str [],.nils]/\h'=h:=by
 refine SCall.run [] [] g328 (by kernel_rfl) rfl ?_;simp only[YB,qI,go_sem];refine qM rfl rfl ⟨_,rfl⟩ (by decide) ?_;simp only[go_sem];exact⟨trivial,trivial⟩
theorem Ki:SCall Gm 329 [.str s] h fun v h'=>v=.agg [.int .i64 2,.str s,.nils]/\h'=h:=by
 refine SCall.run [] [] g329 (by kernel_rfl) rfl ?_;simp only[YC,qI,go_sem];refine qM rfl rfl ⟨_,rfl⟩ (by decide) ?_;simp only[go_sem];exact⟨trivial,trivial⟩
theorem n326:SCall Gm 326 [.agg [a0,a1,a2]] h fun v h'=>v=.agg [.int .i64 4,.str [],.slice 3 h.length 0 1 false]/\h'=h++[.row 3 [.agg [a0,a1,a2]] true]:=by
 refine SCall.run [] [] g326 (by kernel_rfl) rfl ?_;simp only[X9,qI,go_sem];refine zZ rfl ?_;simp only[go_sem];refine ze (v:=.agg [a0,a1,a2]) rfl rfl ?_;simp only[go_sem];refine qM rfl rfl ⟨_,rfl⟩ (by decide) ?_;simp only[go_sem];exact⟨trivial,trivial⟩
theorem n327:SCall Gm 327 [.agg [a0,a1,a2],.agg [b0,b1,b2]] h fun v h'=>v=.agg [.int .i64 3,.str [],.slice 3 h.length 0 2 false]/\h'=h++[.row 3 [.agg [a0,a1,a2],.agg [b0,b1,b2]] true]:=by
 refine SCall.run [] [] g327 (by kernel_rfl) rfl ?_;simp only[YA,qI,go_sem];refine zZ rfl ?_;simp only[go_sem];refine zZ rfl ?_;simp only[go_sem];rw[show zE _ 3 _ _=some [.agg [a0,a1,a2],.agg [b0,b1,b2]]from rfl];simp only[go_sem];refine qM rfl rfl ⟨_,rfl⟩ (by decide) ?_;simp only[go_sem];exact⟨trivial,trivial⟩
end
def Zs(r:Except Nat (qB×Nat))(t:qB)(b:Nat)(bad:Bool):Prop:=match r with
 |.ok (t',b')=>t=t'/\b=b'/\bad=false
 |.error b'=>b=b'/\bad=true
theorem WH{toks:List qL}{a:Nat}{s:Str}:isS toks a true s=false:=rfl
theorem qXI{toks:List qL}{a:Nat}{k:Int}:kdS toks a true k=false:=rfl
section
variable {id:Nat} {toks:List qL}
theorem qb1(hl:toks.length<=1048576)(hw:∀x∈toks,JT x):∀(f:Nat)(flag:Bool)(a:Nat)(h:List qD),jc toks flag a<=f->a<=toks.length->h[id]?=some (prS toks a false)->
  SCall Gm (if flag then 736 else 359) [.ptr id 0 0] h (fun v h'=>∃t b bad S,Zs (pT toks f flag a) t b bad/\PS h id (prS toks b bad) h'/\qj S h' v t.enc/\Bh h.length S h'):=by
 intro f
 induction f with
 | zero=>intro flag a h hf;exfalso;unfold jc at hf;cases flag<;>simp at hf
 | succ f ih=>
 intro flag a h hf ha ho;have hid:id<h.length:=(gSi.1 ho).1;cases flag with
 | true=>
  refine SCall.run [] [] g736 (by kernel_rfl) rfl ?_;simp only[Zp,qI,go_sem];refine qa rfl (QG ho hl) ?_;rw[JZ hw (.inl rfl)];simp only[go_sem];cases hb:isP toks a [33]
  case true=>
   have hlt:=qk hb;simp only[if_true,go_sem];refine qT ((ih true (a+1) (h.set id (prS toks (a+1) false)) (by unfold jc at hf|-;simp at hf|-;omega) (by omega) (by rw[gSs hid])).mono ?_);rintro v h1 ⟨t,b,bad,S,q1,q2,q3,q4⟩;obtain⟨x0,x1,x2,rfl⟩:=QL q3;simp only[go_sem];refine qa rfl n326 ?_;simp only[go_sem];refine qM rfl rfl ⟨_,rfl⟩ (by decide) ?_;simp only[go_sem];rw[lLs]at q4;obtain⟨r1,r2⟩:=qQJ q3 q4 (by have:=q2.len;rw[lLs]at this;exact this);refine⟨QR t,b,bad,_, ?_,((PS.set ho).trans q2).push,WY r1,r2⟩;simp only[pT,hb,if_true];generalize pT toks f true (a+1)=r at q1
   match r,q1 with
   |.ok (t',b'),⟨e1,e2,e3⟩=>exact⟨by rw[e1],e2,e3⟩
   |.error b',⟨e1,e2⟩=>exact⟨e1,e2⟩
  simp only[bFt,if_false,go_sem];refine qa rfl (QG ho hl) ?_;rw[JZ hw (.inl rfl)];simp only[go_sem];cases hc:isP toks a [40]
  case true=>
   have hlt:=qk hc;simp only[if_true,go_sem];refine qT ((ih false (a+1) (h.set id (prS toks (a+1) false)) (by unfold jc at hf|-;simp at hf|-;omega) (by omega) (by rw[gSs hid])).mono ?_);rintro v h1 ⟨t,b,bad,S,q1,q2,q3,q4⟩;obtain⟨x0,x1,x2,rfl⟩:=QL q3;simp only[go_sem];refine qM rfl rfl ⟨_,rfl⟩ (by decide) ?_;simp only[go_sem];refine qT ((n872 q2.at' hl).mono ?_);rintro v2 h2 rfl;simp only[go_sem];refine qM rfl rfl ⟨_,rfl⟩ (by decide) ?_;simp only[go_sem];rw[lLs]at q4;have hr:pT toks (f+1) true a=(match pT toks f false (a+1)with
    |.ok (t,b)=>if isP toks b [41]then .ok (t,b+1)else .error b
    |.error b=>.error b):=by simp only[pT,hb,hc,bFt,if_false,if_true]<;>(cases pT toks f false (a+1)<;>rfl)
   rw[hr];generalize pT toks f false (a+1)=r at q1
   match r,q1 with
   |.ok (t',b'),⟨e1,e2,e3⟩=>
    subst e1 e2 e3;rw[JZ hw (.inl rfl)];cases e1:isP toks b [41]
    ·simp only[bFt,if_false];obtain⟨r1,r2⟩:=q3.ps q4 hid (PS.set q2.at' (o:=prS toks b true));exact⟨t,b,true,S,by simp[Zs,e1],((PS.set ho).trans q2).trans (PS.set q2.at'),r1,r2⟩
    ·simp only[if_true];obtain⟨r1,r2⟩:=q3.ps q4 hid (PS.set q2.at' (o:=prS toks (b+1) false));exact⟨t,b+1,false,S,by simp[Zs,e1],((PS.set ho).trans q2).trans (PS.set q2.at'),r1,r2⟩
   |.error b',⟨e1,e2⟩=>
    subst e1 e2;rw[WH];simp only[bFt,if_false];obtain⟨r1,r2⟩:=q3.ps q4 hid (PS.set q2.at' (o:=prS toks b true));exact⟨t,b,true,S,⟨rfl,rfl⟩,((PS.set ho).trans q2).trans (PS.set q2.at'),r1,r2⟩
  simp only[bFt,if_false,go_sem];refine qT ((Kj ho hl).mono ?_);rintro v h1 hv;cases hk:kdS toks a false 2
  ·rw[hk]at hv;obtain⟨rfl,rfl⟩:=hv;have en:decide (([]:Str)=[73,110,116])=false:=rfl;simp only[go_sem,en];refine qa rfl Ki ?_;simp only[go_sem];refine qM rfl rfl ⟨_,rfl⟩ (by decide) ?_;simp only[go_sem];refine⟨JW [],a,true,[none], ?_,PS.set ho,Za,fun j hj=>by simp at hj⟩;simp only[pT,hb,hc,bFt,if_false];unfold kdS at hk;cases ht:toks[a]? with
   | none=>exact⟨rfl,rfl⟩
   | some t=>
    rw[ht]at hk;simp only[Bool.not_false,Bool.true_and,decide_eq_false_iff_not]at hk;simp only[if_neg hk];exact⟨rfl,rfl⟩
  ·rw[hk]at hv;obtain⟨rfl,rfl⟩:=hv;obtain⟨hlt,_,hk2⟩:=QA hk;simp only[gEg hlt,Option.getD_some,go_sem];by_cases hn:toks[a].Text=[73,110,116]
   ·simp only[decide_eq_true hn,go_sem];refine qa rfl n328 ?_;simp only[go_sem];refine qM rfl rfl ⟨_,rfl⟩ (by decide) ?_;simp only[go_sem];exact⟨QX,a+1,false,[none],by simp[Zs,pT,hb,hc,gEg hlt,hk2,hn],PS.set ho,Za,fun j hj=>by simp at hj⟩
   ·simp only[decide_eq_false hn,go_sem];refine qa rfl Ki ?_;simp only[go_sem];refine qM rfl rfl ⟨_,rfl⟩ (by decide) ?_;simp only[go_sem];exact⟨JW toks[a].Text,a+1,false,[none],by simp[Zs,pT,hb,hc,gEg hlt,hk2,hn],PS.set ho,Za,fun j hj=>by simp at hj⟩
 | false=>
  refine SCall.run [] [] g359 (by kernel_rfl) rfl ?_;simp only[Zo,qI,go_sem];refine qT ((ih true a h (by unfold jc at hf|-;simp at hf|-;omega) ha ho).mono ?_);rintro v h1 ⟨t,b,bad,S,q1,q2,q3,q4⟩;obtain⟨x0,x1,x2,rfl⟩:=QL q3;simp only[go_sem];refine qM rfl rfl ⟨_,rfl⟩ (by decide) ?_;simp only[go_sem];refine qa rfl (QG q2.at' hl) ?_;have hr:pT toks (f+1) false a=(match pT toks f true a with
   |.ok (t,b)=>if isP toks b [45,62]then(match pT toks f false (b+1)with
     |.ok (u,c)=>.ok (J7 t u,c)
     |.error c=>.error c)
    else .ok (t,b)
   |.error b=>.error b):=by
    simp only[pT]<;>(cases pT toks f true a<;>first | rfl | (rename_i p;cases pT toks f false (p.2+1)<;>rfl))
  rw[hr];have hpr:=fun t b=>wP (toks:=toks) f true a (t:=t) (b:=b);generalize pT toks f true a=r at q1 hpr
  match r,q1,hpr with
  |.error b',⟨e1,e2⟩,_=>
   subst e1 e2;rw[WH];simp only[bFt,if_false,go_sem];refine qM rfl rfl ⟨_,rfl⟩ (by decide) ?_;simp only[go_sem];exact⟨t,b,true,S,⟨rfl,rfl⟩,q2,q3,q4⟩
  |.ok (t',b'),⟨e1,e2,e3⟩,hpr=>
   subst e1 e2 e3;obtain⟨b1,b2⟩:=hpr _ _ rfl;rw[JZ hw (.inl rfl)];simp only[go_sem];cases hb:isP toks b [45,62]
   ·simp only[bFt,if_false,go_sem];refine qM rfl rfl ⟨_,rfl⟩ (by decide) ?_;simp only[go_sem];exact⟨t,b,false,S,⟨rfl,rfl,rfl⟩,q2,q3,q4⟩
   ·have hlt:=qk hb;simp only[if_true,go_sem];have hid1:id<h1.length:=Nat.lt_of_lt_of_le hid q2.len;have q2':=q2.trans (PS.set q2.at' (o:=prS toks (b+1) false));obtain⟨q3',q4'⟩:=q3.ps q4 hid (PS.set q2.at' (o:=prS toks (b+1) false));refine qT ((ih false (b+1) (h1.set id (prS toks (b+1) false)) (by unfold jc at hf|-;simp at hf|-;omega) (by omega) (by rw[gSs hid1])).mono ?_);rintro v2 h2 ⟨u,c,bad2,S2,p1,p2,p3,p4⟩;obtain⟨y0,y1,y2,rfl⟩:=QL p3;simp only[go_sem];refine qa rfl n327 ?_;simp only[go_sem];refine qM rfl rfl ⟨_,rfl⟩ (by decide) ?_;simp only[go_sem];obtain⟨z3,z4⟩:=q3'.ps q4' hid p2;obtain⟨r1,r2⟩:=qQK z3 p3 z4 p4 (by have:=q2.len;have:=p2.len;rw[lLs]at this;omega) (by have:=q2.len;rw[lLs];omega) (fun j hj=>(q4' j hj).2);refine⟨J7 t u,c,bad2,_, ?_,(q2'.trans p2).push,WY r1,r2⟩;generalize pT toks f false (b+1)=r at p1
    match r,p1 with
    |.ok (u',c'),⟨e1,e2,e3⟩=>exact⟨by rw[e1],e2,e3⟩
    |.error c',⟨e1,e2⟩=>exact⟨e1,e2⟩
end
end Go.Ab
