/- Texts Par0 .. Par15: the abstract machine, its laws and contracts of functions: lemmas for the statement. No condition. -/
import Derived.Lib.Bytealg
import Derived.Lib.ItoaNum
import Derived.Lib.Join
import Derived.Lib.ParseIntB
import Derived.Test.YtkgbnffcaabafaaGreatDoorP5
set_option linter.unusedSimpArgs false
set_option linter.unusedVariables false
namespace Go.Ab
open Go
inductive qB where
 | mk (Kind:Int) (Name:List UInt8) (Kids:List qB)
def qB.Kind:qB->Int |.mk a _ _=>a
def qB.Name:qB->List UInt8 |.mk _ a _=>a
def qB.Kids:qB->List qB |.mk _ _ a=>a
theorem qB.ext{x y:qB}(h1:x.Kind=y.Kind)(h2:x.Name=y.Name)(h4:x.Kids=y.Kids):x=y:=by
 cases x;cases y;simp_all[qB.Kind,qB.Name,qB.Kids]
theorem qB.eta(x:qB):qB.mk x.Kind x.Name x.Kids=x:=by cases x;rfl
theorem qB.lt_of_mem{x:qB}{y:qB}(h:y∈x.Kids):SizeOf.sizeOf y<SizeOf.sizeOf x:=by
 cases x with
 | mk a b c=>
  have:=List.sizeOf_lt_of_mem (show y∈c from h);simp only[qB.mk.sizeOf_spec];omega
theorem qB.ind{P:qB->Prop}(h:∀x,(∀y,y∈x.Kids->P y)->P x)(x:qB):P x:=
 h x fun y hy=>qB.ind h y
termination_by SizeOf.sizeOf x
decreasing_by exact qB.lt_of_mem hy
mutual
def qB.enc:qB->AV
 |.mk k v ks=>.agg [.int .i64 k,.str v,.lst 3 (qB.encs ks) false]
def qB.encs:List qB->List AV
 |[]=>[]
 | x::xs=>x.enc::qB.encs xs
end
theorem qB.encs_eq:∀xs,qB.encs xs=xs.map qB.enc
 |[]=>by simp[qB.encs]
 | x::xs=>by simp[qB.encs,qB.encs_eq xs]
theorem qB.enc_eq(x:qB):x.enc=.agg [.int .i64 x.Kind,.str x.Name,.lst 3 (x.Kids.map qB.enc) false]:=by
 cases x;simp[qB.enc,qB.encs_eq,qB.Kind,qB.Name,qB.Kids]
theorem qB.trx:∀x:qB,x.enc.tree=true:=qB.ind fun x ih=>by
 rw[qB.enc_eq];have h:∀xs:List qB,(∀y∈xs,y.enc.tree=true)->AV.trees (xs.map qB.enc)=true:=by
  intro xs
  induction xs with
  | nil=>intro _;rfl
  | cons a xs ihx=>intro h;simp only[lMc,AV.trees,bAt];exact⟨h a (by simp),ihx fun y hy=>h y (by simp[hy])⟩
 simp[AV.tree,AV.trees,h _ ih]
theorem qB.isSh:Sh qB.enc 3 (some 3):=⟨qB.trx,fun x=>by rw[qB.enc_eq];rfl,fun x=>by rw[qB.enc_eq];rfl,by decide,fun x=>by rw[qB.enc_eq];simp⟩
section
variable {x:qB}
@[go_sem] theorem qB.tr:x.enc.tree=true:=qB.trx x
@[go_sem] theorem qB.ln:x.enc.cells.length=3:=by rw[qB.enc_eq];rfl
@[go_sem] theorem qB.all:x.enc.part 0 (some 3)=some x.enc:=by rw[qB.enc_eq];rfl
@[go_sem] theorem qB.p0:x.enc.part 0 none=some (.int .i64 x.Kind):=by rw[qB.enc_eq];rfl
@[go_sem] theorem qB.p1:x.enc.part 1 none=some (.str x.Name):=by rw[qB.enc_eq];rfl
@[go_sem] theorem qB.p2:x.enc.part 2 none=some (.lst 3 (x.Kids.map qB.enc) false):=by rw[qB.enc_eq];rfl
end
mutual
def qB.sz:qB->Nat
 |.mk _ d ks=>d.length+(ks.length+qB.szs ks)
def qB.szs:List qB->Nat
 |[]=>0
 | x::xs=>x.sz+qB.szs xs
end
mutual
def qB.bd:qB->Prop
 |.mk _ d ks=>d.length<=140737488355328/\ks.length<=140737488355328/\qB.bds ks
def qB.bds:List qB->Prop
 |[]=>True
 | x::xs=>x.bd/\qB.bds xs
end
theorem qB.bds_eq:∀xs,qB.bds xs↔∀y∈xs,qB.bd y
 |[]=>by simp[qB.bds]
 | x::xs=>by simp[qB.bds,qB.bds_eq xs]
theorem qB.bd_eq(x:qB):x.bd↔x.Name.length<=140737488355328/\x.Kids.length<=140737488355328/\∀y∈x.Kids,y.bd:=by
 cases x;simp[qB.bd,qB.bds_eq,qB.Name,qB.Kids]
abbrev TNE:Nat:=1000000
def Ka:List AV->AV->Prop:=fun as v=>∃(s:List UInt8)(c:Int),as=[.str s,.int .u8 c]/\v=.int .i64 (Lib.indexByte s c.toNat.toUInt8)
def Kb:List AV->AV->Prop:=fun as v=>∃n:Int,as=[.int .i64 n,.int .i64 10]/\-9223372036854775808<=n/\n<=9223372036854775807/\v=.str (Lib.itoa n)
def ZH(s:List UInt8):AV:=match Lib.parseIntB 64 s with
 |.ok n=>.tup [.int .i64 n,.nili]
 |.range=>.tup [.int .i64 (Lib.intSat 64 s),.iface TNE .any]
 | _=>.tup [.int .i64 0,.iface TNE .any]
def KZ:List AV->AV->Prop:=fun as v=>∃s:List UInt8,as=[.str s,.int .i64 10,.int .i64 64]/\s.length<=140737488355328/\v=ZH s
set_option maxRecDepth 10000
def sr(l:List qA)(c:qG):qG:=.seq (.reg true l) c
@[go_sem] theorem qnK{l:List qA}{c:qG}:sr l c=.seq (.reg true l) c:=nr rfl
def oZ8(i d:Nat):qA:=.mk i (some d) none (.lalloc (.agg [.int .i64 0,.int .i64 0,.str [],.int .i64 0,.str [],.nils,.nils,.nils])) []
@[go_sem] theorem qmD{i d:Nat}:oZ8 i d=.mk i (some d) none (.lalloc (.agg [.int .i64 0,.int .i64 0,.str [],.int .i64 0,.str [],.nils,.nils,.nils])) []:=nr rfl
def oZ3(i d:Nat):qA:=.mk i (some d) none (.lalloc (.agg [.int .i64 0,.str [],.nils])) []
@[go_sem] theorem qmC{i d:Nat}:oZ3 i d=.mk i (some d) none (.lalloc (.agg [.int .i64 0,.str [],.nils])) []:=nr rfl
def oZ2(i d:Nat):qA:=.mk i (some d) none (.lalloc (.agg [.nils,.nils])) []
@[go_sem] theorem qmB{i d:Nat}:oZ2 i d=.mk i (some d) none (.lalloc (.agg [.nils,.nils])) []:=nr rfl
def oN8(i d a:Nat):qA:=.mk i (some d) none (.bslice 8 (.agg [.int .i64 0,.int .i64 0,.str [],.int .i64 0,.str [],.nils,.nils,.nils]) 1 [(0,.t a)]) []
@[go_sem] theorem qlV{i d a:Nat}:oN8 i d a=.mk i (some d) none (.bslice 8 (.agg [.int .i64 0,.int .i64 0,.str [],.int .i64 0,.str [],.nils,.nils,.nils]) 1 [(0,.t a)]) []:=nr rfl
def oN3(i d a:Nat):qA:=.mk i (some d) none (.bslice 3 (.agg [.int .i64 0,.str [],.nils]) 1 [(0,.t a)]) []
@[go_sem] theorem qlU{i d a:Nat}:oN3 i d a=.mk i (some d) none (.bslice 3 (.agg [.int .i64 0,.str [],.nils]) 1 [(0,.t a)]) []:=nr rfl
def oN1(i d a:Nat):qA:=.mk i (some d) none (.bslice 1 (.str []) 1 [(0,.t a)]) []
@[go_sem] theorem qlT{i d a:Nat}:oN1 i d a=.mk i (some d) none (.bslice 1 (.str []) 1 [(0,.t a)]) []:=nr rfl
def oq(i d a b:Nat):qA:=.mk i (some d) none (.sop .add (.t a) (.t b)) []
@[go_sem] theorem qmG{i d a b:Nat}:oq i d a b=.mk i (some d) none (.sop .add (.t a) (.t b)) []:=nr rfl
def oR(i d a:Nat)(s:List UInt8):qA:=.mk i (some d) none (.sop .add (.t a) (.c (.str s))) []
@[go_sem] theorem ql3{i d a:Nat}{s:List UInt8}:oR i d a s=.mk i (some d) none (.sop .add (.t a) (.c (.str s))) []:=nr rfl
def oR'(i d:Nat)(s:List UInt8)(a:Nat):qA:=.mk i (some d) none (.sop .add (.c (.str s)) (.t a)) []
@[go_sem] theorem ql2{i d:Nat}{s:List UInt8}{a:Nat}:oR' i d s a=.mk i (some d) none (.sop .add (.c (.str s)) (.t a)) []:=nr rfl
def oO(i d w a b:Nat):qA:=.mk i (some d) none (.app w (.t a) (.t b)) []
@[go_sem] theorem qlX{i d w a b:Nat}:oO i d w a b=.mk i (some d) none (.app w (.t a) (.t b)) []:=nr rfl
def oI(i d w a:Nat):qA:=.mk i (some d) none (.lbox w (.t a)) []
@[go_sem] theorem qlN{i d w a:Nat}:oI i d w a=.mk i (some d) none (.lbox w (.t a)) []:=nr rfl
def oLs(i d w a:Nat):qA:=.mk i (some d) none (.load (some w) (.t a)) []
@[go_sem] theorem qlR{i d w a:Nat}:oLs i d w a=.mk i (some d) none (.load (some w) (.t a)) []:=nr rfl
def oGn(i d k:Nat)(b:Bool)(t:Nat):qA:=.mk i (some d) (some (k,b)) (.nop t) []
@[go_sem] theorem qlL{i d k:Nat}{b:Bool}{t:Nat}:oGn i d k b t=.mk i (some d) (some (k,b)) (.nop t) []:=nr rfl
def oGl(i d k:Nat)(b:Bool)(t j:Nat):qA:=.mk i (some d) (some (k,b)) (.lload t j none) []
@[go_sem] theorem qlK{i d k:Nat}{b:Bool}{t j:Nat}:oGl i d k b t j=.mk i (some d) (some (k,b)) (.lload t j none) []:=nr rfl
def oGe(i d k:Nat)(b:Bool)(op:BinOp)(a:Nat)(n:Int):qA:=.mk i (some d) (some (k,b)) (.bin op (.t a) (.c (.int .i64 n))) []
@[go_sem] theorem qlJ{i d k:Nat}{b:Bool}{op:BinOp}{a:Nat}{n:Int}:oGe i d k b op a n=.mk i (some d) (some (k,b)) (.bin op (.t a) (.c (.int .i64 n))) []:=nr rfl
def oGd(i d k:Nat)(b:Bool)(a:Nat):qA:=.mk i (some d) (some (k,b)) (.load none (.t a)) []
@[go_sem] theorem qlI{i d k:Nat}{b:Bool}{a:Nat}:oGd i d k b a=.mk i (some d) (some (k,b)) (.load none (.t a)) []:=nr rfl
def oB8(i d:Nat)(ps:List (Nat×Nat×Ao)):qA:=.mk i (some d) none (.build (.agg [.int .i64 0,.int .i64 0,.str [],.int .i64 0,.str [],.nils,.nils,.nils]) ps) []
@[go_sem] theorem qlA{i d:Nat}{ps:List (Nat×Nat×Ao)}:oB8 i d ps=.mk i (some d) none (.build (.agg [.int .i64 0,.int .i64 0,.str [],.int .i64 0,.str [],.nils,.nils,.nils]) ps) []:=nr rfl
def oL(i d t:Nat):qA:=.mk i (some d) none (.load none (.t t)) []
@[go_sem] theorem qlQ{i d t:Nat}:oL i d t=.mk i (some d) none (.load none (.t t)) []:=nr rfl
def oC(i d:Nat)(n:Int):qA:=.mk i (some d) none (.mov (.c (.int .i64 n))) []
@[go_sem] theorem qlC{i d:Nat}{n:Int}:oC i d n=.mk i (some d) none (.mov (.c (.int .i64 n))) []:=nr rfl
def oQ(i d:Nat)(b:Bool):qA:=.mk i (some d) none (.mov (.c (.bool b))) []
@[go_sem] theorem ql1{i d:Nat}{b:Bool}:oQ i d b=.mk i (some d) none (.mov (.c (.bool b))) []:=nr rfl
def oE(i d:Nat)(op:BinOp)(a:Nat)(n:Int):qA:=.mk i (some d) none (.bin op (.t a) (.c (.int .i64 n))) []
@[go_sem] theorem qlF{i d:Nat}{op:BinOp}{a:Nat}{n:Int}:oE i d op a n=.mk i (some d) none (.bin op (.t a) (.c (.int .i64 n))) []:=nr rfl
def oB(i d:Nat)(op:BinOp)(a b:Nat):qA:=.mk i (some d) none (.bin op (.t a) (.t b)) []
@[go_sem] theorem qlB{i d:Nat}{op:BinOp}{a b:Nat}:oB i d op a b=.mk i (some d) none (.bin op (.t a) (.t b)) []:=nr rfl
def oA(i d w a b:Nat):qA:=.mk i (some d) none (.iaddr w (.t a) (.t b)) []
@[go_sem] theorem qk9{i d w a b:Nat}:oA i d w a b=.mk i (some d) none (.iaddr w (.t a) (.t b)) []:=nr rfl
def oX(i d t k:Nat):qA:=.mk i (some d) none (.lload t k none) []
@[go_sem] theorem ql9{i d t k:Nat}:oX i d t k=.mk i (some d) none (.lload t k none) []:=nr rfl
def oY(i d t k w:Nat):qA:=.mk i (some d) none (.lload t k (some w)) []
@[go_sem] theorem qmA{i d t k w:Nat}:oY i d t k w=.mk i (some d) none (.lload t k (some w)) []:=nr rfl
def oS(i t k w x:Nat):qA:=.mk i none none (.lstore t k w (.t x)) []
@[go_sem] theorem ql4{i t k w x:Nat}:oS i t k w x=.mk i none none (.lstore t k w (.t x)) []:=nr rfl
def oT(i w a b:Nat):qA:=.mk i none none (.store w (.t a) (.t b)) []
@[go_sem] theorem ql5{i w a b:Nat}:oT i w a b=.mk i none none (.store w (.t a) (.t b)) []:=nr rfl
def oF(i d k a:Nat):qA:=.mk i (some d) none (.faddr k (.t a)) []
@[go_sem] theorem qlG{i d k a:Nat}:oF i d k a=.mk i (some d) none (.faddr k (.t a)) []:=nr rfl
def oK(i d a:Nat):qA:=.mk i (some d) none (.nilchk (.t a)) []
@[go_sem] theorem qlP{i d a:Nat}:oK i d a=.mk i (some d) none (.nilchk (.t a)) []:=nr rfl
def oV(i d a k:Nat):qA:=.mk i (some d) none (.ext (.t a) k) []
@[go_sem] theorem ql7{i d a k:Nat}:oV i d a k=.mk i (some d) none (.ext (.t a) k) []:=nr rfl
def oU(i d a:Nat):qA:=.mk i (some d) none (.nop a) []
@[go_sem] theorem ql6{i d a:Nat}:oU i d a=.mk i (some d) none (.nop a) []:=nr rfl
def oJ(i d a:Nat):qA:=.mk i (some d) none (.not (.t a)) []
@[go_sem] theorem qlO{i d a:Nat}:oJ i d a=.mk i (some d) none (.not (.t a)) []:=nr rfl
def oW(i d a:Nat):qA:=.mk i (some d) none (.len (.t a)) []
@[go_sem] theorem ql8{i d a:Nat}:oW i d a=.mk i (some d) none (.len (.t a)) []:=nr rfl
def oH(i d k:Nat)(b:Bool)(a:Nat):qA:=.mk i (some d) (some (k,b)) (.mov (.t a)) []
@[go_sem] theorem qlM{i d k:Nat}{b:Bool}{a:Nat}:oH i d k b a=.mk i (some d) (some (k,b)) (.mov (.t a)) []:=nr rfl
def oD1(i d g a:Nat):qA:=.mk i (some d) none (.call g [.t a]) []
@[go_sem] theorem qlD{i d g a:Nat}:oD1 i d g a=.mk i (some d) none (.call g [.t a]) []:=nr rfl
def oD2(i d g a b:Nat):qA:=.mk i (some d) none (.call g [.t a,.t b]) []
@[go_sem] theorem qlE{i d g a b:Nat}:oD2 i d g a b=.mk i (some d) none (.call g [.t a,.t b]) []:=nr rfl
def oPf(i d a b:Nat):qA:=.mk i (some d) none (.pick (.t a) (.t b) (.c (.bool false))) []
@[go_sem] theorem qlZ{i d a b:Nat}:oPf i d a b=.mk i (some d) none (.pick (.t a) (.t b) (.c (.bool false))) []:=nr rfl
def oPt(i d a b:Nat):qA:=.mk i (some d) none (.pick (.t a) (.c (.bool true)) (.t b)) []
@[go_sem] theorem ql0{i d a b:Nat}:oPt i d a b=.mk i (some d) none (.pick (.t a) (.c (.bool true)) (.t b)) []:=nr rfl
def qDT:List qA:=[oM 0 3 0,oP 1 4 (.bin .geq (.t 3) (.c (.int .u8 65))),oM 2 5 4,oH 3 6 5 true 0,oG 4 7 5 true (.bin .leq (.t 6) (.c (.int .u8 90))),oPf 5 8 5 7,oM 6 2 8]
def VI:qI:=⟨1,9,[.t 2],sr [oQ 0 2 false] (sr qDT .ret)⟩
def qFK:List qA:=[oM 0 3 0,oP 1 4 (.bin .geq (.t 3) (.c (.int .u8 97))),oM 2 5 4,oH 3 6 5 true 0,oG 4 7 5 true (.bin .leq (.t 6) (.c (.int .u8 122))),oPf 5 8 5 7,oM 6 2 8]
def Vc:qI:=⟨1,9,[.t 2],sr [oQ 0 2 false] (sr qFK .ret)⟩
def qGJ:List qA:=[oM 0 3 0,oP 1 4 (.bin .geq (.t 3) (.c (.int .u8 48))),oM 2 5 4,oH 3 6 5 true 0,oG 4 7 5 true (.bin .leq (.t 6) (.c (.int .u8 57))),oPf 5 8 5 7,oM 6 2 8]
def Vn:qI:=⟨1,9,[.t 2],sr [oQ 0 2 false] (sr qGJ .ret)⟩
def qC7:List qA:=[oM 0 3 0,oD1 1 4 1206 3,oM 2 5 4,oH 3 6 5 false 0,oG 4 7 5 false (.call 1100 [.t 6]),oPt 5 8 5 7,oM 6 9 8,oH 7 10 9 false 0,oG 8 11 9 false (.call 1330 [.t 10]),oPt 9 12 9 11,oM 10 2 12]
def Y8:qI:=⟨1,13,[.t 2],sr [oQ 0 2 false] (sr qC7 .ret)⟩
def qEK:List qA:=[oM 0 11 1,oM 1 12 0,oM 2 13 5,oA 3 14 1 12 13,oL 4 15 14,oP 5 16 (.sop .eql (.t 11) (.t 15))]
def qEI:qG:=.seq (.blk 1 (sr [oM 0 10 8,oM 1 5 10] (sr qEK (.cond (.t 16) (sr [oM 0 17 5,oM 1 4 17] .ret) .skip)))) (.reg true [oE 0 18 .add 8 1,oM 1 8 18])
def qEJ:qG:=.seq (sr [oM 0 6 0,oW 1 7 6,oC 2 8 0] (.blk 0 (.loop (sr [oB 0 9 .lss 8 7] (.seq (.cond (.t 9) .skip (.exit 0)) qEI))))) (sr [oP 0 4 (.mov (.c (.int .i64 (-1))))] .ret)
def VO:qI:=⟨2,19,[.t 4],sr [oC 0 4 0] qEJ⟩
def U9:qI:=WW 1106
def qC8:List qA:=[oP 0 3 (.bslice 1 (.str []) 8 [(0,.c (.str [100,97,116,97])),(1,.c (.str [100,101,102])),(2,.c (.str [108,101,116])),(3,.c (.str [105,110])),(4,.c (.str [109,97,116,99,104])),(5,.c (.str [105,102])),(6,.c (.str [116,104,101,110])),(7,.c (.str [101,108,115,101]))]),oM 1 4 0,oD2 2 5 732 3 4,oM 3 2 5]
def Y9:qI:=⟨1,6,[.t 2],sr [oQ 0 2 false] (sr qC8 .ret)⟩
def qDR:List qA:=[oM 0 4 0,oP 1 5 (.slen (.t 4)),oE 2 6 .lss 5 1,oM 3 7 6,oH 4 8 7 false 0,oG 5 9 7 false (.slen (.t 8)),oGe 6 10 7 false .gtr 9 12,oPt 7 11 7 10,oM 8 12 11,oH 9 13 12 false 0,oG 10 14 12 false (.sidx (.t 13) (.c (.int .i64 0))),oG 11 15 12 false (.call 1330 [.t 14]),oPt 12 16 12 15,oM 13 17 16,oH 14 18 17 false 0,oG 15 19 17 false (.call 1013 [.t 18]),oPt 16 20 17 19]
def qDS:List qA:=[oM 0 26 0,oM 1 27 3,oP 2 28 (.sidx (.t 26) (.t 27)),oD1 3 29 1012 28,oJ 4 30 29]
def qDP:qG:=.seq (.blk 1 (sr [oM 0 25 23,oM 1 3 25] (sr qDS (.cond (.t 30) (sr [oQ 0 2 false] .ret) .skip)))) (.reg true [oE 0 31 .add 23 1,oM 1 23 31])
def qDQ:qG:=.seq (sr [oM 0 21 0,oP 1 22 (.slen (.t 21)),oC 2 23 0] (.blk 0 (.loop (sr [oB 0 24 .lss 23 22] (.seq (.cond (.t 24) .skip (.exit 0)) qDP))))) (sr [oQ 0 2 true] .ret)
def VH:qI:=⟨1,32,[.t 2],sr [oQ 0 2 false] (.seq (sr qDR (.cond (.t 20) (sr [oQ 0 2 false] .ret) .skip)) qDQ)⟩
def qPT:List qA:=[oM 0 3 0,oD1 1 4 1099 3,oM 2 5 4,oH 3 6 5 true 0,oG 4 7 5 true (.sidx (.t 6) (.c (.int .i64 0))),oG 5 8 5 true (.call 1100 [.t 7]),oPf 6 9 5 8,oM 7 2 9]
def U1:qI:=⟨1,10,[.t 2],sr [oQ 0 2 false] (sr qPT .ret)⟩
def qLG:List qA:=[oI 0 1 3 0,oC 1 2 0,oC 2 3 0,oQ 3 4 false]
def qLH:List qA:=[oU 0 10 1,oX 1 11 1 2,oW 2 12 11,oC 3 13 0]
def qLK:List qA:=[oA 0 15 3 11 13,oLs 1 16 3 15,oZ3 2 6,oS 3 6 0 3 16]
def qLL:List qA:=[oY 0 18 6 0 3,oD1 1 19 331 18,oM 2 17 19,oV 3 20 17 0,oV 4 21 17 1,oV 5 22 17 2,oM 6 7 20,oM 7 8 21,oM 8 9 22]
def qLM:List qA:=[oM 0 25 2,oM 1 26 7,oE 2 27 .add 26 1,oP 3 28 (.max (.t 25) (.t 27)),oM 4 29 3,oM 5 30 8,oB 6 31 .add 29 30,oM 7 2 28,oM 8 3 31]
def qLE:qG:=sr qLL (.seq (sr [oM 0 23 9,oJ 1 24 23] (.cond (.t 24) (sr [oC 0 2 0,oC 1 3 0,oQ 2 4 false] .ret) .skip)) (.reg true qLM))
def qLF:qG:=sr qLH (.blk 0 (.loop (sr [oB 0 14 .lss 13 12] (.seq (.cond (.t 14) .skip (.exit 0)) (.seq (.blk 1 (sr qLK qLE)) (.reg true [oE 0 32 .add 13 1,oM 1 13 32]))))))
def qLN:List qA:=[oU 0 37 1,oX 1 38 1 1,oP 2 39 (.sop .eql (.t 38) (.c (.str []))),oM 3 40 39,oGn 4 41 40 true 1,oGl 5 42 40 true 1 2,oG 6 43 40 true (.len (.t 42)),oGe 7 44 40 true .eql 43 0,oPf 8 45 40 44,oM 9 4 45]
def qLO:List qA:=[oU 0 48 1,oX 1 49 1 1,oD1 2 50 717 49,oM 3 51 50,oGn 4 52 51 true 1,oGl 5 53 51 true 1 1,oG 6 54 51 true (.sop .neq (.t 53) (.c (.str [73,110,116]))),oPf 7 55 51 54,oM 8 56 55,oGn 9 57 56 true 1,oGl 10 58 56 true 1 2,oG 11 59 56 true (.len (.t 58)),oGe 12 60 56 true .eql 59 0,oPf 13 61 56 60,oM 14 4 61]
def qLP:List qA:=[oU 0 64 1,oX 1 65 1 1,oP 2 66 (.sop .eql (.t 65) (.c (.str []))),oM 3 67 66,oGn 4 68 67 true 1,oGl 5 69 67 true 1 2,oG 6 70 67 true (.len (.t 69)),oGe 7 71 67 true .eql 70 2,oPf 8 72 67 71,oM 9 4 72]
def qLI:List qA:=[oU 0 75 1,oX 1 76 1 1,oP 2 77 (.sop .eql (.t 76) (.c (.str []))),oM 3 78 77,oGn 4 79 78 true 1,oGl 5 80 78 true 1 2,oG 6 81 78 true (.len (.t 80)),oGe 7 82 78 true .eql 81 1,oPf 8 83 78 82,oM 9 4 83]
def qLC:qG:=.cond (.t 46) (.reg true qLO) (sr [oE 0 63 .eql 34 3,oM 1 62 63] (.cond (.t 62) (.reg true qLP) (sr [oE 0 74 .eql 34 4,oM 1 73 74] (.cond (.t 73) (.reg true qLI) .skip))))
def qLD:qG:=sr [oU 0 33 1,oX 1 34 1 0] (.blk 2 (sr [oE 0 36 .eql 34 1,oM 1 35 36] (.cond (.t 35) (.reg true qLN) (sr [oE 0 47 .eql 34 2,oM 1 46 47] qLC))))
def qLJ:List qA:=[oM 0 84 2,oM 1 85 3,oM 2 86 4,oM 3 2 84,oM 4 3 85,oM 5 4 86]
def Ud:qI:=⟨1,87,[.t 2,.t 3,.t 4],sr qLG (sr [oC 0 2 1,oC 1 3 1] (.seq qLF (.seq qLD (sr qLJ .ret))))⟩
def qQR:List qA:=[oY 0 7 1 0 3,oD1 1 8 331 7,oM 2 6 8,oV 3 9 6 0,oV 4 10 6 1,oV 5 11 6 2,oM 6 3 9,oM 7 4 10,oM 8 5 11]
def qQS:List qA:=[oM 0 12 5,oM 1 13 12,oH 2 14 13 true 3,oGe 3 15 13 true .leq 14 6,oPf 4 16 13 15,oM 5 17 16,oH 6 18 17 true 4,oGe 7 19 17 true .leq 18 16,oPf 8 20 17 19,oM 9 2 20]
def F74:qI:=⟨1,21,[.t 2],sr [oI 0 1 3 0,oQ 1 2 false] (sr qQR (sr qQS .ret))⟩
def qR5:List qA:=[oM 0 3 0,oD1 1 4 1099 3,oM 2 5 4,oH 3 6 5 true 0,oG 4 7 5 true (.sidx (.t 6) (.c (.int .i64 0))),oG 5 8 5 true (.call 1206 [.t 7]),oPf 6 9 5 8,oM 7 2 9]
def KO:qI:=⟨1,10,[.t 2],sr [oQ 0 2 false] (sr qR5 .ret)⟩
def Uq:qI:=⟨1,5,[.t 2],sr [oP 0 2 (.mov (.c (.str [])))] (sr [oM 0 3 0,oP 1 4 (.call 957 [.t 3,.c (.int .i64 10)]),oM 2 2 4] .ret)⟩
def qDL:List qA:=[oM 0 3 0,oP 1 4 (.bin .geq (.t 3) (.c (.int .i64 (-2147483648)))),oM 2 5 4,oH 3 6 5 true 0,oGe 4 7 5 true .leq 6 2147483647,oPf 5 8 5 7,oM 6 2 8]
def VF:qI:=⟨1,9,[.t 2],sr [oQ 0 2 false] (sr qDL .ret)⟩
def qDN:List qA:=[oM 0 7 0,oP 1 8 (.call 1382 [.t 7,.c (.int .i64 10),.c (.int .i64 64)]),oM 2 6 8,oV 3 9 6 0,oV 4 10 6 1,oM 5 4 9,oM 6 5 10]
def qDO:List qA:=[oM 0 11 5,oP 1 12 (.isnil 4 true (.t 11)),oM 2 13 12,oH 3 14 13 false 4,oG 4 15 13 false (.call 1051 [.t 14]),oG 5 16 13 false (.not (.t 15)),oPt 6 17 13 16,oM 7 18 17,oH 8 19 18 false 4,oG 9 20 18 false (.call 577 [.t 19]),oH 10 21 18 false 0,oG 11 22 18 false (.sop .neq (.t 20) (.t 21)),oPt 12 23 18 22]
def qDM:qG:=sr qDN (.seq (sr qDO (.cond (.t 23) (sr [oC 0 2 0,oQ 1 3 false] .ret) .skip)) (sr [oM 0 24 4,oM 1 2 24,oQ 2 3 true] .ret))
def VG:qI:=⟨1,25,[.t 2,.t 3],sr [oC 0 2 0,oQ 1 3 false] qDM⟩
def qC9:List qA:=[oM 0 6 0,oD1 1 7 1091 6,oM 2 5 7,oV 3 8 5 0,oV 4 9 5 1,oM 5 3 8,oM 6 4 9]
def qDA:List qA:=[oM 0 10 4,oM 1 11 10,oH 2 12 11 true 3,oGe 3 13 11 true .geq 12 0,oPf 4 14 11 13,oM 5 2 14]
def VA:qI:=⟨1,15,[.t 2],sr [oQ 0 2 false] (sr qC9 (sr qDA .ret))⟩
def qGK:List qA:=[oM 0 5 0,oP 1 6 (.slen (.t 5)),oM 2 7 1,oP 3 8 (.slen (.t 7)),oB 4 9 .geq 6 8,oM 5 10 9,oH 6 11 10 true 0,oH 7 12 10 true 1,oG 8 13 10 true (.slen (.t 12)),oG 9 14 10 true (.sslc (.t 11) none (some (.t 13))),oH 10 15 10 true 1,oG 11 16 10 true (.sop .eql (.t 14) (.t 15)),oPf 12 17 10 16,oM 13 4 17]
def Vo:qI:=⟨2,18,[.t 4],sr [oQ 0 4 false] (sr qGK .ret)⟩
def qDB:List qA:=[oM 0 5 0,oM 1 6 1,oD2 2 7 1331 5 6,oM 3 4 7]
def VB:qI:=⟨2,8,[.t 4],sr [oQ 0 4 false] (sr qDB .ret)⟩
def qPI:List qA:=[oM 0 9 6,oM 1 10 0,oP 2 11 (.slen (.t 10)),oB 3 12 .lss 9 11,oM 4 13 12,oH 5 14 13 true 0,oH 6 15 13 true 6,oG 7 16 13 true (.sidx (.t 14) (.t 15)),oG 8 17 13 true (.call 1012 [.t 16]),oPf 9 18 13 17]
def qPJ:List qA:=[oM 0 24 0,oM 1 25 1,oM 2 26 6,oP 3 27 (.sslc (.t 24) (some (.t 25)) (some (.t 26))),oM 4 7 27]
def qPK:List qA:=[oM 0 41 7,oP 1 42 (.sop .eql (.t 41) (.c (.str [50,49,52,55,52,56,51,54,52,56]))),oM 2 43 42,oH 3 44 43 false 7,oG 4 45 43 false (.call 1014 [.t 44]),oPt 5 46 43 45,oM 6 40 46]
def qPF:qG:=.cond (.t 36) (sr [oM 0 39 6,oC 1 4 2,oM 2 5 39] .ret) (sr qPK (.cond (.t 40) (sr [oM 0 47 6,oC 1 4 4,oM 2 5 47] .ret) .skip))
def qPG:qG:=sr [oM 0 33 7,oD1 1 34 889 33,oM 2 32 34] (.cond (.t 32) (sr [oM 0 35 6,oC 1 4 1,oM 2 5 35] .ret) (sr [oM 0 37 7,oD1 1 38 717 37,oM 2 36 38] qPF))
def qPH:qG:=sr qPJ (.blk 2 (sr [oM 0 29 7,oD1 1 30 1013 29,oM 2 28 30] (.cond (.t 28) (sr [oM 0 31 6,oC 1 4 3,oM 2 5 31] .ret) qPG)))
def qPL:List qA:=[oM 0 49 0,oM 1 50 1,oP 2 51 (.sslc (.t 49) (some (.t 50)) none),oP 3 52 (.call 1015 [.t 51,.c (.str [45,62])])]
def qPM:List qA:=[oM 0 53 1,oE 1 54 .add 53 2,oC 2 4 5,oM 3 5 54]
def qPN:List qA:=[oM 0 55 0,oM 1 56 1,oP 2 57 (.sidx (.t 55) (.t 56)),oP 3 58 (.call 631 [.c (.str [43,45,42,47,60,61,40,41,91,93,123,125,44,59,58,46,124,33,92]),.t 57]),oE 4 59 .geq 58 0]
def qPO:List qA:=[oM 0 60 1,oE 1 61 .add 60 1,oC 2 4 5,oM 3 5 61]
def qPD:qG:=.seq (sr [oM 0 21 6,oM 1 22 1,oB 2 23 .gtr 21 22] (.cond (.t 23) (.seq qPH (sr [oM 0 48 1,oC 1 4 0,oM 2 5 48] .ret)) .skip)) (.seq (sr qPL (.cond (.t 52) (sr qPM .ret) .skip)) (.seq (sr qPN (.cond (.t 59) (sr qPO .ret) .skip)) (sr [oM 0 62 1,oC 1 4 0,oM 2 5 62] .ret)))
def qPE:qG:=sr [oM 0 8 1,oM 1 6 8] (.seq (.blk 0 (.loop (.seq (sr qPI (.cond (.t 18) .skip (.exit 0))) (.blk 1 (.reg true [oM 0 19 6,oE 1 20 .add 19 1,oM 2 6 20]))))) qPD)
def Uz:qI:=⟨2,63,[.t 4,.t 5],sr [oC 0 4 0,oC 1 5 0] qPE⟩
def qKW:List qA:=[oM 0 12 6,oM 1 13 0,oP 2 14 (.slen (.t 13)),oB 3 15 .lss 12 14]
def qKX:List qA:=[oM 0 16 0,oM 1 17 6,oP 2 18 (.sidx (.t 16) (.t 17)),oP 3 19 (.call 631 [.c (.str [32,10,9]),.t 18]),oE 4 20 .geq 19 0]
def qKY:List qA:=[oM 0 24 0,oM 1 25 6,oD2 2 26 632 24 25,oM 3 23 26,oV 4 27 23 0,oV 5 28 23 1,oM 6 7 27,oM 7 8 28]
def qKZ:List qA:=[oM 0 31 6,oP 1 2 (.mov (.c (.nils))),oM 2 3 31,oC 3 4 6]
def qK0:List qA:=[oM 0 32 5,oM 1 33 7,oM 2 34 0,oM 3 35 6,oM 4 36 8,oP 5 37 (.sslc (.t 34) (some (.t 35)) (some (.t 36))),oM 6 38 6,oP 7 39 (.build (.agg [.int .i64 0,.str [],.int .i64 0]) [(0,1,.t 33),(1,1,.t 37),(2,1,.t 38)]),oP 8 40 (.bslice 3 (.agg [.int .i64 0,.str [],.int .i64 0]) 1 [(0,.t 39)]),oO 9 41 3 32 40,oM 10 5 41]
def qKT:qG:=sr qKY (.seq (sr [oM 0 29 7,oE 1 30 .eql 29 0] (.cond (.t 30) (sr qKZ .ret) .skip)) (sr qK0 (.reg true [oM 0 42 8,oM 1 6 42])))
def qKU:qG:=sr [oC 0 6 0] (.blk 0 (.loop (.seq (sr qKW (.cond (.t 15) .skip (.exit 0))) (.blk 1 (.seq (sr qKX (.cond (.t 20) (sr [oM 0 21 6,oE 1 22 .add 21 1,oM 2 6 22] (.exit 1)) .skip)) qKT)))))
def qK1:List qA:=[oM 0 43 5,oM 1 2 43,oC 2 3 0,oC 3 4 0]
def qKV:qG:=.seq (sr [oM 0 9 0,oP 1 10 (.slen (.t 9)),oE 2 11 .gtr 10 20000] (.cond (.t 11) (sr [oP 0 2 (.mov (.c (.nils))),oC 1 3 0,oC 2 4 2] .ret) .skip)) (sr [oP 0 5 (.mov (.c (.nils)))] (.seq qKU (sr qK1 .ret)))
def UX:qI:=⟨1,44,[.t 2,.t 3,.t 4],sr [oP 0 2 (.mov (.c (.nils))),oC 1 3 0,oC 2 4 0] qKV⟩
def qDU:List qA:=[oM 0 3 0,oK 1 4 3,oF 2 5 1 4,oL 3 6 5,oM 4 7 0,oK 5 8 7,oF 6 9 0 8,oL 7 10 9,oW 8 11 10,oB 9 12 .lss 6 11]
def qDV:List qA:=[oM 0 13 0,oK 1 14 13,oF 2 15 0 14,oL 3 16 15,oM 4 17 0,oK 5 18 17,oF 6 19 1 18,oL 7 20 19,oA 8 21 3 16 20,oLs 9 22 3 21,oS 10 2 0 3 22]
def qDW:List qA:=[oM 0 23 0,oK 1 24 23,oF 2 25 2 24,oL 3 26 25,oP 4 27 (.build (.agg [.int .i64 0,.str [],.int .i64 0]) [(2,1,.t 26)]),oS 5 2 0 3 27]
def VJ:qI:=⟨1,28,[.l 2 (some 3)],sr [oP 0 2 (.lalloc (.agg [.int .i64 0,.str [],.int .i64 0]))] (.seq (sr qDU (.cond (.t 12) (sr qDV .ret) .skip)) (sr qDW .ret))⟩
def qPU:List qA:=[oM 0 2 0,oD1 1 3 1101 2,oP 2 4 (.fld 2 none (.t 3)),oP 3 5 (.build (.agg [.int .i64 0]) [(0,1,.t 4)]),oP 4 6 (.mkif 751 (.t 5)),oN 5 (.panic (.t 6))]
def U2:qI:=⟨1,7,[],.reg true qPU⟩
def qDX:List qA:=[oM 0 6 0,oD1 1 7 1101 6,oP 2 5 (.lalloc (.agg [.int .i64 0,.str [],.int .i64 0])),oS 3 5 0 3 7]
def qDY:List qA:=[oU 0 8 5,oX 1 9 5 1,oM 2 10 1,oP 3 11 (.sop .eql (.t 9) (.t 10)),oM 4 12 11,oGn 5 13 12 true 5,oGl 6 14 12 true 5 0,oGe 7 15 12 true .eql 14 5,oH 8 16 12 true 15,oGn 9 17 16 false 5,oGl 10 18 16 false 5 0,oGe 11 19 16 false .eql 18 3,oG 12 20 12 true (.pick (.t 16) (.c (.bool true)) (.t 19)),oPf 13 21 12 20,oM 14 4 21]
def VL:qI:=⟨2,22,[.t 4],sr [oQ 0 4 false] (sr qDX (sr qDY .ret))⟩
def qPZ:List qA:=[oM 0 5 0,oM 1 6 1,oD2 2 7 1103 5 6,oJ 3 8 7]
def qP0:List qA:=[oM 0 9 0,oK 1 10 9,oF 2 11 1 10,oL 3 12 11,oE 4 13 .add 12 1,oK 5 14 9,oF 6 15 1 14,oT 7 1 15 13]
def U4:qI:=⟨2,16,[.t 4],sr [oQ 0 4 false] (.seq (sr qPZ (.cond (.t 8) (sr [oQ 0 4 false] .ret) .skip)) (sr qP0 (sr [oQ 0 4 true] .ret)))⟩
def qRN:List qA:=[oM 0 6 0,oD1 1 7 1101 6,oP 2 5 (.lalloc (.agg [.int .i64 0,.str [],.int .i64 0])),oS 3 5 0 3 7]
def qRO:List qA:=[oU 0 8 5,oX 1 9 5 0,oM 2 10 1,oB 3 11 .neq 9 10]
def qRP:List qA:=[oM 0 14 0,oK 1 15 14,oF 2 16 1 15,oL 3 17 16,oE 4 18 .add 17 1,oK 5 19 14,oF 6 20 1 19,oT 7 1 20 18]
def qRM:qG:=.seq (sr qRO (.cond (.t 11) (.reg true [oM 0 12 0,oD1 1 13 719 12]) .skip)) (sr qRP (sr [oU 0 21 5,oX 1 22 5 1,oM 2 4 22] .ret))
def KI:qI:=⟨2,23,[.t 4],sr [oP 0 4 (.mov (.c (.str [])))] (sr qRN qRM)⟩
def qRQ:List qA:=[oM 0 4 0,oM 1 5 1,oD2 2 6 721 4 5,oJ 3 7 6]
def KJ:qI:=⟨2,10,[],sr qRQ (.cond (.t 7) (.reg true [oM 0 8 0,oD1 1 9 719 8]) .skip)⟩
def KS:qI:=⟨0,2,[.l 0 (some 3)],sr [oZ3 0 0] (sr [oP 0 1 (.build (.agg [.int .i64 0,.str [],.nils]) [(0,1,.c (.int .i64 1))]),oS 1 0 0 3 1] .ret)⟩
def qR9:List qA:=[oY 0 3 1 0 3,oN3 1 4 3,oP 2 5 (.build (.agg [.int .i64 0,.str [],.nils]) [(0,1,.c (.int .i64 4)),(2,1,.t 4)]),oS 3 2 0 3 5]
def KT:qI:=⟨1,6,[.l 2 (some 3)],sr [oI 0 1 3 0,oZ3 1 2] (sr qR9 .ret)⟩
def VK:qI:=⟨1,5,[.l 2 (some 3)],sr [oZ3 0 2] (sr [oM 0 3 0,oP 1 4 (.build (.agg [.int .i64 0,.str [],.nils]) [(0,1,.c (.int .i64 2)),(1,1,.t 3)]),oS 2 2 0 3 4] .ret)⟩
def qPX:List qA:=[oM 0 8 0,oD1 1 9 720 8,oD1 2 10 911 9,oS 3 2 0 3 10]
def qPY:List qA:=[oM 0 14 0,oD1 1 15 335 14,oZ3 2 3,oS 3 3 0 3 15]
def qPV:qG:=sr [oM 0 12 0,oP 1 13 (.call 721 [.t 12,.c (.str [40])]),oM 2 11 13] (.cond (.t 11) (sr qPY (sr [oM 0 16 0,oP 1 17 (.call 876 [.t 16,.c (.str [41])])] (sr [oY 0 18 3 0 3,oS 1 2 0 3 18] .ret))) .skip)
def qPW:qG:=sr [oM 0 19 0,oP 1 20 (.call 875 [.t 19,.c (.int .i64 2)]),oM 2 4 20] (sr [oM 0 21 4,oP 1 22 (.sop .neq (.t 21) (.c (.str [73,110,116])))] (.cond (.t 22) (sr [oM 0 23 4,oD1 1 24 1102 23,oS 2 2 0 3 24] .ret) .skip))
def U3:qI:=⟨1,26,[.l 2 (some 3)],sr [oZ3 0 2] (.seq (.blk 0 (sr [oM 0 6 0,oP 1 7 (.call 721 [.t 6,.c (.str [33])]),oM 2 5 7] (.cond (.t 5) (sr qPX .ret) qPV))) (.seq qPW (sr [oP 0 25 (.call 908 []),oS 1 2 0 3 25] .ret)))⟩
def qP1:List qA:=[oY 0 5 2 0 3,oY 1 6 3 0 3,oP 2 7 (.bslice 3 (.agg [.int .i64 0,.str [],.nils]) 2 [(0,.t 5),(1,.t 6)]),oP 3 8 (.build (.agg [.int .i64 0,.str [],.nils]) [(0,1,.c (.int .i64 3)),(2,1,.t 7)]),oS 4 4 0 3 8]
def U5:qI:=⟨2,9,[.l 4 (some 3)],sr [oI 0 2 3 0,oI 1 3 3 1,oZ3 2 4] (sr qP1 .ret)⟩
def qLW:List qA:=[oM 0 4 0,oD1 1 5 720 4,oZ3 2 3,oS 3 3 0 3 5]
def qLX:List qA:=[oY 0 8 3 0 3,oM 1 9 0,oD1 2 10 335 9,oD2 3 11 722 8 10,oS 4 2 0 3 11]
def Uf:qI:=⟨1,13,[.l 2 (some 3)],sr [oZ3 0 2] (sr qLW (.seq (sr [oM 0 6 0,oP 1 7 (.call 721 [.t 6,.c (.str [45,62])])] (.cond (.t 7) (sr qLX .ret) .skip)) (sr [oY 0 12 3 0 3,oS 1 2 0 3 12] .ret)))⟩
def qL2:List qA:=[oM 0 7 0,oM 1 8 1,oB 2 9 .geq 7 8,oM 3 10 9,oH 4 11 10 true 0,oH 5 12 10 true 2,oG 6 13 10 true (.bin .leq (.t 11) (.t 12)),oPf 7 14 10 13,oM 8 6 14]
def Uh:qI:=⟨3,15,[.t 6],sr [oQ 0 6 false] (sr qL2 .ret)⟩
def qHQ:List qA:=[oM 0 3 0,oP 1 4 (.bin .geq (.t 3) (.c (.int .u8 97))),oM 2 5 4,oH 3 6 5 true 0,oG 4 7 5 true (.bin .leq (.t 6) (.c (.int .u8 122))),oPf 5 8 5 7,oM 6 9 8,oH 7 10 9 false 0,oG 8 11 9 false (.bin .geq (.t 10) (.c (.int .u8 65))),oH 9 12 9 false 11,oH 10 13 12 true 0,oG 11 14 12 true (.bin .leq (.t 13) (.c (.int .u8 90))),oG 12 15 9 false (.pick (.t 12) (.t 14) (.c (.bool false))),oPt 13 16 9 15,oM 14 2 16]
def V3:qI:=⟨1,17,[.t 2],sr [oQ 0 2 false] (sr qHQ .ret)⟩
def UC:qI:=⟨0,2,[.t 0],sr [oP 0 0 (.mov (.c (.nils)))] (sr [oP 0 1 (.bslice 1 (.str []) 8 [(0,.c (.str [100,97,116,97])),(1,.c (.str [100,101,102])),(2,.c (.str [108,101,116])),(3,.c (.str [105,110])),(4,.c (.str [109,97,116,99,104])),(5,.c (.str [105,102])),(6,.c (.str [116,104,101,110])),(7,.c (.str [101,108,115,101]))]),oM 1 0 1] .ret)⟩
def qHS:List qA:=[oM 0 4 3,oP 1 5 (.call 1513 []),oW 2 6 5,oB 3 7 .lss 4 6]
def qHT:List qA:=[oP 0 10 (.call 1513 []),oM 1 11 3,oA 2 12 1 10 11,oL 3 13 12,oM 4 14 0,oP 5 15 (.sop .eql (.t 13) (.t 14))]
def qHR:qG:=.loop (.seq (sr qHS (.cond (.t 7) .skip (.exit 0))) (.seq (.blk 1 (sr qHT (.cond (.t 15) (sr [oQ 0 2 true] .ret) .skip))) (.reg true [oM 0 8 3,oE 1 9 .add 8 1,oM 2 3 9])))
def V4:qI:=⟨1,16,[.t 2],sr [oQ 0 2 false] (.seq (sr [oC 0 3 0] (.blk 0 qHR)) (sr [oQ 0 2 false] .ret))⟩
def qHU:List qA:=[oM 0 3 0,oP 1 4 (.bin .geq (.t 3) (.c (.int .u8 48))),oM 2 5 4,oH 3 6 5 true 0,oG 4 7 5 true (.bin .leq (.t 6) (.c (.int .u8 57))),oPf 5 8 5 7,oM 6 2 8]
def V5:qI:=⟨1,9,[.t 2],sr [oQ 0 2 false] (sr qHU .ret)⟩
def qF6:List qA:=[oM 0 4 0,oP 1 5 (.slen (.t 4)),oE 2 6 .lss 5 1,oM 3 7 6,oH 4 8 7 false 0,oG 5 9 7 false (.slen (.t 8)),oGe 6 10 7 false .gtr 9 12,oPt 7 11 7 10,oM 8 12 11,oH 9 13 12 false 0,oG 10 14 12 false (.sidx (.t 13) (.c (.int .i64 0))),oG 11 15 12 false (.call 1440 [.t 14]),oG 12 16 12 false (.not (.t 15)),oPt 13 17 12 16,oM 14 18 17,oH 15 19 18 false 0,oG 16 20 18 false (.call 1441 [.t 19]),oPt 17 21 18 20]
def qF7:List qA:=[oM 0 22 3,oM 1 23 0,oP 2 24 (.slen (.t 23)),oB 3 25 .lss 22 24]
def qF8:List qA:=[oM 0 28 0,oM 1 29 3,oP 2 30 (.sidx (.t 28) (.t 29)),oD1 3 31 1440 30,oJ 4 32 31,oM 5 33 32,oH 6 34 33 true 0,oH 7 35 33 true 3,oG 8 36 33 true (.sidx (.t 34) (.t 35)),oG 9 37 33 true (.call 1442 [.t 36]),oG 10 38 33 true (.not (.t 37)),oPf 11 39 33 38]
def qF5:qG:=.loop (.seq (sr qF7 (.cond (.t 25) .skip (.exit 0))) (.seq (.blk 1 (sr qF8 (.cond (.t 39) (sr [oQ 0 2 false] .ret) .skip))) (.reg true [oM 0 26 3,oE 1 27 .add 26 1,oM 2 3 27])))
def Vi:qI:=⟨1,40,[.t 2],sr [oQ 0 2 false] (.seq (sr qF6 (.cond (.t 21) (sr [oQ 0 2 false] .ret) .skip)) (.seq (sr [oC 0 3 0] (.blk 0 qF5)) (sr [oQ 0 2 true] .ret)))⟩
def qSO:List qA:=[oM 0 3 0,oD1 1 4 1241 3,oM 2 5 4,oH 3 6 5 true 0,oG 4 7 5 true (.sidx (.t 6) (.c (.int .i64 0))),oG 5 8 5 true (.bin .leq (.t 7) (.c (.int .u8 90))),oPf 6 9 5 8,oM 7 2 9]
def KX:qI:=⟨1,10,[.t 2],sr [oQ 0 2 false] (sr qSO .ret)⟩
def qNP:List qA:=[oU 0 17 2,oX 1 18 2 1,oD1 2 19 921 18,oJ 3 20 19,oM 4 21 20,oGn 5 22 21 false 2,oGl 6 23 21 false 2 1,oG 7 24 21 false (.sop .eql (.t 23) (.c (.str [73,110,116]))),oPt 8 25 21 24]
def qNK:qG:=.cond (.t 26) (.reg true [oC 0 5 2]) (sr [oE 0 29 .eql 12 4,oM 1 28 29] (.cond (.t 28) (.reg true [oC 0 5 1]) (sr [oP 0 4 (.mov (.c (.int .i64 (-1))))] .ret)))
def qNL:qG:=sr [oE 0 16 .eql 12 2,oM 1 15 16] (.cond (.t 15) (sr qNP (.cond (.t 25) (sr [oP 0 4 (.mov (.c (.int .i64 (-1))))] .ret) .skip)) (sr [oE 0 27 .eql 12 3,oM 1 26 27] qNK))
def qNQ:List qA:=[oU 0 30 2,oX 1 31 2 2,oW 2 32 31,oM 3 33 5,oB 4 34 .neq 32 33,oM 5 35 34,oGn 6 36 35 false 2,oGl 7 37 35 false 2 0,oGe 8 38 35 false .neq 37 2,oH 9 39 35 false 38,oGn 10 40 39 true 2,oGl 11 41 39 true 2 1,oG 12 42 39 true (.sop .neq (.t 41) (.c (.str []))),oG 13 43 35 false (.pick (.t 39) (.t 42) (.c (.bool false))),oPt 14 44 35 43]
def qNR:List qA:=[oM 0 45 7,oU 1 46 2,oX 2 47 2 2,oW 3 48 47,oB 4 49 .lss 45 48]
def qNS:List qA:=[oU 0 52 2,oX 1 53 2 2,oM 2 54 7,oA 3 55 3 53 54,oLs 4 56 3 55,oM 5 57 1,oE 6 58 .sub 57 1,oD2 7 59 541 56 58,oM 8 8 59]
def qNT:List qA:=[oM 0 62 6,oM 1 63 8,oB 2 64 .add 62 63,oM 3 6 64]
def qNM:qG:=.seq (.blk 2 (sr qNS (.seq (sr [oM 0 60 8,oE 1 61 .lss 60 0] (.cond (.t 61) (sr [oP 0 4 (.mov (.c (.int .i64 (-1))))] .ret) .skip)) (.reg true qNT)))) (.reg true [oM 0 50 7,oE 1 51 .add 50 1,oM 2 7 51])
def qNN:qG:=sr [oC 0 6 1] (.seq (sr [oC 0 7 0] (.blk 1 (.loop (.seq (sr qNR (.cond (.t 49) .skip (.exit 1))) qNM)))) (sr [oM 0 65 6,oM 1 4 65] .ret))
def qNO:qG:=.seq (sr [oU 0 11 2,oX 1 12 2 0] (.blk 0 (sr [oE 0 14 .eql 12 1,oM 1 13 14] (.cond (.t 13) .skip qNL)))) (.seq (sr qNQ (.cond (.t 44) (sr [oP 0 4 (.mov (.c (.int .i64 (-1))))] .ret) .skip)) qNN)
def Up:qI:=⟨2,66,[.t 4],sr [oI 0 2 3 0,oC 1 4 0] (.seq (sr [oM 0 9 1,oE 1 10 .lss 9 1] (.cond (.t 10) (sr [oP 0 4 (.mov (.c (.int .i64 (-1))))] .ret) .skip)) (sr [oC 0 5 0] qNO))⟩
def qJZ:List qA:=[oY 0 3 1 0 3,oP 1 4 (.call 541 [.t 3,.c (.int .i64 6)]),oP 2 5 (.call 340 [.t 4,.c (.int .i64 1),.c (.int .i64 16)]),oM 3 2 5]
def UR:qI:=⟨1,6,[.t 2],sr [oI 0 1 3 0,oQ 1 2 false] (sr qJZ .ret)⟩
def qGW:List qA:=[oM 0 3 0,oP 1 4 (.bin .eql (.t 3) (.c (.int .u8 32))),oM 2 5 4,oH 3 6 5 false 0,oG 4 7 5 false (.bin .eql (.t 6) (.c (.int .u8 10))),oPt 5 8 5 7,oM 6 9 8,oH 7 10 9 false 0,oG 8 11 9 false (.bin .eql (.t 10) (.c (.int .u8 9))),oPt 9 12 9 11,oM 10 2 12]
def Vu:qI:=⟨1,13,[.t 2],sr [oQ 0 2 false] (sr qGW .ret)⟩
def qF1:List qA:=[oM 0 3 0,oD1 1 4 1241 3,oM 2 5 4,oH 3 6 5 true 0,oG 4 7 5 true (.sidx (.t 6) (.c (.int .i64 0))),oG 5 8 5 true (.bin .geq (.t 7) (.c (.int .u8 97))),oPf 6 9 5 8,oM 7 2 9]
def Vg:qI:=⟨1,10,[.t 2],sr [oQ 0 2 false] (sr qF1 .ret)⟩
def qHY:List qA:=[oM 0 5 1,oM 1 6 0,oP 2 7 (.slen (.t 6)),oB 3 8 .lss 5 7,oM 4 9 8,oH 5 10 9 true 0,oH 6 11 9 true 1,oG 7 12 9 true (.sidx (.t 10) (.t 11)),oG 8 13 9 true (.call 1440 [.t 12]),oH 9 14 9 true 13,oH 10 15 14 false 0,oH 11 16 14 false 1,oG 12 17 14 false (.sidx (.t 15) (.t 16)),oG 13 18 14 false (.call 1442 [.t 17]),oG 14 19 9 true (.pick (.t 14) (.c (.bool true)) (.t 18)),oPf 15 20 9 19]
def qHX:qG:=.seq (.blk 0 (.loop (.seq (sr qHY (.cond (.t 20) .skip (.exit 0))) (.blk 1 (.reg true [oM 0 21 1,oE 1 22 .add 21 1,oM 2 1 22]))))) (sr [oM 0 23 1,oM 1 4 23] .ret)
def V7:qI:=⟨2,24,[.t 4],sr [oC 0 4 0] qHX⟩
def qH1:List qA:=[oM 0 5 0,oP 1 6 (.slen (.t 5)),oE 2 7 .gtr 6 10,oM 3 8 7,oH 4 9 8 false 0,oG 5 10 8 false (.slen (.t 9)),oGe 6 11 8 false .gtr 10 1,oH 7 12 8 false 11,oH 8 13 12 true 0,oG 9 14 12 true (.sidx (.t 13) (.c (.int .i64 0))),oG 10 15 12 true (.bin .eql (.t 14) (.c (.int .u8 48))),oG 11 16 8 false (.pick (.t 12) (.t 15) (.c (.bool false))),oPt 12 17 8 16]
def qH2:List qA:=[oM 0 18 4,oM 1 19 0,oP 2 20 (.slen (.t 19)),oB 3 21 .lss 18 20]
def qH3:List qA:=[oM 0 24 0,oM 1 25 4,oP 2 26 (.sidx (.t 24) (.t 25)),oD1 3 27 1442 26,oJ 4 28 27]
def qH4:List qA:=[oM 0 29 3,oP 1 30 (.bin .mul (.c (.int .i64 10)) (.t 29)),oM 2 31 0,oM 3 32 4,oP 4 33 (.sidx (.t 31) (.t 32)),oP 5 34 (.bin .sub (.t 33) (.c (.int .u8 48))),oP 6 35 (.conv .i64 (.t 34)),oB 7 36 .add 30 35,oM 8 3 36]
def qHZ:qG:=.seq (sr qH2 (.cond (.t 21) .skip (.exit 0))) (.seq (.blk 1 (.seq (sr qH3 (.cond (.t 28) (sr [oQ 0 2 false] .ret) .skip)) (.reg true qH4))) (.reg true [oM 0 22 4,oE 1 23 .add 22 1,oM 2 4 23]))
def qH0:qG:=sr [oC 0 3 0] (.seq (sr [oC 0 4 0] (.blk 0 (.loop qHZ))) (sr [oM 0 37 3,oE 1 38 .leq 37 2147483648,oM 2 2 38] .ret))
def V8:qI:=⟨1,39,[.t 2],sr [oQ 0 2 false] (.seq (sr qH1 (.cond (.t 17) (sr [oQ 0 2 false] .ret) .skip)) qH0)⟩
def qH6:List qA:=[oM 0 5 4,oM 1 6 3,oP 2 7 (.slen (.t 6)),oB 3 8 .lss 5 7]
def qH7:List qA:=[oM 0 11 3,oM 1 12 4,oP 2 13 (.sidx (.t 11) (.t 12)),oM 3 14 0,oB 4 15 .eql 13 14]
def qH5:qG:=.loop (.seq (sr qH6 (.cond (.t 8) .skip (.exit 0))) (.seq (.blk 1 (sr qH7 (.cond (.t 15) (sr [oQ 0 2 true] .ret) .skip))) (.reg true [oM 0 9 4,oE 1 10 .add 9 1,oM 2 4 10])))
def V9:qI:=⟨1,16,[.t 2],sr [oQ 0 2 false] (sr [oP 0 3 (.mov (.c (.str [43,45,42,47,60,61,40,41,91,93,123,125,44,59,58,46,124,33,92])))] (.seq (sr [oC 0 4 0] (.blk 0 qH5)) (sr [oQ 0 2 false] .ret)))⟩
def qG1:List qA:=[oM 0 8 0,oM 1 9 1,oP 2 10 (.sidx (.t 8) (.t 9)),oM 3 5 10]
def qG2:List qA:=[oM 0 11 5,oD1 1 12 1440 11,oM 2 13 12,oH 3 14 13 false 5,oG 4 15 13 false (.call 1442 [.t 14]),oPt 5 16 13 15]
def qG3:List qA:=[oM 0 17 0,oM 1 18 1,oM 2 19 0,oM 3 20 1,oD2 4 21 1496 19 20,oP 5 22 (.sslc (.t 17) (some (.t 18)) (some (.t 21))),oM 6 6 22]
def qG4:List qA:=[oM 0 23 6,oM 1 24 1,oP 2 25 (.build (.agg [.int .i64 0,.str [],.int .i64 0]) [(1,1,.t 23),(2,1,.t 24)]),oP 3 7 (.lalloc (.agg [.int .i64 0,.str [],.int .i64 0])),oS 4 7 0 3 25]
def qGX:qG:=.seq (sr [oM 0 35 6,oD1 1 36 1497 35] (.cond (.t 36) (.reg true [oU 0 37 7,oN 1 (.lstore 7 0 1 (.c (.int .i64 4)))]) .skip)) (sr [oY 0 38 7 0 3,oS 1 4 0 3 38] .ret)
def qGY:qG:=.seq (sr [oM 0 29 6,oD1 1 30 1237 29] (.cond (.t 30) (.reg true [oU 0 31 7,oN 1 (.lstore 7 0 1 (.c (.int .i64 1)))]) .skip)) (.seq (sr [oM 0 32 6,oD1 1 33 921 32] (.cond (.t 33) (.reg true [oU 0 34 7,oN 1 (.lstore 7 0 1 (.c (.int .i64 2)))]) .skip)) qGX)
def qGZ:qG:=sr qG2 (.cond (.t 16) (sr qG3 (sr qG4 (.seq (sr [oM 0 26 6,oD1 1 27 1441 26] (.cond (.t 27) (.reg true [oU 0 28 7,oN 1 (.lstore 7 0 1 (.c (.int .i64 3)))]) .skip)) qGY))) .skip)
def qG5:List qA:=[oM 0 39 5,oP 1 40 (.bin .eql (.t 39) (.c (.int .u8 45))),oM 2 41 40,oH 3 42 41 true 1,oGe 4 43 41 true .add 42 1,oH 5 44 41 true 0,oG 6 45 41 true (.slen (.t 44)),oG 7 46 41 true (.bin .lss (.t 43) (.t 45)),oPf 8 47 41 46,oM 9 48 47,oH 10 49 48 true 0,oH 11 50 48 true 1,oGe 12 51 48 true .add 50 1,oG 13 52 48 true (.sidx (.t 49) (.t 51)),oG 14 53 48 true (.bin .eql (.t 52) (.c (.int .u8 62))),oPf 15 54 48 53]
def qG6:List qA:=[oM 0 59 0,oM 1 60 1,oM 2 61 1,oE 3 62 .add 61 1,oP 4 63 (.sslc (.t 59) (some (.t 60)) (some (.t 62))),oM 5 64 1,oP 6 65 (.build (.agg [.int .i64 0,.str [],.int .i64 0]) [(0,1,.c (.int .i64 5)),(1,1,.t 63),(2,1,.t 64)]),oS 7 4 0 3 65]
def qG0:qG:=.seq (sr qG5 (.cond (.t 54) (sr [oM 0 55 1,oP 1 56 (.build (.agg [.int .i64 0,.str [],.int .i64 0]) [(0,1,.c (.int .i64 5)),(1,1,.c (.str [45,62])),(2,1,.t 55)]),oS 2 4 0 3 56] .ret) .skip)) (.seq (sr [oM 0 57 5,oD1 1 58 1498 57] (.cond (.t 58) (sr qG6 .ret) .skip)) (sr [oP 0 66 (.build (.agg [.int .i64 0,.str [],.int .i64 0]) []),oS 1 4 0 3 66] .ret))
def Vv:qI:=⟨2,67,[.l 4 (some 3)],sr [oP 0 4 (.lalloc (.agg [.int .i64 0,.str [],.int .i64 0]))] (sr qG1 (.seq qGZ qG0))⟩
def qEN:List qA:=[oM 0 9 6,oM 1 10 0,oP 2 11 (.slen (.t 10)),oB 3 12 .lss 9 11]
def qEO:List qA:=[oM 0 13 0,oM 1 14 6,oP 2 15 (.sidx (.t 13) (.t 14)),oD1 3 16 1393 15]
def qEP:List qA:=[oM 0 19 0,oM 1 20 6,oD2 2 21 1394 19 20,oP 3 7 (.lalloc (.agg [.int .i64 0,.str [],.int .i64 0])),oS 4 7 0 3 21]
def qEQ:List qA:=[oM 0 25 6,oP 1 2 (.mov (.c (.nils))),oM 2 3 25,oQ 3 4 false]
def qER:List qA:=[oM 0 26 5,oY 1 27 7 0 3,oP 2 28 (.bslice 3 (.agg [.int .i64 0,.str [],.int .i64 0]) 1 [(0,.t 27)]),oO 3 29 3 26 28,oM 4 5 29]
def qES:List qA:=[oM 0 30 6,oU 1 31 7,oX 2 32 7 1,oP 3 33 (.slen (.t 32)),oB 4 34 .add 30 33,oM 5 6 34]
def qEL:qG:=.seq (sr qEO (.cond (.t 16) (sr [oM 0 17 6,oE 1 18 .add 17 1,oM 2 6 18] (.exit 1)) .skip)) (sr qEP (.seq (sr [oU 0 22 7,oX 1 23 7 0,oE 2 24 .eql 23 0] (.cond (.t 24) (sr qEQ .ret) .skip)) (sr qER (.reg true qES))))
def qET:List qA:=[oM 0 35 5,oM 1 2 35,oC 2 3 0,oQ 3 4 true]
def qEM:qG:=sr [oP 0 8 (.mov (.c (.lst 3 [] true))),oM 1 5 8] (sr [oC 0 6 0] (.seq (.blk 0 (.loop (.seq (sr qEN (.cond (.t 12) .skip (.exit 0))) (.blk 1 qEL)))) (sr qET .ret)))
def VP:qI:=⟨1,36,[.t 2,.t 3,.t 4],sr [oP 0 2 (.mov (.c (.nils))),oC 1 3 0,oQ 2 4 false] qEM⟩
def qQF:List qA:=[oM 0 12 0,oD1 1 13 1107 12,oM 2 11 13,oV 3 14 11 0,oV 4 15 11 1,oV 5 16 11 2,oM 6 5 14,oM 7 6 15,oM 8 7 16]
def qQG:List qA:=[oM 0 19 6,oP 1 2 (.mov (.c (.nils))),oM 2 3 19,oC 3 4 6]
def qQH:List qA:=[oM 0 20 5,oM 1 2 20,oC 2 3 0,oC 3 4 0]
def qQE:qG:=.seq (sr [oM 0 8 0,oP 1 9 (.slen (.t 8)),oE 2 10 .gtr 9 20000] (.cond (.t 10) (sr [oP 0 2 (.mov (.c (.nils))),oC 1 3 0,oC 2 4 2] .ret) .skip)) (sr qQF (.seq (sr [oM 0 17 7,oJ 1 18 17] (.cond (.t 18) (sr qQG .ret) .skip)) (sr qQH .ret)))
def KA:qI:=⟨1,21,[.t 2,.t 3,.t 4],sr [oP 0 2 (.mov (.c (.nils))),oC 1 3 0,oC 2 4 0] qQE⟩
def qL4:List qA:=[oM 0 9 0,oD1 1 10 735 9,oM 2 8 10,oV 3 11 8 0,oV 4 12 8 1,oV 5 13 8 2,oM 6 5 11,oM 7 6 12,oM 8 7 13]
def qL5:List qA:=[oM 0 16 6,oM 1 17 7,oP 2 2 (.mov (.c (.nilp))),oM 3 3 16,oM 4 4 17]
def qL6:List qA:=[oM 0 18 5,oP 1 19 (.build (.agg [.nils,.int .i64 0,.bool false]) [(0,1,.t 18)]),oP 2 20 (.hbox 3 (.t 19)),oM 3 2 20,oC 4 3 0,oC 5 4 0]
def Uj:qI:=⟨1,21,[.t 2,.t 3,.t 4],sr [oP 0 2 (.mov (.c (.nilp))),oC 1 3 0,oC 2 4 0] (sr qL4 (.seq (sr [oM 0 14 7,oE 1 15 .neq 14 0] (.cond (.t 15) (sr qL5 .ret) .skip)) (sr qL6 .ret)))⟩
def qLB:List qA:=[oY 0 5 2 0 3,oY 1 6 3 0 3,oP 2 7 (.bslice 3 (.agg [.int .i64 0,.str [],.nils]) 2 [(0,.t 5),(1,.t 6)]),oP 3 8 (.build (.agg [.int .i64 0,.str [],.nils]) [(0,1,.c (.int .i64 3)),(2,1,.t 7)]),oS 4 4 0 3 8]
def Ua:qI:=⟨2,9,[.l 4 (some 3)],sr [oI 0 2 3 0,oI 1 3 3 1,oZ3 2 4] (sr qLB .ret)⟩
def qLA:List qA:=[oY 0 3 1 0 3,oN3 1 4 3,oP 2 5 (.build (.agg [.int .i64 0,.str [],.nils]) [(0,1,.c (.int .i64 4)),(2,1,.t 4)]),oS 3 2 0 3 5]
def UZ:qI:=⟨1,6,[.l 2 (some 3)],sr [oI 0 1 3 0,oZ3 1 2] (sr qLA .ret)⟩
def Ub:qI:=⟨0,2,[.l 0 (some 3)],sr [oZ3 0 0] (sr [oP 0 1 (.build (.agg [.int .i64 0,.str [],.nils]) [(0,1,.c (.int .i64 1))]),oS 1 0 0 3 1] .ret)⟩
def Uc:qI:=⟨1,5,[.l 2 (some 3)],sr [oZ3 0 2] (sr [oM 0 3 0,oP 1 4 (.build (.agg [.int .i64 0,.str [],.nils]) [(0,1,.c (.int .i64 2)),(1,1,.t 3)]),oS 2 2 0 3 4] .ret)⟩
def qEU:List qA:=[oM 0 5 0,oK 1 6 5,oF 2 7 2 6,oL 3 8 7,oJ 4 9 8,oM 5 10 9,oH 6 11 10 true 0,oG 7 12 10 true (.nilchk (.t 11)),oG 8 13 10 true (.faddr 1 (.t 12)),oGd 9 14 10 true 13,oH 10 15 10 true 0,oG 11 16 10 true (.nilchk (.t 15)),oG 12 17 10 true (.faddr 0 (.t 16)),oGd 13 18 10 true 17,oG 14 19 10 true (.len (.t 18)),oG 15 20 10 true (.bin .lss (.t 14) (.t 19)),oPf 16 21 10 20,oM 17 22 21,oH 18 23 22 true 0,oG 19 24 22 true (.nilchk (.t 23)),oG 20 25 22 true (.faddr 0 (.t 24)),oGd 21 26 22 true 25,oH 22 27 22 true 0,oG 23 28 22 true (.nilchk (.t 27)),oG 24 29 22 true (.faddr 1 (.t 28)),oGd 25 30 22 true 29,oG 26 31 22 true (.iaddr 3 (.t 26) (.t 30)),oG 27 32 22 true (.faddr 1 (.t 31)),oGd 28 33 22 true 32,oH 29 34 22 true 1,oG 30 35 22 true (.sop .eql (.t 33) (.t 34)),oPf 31 36 22 35,oM 32 4 36]
def VQ:qI:=⟨2,37,[.t 4],sr [oQ 0 4 false] (sr qEU .ret)⟩
def qQM:List qA:=[oM 0 5 0,oM 1 6 1,oD2 2 7 1108 5 6,oJ 3 8 7]
def qQN:List qA:=[oM 0 9 0,oK 1 10 9,oF 2 11 1 10,oL 3 12 11,oE 4 13 .add 12 1,oK 5 14 9,oF 6 15 1 14,oT 7 1 15 13]
def KB:qI:=⟨2,16,[.t 4],sr [oQ 0 4 false] (.seq (sr qQM (.cond (.t 8) (sr [oQ 0 4 false] .ret) .skip)) (sr qQN (sr [oQ 0 4 true] .ret)))⟩
def qE0:List qA:=[oM 0 5 0,oK 1 6 5,oF 2 7 2 6,oL 3 8 7,oJ 4 9 8,oM 5 10 9,oH 6 11 10 true 0,oG 7 12 10 true (.nilchk (.t 11)),oG 8 13 10 true (.faddr 1 (.t 12)),oGd 9 14 10 true 13,oH 10 15 10 true 0,oG 11 16 10 true (.nilchk (.t 15)),oG 12 17 10 true (.faddr 0 (.t 16)),oGd 13 18 10 true 17,oG 14 19 10 true (.len (.t 18)),oG 15 20 10 true (.bin .lss (.t 14) (.t 19)),oPf 16 21 10 20,oM 17 22 21,oH 18 23 22 true 0,oG 19 24 22 true (.nilchk (.t 23)),oG 20 25 22 true (.faddr 0 (.t 24)),oGd 21 26 22 true 25,oH 22 27 22 true 0,oG 23 28 22 true (.nilchk (.t 27)),oG 24 29 22 true (.faddr 1 (.t 28)),oGd 25 30 22 true 29,oG 26 31 22 true (.iaddr 3 (.t 26) (.t 30)),oG 27 32 22 true (.faddr 0 (.t 31)),oGd 28 33 22 true 32,oH 29 34 22 true 1,oG 30 35 22 true (.bin .eql (.t 33) (.t 34)),oPf 31 36 22 35,oM 32 4 36]
def VU:qI:=⟨2,37,[.t 4],sr [oQ 0 4 false] (sr qE0 .ret)⟩
def qRD:List qA:=[oM 0 5 0,oM 1 6 1,oD2 2 7 1185 5 6,oJ 3 8 7]
def qRE:List qA:=[oM 0 9 0,oK 1 10 9,oF 2 11 2 10,oN 3 (.store 1 (.t 11) (.c (.bool true)))]
def qRF:List qA:=[oM 0 12 0,oK 1 13 12,oF 2 14 1 13,oL 3 15 14,oE 4 16 .add 15 1,oK 5 17 12,oF 6 18 1 17,oT 7 1 18 16]
def qRG:List qA:=[oM 0 19 0,oK 1 20 19,oF 2 21 0 20,oL 3 22 21,oM 4 23 0,oK 5 24 23,oF 6 25 1 24,oL 7 26 25,oE 8 27 .sub 26 1,oA 9 28 3 22 27,oF 10 29 1 28,oL 11 30 29,oM 12 4 30]
def KF:qI:=⟨2,31,[.t 4],sr [oP 0 4 (.mov (.c (.str [])))] (.seq (sr qRD (.cond (.t 8) (sr qRE (sr [oP 0 4 (.mov (.c (.str [])))] .ret)) .skip)) (sr qRF (sr qRG .ret)))⟩
def qRH:List qA:=[oM 0 4 0,oM 1 5 1,oD2 2 6 737 4 5,oJ 3 7 6]
def qRI:List qA:=[oM 0 8 0,oK 1 9 8,oF 2 10 2 9,oN 3 (.store 1 (.t 10) (.c (.bool true)))]
def KG:qI:=⟨2,11,[],sr qRH (.cond (.t 7) (.reg true qRI) .skip)⟩
def qQK:List qA:=[oM 0 7 0,oD1 1 8 736 7,oD1 2 9 326 8,oS 3 2 0 3 9]
def qQL:List qA:=[oM 0 12 0,oD1 1 13 359 12,oZ3 2 3,oS 3 3 0 3 13]
def qQI:qG:=sr [oM 0 10 0,oP 1 11 (.call 737 [.t 10,.c (.str [40])])] (.cond (.t 11) (sr qQL (sr [oM 0 14 0,oP 1 15 (.call 872 [.t 14,.c (.str [41])])] (sr [oY 0 16 3 0 3,oS 1 2 0 3 16] .ret))) .skip)
def qQJ:qG:=.seq (sr [oM 0 19 4,oP 1 20 (.sop .eql (.t 19) (.c (.str [73,110,116])))] (.cond (.t 20) (sr [oP 0 21 (.call 328 []),oS 1 2 0 3 21] .ret) .skip)) (sr [oM 0 22 4,oD1 1 23 329 22,oS 2 2 0 3 23] .ret)
def WK:qI:=⟨1,24,[.l 2 (some 3)],sr [oZ3 0 2] (.seq (sr [oM 0 5 0,oP 1 6 (.call 737 [.t 5,.c (.str [33])])] (.cond (.t 6) (sr qQK .ret) .skip)) (.seq qQI (sr [oM 0 17 0,oP 1 18 (.call 871 [.t 17,.c (.int .i64 2)]),oM 2 4 18] qQJ)))⟩
def qL7:List qA:=[oM 0 4 0,oD1 1 5 736 4,oZ3 2 3,oS 3 3 0 3 5]
def qL8:List qA:=[oY 0 8 3 0 3,oM 1 9 0,oD1 2 10 359 9,oD2 3 11 327 8 10,oS 4 2 0 3 11]
def WH:qI:=⟨1,13,[.l 2 (some 3)],sr [oZ3 0 2] (sr qL7 (.seq (sr [oM 0 6 0,oP 1 7 (.call 737 [.t 6,.c (.str [45,62])])] (.cond (.t 7) (sr qL8 .ret) .skip)) (sr [oY 0 12 3 0 3,oS 1 2 0 3 12] .ret)))⟩
def qQO:List qA:=[oM 0 5 0,oK 1 6 5,oF 2 7 1 6,oL 3 8 7,oM 4 9 0,oK 5 10 9,oF 6 11 0 10,oL 7 12 11,oW 8 13 12,oB 9 14 .lss 8 13]
def qQP:List qA:=[oM 0 15 0,oK 1 16 15,oF 2 17 0 16,oL 3 18 17,oM 4 19 0,oK 5 20 19,oF 6 21 1 20,oL 7 22 21,oA 8 23 3 18 22,oF 9 24 2 23,oL 10 25 24,oM 11 4 25]
def KD:qI:=⟨2,28,[.t 4],sr [oC 0 4 0] (.seq (sr qQO (.cond (.t 14) (sr qQP .ret) .skip)) (sr [oM 0 26 1,oP 1 27 (.slen (.t 26)),oM 2 4 27] .ret))⟩
def qL9:List qA:=[oM 0 6 0,oK 1 7 6,oF 2 8 2 7,oL 3 9 8,oM 4 10 9,oH 5 11 10 false 0,oG 6 12 10 false (.nilchk (.t 11)),oG 7 13 10 false (.faddr 1 (.t 12)),oGd 8 14 10 false 13,oH 9 15 10 false 0,oG 10 16 10 false (.nilchk (.t 15)),oG 11 17 10 false (.faddr 0 (.t 16)),oGd 12 18 10 false 17,oG 13 19 10 false (.len (.t 18)),oG 14 20 10 false (.bin .lss (.t 14) (.t 19)),oPt 15 21 10 20]
def qMA:List qA:=[oM 0 22 0,oM 1 23 1,oD2 2 24 738 22 23,oM 3 4 24,oC 4 5 6]
def Uk:qI:=⟨2,25,[.t 4,.t 5],sr [oC 0 4 0,oC 1 5 0] (.seq (sr qL9 (.cond (.t 21) (sr qMA .ret) .skip)) (sr [oC 0 4 0,oC 1 5 0] .ret))⟩
def qLS:List qA:=[oM 0 10 0,oW 1 11 10,oM 2 12 1,oW 3 13 12,oB 4 14 .neq 11 13]
def qLT:List qA:=[oM 0 19 17,oA 1 20 3 15 17,oLs 2 21 3 20,oZ3 3 8,oM 4 7 19,oS 5 8 0 3 21]
def qLU:List qA:=[oM 0 22 1,oM 1 23 7,oA 2 24 3 22 23,oLs 3 25 3 24,oZ3 4 9,oS 5 9 0 3 25]
def qLV:List qA:=[oM 0 26 2,oY 1 27 8 0 3,oY 2 28 9 0 3,oP 3 29 (.callv (.t 26) [.t 27,.t 28]),oJ 4 30 29]
def qLQ:qG:=sr [oB 0 18 .lss 17 16] (.seq (.cond (.t 18) .skip (.exit 0)) (.seq (.blk 1 (sr qLT (sr qLU (sr qLV (.cond (.t 30) (sr [oQ 0 6 false] .ret) .skip))))) (.reg true [oE 0 31 .add 17 1,oM 1 17 31])))
def qLR:qG:=.seq (sr qLS (.cond (.t 14) (sr [oQ 0 6 false] .ret) .skip)) (.seq (sr [oM 0 15 0,oW 1 16 15,oC 2 17 0] (.blk 0 (.loop qLQ))) (sr [oQ 0 6 true] .ret))
def Ue:qI:=⟨3,32,[.t 6],sr [oQ 0 6 false] qLR⟩
def qQQ:List qA:=[oU 0 5 2,oX 1 6 2 0,oU 2 7 3,oX 3 8 3 0,oB 4 9 .eql 6 8,oM 5 10 9,oGn 6 11 10 true 2,oGl 7 12 10 true 2 1,oGn 8 13 10 true 3,oGl 9 14 10 true 3 1,oG 10 15 10 true (.sop .eql (.t 12) (.t 14)),oPf 11 16 10 15,oM 12 17 16,oGn 13 18 17 true 2,oGl 14 19 17 true 2 2,oGn 15 20 17 true 3,oGl 16 21 17 true 3 2,oG 17 22 17 true (.call 332 [.t 19,.t 21,.f 73]),oPf 18 23 17 22,oM 19 4 23]
def F73:qI:=⟨2,24,[.t 4],sr [oI 0 2 3 0,oI 1 3 3 1,oQ 2 4 false] (sr qQQ .ret)⟩
def qP3:List qA:=[oY 0 6 1 0 3,oD1 1 7 336 6,oR' 2 8 [40] 7,oR 3 9 8 [41],oM 4 2 9]
def qP2:qG:=.seq (sr [oU 0 3 1,oX 1 4 1 0,oE 2 5 .eql 4 3] (.cond (.t 5) (sr qP3 .ret) .skip)) (sr [oY 0 10 1 0 3,oD1 1 11 336 10,oM 2 2 11] .ret)
def U6:qI:=⟨1,12,[.t 2],sr [oI 0 1 3 0,oP 1 2 (.mov (.c (.str [])))] qP2⟩
def qL0:List qA:=[oM 0 10 3,oU 1 11 1,oX 2 12 1 2,oP 3 13 (.iaddr 3 (.t 12) (.c (.int .i64 0))),oLs 4 14 3 13,oU 7 17 1,oX 8 18 1 2,oP 9 19 (.iaddr 3 (.t 18) (.c (.int .i64 1))),oLs 10 20 3 19,⟨5,some 15,none,.callv (.t 10) [.t 14],[⟨10,some 20,none,.load (some 3) (.t 19),[]⟩]⟩,oR 6 16 15 [32,45,62,32],oD1 11 21 336 20,oq 12 22 16 21,oM 13 2 22]
def qL1:List qA:=[oM 0 25 3,oU 1 26 1,oX 2 27 1 2,oP 3 28 (.iaddr 3 (.t 27) (.c (.int .i64 0))),oLs 4 29 3 28,oP 5 30 (.callv (.t 25) [.t 29]),oR' 6 31 [33] 30,oM 7 2 31]
def qLY:qG:=.cond (.t 6) (sr [oP 0 2 (.mov (.c (.str [73,110,116])))] .ret) (sr [oE 0 9 .eql 5 3,oM 1 8 9] (.cond (.t 8) (sr qL0 .ret) (sr [oE 0 24 .eql 5 4,oM 1 23 24] (.cond (.t 23) (sr qL1 .ret) .skip))))
def qLZ:qG:=.seq (sr [oU 0 4 1,oX 1 5 1 0] (.blk 0 (sr [oE 0 7 .eql 5 1,oM 1 6 7] qLY))) (sr [oU 0 32 1,oX 1 33 1 1,oM 2 2 33] .ret)
def Ug:qI:=⟨1,34,[.t 2],sr [oI 0 1 3 0,oP 1 2 (.mov (.c (.str [])))] (sr [oP 0 3 (.mov (.f 723))] qLZ)⟩
def qDZ:qG:=sr [oE 0 9 .eql 4 4,oM 1 8 9] (.cond (.t 8) .skip (sr [oE 0 10 .eql 4 6,oM 1 8 10] (.cond (.t 8) .skip (.reg true [oE 0 11 .eql 4 10,oM 1 8 11]))))
def qD0:qG:=sr [oE 0 13 .eql 4 3,oM 1 12 13] (.cond (.t 12) .skip (sr [oE 0 14 .eql 4 5,oM 1 12 14] (.cond (.t 12) .skip (.reg true [oE 0 15 .eql 4 7,oM 1 12 15]))))
def qD1:qG:=.cond (.t 18) (sr [oC 0 2 2,oC 1 3 5] .ret) (sr [oE 0 21 .eql 4 11,oM 1 20 21] (.cond (.t 20) (sr [oC 0 2 3,oC 1 3 3] .ret) .skip))
def qD2:qG:=sr [oE 0 17 .eql 4 8,oM 1 16 17] (.cond (.t 16) (sr [oC 0 2 0,oC 1 3 3] .ret) (sr [oE 0 19 .eql 4 9,oM 1 18 19] qD1))
def qD3:qG:=.cond (.t 5) (sr [oC 0 2 0,oC 1 3 0] .ret) (.seq qDZ (.cond (.t 8) (sr [oC 0 2 1,oC 1 3 1] .ret) (.seq qD0 (.cond (.t 12) (sr [oC 0 2 2,oC 1 3 2] .ret) qD2))))
def qD4:qG:=.seq (sr [oM 0 4 0] (.blk 0 (.seq (sr [oE 0 6 .eql 4 1,oM 1 5 6] (.cond (.t 5) .skip (.reg true [oE 0 7 .eql 4 2,oM 1 5 7]))) qD3))) (sr [oC 0 2 0,oP 1 3 (.mov (.c (.int .i64 (-1))))] .ret)
def VM:qI:=⟨1,22,[.t 2,.t 3],sr [oC 0 2 0,oC 1 3 0] qD4⟩
def qGS:List qA:=[oU 0 3 1,oX 1 4 1 0,oE 2 5 .eql 4 0,oM 3 6 5,oGn 4 7 6 true 1,oGl 5 8 6 true 1 1,oG 6 9 6 true (.sop .eql (.t 8) (.c (.str []))),oPf 7 10 6 9,oM 8 11 10,oGn 9 12 11 true 1,oGl 10 13 11 true 1 2,oG 11 14 11 true (.len (.t 13)),oGe 12 15 11 true .eql 14 0,oPf 13 16 11 15,oM 14 2 16]
def Vs:qI:=⟨1,17,[.t 2],sr [oI 0 1 3 0,oQ 1 2 false] (sr qGS .ret)⟩
def qQC:List qA:=[oM 0 6 0,oW 1 7 6,oE 2 8 .sub 7 1,oM 3 5 8]
def qQD:List qA:=[oM 0 13 0,oM 1 14 5,oA 2 15 1 13 14,oL 3 16 15,oM 4 17 1,oP 5 18 (.sop .eql (.t 16) (.t 17))]
def qQB:qG:=.seq (sr [oM 0 9 5,oE 1 10 .geq 9 0] (.cond (.t 10) .skip (.exit 0))) (.seq (.blk 1 (sr qQD (.cond (.t 18) (sr [oM 0 19 5,oM 1 4 19] .ret) .skip))) (.reg true [oM 0 11 5,oE 1 12 .sub 11 1,oM 2 5 12]))
def U8:qI:=⟨2,20,[.t 4],sr [oC 0 4 0] (.seq (sr qQC (.blk 0 (.loop qQB))) (sr [oP 0 4 (.mov (.c (.int .i64 (-1))))] .ret))⟩
def qGU:List qA:=[oM 0 4 3,oM 1 5 0,oW 2 6 5,oB 3 7 .lss 4 6]
def qGV:List qA:=[oM 0 10 0,oM 1 11 3,oA 2 12 1 10 11,oL 3 13 12,oD1 4 14 1237 13,oJ 5 15 14,oM 6 16 15,oH 7 17 16 false 0,oH 8 18 16 false 3,oG 9 19 16 false (.slc 1 (.t 17) none (some (.t 18)) none),oH 10 20 16 false 0,oH 11 21 16 false 3,oG 12 22 16 false (.iaddr 1 (.t 20) (.t 21)),oGd 13 23 16 false 22,oG 14 24 16 false (.call 729 [.t 19,.t 23]),oGe 15 25 16 false .geq 24 0,oPt 16 26 16 25]
def qGT:qG:=.loop (.seq (sr qGU (.cond (.t 7) .skip (.exit 0))) (.seq (.blk 1 (sr qGV (.cond (.t 26) (sr [oQ 0 2 false] .ret) .skip))) (.reg true [oM 0 8 3,oE 1 9 .add 8 1,oM 2 3 9])))
def Vt:qI:=⟨1,27,[.t 2],sr [oQ 0 2 false] (.seq (sr [oC 0 3 0] (.blk 0 qGT)) (sr [oQ 0 2 true] .ret))⟩
def qD7:List qA:=[oM 0 5 0,oK 1 6 5,oF 2 7 0 6,oL 3 8 7,oE 4 9 .eql 8 1,oM 5 10 9,oH 6 11 10 false 0,oG 7 12 10 false (.nilchk (.t 11)),oG 8 13 10 false (.faddr 0 (.t 12)),oGd 9 14 10 false 13,oGe 10 15 10 false .eql 14 4,oPt 11 16 10 15,oM 12 17 16,oH 13 18 17 false 0,oG 14 19 17 false (.nilchk (.t 18)),oG 15 20 17 false (.faddr 0 (.t 19)),oGd 16 21 17 false 20,oGe 17 22 17 false .eql 21 7,oPt 18 23 17 22,oM 19 3 23]
def qD8:List qA:=[oM 0 24 0,oK 1 25 24,oF 2 26 0 25,oL 3 27 26,oE 4 28 .eql 27 8,oM 5 29 28,oH 6 30 29 false 0,oG 7 31 29 false (.nilchk (.t 30)),oG 8 32 29 false (.faddr 0 (.t 31)),oGd 9 33 29 false 32,oGe 10 34 29 false .eql 33 10,oPt 11 35 29 34,oM 12 4 35]
def qEA:List qA:=[oM 0 36 3,oM 1 37 36,oH 2 38 37 true 0,oG 3 39 37 true (.nilchk (.t 38)),oG 4 40 37 true (.faddr 2 (.t 39)),oGd 5 41 37 true 40,oG 6 42 37 true (.call 1237 [.t 41]),oG 7 43 37 true (.not (.t 42)),oPf 8 44 37 43,oM 9 45 44,oH 10 46 45 false 4,oH 11 47 45 false 46,oH 12 48 47 true 0,oG 13 49 47 true (.nilchk (.t 48)),oG 14 50 47 true (.faddr 2 (.t 49)),oGd 15 51 47 true 50,oG 16 52 47 true (.call 921 [.t 51]),oG 17 53 47 true (.not (.t 52)),oG 18 54 45 false (.pick (.t 47) (.t 53) (.c (.bool false))),oPt 19 55 45 54,oM 20 56 55,oH 21 57 56 false 3,oG 22 58 56 false (.not (.t 57)),oH 23 59 56 false 58,oH 24 60 59 true 4,oG 25 61 59 true (.not (.t 60)),oG 26 62 56 false (.pick (.t 59) (.t 61) (.c (.bool false))),oH 27 63 56 false 62,oH 28 64 63 true 0,oG 29 65 63 true (.nilchk (.t 64)),oG 30 66 63 true (.faddr 2 (.t 65)),oGd 31 67 63 true 66,oG 32 68 63 true (.sop .neq (.t 67) (.c (.str []))),oG 33 69 56 false (.pick (.t 63) (.t 68) (.c (.bool false))),oPt 34 70 56 69]
def qEB:List qA:=[oM 0 71 0,oK 1 72 71,oF 2 73 0 72,oL 3 74 73,oE 4 75 .eql 74 4,oM 5 76 75,oH 6 77 76 true 0,oG 7 78 76 true (.nilchk (.t 77)),oG 8 79 76 true (.faddr 3 (.t 78)),oG 9 80 76 true (.load (some 3) (.t 79)),oG 10 81 76 true (.call 208 [.t 80]),oG 11 82 76 true (.not (.t 81)),oPf 12 83 76 82,oM 13 84 83,oH 14 85 84 false 0,oG 15 86 84 false (.nilchk (.t 85)),oG 16 87 84 false (.faddr 0 (.t 86)),oGd 17 88 84 false 87,oGe 18 89 84 false .neq 88 4,oH 19 90 84 false 89,oH 20 91 90 true 0,oG 21 92 90 true (.nilchk (.t 91)),oG 22 93 90 true (.faddr 3 (.t 92)),oG 23 94 90 true (.load (some 3) (.t 93)),oG 24 95 90 true (.call 1391 [.t 94]),oG 25 96 90 true (.not (.t 95)),oG 26 97 84 false (.pick (.t 90) (.t 96) (.c (.bool false))),oPt 27 98 84 97]
def qEC:List qA:=[oM 0 99 0,oK 1 100 99,oF 2 101 0 100,oL 3 102 101,oE 4 103 .eql 102 10]
def qED:List qA:=[oM 0 104 0,oK 1 105 104,oF 2 106 6 105,oL 3 107 106,oW 4 108 107,oE 5 109 .gtr 108 3,oM 6 110 109,oH 7 111 110 false 0,oG 8 112 110 false (.nilchk (.t 111)),oG 9 113 110 false (.faddr 6 (.t 112)),oGd 10 114 110 false 113,oG 11 115 110 false (.call 1392 [.t 114]),oG 12 116 110 false (.not (.t 115)),oPt 13 117 110 116]
def qEE:List qA:=[oM 0 118 0,oK 1 119 118,oF 2 120 6 119,oL 3 121 120,oW 4 122 121,oE 5 123 .gtr 122 0]
def qEF:List qA:=[oM 0 124 0,oK 1 125 124,oF 2 126 0 125,oL 3 127 126]
def qEG:List qA:=[oM 0 130 0,oK 1 131 130,oF 2 132 1 131,oL 3 133 132,oP 4 134 (.call 340 [.t 133,.c (.int .i64 (-2147483648)),.c (.int .i64 2147483647)]),oM 5 2 134]
def qEH:List qA:=[oM 0 137 0,oK 1 138 137,oF 2 139 1 138,oL 3 140 139,oP 4 141 (.call 340 [.t 140,.c (.int .i64 1),.c (.int .i64 6)]),oM 5 2 141]
def qD5:qG:=sr qEF (.blk 0 (sr [oE 0 129 .eql 127 2,oM 1 128 129] (.cond (.t 128) (sr qEG .ret) (sr [oE 0 136 .eql 127 3,oM 1 135 136] (.cond (.t 135) (sr qEH .ret) .skip)))))
def qD9:List qA:=[oM 0 142 0,oK 1 143 142,oF 2 144 1 143,oL 3 145 144,oE 4 146 .eql 145 0,oM 5 2 146]
def qD6:qG:=.seq (sr qEB (.cond (.t 98) (sr [oQ 0 2 false] .ret) .skip)) (.seq (sr qEC (.cond (.t 103) (sr qED (.cond (.t 117) (sr [oQ 0 2 false] .ret) .skip)) (sr qEE (.cond (.t 123) (sr [oQ 0 2 false] .ret) .skip)))) (.seq qD5 (sr qD9 .ret)))
def VN:qI:=⟨1,147,[.t 2],sr [oQ 0 2 false] (sr qD7 (sr qD8 (.seq (sr qEA (.cond (.t 70) (sr [oQ 0 2 false] .ret) .skip)) qD6)))⟩
def qP6:List qA:=[oM 0 15 0,oK 1 16 15,oF 2 17 0 16,oL 3 18 17,oD1 4 19 1104 18,oM 5 14 19,oV 6 20 14 0,oV 7 21 14 1,oM 8 9 20,oM 9 10 21]
def qP7:List qA:=[oM 0 22 1,oE 1 23 .lss 22 1,oM 2 24 23,oH 3 25 24 false 3,oGe 4 26 24 false .lss 25 1,oPt 5 27 24 26,oM 6 28 27,oH 7 29 28 false 0,oG 8 30 28 false (.nilchk (.t 29)),oG 9 31 28 false (.faddr 0 (.t 30)),oGd 10 32 28 false 31,oGe 11 33 28 false .eql 32 10,oH 12 34 28 false 2,oG 13 35 28 false (.beq true (.t 33) (.t 34)),oPt 14 36 28 35,oM 15 37 36,oH 16 38 37 false 0,oG 17 39 37 false (.nilchk (.t 38)),oG 18 40 37 false (.faddr 7 (.t 39)),oGd 19 41 37 false 40,oG 20 42 37 false (.len (.t 41)),oH 21 43 37 false 9,oH 22 44 37 false 10,oG 23 45 37 false (.call 340 [.t 42,.t 43,.t 44]),oG 24 46 37 false (.not (.t 45)),oPt 25 47 37 46,oM 26 48 47,oH 27 49 48 false 0,oG 28 50 48 false (.call 1105 [.t 49]),oG 29 51 48 false (.not (.t 50)),oPt 30 52 48 51]
def qP8:List qA:=[oM 0 53 12,oM 1 54 0,oK 2 55 54,oF 3 56 7 55,oL 4 57 56,oW 5 58 57,oB 6 59 .lss 53 58]
def qP9:List qA:=[oM 0 62 0,oK 1 63 62,oF 2 64 7 63,oL 3 65 64,oM 4 66 12,oA 5 67 8 65 66,oM 6 68 1,oE 7 69 .sub 68 1,oM 8 70 0,oK 9 71 70,oF 10 72 0 71,oL 11 73 72,oE 12 74 .eql 73 9,oM 13 75 74,oH 14 76 75 true 12,oGe 15 77 75 true .gtr 76 0,oPf 16 78 75 77,oM 17 79 3,oM 18 80 11,oB 19 81 .sub 79 80,oP 20 82 (.call 728 [.t 67,.t 69,.t 78,.t 81]),oM 21 13 82]
def qQA:List qA:=[oM 0 85 11,oM 1 86 13,oB 2 87 .add 85 86,oM 3 11 87]
def qP4:qG:=.seq (.blk 1 (sr qP9 (.seq (sr [oM 0 83 13,oE 1 84 .lss 83 0] (.cond (.t 84) (sr [oP 0 8 (.mov (.c (.int .i64 (-1))))] .ret) .skip)) (.reg true qQA)))) (.reg true [oM 0 60 12,oE 1 61 .add 60 1,oM 2 12 61])
def qP5:qG:=sr [oC 0 11 1] (.seq (sr [oC 0 12 0] (.blk 0 (.loop (.seq (sr qP8 (.cond (.t 59) .skip (.exit 0))) qP4)))) (sr [oM 0 88 11,oM 1 8 88] .ret))
def U7:qI:=⟨4,89,[.t 8],sr [oC 0 8 0] (sr qP6 (.seq (sr qP7 (.cond (.t 52) (sr [oP 0 8 (.mov (.c (.int .i64 (-1))))] .ret) .skip)) qP5))⟩
def qL3:List qA:=[oM 0 3 0,oP 1 4 (.call 728 [.t 3,.c (.int .i64 24),.c (.bool false),.c (.int .i64 160)]),oE 2 5 .gtr 4 0,oM 3 2 5]
def Ui:qI:=⟨1,6,[.t 2],sr [oQ 0 2 false] (sr qL3 .ret)⟩
def V6:qI:=⟨0,2,[.t 0],sr [oP 0 0 (.mov (.c (.nils)))] (sr [oP 0 1 (.bslice 1 (.str []) 6 [(0,.c (.str [43])),(1,.c (.str [45])),(2,.c (.str [42])),(3,.c (.str [47])),(4,.c (.str [60])),(5,.c (.str [61]))]),oM 1 0 1] .ret)⟩
def qHB:List qA:=[oM 0 4 3,oP 1 5 (.call 1470 []),oW 2 6 5,oB 3 7 .lss 4 6]
def qHC:List qA:=[oP 0 10 (.call 1470 []),oM 1 11 3,oA 2 12 1 10 11,oL 3 13 12,oM 4 14 0,oP 5 15 (.sop .eql (.t 13) (.t 14))]
def qHA:qG:=.seq (.blk 1 (sr qHC (.cond (.t 15) (sr [oM 0 16 3,oE 1 17 .add 16 1,oM 2 2 17] .ret) .skip))) (.reg true [oM 0 8 3,oE 1 9 .add 8 1,oM 2 3 9])
def Vx:qI:=⟨1,18,[.t 2],sr [oC 0 2 0] (.seq (sr [oC 0 3 0] (.blk 0 (.loop (.seq (sr qHB (.cond (.t 7) .skip (.exit 0))) qHA)))) (sr [oC 0 2 0] .ret))⟩
def qE5:List qA:=[oM 0 8 0,oK 1 9 8,oF 2 10 2 9,oL 3 11 10,oM 4 12 11,oH 5 13 12 false 0,oG 6 14 12 false (.nilchk (.t 13)),oG 7 15 12 false (.faddr 1 (.t 14)),oGd 8 16 12 false 15,oH 9 17 12 false 0,oG 10 18 12 false (.nilchk (.t 17)),oG 11 19 12 false (.faddr 0 (.t 18)),oGd 12 20 12 false 19,oG 13 21 12 false (.len (.t 20)),oG 14 22 12 false (.bin .geq (.t 16) (.t 21)),oPt 15 23 12 22]
def qE6:List qA:=[oM 0 24 0,oK 1 25 24,oF 2 26 0 25,oL 3 27 26,oM 4 28 0,oK 5 29 28,oF 6 30 1 29,oL 7 31 30,oA 8 32 3 27 31,oF 9 33 1 32,oL 10 34 33,oD1 11 35 1424 34,oM 12 7 35]
def qE7:List qA:=[oM 0 36 7,oM 1 37 1,oM 2 38 2,oP 3 39 (.call 340 [.t 36,.t 37,.t 38]),oJ 4 40 39]
def qE8:List qA:=[oM 0 41 0,oK 1 42 41,oF 2 43 1 42,oL 3 44 43,oE 4 45 .add 44 1,oK 5 46 41,oF 6 47 1 46,oT 7 1 47 45]
def qE4:qG:=.seq (sr qE5 (.cond (.t 23) (sr [oC 0 6 0] .ret) .skip)) (sr qE6 (.seq (sr qE7 (.cond (.t 40) (sr [oC 0 6 0] .ret) .skip)) (sr qE8 (sr [oM 0 48 7,oM 1 6 48] .ret))))
def VW:qI:=⟨3,49,[.t 6],sr [oC 0 6 0] qE4⟩
def qGP:List qA:=[oM 0 3 0,oK 1 4 3,oF 2 5 2 4,oL 3 6 5]
def Vq:qI:=⟨1,10,[.l 2 (some 8)],sr [oZ8 0 2] (.seq (sr qGP (.cond (.t 6) (sr [oB8 0 7 [],oS 1 2 0 8 7] .ret) .skip)) (sr [oM 0 8 0,oD1 1 9 509 8,oS 2 2 0 8 9] .ret))⟩
def qI0:List qA:=[oM 0 4 0,oP 1 5 (.call 871 [.t 4,.c (.int .i64 2)]),oB8 2 6 [(0,1,.c (.int .i64 8)),(2,1,.t 5)],oZ8 3 3,oS 4 3 0 8 6]
def qI1:List qA:=[oU 0 11 3,oX 1 12 3 7,oM 2 13 0,oD1 3 14 509 13,oN8 4 15 14,oO 5 16 8 12 15,oU 6 17 3,oS 7 3 7 1 16]
def qI2:List qA:=[oU 0 20 3,oX 1 21 3 7,oM 2 22 0,oD1 3 23 509 22,oN8 4 24 23,oO 5 25 8 21 24,oU 6 26 3,oS 7 3 7 1 25]
def qIY:qG:=.seq (.blk 0 (.loop (.seq (sr [oM 0 18 0,oP 1 19 (.call 737 [.t 18,.c (.str [44])])] (.cond (.t 19) .skip (.exit 0))) (.blk 1 (.reg true qI2))))) (sr [oM 0 27 0,oP 1 28 (.call 872 [.t 27,.c (.str [93])])] (sr [oY 0 29 3 0 8,oS 1 2 0 8 29] .ret))
def qIZ:qG:=sr qI0 (.seq (sr [oM 0 7 0,oP 1 8 (.call 737 [.t 7,.c (.str [91])]),oJ 2 9 8] (.cond (.t 9) (sr [oY 0 10 3 0 8,oS 1 2 0 8 10] .ret) .skip)) (sr qI1 qIY))
def UH:qI:=⟨1,30,[.l 2 (some 8)],sr [oZ8 0 2] qIZ⟩
def qI5:List qA:=[oM 0 10 7,oM 1 11 5,oP 2 12 (.slen (.t 11)),oB 3 13 .lss 10 12]
def qI6:List qA:=[oM 0 16 6,oP 1 17 (.bin .mul (.c (.int .i64 10)) (.t 16)),oM 2 18 5,oM 3 19 7,oP 4 20 (.sidx (.t 18) (.t 19)),oP 5 21 (.bin .sub (.t 20) (.c (.int .u8 48))),oP 6 22 (.conv .i64 (.t 21)),oB 7 23 .add 17 22,oM 8 6 23]
def qI3:qG:=sr [oC 0 7 0] (.blk 0 (.loop (.seq (sr qI5 (.cond (.t 13) .skip (.exit 0))) (.seq (.blk 1 (.reg true qI6)) (.reg true [oM 0 14 7,oE 1 15 .add 14 1,oM 2 7 15])))))
def qI7:List qA:=[oM 0 27 0,oK 1 28 27,oF 2 29 1 28,oL 3 30 29,oE 4 31 .sub 30 1,oK 5 32 27,oF 6 33 1 32,oT 7 1 33 31]
def qI8:List qA:=[oM 0 34 0,oK 1 35 34,oF 2 36 2 35,oN 3 (.store 1 (.t 36) (.c (.bool true)))]
def qI4:qG:=.seq (sr [oM 0 24 6,oM 1 25 1,oB 2 26 .gtr 24 25] (.cond (.t 26) (sr qI7 (.reg true qI8)) .skip)) (sr [oM 0 37 6,oM 1 4 37] .ret)
def UI:qI:=⟨2,38,[.t 4],sr [oC 0 4 0] (sr [oM 0 8 0,oP 1 9 (.call 871 [.t 8,.c (.int .i64 4)]),oM 2 5 9] (sr [oC 0 6 0] (.seq qI3 qI4)))⟩
def qJR:List qA:=[oM 0 4 0,oP 1 5 (.call 871 [.t 4,.c (.int .i64 2)]),oB8 2 6 [(0,1,.c (.int .i64 10)),(2,1,.t 5)],oZ8 3 3,oS 4 3 0 8 6]
def qJS:List qA:=[oU 0 9 3,oX 1 10 3 6,oM 2 11 0,oP 3 12 (.call 871 [.t 11,.c (.int .i64 1)]),oN1 4 13 12,oO 5 14 1 10 13,oU 6 15 3,oS 7 3 6 1 14]
def qJT:List qA:=[oU 0 18 3,oX 1 19 3 6,oM 2 20 0,oP 3 21 (.call 871 [.t 20,.c (.int .i64 1)]),oN1 4 22 21,oO 5 23 1 19 22,oU 6 24 3,oS 7 3 6 1 23]
def qJP:qG:=.seq (.blk 0 (.loop (.seq (sr [oM 0 16 0,oP 1 17 (.call 737 [.t 16,.c (.str [44])])] (.cond (.t 17) .skip (.exit 0))) (.blk 1 (.reg true qJT))))) (.reg true [oM 0 25 0,oP 1 26 (.call 872 [.t 25,.c (.str [93])])])
def qJU:List qA:=[oM 0 29 0,oD1 1 30 1333 29,oN8 2 31 30,oU 3 32 3,oS 4 3 7 1 31]
def qJQ:qG:=.seq (sr [oM 0 7 0,oP 1 8 (.call 737 [.t 7,.c (.str [91])])] (.cond (.t 8) (sr qJS qJP) .skip)) (sr [oM 0 27 0,oP 1 28 (.call 872 [.t 27,.c (.str [45,62])])] (sr qJU (sr [oY 0 33 3 0 8,oS 1 2 0 8 33] .ret)))
def UO:qI:=⟨1,34,[.l 2 (some 8)],sr [oZ8 0 2] (sr qJR qJQ)⟩
def qJA:List qA:=[oM 0 6 0,oD1 1 7 509 6,oN8 2 8 7,oB8 3 9 [(0,1,.c (.int .i64 9)),(7,1,.t 8)],oZ8 4 3,oS 5 3 0 8 9]
def qJB:List qA:=[oU 0 12 3,oX 1 13 3 7,oM 2 14 0,oD1 3 15 1559 14,oN8 4 16 15,oO 5 17 8 13 16,oU 6 18 3,oS 7 3 7 1 17]
def qJC:List qA:=[oU 0 21 3,oX 1 22 3 7,oM 2 23 0,oD1 3 24 1559 23,oN8 4 25 24,oO 5 26 8 22 25,oU 6 27 3,oS 7 3 7 1 26]
def qI9:qG:=.seq (.blk 0 (.loop (.seq (sr [oM 0 19 0,oP 1 20 (.call 737 [.t 19,.c (.str [59])])] (.cond (.t 20) .skip (.exit 0))) (.blk 1 (.reg true qJC))))) (sr [oM 0 28 0,oP 1 29 (.call 872 [.t 28,.c (.str [125])])] (sr [oY 0 30 3 0 8,oS 1 2 0 8 30] .ret))
def UJ:qI:=⟨1,31,[.l 2 (some 8)],sr [oZ8 0 2] (sr [oM 0 4 0,oP 1 5 (.call 872 [.t 4,.c (.str [109,97,116,99,104])])] (sr qJA (sr [oM 0 10 0,oP 1 11 (.call 872 [.t 10,.c (.str [123])])] (sr qJB qI9))))⟩
def qIJ:List qA:=[oM 0 7 0,oD1 1 8 1537 7,oN8 2 9 8,oB8 3 10 [(0,1,.c (.int .i64 6)),(7,1,.t 9)],oS 4 2 0 8 10]
def qIK:List qA:=[oM 0 14 0,oP 1 15 (.call 871 [.t 14,.c (.int .i64 1)]),oB8 2 16 [(0,1,.c (.int .i64 1)),(2,1,.t 15)],oS 3 2 0 8 16]
def qIL:List qA:=[oM 0 25 0,oP 1 26 (.call 1551 [.t 25,.c (.int .i64 2147483647)]),oB8 2 27 [(0,1,.c (.int .i64 2)),(1,1,.t 26)],oS 3 2 0 8 27]
def qIE:qG:=.cond (.t 22) (sr qIL .ret) (sr [oM 0 29 0,oP 1 30 (.call 1108 [.t 29,.c (.str [109,97,116,99,104])]),oM 2 28 30] (.cond (.t 28) (sr [oM 0 31 0,oD1 1 32 1552 31,oS 2 2 0 8 32] .ret) .skip))
def qIF:qG:=sr [oM 0 18 0,oP 1 19 (.call 1185 [.t 18,.c (.int .i64 2)]),oM 2 17 19] (.cond (.t 17) (sr [oM 0 20 0,oD1 1 21 1550 20,oS 2 2 0 8 21] .ret) (sr [oM 0 23 0,oP 1 24 (.call 1185 [.t 23,.c (.int .i64 4)]),oM 2 22 24] qIE))
def qIM:List qA:=[oM 0 41 3,oP 1 42 (.neg (.t 41)),oB8 2 43 [(0,1,.c (.int .i64 2)),(1,1,.t 42)],oS 3 2 0 8 43]
def qIG:qG:=sr [oM 0 35 0,oP 1 36 (.call 737 [.t 35,.c (.str [45])])] (.cond (.t 36) (sr [oM 0 37 0,oP 1 38 (.call 1551 [.t 37,.c (.int .i64 2147483648)]),oM 2 3 38] (sr [oM 0 39 0,oP 1 40 (.call 872 [.t 39,.c (.str [41])])] (sr qIM .ret))) .skip)
def qIN:List qA:=[oM 0 44 0,oD1 1 45 1333 44,oZ8 2 4,oS 3 4 0 8 45]
def qIH:qG:=sr [oM 0 33 0,oP 1 34 (.call 872 [.t 33,.c (.str [40])])] (.seq qIG (sr qIN (sr [oM 0 46 0,oP 1 47 (.call 872 [.t 46,.c (.str [41])])] (sr [oY 0 48 4 0 8,oS 1 2 0 8 48] .ret))))
def qII:qG:=.seq (sr [oM 0 5 0,oP 1 6 (.call 737 [.t 5,.c (.str [33])])] (.cond (.t 6) (sr qIJ .ret) .skip)) (.seq (.blk 0 (sr [oM 0 12 0,oP 1 13 (.call 1185 [.t 12,.c (.int .i64 1)]),oM 2 11 13] (.cond (.t 11) (sr qIK .ret) qIF))) qIH)
def UD:qI:=⟨1,49,[.l 2 (some 8)],sr [oZ8 0 2] qII⟩
def qIO:List qA:=[oM 0 3 0,oP 1 4 (.call 1185 [.t 3,.c (.int .i64 1)]),oM 2 5 4,oH 3 6 5 false 0,oG 4 7 5 false (.call 1185 [.t 6,.c (.int .i64 2)]),oPt 5 8 5 7,oM 6 9 8,oH 7 10 9 false 0,oG 8 11 9 false (.call 1185 [.t 10,.c (.int .i64 4)]),oPt 9 12 9 11,oM 10 13 12,oH 11 14 13 false 0,oG 12 15 13 false (.call 1108 [.t 14,.c (.str [40])]),oPt 13 16 13 15,oM 14 17 16,oH 15 18 17 false 0,oG 16 19 17 false (.call 1108 [.t 18,.c (.str [33])]),oPt 17 20 17 19,oM 18 21 20,oH 19 22 21 false 0,oG 20 23 21 false (.call 1108 [.t 22,.c (.str [109,97,116,99,104])]),oPt 21 24 21 23,oM 22 2 24]
def UE:qI:=⟨1,25,[.t 2],sr [oQ 0 2 false] (sr qIO .ret)⟩
def qH9:List qA:=[oM 0 4 0,oD1 1 5 1537 4,oZ8 2 3,oS 3 3 0 8 5]
def qIA:List qA:=[oY 0 8 3 0 8,oM 1 9 0,oD1 2 10 1537 9,oP 3 11 (.bslice 8 (.agg [.int .i64 0,.int .i64 0,.str [],.int .i64 0,.str [],.nils,.nils,.nils]) 2 [(0,.t 8),(1,.t 10)]),oB8 4 12 [(0,1,.c (.int .i64 5)),(7,1,.t 11)],oS 5 3 0 8 12]
def qH8:qG:=.seq (.blk 0 (.loop (.seq (sr [oM 0 6 0,oD1 1 7 1538 6] (.cond (.t 7) .skip (.exit 0))) (.blk 1 (.reg true qIA))))) (sr [oY 0 13 3 0 8,oS 1 2 0 8 13] .ret)
def UA:qI:=⟨1,14,[.l 2 (some 8)],sr [oZ8 0 2] (sr qH9 qH8)⟩
def qG8:List qA:=[oM 0 5 0,oD1 1 6 1510 5,oZ8 2 3,oS 3 3 0 8 6]
def qG9:List qA:=[oM 0 12 4,oY 1 13 3 0 8,oM 2 14 0,oD1 3 15 1510 14,oP 4 16 (.bslice 8 (.agg [.int .i64 0,.int .i64 0,.str [],.int .i64 0,.str [],.nils,.nils,.nils]) 2 [(0,.t 13),(1,.t 15)]),oB8 5 17 [(0,1,.c (.int .i64 3)),(1,1,.t 12),(7,1,.t 16)],oS 6 3 0 8 17]
def qG7:qG:=sr [oM 0 7 0,oP 1 8 (.call 1187 [.t 7,.c (.int .i64 3),.c (.int .i64 4)]),oM 2 4 8] (.seq (sr [oM 0 9 4,oE 1 10 .eql 9 0] (.cond (.t 10) (sr [oY 0 11 3 0 8,oS 1 2 0 8 11] .ret) .skip)) (.reg true qG9))
def Vw:qI:=⟨1,18,[.l 2 (some 8)],sr [oZ8 0 2] (sr qG8 (.blk 0 (.loop (.blk 1 qG7))))⟩
def qE2:List qA:=[oM 0 5 0,oD1 1 6 1423 5,oZ8 2 3,oS 3 3 0 8 6]
def qE3:List qA:=[oM 0 12 4,oY 1 13 3 0 8,oM 2 14 0,oD1 3 15 1423 14,oP 4 16 (.bslice 8 (.agg [.int .i64 0,.int .i64 0,.str [],.int .i64 0,.str [],.nils,.nils,.nils]) 2 [(0,.t 13),(1,.t 15)]),oB8 5 17 [(0,1,.c (.int .i64 3)),(1,1,.t 12),(7,1,.t 16)],oS 6 3 0 8 17]
def qE1:qG:=sr [oM 0 7 0,oP 1 8 (.call 1187 [.t 7,.c (.int .i64 1),.c (.int .i64 2)]),oM 2 4 8] (.seq (sr [oM 0 9 4,oE 1 10 .eql 9 0] (.cond (.t 10) (sr [oY 0 11 3 0 8,oS 1 2 0 8 11] .ret) .skip)) (.reg true qE3))
def VV:qI:=⟨1,18,[.l 2 (some 8)],sr [oZ8 0 2] (sr qE2 (.blk 0 (.loop (.blk 1 qE1))))⟩
def qRK:List qA:=[oM 0 5 0,oD1 1 6 1186 5,oZ8 2 3,oS 3 3 0 8 6]
def qRL:List qA:=[oM 0 12 4,oY 1 13 3 0 8,oM 2 14 0,oD1 3 15 1186 14,oP 4 16 (.bslice 8 (.agg [.int .i64 0,.int .i64 0,.str [],.int .i64 0,.str [],.nils,.nils,.nils]) 2 [(0,.t 13),(1,.t 15)]),oB8 5 17 [(0,1,.c (.int .i64 3)),(1,1,.t 12),(7,1,.t 16)],oS 6 2 0 8 17]
def qRJ:qG:=sr [oM 0 7 0,oP 1 8 (.call 1187 [.t 7,.c (.int .i64 5),.c (.int .i64 6)]),oM 2 4 8] (.seq (sr [oM 0 9 4,oE 1 10 .eql 9 0] (.cond (.t 10) (sr [oY 0 11 3 0 8,oS 1 2 0 8 11] .ret) .skip)) (sr qRL .ret))
def KH:qI:=⟨1,18,[.l 2 (some 8)],sr [oZ8 0 2] (sr qRK qRJ)⟩
def qMS:List qA:=[oM 0 9 0,oP 1 10 (.call 871 [.t 9,.c (.int .i64 1)]),oB8 2 11 [(0,1,.c (.int .i64 4)),(2,1,.t 10)],oZ8 3 3,oS 4 3 0 8 11]
def qMT:List qA:=[oM 0 14 0,oD1 1 15 359 14,oU 2 16 3,oS 3 3 3 3 15]
def qMV:List qA:=[oM 0 19 0,oD1 1 20 509 19,oN8 2 21 20,oU 3 22 3,oS 4 3 7 1 21]
def qMQ:qG:=sr [oM 0 12 0,oP 1 13 (.call 872 [.t 12,.c (.str [58])])] (sr qMT (sr [oM 0 17 0,oP 1 18 (.call 872 [.t 17,.c (.str [46])])] (sr qMV (sr [oY 0 23 3 0 8,oS 1 2 0 8 23] .ret))))
def qMW:List qA:=[oM 0 27 0,oP 1 28 (.call 871 [.t 27,.c (.int .i64 1)]),oB8 2 29 [(0,1,.c (.int .i64 7)),(2,1,.t 28)],oZ8 3 4,oS 4 4 0 8 29]
def qMX:List qA:=[oU 0 32 4,oX 1 33 4 7,oM 2 34 0,oD1 3 35 509 34,oN8 4 36 35,oO 5 37 8 33 36,oU 6 38 4,oS 7 4 7 1 37]
def qMY:List qA:=[oU 0 41 4,oX 1 42 4 7,oM 2 43 0,oD1 3 44 509 43,oN8 4 45 44,oO 5 46 8 42 45,oU 6 47 4,oS 7 4 7 1 46]
def qMR:qG:=sr [oM 0 30 0,oP 1 31 (.call 872 [.t 30,.c (.str [61])])] (sr qMX (sr [oM 0 39 0,oP 1 40 (.call 872 [.t 39,.c (.str [105,110])])] (sr qMY (sr [oY 0 48 4 0 8,oS 1 2 0 8 48] .ret))))
def qMZ:List qA:=[oU 0 53 5,oX 1 54 5 7,oM 2 55 0,oD1 3 56 509 55,oN8 4 57 56,oO 5 58 8 54 57,oU 6 59 5,oS 7 5 7 1 58]
def qM0:List qA:=[oU 0 62 5,oX 1 63 5 7,oM 2 64 0,oD1 3 65 509 64,oN8 4 66 65,oO 5 67 8 63 66,oU 6 68 5,oS 7 5 7 1 67]
def qMU:List qA:=[oU 0 71 5,oX 1 72 5 7,oM 2 73 0,oD1 3 74 509 73,oN8 4 75 74,oO 5 76 8 72 75,oU 6 77 5,oS 7 5 7 1 76]
def qMN:qG:=sr [oM 0 60 0,oP 1 61 (.call 872 [.t 60,.c (.str [116,104,101,110])])] (sr qM0 (sr [oM 0 69 0,oP 1 70 (.call 872 [.t 69,.c (.str [101,108,115,101])])] (sr qMU (sr [oY 0 78 5 0 8,oS 1 2 0 8 78] .ret))))
def qMO:qG:=sr [oM 0 50 0,oP 1 51 (.call 737 [.t 50,.c (.str [105,102])]),oM 2 49 51] (.cond (.t 49) (sr [oB8 0 52 [(0,1,.c (.int .i64 11))],oZ8 1 5,oS 2 5 0 8 52] (sr qMZ qMN)) .skip)
def qMP:qG:=sr [oM 0 7 0,oP 1 8 (.call 737 [.t 7,.c (.str [92])]),oM 2 6 8] (.cond (.t 6) (sr qMS qMQ) (sr [oM 0 25 0,oP 1 26 (.call 737 [.t 25,.c (.str [108,101,116])]),oM 2 24 26] (.cond (.t 24) (sr qMW qMR) qMO)))
def Um:qI:=⟨1,81,[.l 2 (some 8)],sr [oZ8 0 2] (.seq (.blk 0 qMP) (sr [oM 0 79 0,oD1 1 80 873 79,oS 2 2 0 8 80] .ret))⟩
def qDK:List qA:=[oM 0 3 0,oE 1 4 .geq 3 1,oM 2 5 4,oH 3 6 5 true 0,oGe 4 7 5 true .leq 6 6,oPf 5 8 5 7,oM 6 2 8]
def VE:qI:=⟨1,9,[.t 2],sr [oQ 0 2 false] (sr qDK .ret)⟩
def qEV:List qA:=[oY 0 3 1 0 3,oP 1 4 (.build (.agg [.int .i64 0,.str [],.nils]) []),oD2 2 5 73 3 4,oM 3 2 5]
def VS:qI:=⟨1,6,[.t 2],sr [oI 0 1 3 0,oQ 1 2 false] (sr qEV .ret)⟩
def qEX:List qA:=[oM 0 9 7,oA 1 10 1 5 7,oL 2 11 10,oM 3 3 9,oM 4 4 11]
def qEY:List qA:=[oM 0 12 4,oD1 1 13 889 12,oJ 2 14 13,oM 3 15 14,oH 4 16 15 false 0,oH 5 17 15 false 3,oG 6 18 15 false (.slc 1 (.t 16) none (some (.t 17)) none),oH 7 19 15 false 4,oG 8 20 15 false (.call 732 [.t 18,.t 19]),oPt 9 21 15 20]
def qEW:qG:=sr [oB 0 8 .lss 7 6] (.seq (.cond (.t 8) .skip (.exit 0)) (.seq (.blk 1 (sr qEX (sr qEY (.cond (.t 21) (sr [oQ 0 2 false] .ret) .skip)))) (.reg true [oE 0 22 .add 7 1,oM 1 7 22])))
def qEZ:List qA:=[oM 0 23 0,oW 1 24 23,oE 2 25 .leq 24 3,oM 3 2 25]
def VT:qI:=⟨1,26,[.t 2],sr [oQ 0 2 false] (.seq (sr [oM 0 5 0,oW 1 6 5,oC 2 7 0] (.blk 0 (.loop qEW))) (sr qEZ .ret))⟩
def qQY:List qA:=[oU 0 8 1,oY 1 9 1 3 3,oD1 2 10 1143 9,oM 3 3 10]
def qQZ:List qA:=[oU 0 11 1,oX 1 12 1 0,oE 2 13 .neq 12 10,oM 3 14 13,oGn 4 15 14 true 1,oGl 5 16 14 true 1 6,oG 6 17 14 true (.len (.t 16)),oGe 7 18 14 true .gtr 17 0,oPf 8 19 14 18,oM 9 20 19,oGn 10 21 20 false 1,oGl 11 22 20 false 1 0,oGe 12 23 20 false .neq 22 4,oH 13 24 20 false 23,oH 14 25 24 true 3,oG 15 26 24 true (.not (.t 25)),oG 16 27 20 false (.pick (.t 24) (.t 26) (.c (.bool false))),oPt 17 28 20 27,oM 18 29 28,oGn 19 30 29 false 1,oGl 20 31 29 false 1 0,oGe 21 32 29 false .neq 31 2,oH 22 33 29 false 32,oGn 23 34 33 true 1,oGl 24 35 33 true 1 0,oGe 25 36 33 true .neq 35 3,oG 26 37 29 false (.pick (.t 33) (.t 36) (.c (.bool false))),oH 27 38 29 false 37,oGn 28 39 38 true 1,oGl 29 40 38 true 1 1,oGe 30 41 38 true .neq 40 0,oG 31 42 29 false (.pick (.t 38) (.t 41) (.c (.bool false))),oPt 32 43 29 42]
def qQ5:List qA:=[oU 0 44 1,oX 1 45 1 2,oP 2 46 (.sop .eql (.t 45) (.c (.str []))),oU 3 47 1,oX 4 48 1 2,oU 6 50 1,oX 7 51 1 2,oD1 5 49 889 48,oD1 8 52 717 51,oM 9 4 46,oM 10 5 49,oM 11 6 52]
def qQ6:List qA:=[oU 0 53 1,oX 1 54 1 7,oW 2 55 54,oM 3 7 55]
def qQ7:List qA:=[oM 0 60 5,oM 1 61 60,oH 2 62 61 true 7,oGe 3 63 61 true .eql 62 0,oPf 4 64 61 63,oM 5 2 64]
def qQ8:List qA:=[oM 0 67 4,oM 1 68 67,oH 2 69 68 true 7,oGe 3 70 68 true .eql 69 0,oPf 4 71 68 70,oM 5 72 71,oGn 6 73 72 true 1,oGl 7 74 72 true 1 1,oG 8 75 72 true (.call 1051 [.t 74]),oPf 9 76 72 75,oM 10 2 76]
def qQ9:List qA:=[oM 0 79 4,oM 1 80 79,oH 2 81 80 true 7,oGe 3 82 80 true .eql 81 2,oPf 4 83 80 82,oM 5 84 83,oGn 6 85 84 true 1,oGl 7 86 84 true 1 1,oG 8 87 84 true (.call 1050 [.t 86]),oPf 9 88 84 87,oM 10 2 88]
def qRA:List qA:=[oM 0 91 5,oM 1 92 91,oH 2 93 92 true 7,oGe 3 94 92 true .eql 93 1,oPf 4 95 92 94,oM 5 96 95,oGn 6 97 96 true 1,oG 7 98 96 true (.lload 1 3 (some 3)),oG 8 99 96 true (.call 74 [.t 98]),oPf 9 100 96 99,oM 10 2 100]
def qRB:List qA:=[oM 0 103 4,oM 1 104 103,oH 2 105 104 true 7,oGe 3 106 104 true .eql 105 2,oPf 4 107 104 106,oM 5 2 107]
def qRC:List qA:=[oM 0 110 4,oM 1 111 110,oH 2 112 111 true 7,oGe 3 113 111 true .eql 112 1,oPf 4 114 111 113,oM 5 2 114]
def qQ0:List qA:=[oM 0 117 5,oM 1 118 117,oH 2 119 118 true 7,oGe 3 120 118 true .eql 119 2,oPf 4 121 118 120,oM 5 2 121]
def qQ1:List qA:=[oM 0 124 6,oM 1 125 124,oH 2 126 125 true 7,oGe 3 127 125 true .leq 126 3,oPf 4 128 125 127,oM 5 2 128]
def qQ2:List qA:=[oM 0 131 4,oM 1 132 131,oH 2 133 132 true 7,oGe 3 134 132 true .geq 133 2,oPf 4 135 132 134,oM 5 136 135,oH 6 137 136 true 7,oGe 7 138 136 true .leq 137 5,oPf 8 139 136 138,oM 9 2 139]
def qQ3:List qA:=[oM 0 142 6,oM 1 143 142,oH 2 144 143 true 7,oGe 3 145 143 true .eql 144 1,oPf 4 146 143 145,oM 5 147 146,oGn 6 148 147 true 1,oGl 7 149 147 true 1 6,oG 8 150 147 true (.call 1144 [.t 149]),oPf 9 151 147 150,oM 10 2 151]
def qQ4:List qA:=[oM 0 154 4,oM 1 155 154,oH 2 156 155 true 7,oGe 3 157 155 true .eql 156 3,oPf 4 158 155 157,oM 5 2 158]
def qQT:qG:=.cond (.t 129) (sr qQ2 .ret) (sr [oE 0 141 .eql 57 10,oM 1 140 141] (.cond (.t 140) (sr qQ3 .ret) (sr [oE 0 153 .eql 57 11,oM 1 152 153] (.cond (.t 152) (sr qQ4 .ret) .skip))))
def qQU:qG:=sr [oE 0 116 .eql 57 7,oM 1 115 116] (.cond (.t 115) (sr qQ0 .ret) (sr [oE 0 123 .eql 57 8,oM 1 122 123] (.cond (.t 122) (sr qQ1 .ret) (sr [oE 0 130 .eql 57 9,oM 1 129 130] qQT))))
def qQV:qG:=.cond (.t 89) (sr qRA .ret) (sr [oE 0 102 .eql 57 5,oM 1 101 102] (.cond (.t 101) (sr qRB .ret) (sr [oE 0 109 .eql 57 6,oM 1 108 109] (.cond (.t 108) (sr qRC .ret) qQU))))
def qQW:qG:=sr [oE 0 66 .eql 57 2,oM 1 65 66] (.cond (.t 65) (sr qQ8 .ret) (sr [oE 0 78 .eql 57 3,oM 1 77 78] (.cond (.t 77) (sr qQ9 .ret) (sr [oE 0 90 .eql 57 4,oM 1 89 90] qQV))))
def qQX:qG:=.seq (sr [oU 0 56 1,oX 1 57 1 0] (.blk 0 (sr [oE 0 59 .eql 57 1,oM 1 58 59] (.cond (.t 58) (sr qQ7 .ret) qQW)))) (sr [oQ 0 2 false] .ret)
def KE:qI:=⟨1,159,[.t 2],sr [oI 0 1 8 0,oQ 1 2 false] (sr qQY (.seq (sr qQZ (.cond (.t 43) (sr [oQ 0 2 false] .ret) .skip)) (sr qQ5 (sr qQ6 qQX))))⟩
def qMG:List qA:=[oI 0 1 8 0,oC 1 2 0,oC 2 3 0,oQ 3 4 false]
def qMH:List qA:=[oU 0 13 1,oX 1 14 1 7,oW 2 15 14,oC 3 16 0]
def qMI:List qA:=[oM 0 18 16,oA 1 19 8 14 16,oLs 2 20 8 19,oZ8 3 6,oM 4 5 18,oS 5 6 0 8 20]
def qMJ:List qA:=[oU 0 21 6,oX 1 22 6 0,oE 2 23 .eql 22 10,oU 3 24 1,oX 4 25 1 0,oE 5 26 .eql 25 9,oM 6 27 26,oH 7 28 27 true 5,oGe 8 29 27 true .gtr 28 0,oPf 9 30 27 29,oP 10 31 (.beq true (.t 23) (.t 30))]
def qMK:List qA:=[oY 0 33 6 0 8,oD1 1 34 445 33,oM 2 32 34,oV 3 35 32 0,oV 4 36 32 1,oV 5 37 32 2,oM 6 7 35,oM 7 8 36,oM 8 9 37]
def qML:List qA:=[oM 0 40 2,oM 1 41 7,oE 2 42 .add 41 1,oP 3 43 (.max (.t 40) (.t 42)),oM 4 44 3,oM 5 45 8,oB 6 46 .add 44 45,oM 7 2 43,oM 8 3 46]
def qMD:qG:=sr qMK (.seq (sr [oM 0 38 9,oJ 1 39 38] (.cond (.t 39) (sr [oC 0 2 0,oC 1 3 0,oQ 2 4 false] .ret) .skip)) (.reg true qML))
def qME:qG:=.seq (.blk 1 (sr qMI (.seq (sr qMJ (.cond (.t 31) (sr [oC 0 2 0,oC 1 3 0,oQ 2 4 false] .ret) .skip)) qMD))) (.reg true [oE 0 47 .add 16 1,oM 1 16 47])
def qMM:List qA:=[oM 0 48 2,oM 1 49 3,oM 2 2 48,oM 3 3 49,oQ 4 4 true]
def qMF:qG:=sr [oC 0 2 1,oC 1 3 1] (.seq (sr qMH (.blk 0 (.loop (sr [oB 0 17 .lss 16 15] (.seq (.cond (.t 17) .skip (.exit 0)) qME))))) (sr qMM .ret))
def Ul:qI:=⟨1,50,[.t 2,.t 3,.t 4],sr qMG (.seq (sr [oY 0 10 1 0 8,oD1 1 11 807 10,oJ 2 12 11] (.cond (.t 12) (sr [oC 0 2 0,oC 1 3 0,oQ 2 4 false] .ret) .skip)) qMF)⟩
def qHV:List qA:=[oY 0 7 1 0 8,oD1 1 8 445 7,oM 2 6 8,oV 3 9 6 0,oV 4 10 6 1,oV 5 11 6 2,oM 6 3 9,oM 7 4 10,oM 8 5 11]
def qHW:List qA:=[oM 0 12 5,oM 1 13 12,oGn 2 14 13 true 1,oGl 3 15 13 true 1 0,oGe 4 16 13 true .neq 15 10,oPf 5 17 13 16,oM 6 18 17,oH 7 19 18 true 3,oGe 8 20 18 true .leq 19 24,oPf 9 21 18 20,oM 10 22 21,oH 11 23 22 true 4,oGe 12 24 22 true .leq 23 160,oPf 13 25 22 24,oM 14 2 25]
def V2:qI:=⟨1,26,[.t 2],sr [oI 0 1 8 0,oQ 1 2 false] (sr qHV (sr qHW .ret))⟩
def qB0:List qA:=[oM 0 6 0,oE 1 7 .sub 6 1,oM 2 8 0,oP 3 9 (.sslc (.c (.str [43,45,42,47,60,61])) (some (.t 7)) (some (.t 8))),oM 4 2 9]
def Y1:qI:=⟨1,10,[.t 2],sr [oP 0 2 (.mov (.c (.str [])))] (.seq (sr [oM 0 3 0,oD1 1 4 1050 3,oJ 2 5 4] (.cond (.t 5) (sr [oP 0 2 (.mov (.c (.str [])))] .ret) .skip)) (sr qB0 .ret))⟩
def qGR:List qA:=[oM 0 8 3,oD1 1 9 1002 8,oM 2 10 0,oP 3 11 (.sop .eql (.t 9) (.t 10))]
def qGQ:qG:=.seq (sr [oM 0 4 3,oE 1 5 .leq 4 6] (.cond (.t 5) .skip (.exit 0))) (.seq (.blk 1 (sr qGR (.cond (.t 11) (sr [oM 0 12 3,oM 1 2 12] .ret) .skip))) (.reg true [oM 0 6 3,oE 1 7 .add 6 1,oM 2 3 7]))
def Vr:qI:=⟨1,13,[.t 2],sr [oC 0 2 0] (.seq (sr [oC 0 3 1] (.blk 0 (.loop qGQ))) (sr [oC 0 2 0] .ret))⟩
def qFE:qG:=sr [oA 0 11 1 7 9,oL 1 12 11,oM 2 6 12] (sr [oM 0 13 0,oM 1 14 6,oD2 2 15 721 13 14] (.cond (.t 15) (sr [oM 0 16 6,oD1 1 17 1383 16,oM 2 4 17] .ret) .skip))
def qFF:qG:=sr [oM 0 7 1,oW 1 8 7,oC 2 9 0] (.blk 0 (.loop (sr [oB 0 10 .lss 9 8] (.seq (.cond (.t 10) .skip (.exit 0)) (.seq (.blk 1 qFE) (.reg true [oE 0 18 .add 9 1,oM 1 9 18]))))))
def VY:qI:=⟨2,19,[.t 4],sr [oC 0 4 0] (.seq qFF (sr [oC 0 4 0] .ret))⟩
def qFG:List qA:=[oM 0 7 0,oY 1 8 4 0 8,oY 2 9 5 0 8,oP 3 10 (.bslice 8 (.agg [.int .i64 0,.int .i64 0,.str [],.int .i64 0,.str [],.nils,.nils,.nils]) 2 [(0,.t 8),(1,.t 9)]),oB8 4 11 [(0,1,.c (.int .i64 3)),(1,1,.t 7),(7,1,.t 10)],oS 5 6 0 8 11]
def VZ:qI:=⟨3,12,[.l 6 (some 8)],sr [oI 0 4 8 1,oI 1 5 8 2,oZ8 2 6] (sr qFG .ret)⟩
def qGH:qG:=.seq (.blk 0 (.loop (.seq (sr [oM 0 9 0,oP 1 10 (.call 721 [.t 9,.c (.str [44])])] (.cond (.t 10) .skip (.exit 0))) (.blk 1 (.reg true [oM 0 11 1,oP 1 12 (.callv (.t 11) [])]))))) (.reg true [oM 0 13 0,oP 1 14 (.call 876 [.t 13,.c (.str [93])])])
def Qp:qI:=⟨2,15,[],.seq (sr [oM 0 4 0,oP 1 5 (.call 721 [.t 4,.c (.str [91])]),oJ 2 6 5] (.cond (.t 6) .ret .skip)) (sr [oM 0 7 1,oP 1 8 (.callv (.t 7) [])] qGH)⟩
def qJK:List qA:=[oM 0 8 0,oD1 1 9 1101 8,oP 2 10 (.fld 1 none (.t 9)),oM 3 5 10]
def qJL:List qA:=[oM 0 11 0,oD1 1 12 1101 11,oP 2 13 (.fld 0 none (.t 12)),oE 3 14 .neq 13 4,oM 4 15 14,oH 5 16 15 false 1,oG 6 17 15 false (.not (.t 16)),oH 7 18 15 false 17,oH 8 19 18 true 5,oG 9 20 18 true (.sop .eql (.t 19) (.c (.str [50,49,52,55,52,56,51,54,52,56]))),oG 10 21 15 false (.pick (.t 18) (.t 20) (.c (.bool false))),oPt 11 22 15 21]
def qJM:List qA:=[oM 0 25 0,oK 1 26 25,oF 2 27 1 26,oL 3 28 27,oE 4 29 .add 28 1,oK 5 30 25,oF 6 31 1 30,oT 7 1 31 29]
def qJN:List qA:=[oM 0 32 1,oM 1 33 32,oH 2 34 33 true 5,oG 3 35 33 true (.sop .neq (.t 34) (.c (.str [48]))),oPf 4 36 33 35]
def qJO:List qA:=[oM 0 40 5,oD1 1 41 1091 40,oM 2 39 41,oV 3 42 39 0,oV 4 43 39 1,oM 5 6 42,oM 6 7 43]
def qJJ:qG:=.seq (sr qJN (.cond (.t 36) (.reg true [oM 0 37 5,oR' 1 38 [45] 37,oM 2 5 38]) .skip)) (sr qJO (sr [oM 0 44 6,oB8 1 45 [(0,1,.c (.int .i64 2)),(1,1,.t 44)],oS 2 4 0 8 45] .ret))
def UN:qI:=⟨2,46,[.l 4 (some 8)],sr [oZ8 0 4] (sr qJK (.seq (sr qJL (.cond (.t 22) (.reg true [oM 0 23 0,oD1 1 24 719 23]) .skip)) (sr qJM qJJ)))⟩
def qJD:qG:=sr [oM 0 4 0,oP 1 5 (.call 721 [.t 4,.c (.str [45])])] (.cond (.t 5) (.reg true [oM 0 6 0,oP 1 7 (.call 1556 [.t 6,.c (.bool true)]),oS 2 3 0 8 7]) (.reg true [oM 0 8 0,oD1 1 9 511 8,oS 2 3 0 8 9]))
def UK:qI:=⟨1,13,[.l 2 (some 8)],sr [oZ8 0 2] (sr [oZ8 0 3] (.seq qJD (sr [oM 0 10 0,oP 1 11 (.call 876 [.t 10,.c (.str [41])])] (sr [oY 0 12 3 0 8,oS 1 2 0 8 12] .ret))))⟩
def qJY:List qA:=[oF 0 2 6 0,oL 1 3 2,oL 2 4 1,⟨3,some 5,none,.call 875 [.t 4,.c (.int .i64 1)],[⟨1,some 3,none,.load none (.t 2),[]⟩]⟩,oN1 4 6 5,oO 5 7 1 3 6,oF 6 8 6 0,oT 7 1 8 7]
def UQ:qI:=⟨2,9,[],.reg true qJY⟩
def qJW:List qA:=[oL 0 4 1,oP 1 5 (.call 875 [.t 4,.c (.int .i64 2)]),oB8 2 6 [(0,1,.c (.int .i64 10)),(2,1,.t 5)],oP 3 3 (.halloc 8 (.agg [.int .i64 0,.int .i64 0,.str [],.int .i64 0,.str [],.nils,.nils,.nils])),oT 4 8 3 6]
def qJX:List qA:=[oL 0 12 1,oD1 1 13 511 12,oN8 2 14 13,oF 3 15 7 3,oT 4 1 15 14]
def qJV:qG:=sr [oL 0 7 1,oP 1 8 (.mkfn 1561 [.t 3,.t 1]),oD2 2 9 1327 7 8] (sr [oL 0 10 1,oP 1 11 (.call 876 [.t 10,.c (.str [45,62])])] (sr qJX (sr [oLs 0 16 8 3,oS 1 2 0 8 16] .ret)))
def UP:qI:=⟨1,17,[.l 2 (some 8)],sr [oP 0 1 (.hbox 1 (.t 0)),oZ8 1 2] (sr qJW qJV)⟩
def qJF:List qA:=[oM 0 4 0,oD1 1 5 511 4,oN8 2 6 5,oB8 3 7 [(0,1,.c (.int .i64 9)),(7,1,.t 6)],oZ8 4 3,oS 5 3 0 8 7]
def qJG:List qA:=[oU 0 10 3,oX 1 11 3 7,oM 2 12 0,oD1 3 13 1560 12,oN8 4 14 13,oO 5 15 8 11 14,oU 6 16 3,oS 7 3 7 1 15]
def qJH:List qA:=[oU 0 19 3,oX 1 20 3 7,oM 2 21 0,oD1 3 22 1560 21,oN8 4 23 22,oO 5 24 8 20 23,oU 6 25 3,oS 7 3 7 1 24]
def qJE:qG:=.seq (.blk 0 (.loop (.seq (sr [oM 0 17 0,oP 1 18 (.call 721 [.t 17,.c (.str [59])])] (.cond (.t 18) .skip (.exit 0))) (.blk 1 (.reg true qJH))))) (sr [oM 0 26 0,oP 1 27 (.call 876 [.t 26,.c (.str [125])])] (sr [oY 0 28 3 0 8,oS 1 2 0 8 28] .ret))
def UL:qI:=⟨1,29,[.l 2 (some 8)],sr [oZ8 0 2] (sr qJF (sr [oM 0 8 0,oP 1 9 (.call 876 [.t 8,.c (.str [123])])] (sr qJG qJE)))⟩
def qJI:List qA:=[oF 0 2 7 0,oL 1 3 2,oL 2 4 1,oW 4 6 3,oP 5 7 (.mov (.c (.lst 8 [.agg [.int .i64 0,.int .i64 0,.str [],.int .i64 0,.str [],.nils,.nils,.nils]] false))),⟨3,some 5,none,.call 511 [.t 4],[⟨1,some 3,none,.load none (.t 2),[]⟩]⟩,oO 6 8 8 3 7,oA 7 9 8 8 6,oF 9 10 7 0,oT 8 8 9 5,oN 10 (.store2 1 (.t 10) (.t 8) (.t 9))]
def UM:qI:=⟨2,11,[],.reg true qJI⟩
def qIT:List qA:=[oL 0 7 1,oD1 1 8 1539 7,oN8 2 9 8,oB8 3 10 [(0,1,.c (.int .i64 6)),(7,1,.t 9)],oS 4 2 0 8 10]
def qIP:qG:=.cond (.t 11) (sr [oL 0 14 1,oD1 1 15 1553 14,oS 2 2 0 8 15] .ret) (sr [oL 0 17 1,oP 1 18 (.call 721 [.t 17,.c (.str [109,97,116,99,104])]),oM 2 16 18] (.cond (.t 16) (sr [oL 0 19 1,oD1 1 20 1554 19,oS 2 2 0 8 20] .ret) .skip))
def qIQ:qG:=sr [oL 0 5 1,oP 1 6 (.call 721 [.t 5,.c (.str [33])]),oM 2 4 6] (.cond (.t 4) (sr qIT .ret) (sr [oL 0 12 1,oP 1 13 (.call 721 [.t 12,.c (.str [40])]),oM 2 11 13] qIP))
def qIU:List qA:=[oL 0 26 1,oP 1 27 (.call 875 [.t 26,.c (.int .i64 1)]),oB8 2 28 [(0,1,.c (.int .i64 1)),(2,1,.t 27)],oS 3 2 0 8 28]
def qIV:List qA:=[oL 0 31 1,oP 1 32 (.call 875 [.t 31,.c (.int .i64 2)]),oB8 2 33 [(0,1,.c (.int .i64 8)),(2,1,.t 32)],oP 3 3 (.halloc 8 (.agg [.int .i64 0,.int .i64 0,.str [],.int .i64 0,.str [],.nils,.nils,.nils])),oT 4 8 3 33]
def qIR:qG:=sr [oE 0 30 .eql 23 2,oM 1 29 30] (.cond (.t 29) (sr qIV (sr [oL 0 34 1,oP 1 35 (.mkfn 1555 [.t 3,.t 1]),oD2 2 36 1327 34 35] (sr [oLs 0 37 8 3,oS 1 2 0 8 37] .ret))) .skip)
def qIS:qG:=.seq (sr [oL 0 21 1,oD1 1 22 1101 21,oP 2 23 (.fld 0 none (.t 22))] (.blk 1 (sr [oE 0 25 .eql 23 1,oM 1 24 25] (.cond (.t 24) (sr qIU .ret) qIR)))) (sr [oL 0 38 1,oP 1 39 (.call 1556 [.t 38,.c (.bool false)]),oS 2 2 0 8 39] .ret)
def UF:qI:=⟨1,40,[.l 2 (some 8)],sr [oP 0 1 (.hbox 1 (.t 0)),oZ8 1 2] (.seq (.blk 0 qIQ) qIS)⟩
def qIW:List qA:=[oM 0 4 0,oD1 1 5 1101 4,oP 2 3 (.lalloc (.agg [.int .i64 0,.str [],.int .i64 0])),oS 3 3 0 3 5]
def qIX:List qA:=[oU 0 6 3,oX 1 7 3 0,oE 2 8 .eql 7 1,oM 3 9 8,oGn 4 10 9 false 3,oGl 5 11 9 false 3 0,oGe 6 12 9 false .eql 11 2,oPt 7 13 9 12,oM 8 14 13,oGn 9 15 14 false 3,oGl 10 16 14 false 3 0,oGe 11 17 14 false .eql 16 4,oPt 12 18 14 17,oM 13 19 18,oH 14 20 19 false 0,oG 15 21 19 false (.call 1103 [.t 20,.c (.str [33])]),oPt 16 22 19 21,oM 17 23 22,oH 18 24 23 false 0,oG 19 25 23 false (.call 1103 [.t 24,.c (.str [40])]),oPt 20 26 23 25,oM 21 27 26,oH 22 28 27 false 0,oG 23 29 27 false (.call 1103 [.t 28,.c (.str [109,97,116,99,104])]),oPt 24 30 27 29,oM 25 2 30]
def UG:qI:=⟨1,31,[.t 2],sr [oQ 0 2 false] (sr qIW (sr qIX .ret))⟩
def qIC:List qA:=[oM 0 4 0,oD1 1 5 1539 4,oZ8 2 3,oS 3 3 0 8 5]
def qID:List qA:=[oY 0 8 3 0 8,oM 1 9 0,oD1 2 10 1539 9,oP 3 11 (.bslice 8 (.agg [.int .i64 0,.int .i64 0,.str [],.int .i64 0,.str [],.nils,.nils,.nils]) 2 [(0,.t 8),(1,.t 10)]),oB8 4 12 [(0,1,.c (.int .i64 5)),(7,1,.t 11)],oS 5 3 0 8 12]
def qIB:qG:=.seq (.blk 0 (.loop (.seq (sr [oM 0 6 0,oD1 1 7 1540 6] (.cond (.t 7) .skip (.exit 0))) (.blk 1 (.reg true qID))))) (sr [oY 0 13 3 0 8,oS 1 2 0 8 13] .ret)
def UB:qI:=⟨1,14,[.l 2 (some 8)],sr [oZ8 0 2] (sr qIC qIB)⟩
def qHE:List qA:=[oM 0 5 0,oD1 1 6 1511 5,oZ8 2 3,oS 3 3 0 8 6]
def qHF:List qA:=[oM 0 7 0,oP 1 8 (.bslice 1 (.str []) 2 [(0,.c (.str [42])),(1,.c (.str [47]))]),oD2 2 9 1189 7 8,oM 3 4 9]
def qHG:List qA:=[oM 0 15 4,oY 1 16 3 0 8,oM 2 17 0,oD1 3 18 1511 17,oP 4 19 (.call 1190 [.t 15,.t 16,.t 18]),oS 5 3 0 8 19]
def qHH:List qA:=[oM 0 12 0,oP 1 13 (.bslice 1 (.str []) 2 [(0,.c (.str [42])),(1,.c (.str [47]))]),oD2 2 14 1189 12 13,oM 3 4 14]
def qHD:qG:=.seq (sr qHF (.blk 0 (.loop (.seq (sr [oM 0 10 4,oE 1 11 .neq 10 0] (.cond (.t 11) .skip (.exit 0))) (.seq (.blk 1 (.reg true qHG)) (.reg true qHH)))))) (sr [oY 0 20 3 0 8,oS 1 2 0 8 20] .ret)
def Vy:qI:=⟨1,21,[.l 2 (some 8)],sr [oZ8 0 2] (sr qHE qHD)⟩
def qFA:List qA:=[oM 0 5 0,oD1 1 6 1425 5,oZ8 2 3,oS 3 3 0 8 6]
def qFB:List qA:=[oM 0 7 0,oP 1 8 (.bslice 1 (.str []) 2 [(0,.c (.str [43])),(1,.c (.str [45]))]),oD2 2 9 1189 7 8,oM 3 4 9]
def qFC:List qA:=[oM 0 15 4,oY 1 16 3 0 8,oM 2 17 0,oD1 3 18 1425 17,oP 4 19 (.call 1190 [.t 15,.t 16,.t 18]),oS 5 3 0 8 19]
def qFD:List qA:=[oM 0 12 0,oP 1 13 (.bslice 1 (.str []) 2 [(0,.c (.str [43])),(1,.c (.str [45]))]),oD2 2 14 1189 12 13,oM 3 4 14]
def qE9:qG:=.seq (sr qFB (.blk 0 (.loop (.seq (sr [oM 0 10 4,oE 1 11 .neq 10 0] (.cond (.t 11) .skip (.exit 0))) (.seq (.blk 1 (.reg true qFC)) (.reg true qFD)))))) (sr [oY 0 20 3 0 8,oS 1 2 0 8 20] .ret)
def VX:qI:=⟨1,21,[.l 2 (some 8)],sr [oZ8 0 2] (sr qFA qE9)⟩
def qRS:List qA:=[oM 0 5 0,oD1 1 6 1188 5,oZ8 2 3,oS 3 3 0 8 6]
def qRT:List qA:=[oM 0 7 0,oP 1 8 (.bslice 1 (.str []) 2 [(0,.c (.str [60])),(1,.c (.str [61]))]),oD2 2 9 1189 7 8,oM 3 4 9]
def qRU:List qA:=[oM 0 12 4,oY 1 13 3 0 8,oM 2 14 0,oD1 3 15 1188 14,oP 4 16 (.call 1190 [.t 12,.t 13,.t 15]),oS 5 2 0 8 16]
def qRR:qG:=sr qRS (.seq (sr qRT (sr [oM 0 10 4,oE 1 11 .neq 10 0] (.cond (.t 11) (sr qRU .ret) .skip))) (sr [oY 0 17 3 0 8,oS 1 2 0 8 17] .ret))
def KM:qI:=⟨1,18,[.l 2 (some 8)],sr [oZ8 0 2] qRR⟩
def qM6:List qA:=[oM 0 11 0,oP 1 12 (.call 875 [.t 11,.c (.int .i64 1)]),oB8 2 13 [(0,1,.c (.int .i64 4)),(2,1,.t 12)],oZ8 3 3,oS 4 3 0 8 13]
def qM7:List qA:=[oM 0 16 0,oD1 1 17 335 16,oU 2 18 3,oS 3 3 3 3 17]
def qM9:List qA:=[oM 0 21 0,oD1 1 22 511 21,oN8 2 23 22,oU 3 24 3,oS 4 3 7 1 23]
def qM4:qG:=sr [oM 0 14 0,oP 1 15 (.call 876 [.t 14,.c (.str [58])])] (sr qM7 (sr [oM 0 19 0,oP 1 20 (.call 876 [.t 19,.c (.str [46])])] (sr qM9 (sr [oY 0 25 3 0 8,oS 1 2 0 8 25] .ret))))
def qNA:List qA:=[oM 0 29 0,oP 1 30 (.call 875 [.t 29,.c (.int .i64 1)]),oB8 2 31 [(0,1,.c (.int .i64 7)),(2,1,.t 30)],oZ8 3 4,oS 4 4 0 8 31]
def qNB:List qA:=[oM 0 34 0,oD1 1 35 511 34,oZ8 2 5,oS 3 5 0 8 35]
def qNC:List qA:=[oY 0 38 5 0 8,oM 1 39 0,oD1 2 40 511 39,oP 3 41 (.bslice 8 (.agg [.int .i64 0,.int .i64 0,.str [],.int .i64 0,.str [],.nils,.nils,.nils]) 2 [(0,.t 38),(1,.t 40)]),oU 4 42 4,oS 5 4 7 1 41]
def qM5:qG:=sr [oM 0 32 0,oP 1 33 (.call 876 [.t 32,.c (.str [61])])] (sr qNB (sr [oM 0 36 0,oP 1 37 (.call 876 [.t 36,.c (.str [105,110])])] (sr qNC (sr [oY 0 43 4 0 8,oS 1 2 0 8 43] .ret))))
def qND:List qA:=[oM 0 47 0,oD1 1 48 511 47,oZ8 2 6,oS 3 6 0 8 48]
def qNE:List qA:=[oM 0 51 0,oD1 1 52 511 51,oZ8 2 7,oS 3 7 0 8 52]
def qM8:List qA:=[oY 0 55 6 0 8,oY 1 56 7 0 8,oM 2 57 0,oD1 3 58 511 57,oP 4 59 (.bslice 8 (.agg [.int .i64 0,.int .i64 0,.str [],.int .i64 0,.str [],.nils,.nils,.nils]) 3 [(0,.t 55),(1,.t 56),(2,.t 58)]),oB8 5 60 [(0,1,.c (.int .i64 11)),(7,1,.t 59)],oS 6 2 0 8 60]
def qM1:qG:=sr qND (sr [oM 0 49 0,oP 1 50 (.call 876 [.t 49,.c (.str [116,104,101,110])])] (sr qNE (sr [oM 0 53 0,oP 1 54 (.call 876 [.t 53,.c (.str [101,108,115,101])])] (sr qM8 .ret))))
def qM2:qG:=sr [oM 0 27 0,oP 1 28 (.call 721 [.t 27,.c (.str [108,101,116])]),oM 2 26 28] (.cond (.t 26) (sr qNA qM5) (sr [oM 0 45 0,oP 1 46 (.call 721 [.t 45,.c (.str [105,102])]),oM 2 44 46] (.cond (.t 44) qM1 .skip)))
def qM3:qG:=.seq (.blk 0 (sr [oM 0 9 0,oP 1 10 (.call 721 [.t 9,.c (.str [92])]),oM 2 8 10] (.cond (.t 8) (sr qM6 qM4) qM2))) (sr [oM 0 61 0,oD1 1 62 877 61,oS 2 2 0 8 62] .ret)
def Un:qI:=⟨1,63,[.l 2 (some 8)],sr [oZ8 0 2] qM3⟩
def qHI:qI:=Zl 2 (some 2)
def qHJ:List qA:=[oU 0 4 2,oX 1 5 2 0,oL 2 6 1,oP 3 7 (.sop .eql (.t 5) (.t 6)),oM 4 3 7]
def Vz:qI:=⟨2,8,[.t 3],sr [oI 0 2 2 0,oQ 1 3 false] (sr qHJ .ret)⟩
def qFH:List qA:=[oM 0 5 0,oP 1 6 (.mkfn 1430 [.t 3]),oD2 2 7 1429 5 6,oM 3 4 7]
def Va:qI:=⟨2,8,[.t 4],sr [oP 0 3 (.hbox 1 (.t 1)),oC 1 4 0] (sr qFH .ret)⟩
def qHL:qI:=Zl 3 (some 3)
def qFM:qI:=WW 1432
def qFN:List qA:=[oL 0 4 1,oY 1 5 2 0 3,oD2 2 6 892 4 5,oJ 3 7 6,oM 4 3 7]
def Ve:qI:=⟨2,8,[.t 3],sr [oI 0 2 3 0,oQ 1 3 false] (sr qFN .ret)⟩
def qR7:List qA:=[oU 0 5 3,oX 1 6 3 0,oE 2 7 .eql 6 2,oM 3 8 7,oGd 4 9 8 true 2,oGn 5 10 8 true 3,oGl 6 11 8 true 3 1,oG 7 12 8 true (.call 1204 [.t 9,.t 11]),oGe 8 13 8 true .lss 12 0,oPf 9 14 8 13]
def qR8:List qA:=[oU 0 15 3,oX 1 16 3 2,oP 2 17 (.mkfn 1209 [.t 2]),oD2 3 18 1208 16 17,oJ 4 19 18,oM 5 4 19]
def KR:qI:=⟨2,20,[.t 4],sr [oP 0 2 (.hbox 1 (.t 0)),oI 1 3 3 1,oQ 2 4 false] (.seq (sr qR7 (.cond (.t 14) (sr [oQ 0 4 false] .ret) .skip)) (sr qR8 .ret))⟩
def qHK:List qA:=[oY 0 4 2 0 3,oD1 1 5 74 4,oJ 2 6 5,oM 3 7 6,oGd 4 8 7 false 1,oG 5 9 7 false (.lload 2 0 (some 3)),oG 6 10 7 false (.call 892 [.t 8,.t 9]),oG 7 11 7 false (.not (.t 10)),oPt 8 12 7 11,oM 9 3 12]
def V0:qI:=⟨2,13,[.t 3],sr [oI 0 2 3 0,oQ 1 3 false] (sr qHK .ret)⟩
def qFI:List qA:=[oU 0 5 3,oX 1 6 3 0,oD1 2 7 717 6,oJ 3 8 7,oM 4 9 8,oGn 5 10 9 false 3,oGl 6 11 9 false 3 1,oG 7 12 9 false (.len (.t 11)),oGe 8 13 9 false .gtr 12 3,oPt 9 14 9 13]
def qFJ:List qA:=[oU 0 15 3,oX 1 16 3 1,oP 2 17 (.mkfn 1431 [.t 2]),oD2 3 18 1208 16 17,oJ 4 19 18,oM 5 4 19]
def Vb:qI:=⟨2,20,[.t 4],sr [oP 0 2 (.hbox 1 (.t 0)),oI 1 3 2 1,oQ 2 4 false] (.seq (sr qFI (.cond (.t 14) (sr [oQ 0 4 false] .ret) .skip)) (sr qFJ .ret))⟩
def qRZ:List qA:=[oM 0 16 14,oA 1 17 2 12 14,oLs 2 18 2 17,oP 3 5 (.lalloc (.agg [.str [],.nils])),oM 4 4 16,oS 5 5 0 2 18]
def qR0:List qA:=[oU 0 19 5,oX 1 20 5 0,oD1 2 21 717 20,oJ 3 22 21,oM 4 23 22,oGn 5 24 23 false 5,oGl 6 25 23 false 5 0,oG 7 26 23 false (.sop .eql (.t 25) (.c (.str [73,110,116]))),oPt 8 27 23 26,oM 9 28 27,oH 10 29 28 false 0,oH 11 30 28 false 4,oG 12 31 28 false (.slc 2 (.t 29) none (some (.t 30)) none),oGn 13 32 28 false 5,oGl 14 33 28 false 5 0,oG 15 34 28 false (.call 1204 [.t 31,.t 33]),oGe 16 35 28 false .geq 34 0,oPt 17 36 28 35,oM 18 37 36,oGn 19 38 37 false 5,oGl 20 39 37 false 5 1,oG 21 40 37 false (.len (.t 39)),oGe 22 41 37 false .lss 40 1,oPt 23 42 37 41,oM 24 43 42,oGn 25 44 43 false 5,oGl 26 45 43 false 5 1,oG 27 46 43 false (.len (.t 45)),oGe 28 47 43 false .gtr 46 4,oPt 29 48 43 47]
def qR1:List qA:=[oU 0 49 5,oX 1 50 5 1,oW 2 51 50,oC 3 52 0]
def qR2:List qA:=[oA 0 54 2 50 52,oLs 1 55 2 54,oP 2 7 (.lalloc (.agg [.str [],.nils])),oS 3 7 0 2 55]
def qR3:List qA:=[oM 0 56 0,oY 1 57 7 0 2,oD2 2 58 1205 56 57,oJ 3 59 58,oM 4 60 59,oH 5 61 60 false 3,oGn 6 62 60 false 7,oGl 7 63 60 false 7 0,oG 8 64 60 false (.looks (.bool false) (.t 61) (.t 63) false),oPt 9 65 60 64]
def qR4:List qA:=[oM 0 66 3,oU 1 67 7,oX 2 68 7 0,oN 3 (.mupds (.t 66) (.t 68) (.c (.bool true)))]
def qRV:qG:=sr [oB 0 53 .lss 52 51] (.seq (.cond (.t 53) .skip (.exit 2)) (.seq (.blk 3 (sr qR2 (.seq (sr qR3 (.cond (.t 65) (sr [oQ 0 2 false] .ret) .skip)) (.reg true qR4)))) (.reg true [oE 0 69 .add 52 1,oM 1 52 69])))
def qRW:qG:=.seq (.blk 1 (sr qRZ (.seq (sr qR0 (.cond (.t 48) (sr [oQ 0 2 false] .ret) .skip)) (sr qR1 (.blk 2 (.loop qRV)))))) (.reg true [oE 0 70 .add 14 1,oM 1 14 70])
def qRX:qG:=.seq (sr [oM 0 12 0,oW 1 13 12,oC 2 14 0] (.blk 0 (.loop (sr [oB 0 15 .lss 14 13] (.seq (.cond (.t 15) .skip (.exit 0)) qRW))))) (sr [oQ 0 2 true] .ret)
def qRY:qG:=.seq (sr [oM 0 8 0,oW 1 9 8,oE 2 10 .gtr 9 4] (.cond (.t 10) (sr [oQ 0 2 false] .ret) .skip)) (sr [oP 0 11 (.mkmap),oM 1 3 11] qRX)
def KN:qI:=⟨1,71,[.t 2],sr [oQ 0 2 false] qRY⟩
def F891:qI:=Zl 12 (some 12)
def qFL:List qA:=[oU 0 4 2,oX 1 5 2 0,oL 2 6 1,oP 3 7 (.sop .eql (.t 5) (.t 6)),oM 4 3 7]
def Vd:qI:=⟨2,8,[.t 3],sr [oI 0 2 12 0,oQ 1 3 false] (sr qFL .ret)⟩
def qR6:List qA:=[oU 0 5 2,oX 1 6 2 1,oP 2 7 (.mkfn 1207 [.t 3]),oD2 3 8 891 6 7,oM 4 4 8]
def KQ:qI:=⟨2,9,[.t 4],sr [oI 0 2 2 0,oP 1 3 (.hbox 1 (.t 1)),oC 2 4 0] (sr qR6 .ret)⟩
def qNG:List qA:=[oU 0 5 1,oX 1 6 1 0,oD1 2 7 888 6,oJ 3 8 7,oM 4 9 8,oGn 5 10 9 false 1,oGl 6 11 9 false 1 1,oG 7 12 9 false (.len (.t 11)),oGe 8 13 9 false .lss 12 1,oPt 9 14 9 13,oM 10 15 14,oGn 11 16 15 false 1,oGl 12 17 15 false 1 1,oG 13 18 15 false (.len (.t 17)),oGe 14 19 15 false .gtr 18 8,oPt 15 20 15 19]
def qNH:List qA:=[oU 0 21 1,oX 1 22 1 1,oW 2 23 22,oC 3 24 0]
def qNI:List qA:=[oM 0 26 24,oA 1 27 12 22 24,oLs 2 28 12 27,oP 3 4 (.lalloc (.agg [.str [],.int .i64 0,.str [],.nils,.int .i64 0,.int .i64 0,.str [],.int .i64 0,.str [],.nils,.nils,.nils])),oM 4 3 26,oS 5 4 0 12 28]
def qNJ:List qA:=[oU 0 29 4,oX 1 30 4 0,oD1 2 31 889 30,oJ 3 32 31,oM 4 33 32,oG 5 34 33 false (.lload 1 0 (some 2)),oGn 6 35 33 false 4,oGl 7 36 33 false 4 0,oG 8 37 33 false (.call 890 [.t 34,.t 36]),oH 9 38 33 false 3,oG 10 39 33 false (.bin .lss (.t 37) (.t 38)),oPt 11 40 33 39,oM 12 41 40,oGn 13 42 41 false 4,oG 14 43 41 false (.lload 4 1 (some 3)),oG 15 44 41 false (.call 74 [.t 43]),oG 16 45 41 false (.not (.t 44)),oPt 17 46 41 45,oM 18 47 46,oGn 19 48 47 false 4,oG 20 49 47 false (.lload 4 4 (some 8)),oG 21 50 47 false (.call 144 [.t 49]),oG 22 51 47 false (.not (.t 50)),oPt 23 52 47 51]
def qNF:qG:=sr [oB 0 25 .lss 24 23] (.seq (.cond (.t 25) .skip (.exit 0)) (.seq (.blk 1 (sr qNI (sr qNJ (.cond (.t 52) (sr [oQ 0 2 false] .ret) .skip)))) (.reg true [oE 0 53 .add 24 1,oM 1 24 53])))
def Uo:qI:=⟨1,54,[.t 2],sr [oI 0 1 2 0,oQ 1 2 false] (.seq (sr qNG (.cond (.t 20) (sr [oQ 0 2 false] .ret) .skip)) (.seq (sr qNH (.blk 0 (.loop qNF))) (sr [oQ 0 2 true] .ret)))⟩
def XR:jA:=⟨3,47,
 .reg true [⟨0,some 6,none,.lalloc (.agg [.nils,.nils]),[]⟩,
⟨1,some 7,none,.lalloc (.int .i64 0),[]⟩,
⟨2,some 8,none,.lalloc (.int .i64 0),[]⟩],
 .reg true [⟨0,some 9,none,.lalloc (.agg [.nils,.nils]),[]⟩],
 .reg true [⟨0,some 13,none,.mov (.t 0),[]⟩,
⟨1,some 14,none,.call 266 [.t 13],[]⟩,
⟨2,some 12,none,.mov (.t 14),[]⟩,
⟨3,some 15,none,.ext (.t 12) 0,[]⟩,
⟨4,some 16,none,.ext (.t 12) 1,[]⟩,
⟨5,some 17,none,.ext (.t 12) 2,[]⟩,
⟨6,some 10,none,.mov (.t 15),[]⟩,
⟨7,none,none,.lstore 7 0 1 (.t 16),[]⟩,
⟨8,none,none,.lstore 8 0 1 (.t 17),[]⟩],
 sr [⟨0,some 18,none,.lload 8 0 none,[]⟩,
⟨1,some 19,none,.bin .neq (.t 18) (.c (.int .i64 0)),[]⟩] (.cond (.t 19) (sr [⟨0,some 20,none,.lload 9 0 (some 2),[]⟩,
⟨1,some 21,none,.lload 7 0 none,[]⟩,
⟨2,some 22,none,.lload 8 0 none,[]⟩,
⟨3,none,none,.lstore 6 0 2 (.t 20),[]⟩,
⟨4,none,none,.lstore 7 0 1 (.t 21),[]⟩,
⟨5,none,none,.lstore 8 0 1 (.t 22),[]⟩] .ret) .skip),
 .reg true [⟨0,some 24,none,.mov (.t 10),[]⟩,
⟨1,some 25,none,.mov (.t 0),[]⟩,
⟨2,some 26,none,.slen (.t 25),[]⟩,
⟨3,some 27,none,.build (.agg [.nils,.int .i64 0,.int .i64 0]) [(0,1,.t 24),(2,1,.t 26)],[]⟩,
⟨4,some 28,none,.hbox 3 (.t 27),[]⟩,
⟨5,some 11,none,.mov (.t 28),[]⟩],
 [⟨0,some 29,none,.mov (.t 1),[]⟩,
⟨1,some 30,none,.mov (.t 11),[]⟩,
⟨2,some 31,none,.callv (.t 29) [.t 30],[]⟩,
⟨3,none,none,.lstore 6 0 2 (.t 31),[]⟩],
 .reg true [⟨0,some 32,none,.mov (.t 11),[]⟩,
⟨1,some 33,none,.nilchk (.t 32),[]⟩,
⟨2,some 34,none,.faddr 1 (.t 33),[]⟩,
⟨3,some 35,none,.load none (.t 34),[]⟩,
⟨4,some 36,none,.mov (.t 10),[]⟩,
⟨5,some 37,none,.len (.t 36),[]⟩,
⟨6,some 38,none,.bin .lss (.t 35) (.t 37),[]⟩],.t 38,
 [⟨0,some 39,none,.mov (.t 11),[]⟩,
⟨1,some 40,none,.call 719 [.t 39],[]⟩],
 .seq (sr [⟨0,some 41,none,.mov (.t 2),[]⟩,
⟨1,some 42,none,.lload 6 0 (some 2),[]⟩,
⟨2,some 43,none,.callv (.t 41) [.t 42],[]⟩,
⟨3,some 44,none,.not (.t 43),[]⟩] (.cond (.t 44) (sr [⟨0,some 45,none,.lload 9 0 (some 2),[]⟩,
⟨1,none,none,.lstore 6 0 2 (.t 45),[]⟩,
⟨2,none,none,.lstore 7 0 1 (.c (.int .i64 0)),[]⟩,
⟨3,none,none,.lstore 8 0 1 (.c (.int .i64 1)),[]⟩] .ret) .skip)) (sr [⟨0,some 46,none,.lload 6 0 (some 2),[]⟩,
⟨1,none,none,.lstore 6 0 2 (.t 46),[]⟩,
⟨2,none,none,.lstore 7 0 1 (.c (.int .i64 0)),[]⟩,
⟨3,none,none,.lstore 8 0 1 (.c (.int .i64 0)),[]⟩] .ret),
 sr [⟨0,some 5,none,.lalloc (.agg [.int .i64 0]),[]⟩,
⟨1,none,none,.lstore 5 0 1 (.t 12),[]⟩] (.reg true [⟨0,some 13,none,.lload 0 0 (some 2),[]⟩,
⟨1,some 14,none,.nop 5,[]⟩,
⟨2,some 15,none,.lload 5 0 none,[]⟩,
⟨3,none,none,.lstore 1 0 2 (.t 13),[]⟩,
⟨4,none,none,.lstore 2 0 1 (.t 15),[]⟩,
⟨5,none,none,.lstore 3 0 1 (.c (.int .i64 6)),[]⟩]),
 751,23,12,[9,6,7,8],[.l 6 (some 2),.l 7 none,.l 8 none],[.l 1 (some 2),.l 2 none,.l 3 none]⟩
def qGI:List qA:=[oF 0 2 1 0,oL 1 3 2,oL 2 4 1,oW 4 6 3,oP 5 7 (.mov (.c (.lst 3 [.agg [.int .i64 0,.str [],.nils]] false))),⟨3,some 5,none,.call 335 [.t 4],[⟨1,some 3,none,.load none (.t 2),[]⟩]⟩,oO 6 8 3 3 7,oA 7 9 3 8 6,oF 9 10 1 0,oT 8 3 9 5,oN 10 (.store2 1 (.t 10) (.t 8) (.t 9))]
def Vm:qI:=⟨2,11,[],.reg true qGI⟩
def qC6:List qA:=[oL 0 4 1,oP 1 5 (.call 875 [.t 4,.c (.int .i64 2)]),oP 2 6 (.build (.agg [.str [],.nils]) [(0,1,.t 5)]),oP 3 3 (.halloc 2 (.agg [.str [],.nils])),oT 4 2 3 6]
def Y7:qI:=⟨1,11,[.l 2 (some 2)],sr [oP 0 1 (.hbox 1 (.t 0)),oP 1 2 (.lalloc (.agg [.str [],.nils]))] (sr qC6 (sr [oL 0 7 1,oP 1 8 (.mkfn 1328 [.t 3,.t 1]),oD2 2 9 1327 7 8] (sr [oLs 0 10 2 3,oS 1 2 0 2 10] .ret)))⟩
def qO5:List qA:=[oM 0 8 0,oP 1 9 (.call 875 [.t 8,.c (.int .i64 2)]),oP 2 10 (.build (.agg [.str [],.nils]) [(0,1,.t 9)]),oP 3 4 (.lalloc (.agg [.str [],.nils])),oS 4 4 0 2 10]
def qO6:List qA:=[oU 0 13 4,oX 1 14 4 1,oM 2 15 0,oD1 3 16 1009 15,oP 4 17 (.bslice 2 (.agg [.str [],.nils]) 1 [(0,.t 16)]),oO 5 18 2 14 17,oU 6 19 4,oS 7 4 1 1 18]
def qO7:List qA:=[oU 0 22 4,oX 1 23 4 1,oM 2 24 0,oD1 3 25 1009 24,oP 4 26 (.bslice 2 (.agg [.str [],.nils]) 1 [(0,.t 25)]),oO 5 27 2 23 26,oU 6 28 4,oS 7 4 1 1 27]
def qO8:List qA:=[oU 0 29 3,oX 1 30 3 0,oY 2 31 4 0 2,oP 3 32 (.bslice 2 (.agg [.str [],.nils]) 1 [(0,.t 31)]),oO 4 33 2 30 32,oU 5 34 3,oS 6 3 0 1 33]
def qO3:qG:=sr [oM 0 11 0,oP 1 12 (.call 876 [.t 11,.c (.str [61])])] (sr qO6 (.seq (.blk 2 (.loop (.seq (sr [oM 0 20 0,oP 1 21 (.call 721 [.t 20,.c (.str [124])])] (.cond (.t 21) .skip (.exit 2))) (.blk 3 (.reg true qO7))))) (.reg true qO8)))
def qO9:List qA:=[oM 0 37 0,oP 1 38 (.call 875 [.t 37,.c (.int .i64 1)]),oP 2 39 (.build (.agg [.str [],.int .i64 0,.str [],.nils,.int .i64 0,.int .i64 0,.str [],.int .i64 0,.str [],.nils,.nils,.nils]) [(0,1,.t 38)]),oP 3 5 (.lalloc (.agg [.str [],.int .i64 0,.str [],.nils,.int .i64 0,.int .i64 0,.str [],.int .i64 0,.str [],.nils,.nils,.nils])),oS 4 5 0 12 39]
def qPA:List qA:=[oM 0 42 0,oD1 1 43 335 42,oU 2 44 5,oS 3 5 1 3 43]
def qPB:List qA:=[oM 0 47 0,oD1 1 48 511 47,oU 2 49 5,oS 3 5 4 8 48]
def qPC:List qA:=[oU 0 50 3,oX 1 51 3 1,oY 2 52 5 0 12,oP 3 53 (.bslice 12 (.agg [.str [],.int .i64 0,.str [],.nils,.int .i64 0,.int .i64 0,.str [],.int .i64 0,.str [],.nils,.nils,.nils]) 1 [(0,.t 52)]),oO 4 54 12 51 53,oU 5 55 3,oS 6 3 1 1 54]
def qO4:qG:=sr [oM 0 40 0,oP 1 41 (.call 876 [.t 40,.c (.str [58])])] (sr qPA (sr [oM 0 45 0,oP 1 46 (.call 876 [.t 45,.c (.str [61])])] (sr qPB (.reg true qPC))))
def qO2:qG:=.seq (.blk 4 (.loop (.seq (sr [oM 0 35 0,oP 1 36 (.call 721 [.t 35,.c (.str [100,101,102])])] (.cond (.t 36) .skip (.exit 4))) (.blk 5 (sr qO9 qO4))))) (sr [oY 0 56 3 0 2,oS 1 2 0 2 56] .ret)
def Uy:qI:=⟨1,57,[.l 2 (some 2)],sr [oZ2 0 2] (sr [oZ2 0 3] (.seq (.blk 0 (.loop (.seq (sr [oM 0 6 0,oP 1 7 (.call 721 [.t 6,.c (.str [100,97,116,97])])] (.cond (.t 7) .skip (.exit 0))) (.blk 1 (sr qO5 qO3))))) qO2))⟩
def qKS:List qA:=[oM 0 5 0,oP 1 6 (.call 628 [.t 5,.f 629,.f 527]),oV 2 7 6 0,oV 3 8 6 1,oV 4 9 6 2,oS 5 2 0 2 7,oM 6 3 8,oM 7 4 9]
def UW:qI:=⟨1,10,[.l 2 (some 2),.t 3,.t 4],sr [oZ2 0 2,oC 1 3 0,oC 2 4 0] (sr qKS .ret)⟩
def qSH:List qA:=[oM 0 6 5,oM 1 7 0,oW 2 8 7,oB 3 9 .lss 6 8]
def qSI:List qA:=[oM 0 12 0,oM 1 13 5,oA 2 14 12 12 13,oF 3 15 0 14,oL 4 16 15,oM 5 17 1,oP 6 18 (.sop .eql (.t 16) (.t 17))]
def qSG:qG:=.seq (sr qSH (.cond (.t 9) .skip (.exit 0))) (.seq (.blk 1 (sr qSI (.cond (.t 18) (sr [oM 0 19 5,oM 1 4 19] .ret) .skip))) (.reg true [oM 0 10 5,oE 1 11 .add 10 1,oM 2 5 11]))
def KV:qI:=⟨2,20,[.t 4],sr [oC 0 4 0] (.seq (sr [oC 0 5 0] (.blk 0 (.loop qSG))) (sr [oP 0 4 (.mov (.c (.int .i64 (-1))))] .ret))⟩
def qF3:List qA:=[oM 0 6 5,oM 1 7 0,oW 2 8 7,oB 3 9 .lss 6 8]
def qF4:List qA:=[oM 0 12 0,oM 1 13 5,oA 2 14 2 12 13,oF 3 15 0 14,oL 4 16 15,oM 5 17 1,oP 6 18 (.sop .eql (.t 16) (.t 17))]
def qF2:qG:=.seq (sr qF3 (.cond (.t 9) .skip (.exit 0))) (.seq (.blk 1 (sr qF4 (.cond (.t 18) (sr [oM 0 19 5,oM 1 4 19] .ret) .skip))) (.reg true [oM 0 10 5,oE 1 11 .add 10 1,oM 2 5 11]))
def Vh:qI:=⟨2,20,[.t 4],sr [oC 0 4 0] (.seq (sr [oC 0 5 0] (.blk 0 (.loop qF2))) (sr [oP 0 4 (.mov (.c (.int .i64 (-1))))] .ret))⟩
def qSL:List qA:=[oM 0 9 0,oU 1 10 3,oX 2 11 3 1,oD2 3 12 1238 9 11,oE 4 13 .geq 12 0,oM 5 4 13]
def qSM:List qA:=[oM 0 14 5,oU 1 15 3,oX 2 16 3 2,oW 3 17 16,oB 4 18 .lss 14 17]
def qSN:List qA:=[oM 0 21 0,oU 1 22 3,oX 2 23 3 2,oM 3 24 5,oA 4 25 3 23 24,oLs 5 26 3 25,oD2 6 27 917 21 26,oJ 7 28 27]
def qSJ:qG:=.loop (.seq (sr qSM (.cond (.t 18) .skip (.exit 0))) (.seq (.blk 1 (sr qSN (.cond (.t 28) (sr [oQ 0 4 false] .ret) .skip))) (.reg true [oM 0 19 5,oE 1 20 .add 19 1,oM 2 5 20])))
def qSK:qG:=.seq (sr [oU 0 6 3,oX 1 7 3 0,oE 2 8 .eql 7 2] (.cond (.t 8) (sr qSL .ret) .skip)) (.seq (sr [oC 0 5 0] (.blk 0 qSJ)) (sr [oQ 0 4 true] .ret))
def KW:qI:=⟨2,29,[.t 4],sr [oI 0 3 3 1,oQ 1 4 false] qSK⟩
def qHN:List qA:=[oU 0 6 3,oX 1 7 3 0,oD1 2 8 921 7,oJ 3 9 8,oM 4 10 9,oGn 5 11 10 false 3,oGl 6 12 10 false 3 1,oG 7 13 10 false (.len (.t 12)),oGe 8 14 10 false .gtr 13 3,oPt 9 15 10 14]
def qHO:List qA:=[oM 0 16 5,oU 1 17 3,oX 2 18 3 1,oW 3 19 18,oB 4 20 .lss 16 19]
def qHP:List qA:=[oU 0 23 3,oX 1 24 3 1,oM 2 25 5,oA 3 26 3 24 25,oLs 4 27 3 26,oD1 5 28 208 27,oJ 6 29 28,oM 7 30 29,oH 8 31 30 false 0,oGn 9 32 30 false 3,oGl 10 33 30 false 3 1,oH 11 34 30 false 5,oG 12 35 30 false (.iaddr 3 (.t 33) (.t 34)),oG 13 36 30 false (.load (some 3) (.t 35)),oG 14 37 30 false (.call 917 [.t 31,.t 36]),oG 15 38 30 false (.not (.t 37)),oPt 16 39 30 38]
def qHM:qG:=.loop (.seq (sr qHO (.cond (.t 20) .skip (.exit 0))) (.seq (.blk 1 (sr qHP (.cond (.t 39) (sr [oQ 0 4 false] .ret) .skip))) (.reg true [oM 0 21 5,oE 1 22 .add 21 1,oM 2 5 22])))
def V1:qI:=⟨2,40,[.t 4],sr [oI 0 3 2 1,oQ 1 4 false] (.seq (sr qHN (.cond (.t 15) (sr [oQ 0 4 false] .ret) .skip)) (.seq (sr [oC 0 5 0] (.blk 0 qHM)) (sr [oQ 0 4 true] .ret)))⟩
def qFT:List qA:=[oM 0 12 4,oM 1 13 0,oW 2 14 13,oB 3 15 .lss 12 14]
def qFU:List qA:=[oM 0 18 0,oM 1 19 4,oA 2 20 2 18 19,oLs 3 21 2 20,oP 4 5 (.lalloc (.agg [.str [],.nils])),oS 5 5 0 2 21]
def qFV:List qA:=[oU 0 22 5,oX 1 23 5 0,oD1 2 24 921 23,oJ 3 25 24,oM 4 26 25,oGn 5 27 26 false 5,oGl 6 28 26 false 5 0,oG 7 29 26 false (.sop .eql (.t 28) (.c (.str [73,110,116]))),oPt 8 30 26 29,oM 9 31 30,oH 10 32 31 false 0,oGn 11 33 31 false 5,oGl 12 34 31 false 5 0,oG 13 35 31 false (.call 1238 [.t 32,.t 34]),oH 14 36 31 false 4,oG 15 37 31 false (.bin .neq (.t 35) (.t 36)),oPt 16 38 31 37,oM 17 39 38,oGn 18 40 39 false 5,oGl 19 41 39 false 5 1,oG 20 42 39 false (.len (.t 41)),oGe 21 43 39 false .lss 42 1,oPt 22 44 39 43,oM 23 45 44,oGn 24 46 45 false 5,oGl 25 47 45 false 5 1,oG 26 48 45 false (.len (.t 47)),oGe 27 49 45 false .gtr 48 4,oPt 28 50 45 49]
def qFW:List qA:=[oM 0 51 6,oU 1 52 5,oX 2 53 5 1,oW 3 54 53,oB 4 55 .lss 51 54]
def qFX:List qA:=[oM 0 58 0,oU 1 59 5,oX 2 60 5 1,oM 3 61 6,oA 4 62 2 60 61,oLs 5 63 2 62,oD2 6 64 1439 58 63,oJ 7 65 64]
def qFY:List qA:=[oM 0 66 7,oM 1 67 3,oW 2 68 67,oB 3 69 .lss 66 68]
def qFZ:List qA:=[oM 0 72 3,oM 1 73 7,oA 2 74 1 72 73,oL 3 75 74,oU 4 76 5,oX 5 77 5 1,oM 6 78 6,oA 7 79 2 77 78,oF 8 80 0 79,oL 9 81 80,oP 10 82 (.sop .eql (.t 75) (.t 81))]
def qFR:qG:=.loop (.seq (sr qFY (.cond (.t 69) .skip (.exit 4))) (.seq (.blk 5 (sr qFZ (.cond (.t 82) (sr [oQ 0 2 false] .ret) .skip))) (.reg true [oM 0 70 7,oE 1 71 .add 70 1,oM 2 7 71])))
def qF0:List qA:=[oM 0 83 3,oU 1 84 5,oX 2 85 5 1,oM 3 86 6,oA 4 87 2 85 86,oF 5 88 0 87,oL 6 89 88,oN1 7 90 89,oO 8 91 1 83 90,oM 9 3 91]
def qFS:qG:=.seq (.blk 3 (.seq (sr qFX (.cond (.t 65) (sr [oQ 0 2 false] .ret) .skip)) (.seq (sr [oC 0 7 0] (.blk 4 qFR)) (.reg true qF0)))) (.reg true [oM 0 56 6,oE 1 57 .add 56 1,oM 2 6 57])
def qFO:qG:=sr qFU (.seq (sr qFV (.cond (.t 50) (sr [oQ 0 2 false] .ret) .skip)) (sr [oC 0 6 0] (.blk 2 (.loop (.seq (sr qFW (.cond (.t 55) .skip (.exit 2))) qFS)))))
def qFP:qG:=sr [oC 0 4 0] (.blk 0 (.loop (.seq (sr qFT (.cond (.t 15) .skip (.exit 0))) (.seq (.blk 1 qFO) (.reg true [oM 0 16 4,oE 1 17 .add 16 1,oM 2 4 17])))))
def qFQ:qG:=.seq (sr [oM 0 8 0,oW 1 9 8,oE 2 10 .gtr 9 4] (.cond (.t 10) (sr [oQ 0 2 false] .ret) .skip)) (sr [oP 0 11 (.mov (.c (.lst 1 [] true))),oM 1 3 11] (.seq qFP (sr [oQ 0 2 true] .ret)))
def Vf:qI:=⟨1,92,[.t 2],sr [oQ 0 2 false] qFQ⟩
def qSC:List qA:=[oM 0 5 0,oK 1 6 5,oF 2 7 0 6,oL 3 8 7,oD1 4 9 1236 8,oJ 5 10 9,oM 6 11 10,oH 7 12 11 false 0,oG 8 13 11 false (.nilchk (.t 12)),oG 9 14 11 false (.faddr 1 (.t 13)),oGd 10 15 11 false 14,oG 11 16 11 false (.len (.t 15)),oG 12 17 11 false (.call 340 [.t 16,.c (.int .i64 1),.c (.int .i64 8)]),oG 13 18 11 false (.not (.t 17)),oPt 14 19 11 18]
def qSD:List qA:=[oM 0 20 3,oM 1 21 0,oK 2 22 21,oF 3 23 1 22,oL 4 24 23,oW 5 25 24,oB 6 26 .lss 20 25]
def qSE:List qA:=[oM 0 29 0,oK 1 30 29,oF 2 31 1 30,oL 3 32 31,oM 4 33 3,oA 5 34 12 32 33,oM 6 4 34]
def qSF:List qA:=[oM 0 35 4,oK 1 36 35,oF 2 37 0 36,oL 3 38 37,oD1 4 39 1237 38,oJ 5 40 39,oM 6 41 40,oH 7 42 41 false 0,oG 8 43 41 false (.nilchk (.t 42)),oG 9 44 41 false (.faddr 1 (.t 43)),oGd 10 45 41 false 44,oH 11 46 41 false 4,oG 12 47 41 false (.nilchk (.t 46)),oG 13 48 41 false (.faddr 0 (.t 47)),oGd 14 49 41 false 48,oH 16 51 41 false 3,oG 15 50 41 false (.call 916 [.t 45,.t 49]),oG 17 52 41 false (.bin .neq (.t 50) (.t 51)),oPt 18 53 41 52,oM 19 54 53,oH 20 55 54 false 4,oG 21 56 54 false (.nilchk (.t 55)),oG 22 57 54 false (.faddr 1 (.t 56)),oG 23 58 54 false (.load (some 3) (.t 57)),oG 24 59 54 false (.call 208 [.t 58]),oG 25 60 54 false (.not (.t 59)),oPt 26 61 54 60,oM 27 62 61,oH 28 63 62 false 4,oG 29 64 62 false (.nilchk (.t 63)),oG 30 65 62 false (.faddr 4 (.t 64)),oG 31 66 62 false (.call 350 [.t 65]),oG 32 67 62 false (.not (.t 66)),oPt 33 68 62 67]
def qSA:qG:=.seq (sr qSD (.cond (.t 26) .skip (.exit 0))) (.seq (.blk 1 (sr qSE (sr qSF (.cond (.t 68) (sr [oQ 0 2 false] .ret) .skip)))) (.reg true [oM 0 27 3,oE 1 28 .add 27 1,oM 2 3 28]))
def qSB:qG:=.seq (sr qSC (.cond (.t 19) (sr [oQ 0 2 false] .ret) .skip)) (.seq (sr [oC 0 3 0] (.blk 0 (.loop qSA))) (sr [oQ 0 2 true] .ret))
def KU:qI:=⟨1,69,[.t 2],sr [oQ 0 2 false] qSB⟩
def Uu:qI:=⟨1,4,[.t 2],sr [oP 0 1 (.hbox 2 (.t 0)),oQ 1 2 false] (sr [oD1 0 3 915 1,oM 1 2 3] .ret)⟩
def qGN:List qA:=[oM 0 9 3,oM 1 10 0,oD1 2 11 359 10,oN3 3 12 11,oO 4 13 3 9 12,oM 5 3 13]
def qGO:List qA:=[oM 0 16 3,oM 1 17 0,oD1 2 18 359 17,oN3 3 19 18,oO 4 20 3 16 19,oM 5 3 20]
def qGL:qG:=.seq (.blk 0 (.loop (.seq (sr [oM 0 14 0,oP 1 15 (.call 737 [.t 14,.c (.str [44])])] (.cond (.t 15) .skip (.exit 0))) (.blk 1 (.reg true qGO))))) (sr [oM 0 21 0,oP 1 22 (.call 872 [.t 21,.c (.str [93])])] (sr [oM 0 23 3,oM 1 2 23] .ret))
def qGM:qG:=sr [oP 0 4 (.mov (.c (.lst 3 [] true))),oM 1 3 4] (.seq (sr [oM 0 5 0,oP 1 6 (.call 737 [.t 5,.c (.str [91])]),oJ 2 7 6] (.cond (.t 7) (sr [oM 0 8 3,oM 1 2 8] .ret) .skip)) (sr qGN qGL))
def Vp:qI:=⟨1,24,[.t 2],sr [oP 0 2 (.mov (.c (.nils)))] qGM⟩
def qDD:List qA:=[oM 0 4 0,oP 1 5 (.call 871 [.t 4,.c (.int .i64 2)]),oP 2 6 (.build (.agg [.str [],.nils]) [(0,1,.t 5)]),oP 3 3 (.lalloc (.agg [.str [],.nils])),oS 4 3 0 2 6]
def qDE:List qA:=[oU 0 9 3,oX 1 10 3 1,oM 2 11 0,oM 4 13 0,oP 3 12 (.call 871 [.t 11,.c (.int .i64 2)]),oD1 5 14 1332 13,oP 6 15 (.build (.agg [.str [],.nils]) [(0,1,.t 12),(1,1,.t 14)]),oP 7 16 (.bslice 2 (.agg [.str [],.nils]) 1 [(0,.t 15)]),oO 8 17 2 10 16,oU 9 18 3,oS 10 3 1 1 17]
def qDF:List qA:=[oU 0 21 3,oX 1 22 3 1,oM 2 23 0,oM 4 25 0,oP 3 24 (.call 871 [.t 23,.c (.int .i64 2)]),oD1 5 26 1332 25,oP 6 27 (.build (.agg [.str [],.nils]) [(0,1,.t 24),(1,1,.t 26)]),oP 7 28 (.bslice 2 (.agg [.str [],.nils]) 1 [(0,.t 27)]),oO 8 29 2 22 28,oU 9 30 3,oS 10 3 1 1 29]
def qDC:qG:=.seq (.blk 0 (.loop (.seq (sr [oM 0 19 0,oP 1 20 (.call 737 [.t 19,.c (.str [124])])] (.cond (.t 20) .skip (.exit 0))) (.blk 1 (.reg true qDF))))) (sr [oY 0 31 3 0 2,oS 1 2 0 2 31] .ret)
def VC:qI:=⟨1,32,[.l 2 (some 2)],sr [oP 0 2 (.lalloc (.agg [.str [],.nils]))] (sr qDD (sr [oM 0 7 0,oP 1 8 (.call 872 [.t 7,.c (.str [61])])] (sr qDE qDC)))⟩
def qDH:List qA:=[oM 0 4 0,oP 1 5 (.call 871 [.t 4,.c (.int .i64 1)]),oP 2 6 (.build (.agg [.str [],.int .i64 0,.str [],.nils,.int .i64 0,.int .i64 0,.str [],.int .i64 0,.str [],.nils,.nils,.nils]) [(0,1,.t 5)]),oP 3 3 (.lalloc (.agg [.str [],.int .i64 0,.str [],.nils,.int .i64 0,.int .i64 0,.str [],.int .i64 0,.str [],.nils,.nils,.nils])),oS 4 3 0 12 6]
def qDI:List qA:=[oM 0 9 0,oD1 1 10 359 9,oU 2 11 3,oS 3 3 1 3 10]
def qDJ:List qA:=[oM 0 14 0,oD1 1 15 1333 14,oU 2 16 3,oS 3 3 4 8 15]
def qDG:qG:=sr [oM 0 7 0,oP 1 8 (.call 872 [.t 7,.c (.str [58])])] (sr qDI (sr [oM 0 12 0,oP 1 13 (.call 872 [.t 12,.c (.str [61])])] (sr qDJ (sr [oY 0 17 3 0 12,oS 1 2 0 12 17] .ret))))
def VD:qI:=⟨1,18,[.l 2 (some 12)],sr [oP 0 2 (.lalloc (.agg [.str [],.int .i64 0,.str [],.nils,.int .i64 0,.int .i64 0,.str [],.int .i64 0,.str [],.nils,.nils,.nils]))] (sr qDH qDG)⟩
def qPR:List qA:=[oU 0 7 3,oX 1 8 3 0,oM 2 9 0,oD1 3 10 1016 9,oP 4 11 (.bslice 2 (.agg [.str [],.nils]) 1 [(0,.t 10)]),oO 5 12 2 8 11,oU 6 13 3,oS 7 3 0 1 12]
def qPS:List qA:=[oU 0 16 3,oX 1 17 3 1,oM 2 18 0,oD1 3 19 1017 18,oP 4 20 (.bslice 12 (.agg [.str [],.int .i64 0,.str [],.nils,.int .i64 0,.int .i64 0,.str [],.int .i64 0,.str [],.nils,.nils,.nils]) 1 [(0,.t 19)]),oO 5 21 12 17 20,oU 6 22 3,oS 7 3 1 1 21]
def qPP:qG:=.seq (.blk 2 (.loop (.seq (sr [oM 0 14 0,oP 1 15 (.call 737 [.t 14,.c (.str [100,101,102])])] (.cond (.t 15) .skip (.exit 2))) (.blk 3 (.reg true qPS))))) (sr [oY 0 23 3 0 2,oS 1 2 0 2 23] .ret)
def qPQ:qG:=sr [oP 0 4 (.build (.agg [.nils,.nils]) []),oZ2 1 3,oS 2 3 0 2 4] (.seq (.blk 0 (.loop (.seq (sr [oM 0 5 0,oP 1 6 (.call 737 [.t 5,.c (.str [100,97,116,97])])] (.cond (.t 6) .skip (.exit 0))) (.blk 1 (.reg true qPR))))) qPP)
def U0:qI:=⟨1,24,[.l 2 (some 2)],sr [oZ2 0 2] qPQ⟩
def qK3:List qA:=[oM 0 10 0,oD1 1 11 358 10,oM 2 9 11,oV 3 12 9 0,oV 4 13 9 1,oV 5 14 9 2,oM 6 5 12,oM 7 6 13,oM 8 7 14]
def qK4:List qA:=[oP 0 17 (.build (.agg [.nils,.nils]) []),oM 1 18 6,oM 2 19 7,oS 3 2 0 2 17,oM 4 3 18,oM 5 4 19]
def qK5:List qA:=[oM 0 20 5,oD1 1 21 633 20,oZ2 2 8,oS 3 8 0 2 21]
def qK6:List qA:=[oM 0 23 5,oM 1 24 0,oD2 2 25 360 23 24,oM 3 22 25,oV 4 26 22 0,oV 5 27 22 1,oM 6 6 26,oM 7 7 27]
def qK7:List qA:=[oP 0 30 (.build (.agg [.nils,.nils]) []),oM 1 31 6,oM 2 32 7,oS 3 2 0 2 30,oM 4 3 31,oM 5 4 32]
def qK8:List qA:=[oP 0 36 (.build (.agg [.nils,.nils]) []),oS 1 2 0 2 36,oC 2 3 0,oC 3 4 1]
def qK9:List qA:=[oY 0 37 8 0 2,oS 1 2 0 2 37,oC 2 3 0,oC 3 4 0]
def qK2:qG:=.seq (sr [oM 0 28 7,oE 1 29 .neq 28 0] (.cond (.t 29) (sr qK7 .ret) .skip)) (.seq (sr [oY 0 33 8 0 2,oD1 1 34 624 33,oJ 2 35 34] (.cond (.t 35) (sr qK8 .ret) .skip)) (sr qK9 .ret))
def UY:qI:=⟨1,38,[.l 2 (some 2),.t 3,.t 4],sr [oZ2 0 2,oC 1 3 0,oC 2 4 0] (sr qK3 (.seq (sr [oM 0 15 7,oE 1 16 .neq 15 0] (.cond (.t 16) (sr qK4 .ret) .skip)) (sr qK5 (sr qK6 qK2))))⟩
def qNZ:List qA:=[oM 0 18 3,oM 1 19 5,oP 2 20 (.bin .add (.c (.int .i64 48)) (.t 19)),oP 3 21 (.conv .u8 (.t 20)),oP 4 22 (.bslice 1 (.int .u8 0) 1 [(0,.t 21)]),oO 5 23 1 18 22,oM 6 3 23]
def qNU:qG:=.seq (sr [oM 0 14 5,oE 1 15 .lss 14 0] (.cond (.t 15) (.reg true [oM 0 16 5,oP 1 17 (.neg (.t 16)),oM 2 5 17]) .skip)) (sr qNZ (.reg true [oM 0 24 4,oE 1 25 .quo 24 10,oM 2 4 25]))
def qNV:qG:=.loop (.seq (sr [oM 0 10 4,oE 1 11 .neq 10 0] (.cond (.t 11) .skip (.exit 0))) (.blk 1 (sr [oM 0 12 4,oE 1 13 .rem 12 10,oM 2 5 13] qNU)))
def qN0:List qA:=[oM 0 28 3,oP 1 29 (.bslice 1 (.int .u8 0) 1 [(0,.c (.int .u8 48))]),oO 2 30 1 28 29,oM 3 3 30]
def qN1:List qA:=[oM 0 33 3,oP 1 34 (.bslice 1 (.int .u8 0) 1 [(0,.c (.int .u8 45))]),oO 2 35 1 33 34,oM 3 3 35]
def qN2:List qA:=[oM 0 37 3,oW 1 38 37,oE 2 39 .sub 38 1,oM 3 7 39]
def qN3:List qA:=[oM 0 44 6,oM 1 45 3,oM 2 46 7,oA 3 47 1 45 46,oL 4 48 47,oP 5 49 (.bslice 1 (.int .u8 0) 1 [(0,.t 48)]),oO 6 50 1 44 49,oM 7 6 50]
def qNW:qG:=.loop (.seq (sr [oM 0 40 7,oE 1 41 .geq 40 0] (.cond (.t 41) .skip (.exit 2))) (.seq (.blk 3 (.reg true qN3)) (.reg true [oM 0 42 7,oE 1 43 .sub 42 1,oM 2 7 43])))
def qNX:qG:=.seq (sr [oM 0 31 0,oE 1 32 .lss 31 0] (.cond (.t 32) (.reg true qN1) .skip)) (sr [oP 0 36 (.mov (.c (.lst 1 [] true))),oM 1 6 36] (.seq (sr qN2 (.blk 2 qNW)) (sr [oM 0 51 6,oP 1 52 (.b2s (.t 51)),oM 2 2 52] .ret)))
def qNY:qG:=sr [oP 0 8 (.mov (.c (.lst 1 [] true))),oM 1 3 8] (sr [oM 0 9 0,oM 1 4 9] (.seq (.blk 0 qNV) (.seq (sr [oM 0 26 0,oE 1 27 .eql 26 0] (.cond (.t 27) (.reg true qN0) .skip)) qNX)))
def WI:qI:=⟨1,53,[.t 2],sr [oP 0 2 (.mov (.c (.str [])))] qNY⟩
def qGA:List qA:=[oY 0 6 1 0 3,oD1 1 7 1005 6,oR' 2 8 [40] 7,oR 3 9 8 [41],oM 4 2 9]
def qF9:qG:=.seq (sr [oU 0 3 1,oX 1 4 1 0,oE 2 5 .eql 4 3] (.cond (.t 5) (sr qGA .ret) .skip)) (sr [oY 0 10 1 0 3,oD1 1 11 1005 10,oM 2 2 11] .ret)
def Vj:qI:=⟨1,12,[.t 2],sr [oI 0 1 3 0,oP 1 2 (.mov (.c (.str [])))] qF9⟩
def qCC:List qA:=[oU 0 13 1,oX 1 14 1 2,oP 2 15 (.iaddr 3 (.t 14) (.c (.int .i64 0))),oLs 3 16 3 15,oU 6 19 1,oX 7 20 1 2,oP 8 21 (.iaddr 3 (.t 20) (.c (.int .i64 1))),oLs 9 22 3 21,⟨4,some 17,none,.call 1324 [.t 16],[⟨9,some 22,none,.load (some 3) (.t 21),[]⟩]⟩,oR 5 18 17 [32,45,62,32],oD1 10 23 1005 22,oq 11 24 18 23,oM 12 2 24]
def qCA:qG:=sr [oE 0 8 .eql 4 2,oM 1 7 8] (.cond (.t 7) (sr [oU 0 9 1,oX 1 10 1 1,oM 2 2 10] .ret) (sr [oE 0 12 .eql 4 3,oM 1 11 12] (.cond (.t 11) (sr qCC .ret) .skip)))
def qCD:List qA:=[oU 0 25 1,oX 1 26 1 2,oP 2 27 (.iaddr 3 (.t 26) (.c (.int .i64 0))),oLs 3 28 3 27,oD1 4 29 1324 28,oR' 5 30 [33] 29,oM 6 2 30]
def qCB:qG:=.seq (sr [oU 0 3 1,oX 1 4 1 0] (.blk 0 (sr [oE 0 6 .eql 4 1,oM 1 5 6] (.cond (.t 5) (sr [oP 0 2 (.mov (.c (.str [73,110,116])))] .ret) qCA)))) (sr qCD .ret)
def Y4:qI:=⟨1,31,[.t 2],sr [oI 0 1 3 0,oP 1 2 (.mov (.c (.str [])))] qCB⟩
def qOZ:qG:=.seq (sr [oY 0 3 1 0 3,oD1 1 4 208 3,oJ 2 5 4] (.cond (.t 5) (sr [oP 0 2 (.mov (.c (.str [])))] .ret) .skip)) (sr [oY 0 6 1 0 3,oD1 1 7 1005 6,oM 2 2 7] .ret)
def Uw:qI:=⟨1,8,[.t 2],sr [oI 0 1 3 0,oP 1 2 (.mov (.c (.str [])))] qOZ⟩
def qB7:List qA:=[oM 0 5 4,oM 1 6 0,oW 2 7 6,oB 3 8 .lss 5 7]
def qB8:List qA:=[oM 0 15 3,oM 1 16 0,oM 2 17 4,oA 3 18 1 16 17,oL 4 19 18,oq 5 20 15 19,oM 6 3 20]
def qB5:qG:=.seq (.blk 1 (.seq (sr [oM 0 11 4,oE 1 12 .gtr 11 0] (.cond (.t 12) (.reg true [oM 0 13 3,oR 1 14 13 [44,32],oM 2 3 14]) .skip)) (.reg true qB8))) (.reg true [oM 0 9 4,oE 1 10 .add 9 1,oM 2 4 10])
def qB9:List qA:=[oM 0 23 3,oR' 1 24 [91] 23,oR 2 25 24 [93],oM 3 2 25]
def qB6:qG:=.seq (sr [oC 0 4 0] (.blk 0 (.loop (.seq (sr qB7 (.cond (.t 8) .skip (.exit 0))) qB5)))) (.seq (sr [oM 0 21 3,oP 1 22 (.sop .eql (.t 21) (.c (.str [])))] (.cond (.t 22) (sr [oP 0 2 (.mov (.c (.str [])))] .ret) .skip)) (sr qB9 .ret))
def Y3:qI:=⟨1,26,[.t 2],sr [oP 0 2 (.mov (.c (.str [])))] (sr [oP 0 3 (.mov (.c (.str [])))] qB6)⟩
def qOU:List qA:=[oM 0 7 0,oK 1 8 7,oF 2 9 0 8,oL 3 10 9,oR' 4 11 [100,97,116,97,32] 10,oR 5 12 11 [32,61],oM 6 3 12]
def qOV:List qA:=[oM 0 13 4,oM 1 14 0,oK 2 15 14,oF 3 16 1 15,oL 4 17 16,oW 5 18 17,oB 6 19 .lss 13 18]
def qOW:List qA:=[oM 0 27 6,oM 1 28 0,oK 2 29 28,oF 3 30 1 29,oL 4 31 30,oM 5 32 4,oA 6 33 2 31 32,oF 7 34 1 33,oL 8 35 34,oW 9 36 35,oB 10 37 .lss 27 36]
def qOX:List qA:=[oM 0 40 5,oM 1 41 0,oK 2 42 41,oF 3 43 1 42,oL 4 44 43,oM 5 45 4,oA 6 46 2 44 45,oF 7 47 1 46,oL 8 48 47,oM 9 49 6,oA 10 50 3 48 49,oLs 11 51 3 50,oD1 12 52 626 51,oN1 13 53 52,oO 14 54 1 40 53,oM 15 5 54]
def qOR:qG:=sr [oC 0 6 0] (.blk 2 (.loop (.seq (sr qOW (.cond (.t 37) .skip (.exit 2))) (.seq (.blk 3 (.reg true qOX)) (.reg true [oM 0 38 6,oE 1 39 .add 38 1,oM 2 6 39])))))
def qOY:List qA:=[oM 0 55 3,oM 1 56 0,oK 2 57 56,oF 3 58 1 57,oL 4 59 58,oM 5 60 4,oA 6 61 2 59 60,oF 7 62 0 61,oL 8 63 62,oR' 9 64 [32] 63,oM 10 65 5,⟨11,some 66,none,.call 1004 [.t 65],[⟨4,some 59,none,.load none (.t 58),[]⟩,⟨8,some 63,none,.load none (.t 62),[]⟩]⟩,oq 12 67 64 66,oq 13 68 55 67,oM 14 3 68]
def qOS:qG:=.seq (sr [oM 0 22 4,oE 1 23 .gtr 22 0] (.cond (.t 23) (.reg true [oM 0 24 3,oR 1 25 24 [32,124],oM 2 3 25]) .skip)) (sr [oP 0 26 (.mov (.c (.lst 1 [] true))),oM 1 5 26] (.seq qOR (.reg true qOY)))
def qOT:qG:=sr [oC 0 4 0] (.blk 0 (.loop (.seq (sr qOV (.cond (.t 19) .skip (.exit 0))) (.seq (.blk 1 qOS) (.reg true [oM 0 20 4,oE 1 21 .add 20 1,oM 2 4 21])))))
def Uv:qI:=⟨1,71,[.t 2],sr [oP 0 2 (.mov (.c (.str [])))] (sr qOU (.seq qOT (sr [oM 0 69 3,oR 1 70 69 [10],oM 2 2 70] .ret)))⟩
def qCI:List qA:=[oM 0 3 0,oK 1 4 3,oF 2 5 0 4,oL 3 6 5]
def qCE:qG:=sr [oE 0 8 .eql 6 4,oM 1 7 8] (.cond (.t 7) .skip (sr [oE 0 9 .eql 6 7,oM 1 7 9] (.cond (.t 7) .skip (.reg true [oE 0 10 .eql 6 11,oM 1 7 10]))))
def qCJ:List qA:=[oM 0 13 0,oK 1 14 13,oF 2 15 1 14,oL 3 16 15]
def qCF:qG:=.cond (.t 17) (sr [oC 0 2 1] .ret) (.seq (sr [oE 0 21 .eql 16 1,oM 1 20 21] (.cond (.t 20) .skip (.reg true [oE 0 22 .eql 16 2,oM 1 20 22]))) (.cond (.t 20) (sr [oC 0 2 2] .ret) .skip))
def qCG:qG:=.seq (sr qCJ (.blk 1 (.seq (sr [oE 0 18 .eql 16 5,oM 1 17 18] (.cond (.t 17) .skip (.reg true [oE 0 19 .eql 16 6,oM 1 17 19]))) qCF))) (sr [oC 0 2 3] .ret)
def qCH:qG:=.cond (.t 7) (sr [oC 0 2 0] .ret) (sr [oE 0 12 .eql 6 3,oM 1 11 12] (.cond (.t 11) qCG (sr [oE 0 24 .eql 6 5,oM 1 23 24] (.cond (.t 23) (sr [oC 0 2 4] .ret) .skip))))
def Y5:qI:=⟨1,25,[.t 2],sr [oC 0 2 0] (.seq (sr qCI (.blk 0 (.seq qCE qCH))) (sr [oC 0 2 5] .ret))⟩
def qGB:List qA:=[oP 0 6 (.call 1470 []),oM 1 7 0,oE 2 8 .sub 7 1,oA 3 9 1 6 8,oL 4 10 9,oM 5 2 10]
def Vk:qI:=⟨1,11,[.t 2],sr [oP 0 2 (.mov (.c (.str [])))] (.seq (sr [oM 0 3 0,oP 1 4 (.call 340 [.t 3,.c (.int .i64 1),.c (.int .i64 6)]),oJ 2 5 4] (.cond (.t 5) (sr [oP 0 2 (.mov (.c (.str [])))] .ret) .skip)) (sr qGB .ret))⟩
def qGE:List qA:=[oM 0 5 4,oM 1 6 0,oW 2 7 6,oB 3 8 .lss 5 7]
def qGF:List qA:=[oM 0 15 3,oM 1 16 0,oM 2 17 4,oA 3 18 8 16 17,oP 4 19 (.call 627 [.t 18,.c (.int .i64 0)]),oq 5 20 15 19,oM 6 3 20]
def qGC:qG:=.seq (.blk 1 (.seq (sr [oM 0 11 4,oE 1 12 .gtr 11 0] (.cond (.t 12) (.reg true [oM 0 13 3,oR 1 14 13 [44,32],oM 2 3 14]) .skip)) (.reg true qGF))) (.reg true [oM 0 9 4,oE 1 10 .add 9 1,oM 2 4 10])
def qGG:List qA:=[oM 0 23 3,oR' 1 24 [91] 23,oR 2 25 24 [93],oM 3 2 25]
def qGD:qG:=.seq (sr [oC 0 4 0] (.blk 0 (.loop (.seq (sr qGE (.cond (.t 8) .skip (.exit 0))) qGC)))) (.seq (sr [oM 0 21 3,oP 1 22 (.sop .eql (.t 21) (.c (.str [])))] (.cond (.t 22) (sr [oP 0 2 (.mov (.c (.str [])))] .ret) .skip)) (sr qGG .ret))
def Vl:qI:=⟨1,26,[.t 2],sr [oP 0 2 (.mov (.c (.str [])))] (sr [oP 0 3 (.mov (.c (.str [])))] qGD)⟩
def qCR:List qA:=[oM 0 7 0,oK 1 8 7,oF 2 9 0 8,oL 3 10 9]
def qCS:List qA:=[oM 0 13 0,oK 1 14 13,oF 2 15 1 14,oL 3 16 15,oE 4 17 .lss 16 0]
def qCY:List qA:=[oM 0 18 0,oK 1 19 18,oF 2 20 1 19,oL 3 21 20,oD1 4 22 574 21,oR' 5 23 [40] 22,oR 6 24 23 [41],oM 7 2 24]
def qC0:List qA:=[oM 0 25 0,oK 1 26 25,oF 2 27 1 26,oL 3 28 27,oD1 4 29 574 28,oM 5 2 29]
def qC1:List qA:=[oM 0 37 0,oK 1 38 37,oF 2 39 7 38,oL 3 40 39,oP 4 41 (.iaddr 8 (.t 40) (.c (.int .i64 0))),oM 5 42 4,oM 8 45 0,oK 9 46 45,oF 10 47 1 46,oL 11 48 47,oM 15 52 0,oK 16 53 52,oF 17 54 7 53,oL 18 55 54,oP 19 56 (.iaddr 8 (.t 55) (.c (.int .i64 1))),oM 20 57 3,oE 21 58 .add 57 1,⟨6,some 43,none,.call 627 [.t 41,.t 42],[⟨11,some 48,none,.load none (.t 47),[]⟩,⟨18,some 55,none,.load none (.t 54),[]⟩]⟩,oR 7 44 43 [32],⟨12,some 49,none,.call 1325 [.t 48],[⟨18,some 55,none,.load none (.t 54),[]⟩]⟩,oq 13 50 44 49,oR 14 51 50 [32],oD2 22 59 627 56 58,oq 23 60 51 59,oM 24 2 60]
def qCQ:qG:=sr [oM 0 34 3,oM 1 4 34] (.seq (sr [oM 0 35 3,oE 1 36 .eql 35 1] (.cond (.t 36) (.reg true [oC 0 4 2]) .skip)) (sr qC1 .ret))
def qC2:List qA:=[oM 0 63 0,oK 1 64 63,oF 2 65 2 64,oL 3 66 65,oR' 4 67 [92] 66,oR 5 68 67 [58],oM 6 69 0,oK 7 70 69,oF 8 71 3 70,oLs 9 72 3 71,oM 13 76 0,oK 14 77 76,oF 15 78 7 77,oL 16 79 78,oP 17 80 (.iaddr 8 (.t 79) (.c (.int .i64 0))),⟨10,some 73,none,.call 626 [.t 72],[⟨3,some 66,none,.load none (.t 65),[]⟩,⟨16,some 79,none,.load none (.t 78),[]⟩]⟩,oq 11 74 68 73,oR 12 75 74 [46,32],⟨18,some 81,none,.call 627 [.t 80,.c (.int .i64 0)],[⟨3,some 66,none,.load none (.t 65),[]⟩]⟩,oq 19 82 75 81,oM 20 2 82]
def qC3:List qA:=[oM 0 85 0,oK 1 86 85,oF 2 87 7 86,oL 3 88 87,oP 4 89 (.iaddr 8 (.t 88) (.c (.int .i64 0))),oM 7 92 0,oK 8 93 92,oF 9 94 7 93,oL 10 95 94,oP 11 96 (.iaddr 8 (.t 95) (.c (.int .i64 1))),⟨5,some 90,none,.call 627 [.t 89,.c (.int .i64 4)],[⟨10,some 95,none,.load none (.t 94),[]⟩]⟩,oR 6 91 90 [32],oP 12 97 (.call 627 [.t 96,.c (.int .i64 5)]),oq 13 98 91 97,oM 14 2 98]
def qC4:List qA:=[oM 0 101 0,oK 1 102 101,oF 2 103 7 102,oL 3 104 103,oP 4 105 (.iaddr 8 (.t 104) (.c (.int .i64 0))),oP 5 106 (.call 627 [.t 105,.c (.int .i64 5)]),oR' 6 107 [33] 106,oM 7 2 107]
def qC5:List qA:=[oM 0 110 0,oK 1 111 110,oF 2 112 2 111,oL 3 113 112,oR' 4 114 [108,101,116,32] 113,oR 5 115 114 [32,61,32],oM 6 116 0,oK 7 117 116,oF 8 118 7 117,oL 9 119 118,oP 10 120 (.iaddr 8 (.t 119) (.c (.int .i64 0))),oM 14 124 0,oK 15 125 124,oF 16 126 7 125,oL 17 127 126,oP 18 128 (.iaddr 8 (.t 127) (.c (.int .i64 1))),⟨11,some 121,none,.call 627 [.t 120,.c (.int .i64 0)],[⟨3,some 113,none,.load none (.t 112),[]⟩,⟨17,some 127,none,.load none (.t 126),[]⟩]⟩,oq 12 122 115 121,oR 13 123 122 [32,105,110,32],⟨19,some 129,none,.call 627 [.t 128,.c (.int .i64 0)],[⟨3,some 113,none,.load none (.t 112),[]⟩]⟩,oq 20 130 123 129,oM 21 2 130]
def qCT:List qA:=[oM 0 133 0,oK 1 134 133,oF 2 135 2 134,oL 3 136 135,oM 4 137 0,oK 5 138 137,oF 6 139 7 138,oL 7 140 139,⟨8,some 141,none,.call 1326 [.t 140],[⟨3,some 136,none,.load none (.t 135),[]⟩]⟩,oq 9 142 136 141,oM 10 2 142]
def qCU:List qA:=[oM 0 145 0,oK 1 146 145,oF 2 147 7 146,oL 3 148 147,oP 4 149 (.iaddr 8 (.t 148) (.c (.int .i64 0))),oP 5 150 (.call 627 [.t 149,.c (.int .i64 0)]),oR' 6 151 [109,97,116,99,104,32] 150,oR 7 152 151 [32,123,32],oM 8 5 152]
def qCV:List qA:=[oM 0 153 6,oM 1 154 0,oK 2 155 154,oF 3 156 7 155,oL 4 157 156,oW 5 158 157,oB 6 159 .lss 153 158]
def qCW:List qA:=[oM 0 166 5,oM 1 167 0,oK 2 168 167,oF 3 169 7 168,oL 4 170 169,oM 5 171 6,oA 6 172 8 170 171,oF 7 173 2 172,oL 8 174 173,oM 9 175 0,oK 10 176 175,oF 11 177 7 176,oL 12 178 177,oM 13 179 6,oA 14 180 8 178 179,oF 15 181 6 180,oL 16 182 181,oM 20 186 0,oK 21 187 186,oF 22 188 7 187,oL 23 189 188,oM 24 190 6,oA 25 191 8 189 190,oF 26 192 7 191,oL 27 193 192,oP 28 194 (.iaddr 8 (.t 193) (.c (.int .i64 0))),⟨17,some 183,none,.call 1004 [.t 182],[⟨4,some 170,none,.load none (.t 169),[]⟩,⟨8,some 174,none,.load none (.t 173),[]⟩,⟨23,some 189,none,.load none (.t 188),[]⟩,⟨27,some 193,none,.load none (.t 192),[]⟩]⟩,oq 18 184 174 183,oR 19 185 184 [32,45,62,32],⟨29,some 195,none,.call 627 [.t 194,.c (.int .i64 0)],[⟨4,some 170,none,.load none (.t 169),[]⟩,⟨8,some 174,none,.load none (.t 173),[]⟩]⟩,oq 30 196 185 195,oq 31 197 166 196,oM 32 5 197]
def qCK:qG:=.seq (.blk 2 (.seq (sr [oM 0 162 6,oE 1 163 .gtr 162 1] (.cond (.t 163) (.reg true [oM 0 164 5,oR 1 165 164 [59,32],oM 2 5 165]) .skip)) (.reg true qCW))) (.reg true [oM 0 160 6,oE 1 161 .add 160 1,oM 2 6 161])
def qCL:qG:=.seq (sr [oC 0 6 1] (.blk 1 (.loop (.seq (sr qCV (.cond (.t 159) .skip (.exit 1))) qCK)))) (sr [oM 0 198 5,oR 1 199 198 [32,125],oM 2 2 199] .ret)
def qCX:List qA:=[oM 0 202 0,oK 1 203 202,oF 2 204 7 203,oL 3 205 204,oP 4 206 (.iaddr 8 (.t 205) (.c (.int .i64 0))),oM 8 210 0,oK 9 211 210,oF 10 212 7 211,oL 11 213 212,oP 12 214 (.iaddr 8 (.t 213) (.c (.int .i64 1))),oM 16 218 0,oK 17 219 218,oF 18 220 7 219,oL 19 221 220,oP 20 222 (.iaddr 8 (.t 221) (.c (.int .i64 2))),⟨5,some 207,none,.call 627 [.t 206,.c (.int .i64 0)],[⟨11,some 213,none,.load none (.t 212),[]⟩,⟨19,some 221,none,.load none (.t 220),[]⟩]⟩,oR' 6 208 [105,102,32] 207,oR 7 209 208 [32,116,104,101,110,32],⟨13,some 215,none,.call 627 [.t 214,.c (.int .i64 0)],[⟨19,some 221,none,.load none (.t 220),[]⟩]⟩,oq 14 216 209 215,oR 15 217 216 [32,101,108,115,101,32],oP 21 223 (.call 627 [.t 222,.c (.int .i64 0)]),oq 22 224 217 223,oM 23 2 224]
def qCM:qG:=.cond (.t 131) (sr qCT .ret) (sr [oE 0 144 .eql 10 9,oM 1 143 144] (.cond (.t 143) (sr qCU qCL) (sr [oE 0 201 .eql 10 11,oM 1 200 201] (.cond (.t 200) (sr qCX .ret) .skip))))
def qCN:qG:=sr [oE 0 100 .eql 10 6,oM 1 99 100] (.cond (.t 99) (sr qC4 .ret) (sr [oE 0 109 .eql 10 7,oM 1 108 109] (.cond (.t 108) (sr qC5 .ret) (sr [oE 0 132 .eql 10 8,oM 1 131 132] qCM))))
def qCO:qG:=.cond (.t 30) (sr [oM 0 32 0,oD1 1 33 1006 32,oM 2 3 33] qCQ) (sr [oE 0 62 .eql 10 4,oM 1 61 62] (.cond (.t 61) (sr qC2 .ret) (sr [oE 0 84 .eql 10 5,oM 1 83 84] (.cond (.t 83) (sr qC3 .ret) qCN))))
def qCP:qG:=sr [oE 0 12 .eql 10 2,oM 1 11 12] (.cond (.t 11) (.seq (sr qCS (.cond (.t 17) (sr qCY .ret) .skip)) (sr qC0 .ret)) (sr [oE 0 31 .eql 10 3,oM 1 30 31] qCO))
def qCZ:List qA:=[oM 0 225 0,oK 1 226 225,oF 2 227 2 226,oL 3 228 227,oM 4 2 228]
def Y6:qI:=⟨1,229,[.t 2],sr [oP 0 2 (.mov (.c (.str [])))] (.seq (sr qCR (.blk 0 qCP)) (sr qCZ .ret))⟩
def qO0:List qA:=[oM 0 5 0,oD1 1 6 1006 5,oM 2 7 1,oB 3 8 .lss 6 7]
def qO1:List qA:=[oM 0 9 0,oD1 1 10 1007 9,oR' 2 11 [40] 10,oR 3 12 11 [41],oM 4 4 12]
def Ux:qI:=⟨2,15,[.t 4],sr [oP 0 4 (.mov (.c (.str [])))] (.seq (sr qO0 (.cond (.t 8) (sr qO1 .ret) .skip)) (sr [oM 0 13 0,oD1 1 14 1007 13,oM 2 4 14] .ret))⟩
def qKO:List qA:=[oM 0 9 4,oU 1 10 1,oX 2 11 1 0,oW 3 12 11,oB 4 13 .lss 9 12]
def qKP:List qA:=[oM 0 16 3,oU 1 17 1,oX 2 18 1 0,oM 3 19 4,oA 4 20 2 18 19,oD1 5 21 625 20,oq 6 22 16 21,oM 7 3 22]
def qKL:qG:=sr [oC 0 4 0] (.blk 0 (.loop (.seq (sr qKO (.cond (.t 13) .skip (.exit 0))) (.seq (.blk 1 (.reg true qKP)) (.reg true [oM 0 14 4,oE 1 15 .add 14 1,oM 2 4 15])))))
def qKQ:List qA:=[oM 0 23 5,oU 1 24 1,oX 2 25 1 1,oW 3 26 25,oB 4 27 .lss 23 26]
def qKR:List qA:=[oM 0 30 3,oU 1 31 1,oX 2 32 1 1,oM 3 33 5,oA 4 34 12 32 33,oF 5 35 0 34,oL 6 36 35,oR' 7 37 [100,101,102,32] 36,oR 8 38 37 [32,58,32],oU 9 39 1,oX 10 40 1 1,oM 11 41 5,oA 12 42 12 40 41,oF 13 43 1 42,oLs 14 44 3 43,oU 18 48 1,oX 19 49 1 1,oM 20 50 5,oA 21 51 12 49 50,oF 22 52 4 51,⟨15,some 45,none,.call 626 [.t 44],[⟨6,some 36,none,.load none (.t 35),[]⟩]⟩,oq 16 46 38 45,oR 17 47 46 [32,61,32],⟨23,some 53,none,.call 627 [.t 52,.c (.int .i64 0)],[⟨6,some 36,none,.load none (.t 35),[]⟩]⟩,oq 24 54 47 53,oR 25 55 54 [10],oq 26 56 30 55,oM 27 3 56]
def qKM:qG:=sr [oC 0 5 0] (.blk 2 (.loop (.seq (sr qKQ (.cond (.t 27) .skip (.exit 2))) (.seq (.blk 3 (.reg true qKR)) (.reg true [oM 0 28 5,oE 1 29 .add 28 1,oM 2 5 29])))))
def qKN:qG:=.seq (sr [oM 0 57 3,oP 1 58 (.slen (.t 57)),oE 2 59 .gtr 58 20000] (.cond (.t 59) (sr [oP 0 2 (.mov (.c (.str [])))] .ret) .skip)) (sr [oM 0 60 3,oM 1 2 60] .ret)
def UV:qI:=⟨1,61,[.t 2],sr [oI 0 1 2 0,oP 1 2 (.mov (.c (.str [])))] (.seq (sr [oY 0 6 1 0 2,oD1 1 7 624 6,oJ 2 8 7] (.cond (.t 8) (sr [oP 0 2 (.mov (.c (.str [])))] .ret) .skip)) (sr [oP 0 3 (.mov (.c (.str [])))] (.seq qKL (.seq qKM qKN))))⟩
def qJ0:List qA:=[oM 0 7 0,oD1 1 8 267 7,oM 2 6 8,oV 3 9 6 0,oV 4 10 6 1,oV 5 11 6 2,oZ2 6 3,oS 7 3 0 2 9,oM 8 4 10,oM 9 5 11]
def qJ1:List qA:=[oM 0 12 5,oE 1 13 .eql 12 0,oM 2 14 13,oG 3 15 14 true (.lload 3 0 (some 2)),oG 4 16 14 true (.call 263 [.t 15]),oH 5 17 14 true 0,oG 6 18 14 true (.sop .eql (.t 16) (.t 17)),oPf 7 19 14 18,oM 8 2 19]
def US:qI:=⟨1,20,[.t 2],sr [oQ 0 2 false] (sr qJ0 (sr qJ1 .ret))⟩
def qN4:List qA:=[oM 0 6 0,oP 1 7 (.call 620 [.t 6,.c (.str [44,32])]),oR' 2 8 [91] 7,oR 3 9 8 [93],oM 4 2 9]
def Ur:qI:=⟨1,10,[.t 2],sr [oP 0 2 (.mov (.c (.str [])))] (.seq (sr [oM 0 3 0,oW 1 4 3,oE 2 5 .eql 4 0] (.cond (.t 5) (sr [oP 0 2 (.mov (.c (.str [])))] .ret) .skip)) (sr qN4 .ret))⟩
def qN5:List qA:=[oM 0 8 0,oM 1 9 0,oK 2 10 9,oF 3 11 1 10,oL 4 12 11,oM 5 13 1,oP 6 14 (.appt 1 (.t 12) (.t 13)),oK 7 15 8,oF 8 16 1 15,oT 9 1 16 14]
def qN6:List qA:=[oM 0 17 1,oP 1 18 (.slen (.t 17)),oM 2 4 18,oP 3 5 (.mov (.c (.nili)))]
def Us:qI:=⟨2,19,[.t 4,.t 5],sr [oC 0 4 0,oP 1 5 (.mov (.c (.nili)))] (sr [oM 0 6 0,oD1 1 7 998 6] (sr qN5 (sr qN6 .ret)))⟩
def qBV:qG:=sr [oE 0 6 .eql 4 4,oM 1 5 6] (.cond (.t 5) .skip (sr [oE 0 7 .eql 4 7,oM 1 5 7] (.cond (.t 5) .skip (.reg true [oE 0 8 .eql 4 11,oM 1 5 8]))))
def qBW:qG:=.cond (.t 15) (sr [oC 0 2 1] .ret) (.seq (sr [oE 0 19 .eql 14 1,oM 1 18 19] (.cond (.t 18) .skip (.reg true [oE 0 20 .eql 14 2,oM 1 18 20]))) (.cond (.t 18) (sr [oC 0 2 2] .ret) .skip))
def qBX:qG:=sr [oU 0 13 1,oX 1 14 1 1] (.blk 1 (.seq (sr [oE 0 16 .eql 14 5,oM 1 15 16] (.cond (.t 15) .skip (.reg true [oE 0 17 .eql 14 6,oM 1 15 17]))) qBW))
def qBY:qG:=sr [oE 0 10 .eql 4 5,oM 1 9 10] (.cond (.t 9) (sr [oC 0 2 4] .ret) (sr [oE 0 12 .eql 4 3,oM 1 11 12] (.cond (.t 11) (.seq qBX (sr [oC 0 2 3] .ret)) .skip)))
def Yz:qI:=⟨1,21,[.t 2],sr [oI 0 1 8 0,oC 1 2 0] (.seq (sr [oU 0 3 1,oX 1 4 1 0] (.blk 0 (.seq qBV (.cond (.t 5) (sr [oC 0 2 0] .ret) qBY)))) (sr [oC 0 2 5] .ret))⟩
def qBZ:List qA:=[oF 0 6 7 2,oL 1 7 6,oM 2 8 0,oA 3 9 8 7 8,oLs 4 10 8 9,oM 5 11 1,oD2 6 12 621 10 11,oM 7 5 12]
def Y0:qI:=⟨3,13,[.t 5],sr [oP 0 5 (.mov (.c (.str [])))] (sr qBZ .ret)⟩
def qB3:List qA:=[oA 0 10 8 6 8,oLs 1 11 8 10,oZ8 2 5,oS 3 5 0 8 11]
def qB4:List qA:=[oM 0 12 3,oY 1 13 5 0 8,oP 2 14 (.call 621 [.t 13,.c (.int .i64 0)]),oN1 3 15 14,oO 4 16 1 12 15,oM 5 3 16]
def qB1:qG:=.loop (sr [oB 0 9 .lss 8 7] (.seq (.cond (.t 9) .skip (.exit 0)) (.seq (.blk 1 (sr qB3 (.reg true qB4))) (.reg true [oE 0 17 .add 8 1,oM 1 8 17]))))
def qB2:qG:=sr [oP 0 3 (.mov (.c (.nils)))] (.seq (sr [oM 0 6 0,oW 1 7 6,oC 2 8 0] (.blk 0 qB1)) (sr [oM 0 18 3,oM 1 2 18] .ret))
def Y2:qI:=⟨1,19,[.t 2],sr [oP 0 2 (.mov (.c (.nils)))] qB2⟩
def qOD:List qA:=[oLs 0 7 8 2,oD1 1 8 1000 7,oM 2 9 1,oB 3 10 .lss 8 9]
def qOE:List qA:=[oLs 0 11 8 2,oP 1 12 (.call 621 [.t 11,.c (.int .i64 0)]),oR' 2 13 [40] 12,oR 3 14 13 [41],oM 4 4 14]
def qOJ:List qA:=[oF 0 23 1 2,oL 1 24 23,oD1 2 25 577 24,oR' 3 26 [40] 25,oR 4 27 26 [41],oM 5 4 27]
def qOK:List qA:=[oF 0 28 1 2,oL 1 29 28,oD1 2 30 577 29,oM 3 4 30]
def qOL:List qA:=[oM 0 37 5,oM 1 38 6,oF 4 41 1 2,oL 5 42 41,oM 9 46 5,oLs 10 47 8 2,⟨2,some 39,none,.callv (.t 37) [.c (.int .i64 0),.t 38],[⟨5,some 42,none,.load none (.t 41),[]⟩,⟨10,some 47,none,.load (some 8) (.t 2),[]⟩]⟩,oR 3 40 39 [32],⟨6,some 43,none,.call 1002 [.t 42],[⟨10,some 47,none,.load (some 8) (.t 2),[]⟩]⟩,oq 7 44 40 43,oR 8 45 44 [32],oD1 11 48 1000 47,oE 12 49 .add 48 1,oP 13 50 (.callv (.t 46) [.c (.int .i64 1),.t 49]),oq 14 51 45 50,oM 15 4 51]
def qOC:qG:=sr [oLs 0 33 8 2,oD1 1 34 1000 33,oM 2 6 34] (.seq (sr [oM 0 35 6,oE 1 36 .eql 35 1] (.cond (.t 36) (.reg true [oC 0 6 2]) .skip)) (sr qOL .ret))
def qOM:List qA:=[oF 0 54 2 2,oL 1 55 54,oR' 2 56 [92] 55,oR 3 57 56 [58],oF 4 58 3 2,oLs 5 59 3 58,oM 9 63 5,⟨6,some 60,none,.call 336 [.t 59],[⟨1,some 55,none,.load none (.t 54),[]⟩]⟩,oq 7 61 57 60,oR 8 62 61 [46,32],⟨10,some 64,none,.callv (.t 63) [.c (.int .i64 0),.c (.int .i64 0)],[⟨1,some 55,none,.load none (.t 54),[]⟩]⟩,oq 11 65 62 64,oM 12 4 65]
def qON:List qA:=[oM 0 68 5,oP 1 69 (.callv (.t 68) [.c (.int .i64 0),.c (.int .i64 4)]),oR 2 70 69 [32],oM 3 71 5,oP 4 72 (.callv (.t 71) [.c (.int .i64 1),.c (.int .i64 5)]),oq 5 73 70 72,oM 6 4 73]
def qOO:List qA:=[oM 0 76 5,oP 1 77 (.callv (.t 76) [.c (.int .i64 0),.c (.int .i64 5)]),oR' 2 78 [33] 77,oM 3 4 78]
def qOP:List qA:=[oF 0 81 2 2,oL 1 82 81,oR' 2 83 [108,101,116,32] 82,oR 3 84 83 [32,61,32],oM 4 85 5,oM 8 89 5,⟨5,some 86,none,.callv (.t 85) [.c (.int .i64 0),.c (.int .i64 0)],[⟨1,some 82,none,.load none (.t 81),[]⟩]⟩,oq 6 87 84 86,oR 7 88 87 [32,105,110,32],⟨9,some 90,none,.callv (.t 89) [.c (.int .i64 1),.c (.int .i64 0)],[⟨1,some 82,none,.load none (.t 81),[]⟩]⟩,oq 10 91 88 90,oM 11 4 91]
def qOF:List qA:=[oM 0 94 5,oP 1 95 (.callv (.t 94) [.c (.int .i64 0),.c (.int .i64 0)]),oR' 2 96 [105,102,32] 95,oR 3 97 96 [32,116,104,101,110,32],oM 4 98 5,oP 5 99 (.callv (.t 98) [.c (.int .i64 1),.c (.int .i64 0)]),oq 6 100 97 99,oR 7 101 100 [32,101,108,115,101,32],oM 8 102 5,oP 9 103 (.callv (.t 102) [.c (.int .i64 2),.c (.int .i64 0)]),oq 10 104 101 103,oM 11 4 104]
def qOG:List qA:=[oM 0 107 5,oF 4 111 7 2,oL 5 112 111,oP 6 113 (.slc 8 (.t 112) (some (.c (.int .i64 1))) none none),⟨1,some 108,none,.callv (.t 107) [.c (.int .i64 0),.c (.int .i64 0)],[⟨5,some 112,none,.load none (.t 111),[]⟩]⟩,oR' 2 109 [109,97,116,99,104,32] 108,oR 3 110 109 [32,123,32],oD1 7 114 1003 113,oP 8 115 (.call 620 [.t 114,.c (.str [59,32])]),oq 9 116 110 115,oR 10 117 116 [32,125],oM 11 4 117]
def qOH:List qA:=[oF 0 120 2 2,oL 1 121 120,oF 2 122 6 2,oL 3 123 122,oM 7 127 5,⟨4,some 124,none,.call 618 [.t 123],[⟨1,some 121,none,.load none (.t 120),[]⟩]⟩,oq 5 125 121 124,oR 6 126 125 [32,45,62,32],⟨8,some 128,none,.callv (.t 127) [.c (.int .i64 0),.c (.int .i64 0)],[⟨1,some 121,none,.load none (.t 120),[]⟩]⟩,oq 9 129 126 128,oM 10 4 129]
def qOI:List qA:=[oF 0 132 2 2,oL 1 133 132,oF 2 134 7 2,oL 3 135 134,⟨4,some 136,none,.call 1003 [.t 135],[⟨1,some 133,none,.load none (.t 132),[]⟩]⟩,⟨5,some 137,none,.call 618 [.t 136],[⟨1,some 133,none,.load none (.t 132),[]⟩]⟩,oq 6 138 133 137,oM 7 4 138]
def qN7:qG:=.cond (.t 105) (sr qOG .ret) (sr [oE 0 119 .eql 17 10,oM 1 118 119] (.cond (.t 118) (sr qOH .ret) (sr [oE 0 131 .eql 17 8,oM 1 130 131] (.cond (.t 130) (sr qOI .ret) .skip))))
def qN8:qG:=sr [oE 0 80 .eql 17 7,oM 1 79 80] (.cond (.t 79) (sr qOP .ret) (sr [oE 0 93 .eql 17 11,oM 1 92 93] (.cond (.t 92) (sr qOF .ret) (sr [oE 0 106 .eql 17 9,oM 1 105 106] qN7))))
def qN9:qG:=.cond (.t 52) (sr qOM .ret) (sr [oE 0 67 .eql 17 5,oM 1 66 67] (.cond (.t 66) (sr qON .ret) (sr [oE 0 75 .eql 17 6,oM 1 74 75] (.cond (.t 74) (sr qOO .ret) qN8))))
def qOA:qG:=.cond (.t 18) (.seq (sr [oF 0 20 1 2,oL 1 21 20,oE 2 22 .lss 21 0] (.cond (.t 22) (sr qOJ .ret) .skip)) (sr qOK .ret)) (sr [oE 0 32 .eql 17 3,oM 1 31 32] (.cond (.t 31) qOC (sr [oE 0 53 .eql 17 4,oM 1 52 53] qN9)))
def qOB:qG:=.seq (sr [oF 0 16 0 2,oL 1 17 16] (.blk 0 (sr [oE 0 19 .eql 17 2,oM 1 18 19] qOA))) (sr [oF 0 139 2 2,oL 1 140 139,oM 2 4 140] .ret)
def WJ:qI:=⟨2,141,[.t 4],sr [oP 0 2 (.hbox 8 (.t 0)),oP 1 4 (.mov (.c (.str [])))] (.seq (sr qOD (.cond (.t 10) (sr qOE .ret) .skip)) (sr [oP 0 15 (.mkfn 1001 [.t 2]),oM 1 5 15] qOB))⟩
def qOQ:qG:=.seq (sr [oM 0 3 0,oP 1 4 (.slen (.t 3)),oE 2 5 .gtr 4 20000] (.cond (.t 5) (sr [oP 0 2 (.mov (.c (.str [])))] .ret) .skip)) (sr [oM 0 6 0,oM 1 2 6] .ret)
def Ut:qI:=⟨1,7,[.t 2],sr [oP 0 2 (.mov (.c (.str [])))] qOQ⟩
def qJ9:List qA:=[oU 0 17 1,oX 1 18 1 0,oW 2 19 18,oC 3 20 0]
def qKA:List qA:=[oA 0 22 2 18 20,oLs 1 23 2 22,oP 2 5 (.lalloc (.agg [.str [],.nils])),oS 3 5 0 2 23]
def qKF:List qA:=[oU 0 24 5,oX 1 25 5 1,oW 2 26 25,oC 3 27 0]
def qKG:List qA:=[oA 0 29 2 25 27,oLs 1 30 2 29,oP 2 8 (.lalloc (.agg [.str [],.nils])),oS 3 8 0 2 30]
def qKH:List qA:=[oU 0 31 8,oX 1 32 8 1,oW 2 33 32,oC 3 34 0]
def qKI:List qA:=[oA 0 36 3 32 34,oLs 1 37 3 36,oZ3 2 11,oS 3 11 0 3 37]
def qKJ:List qA:=[oM 0 38 9,oY 1 39 11 0 3,oD1 2 40 336 39,oN1 3 41 40,oO 4 42 1 38 41,oM 5 9 42]
def qJ7:qG:=.loop (sr [oB 0 35 .lss 34 33] (.seq (.cond (.t 35) .skip (.exit 4)) (.seq (.blk 5 (sr qKI (.reg true qKJ))) (.reg true [oE 0 43 .add 34 1,oM 1 34 43]))))
def qKK:List qA:=[oM 0 44 6,oU 1 45 8,oX 2 46 8 0,oM 3 47 9,oD1 4 48 618 47,oq 5 49 46 48,oN1 6 50 49,oO 7 51 1 44 50,oM 8 6 51]
def qJ8:qG:=sr [oB 0 28 .lss 27 26] (.seq (.cond (.t 28) .skip (.exit 2)) (.seq (.blk 3 (sr qKG (sr [oP 0 9 (.mov (.c (.nils)))] (.seq (sr qKH (.blk 4 qJ7)) (.reg true qKK))))) (.reg true [oE 0 52 .add 27 1,oM 1 27 52])))
def qKB:List qA:=[oU 0 53 5,oX 1 54 5 0,oR' 2 55 [100,97,116,97,32] 54,oR 3 56 55 [32,61,32],oM 4 57 6,oP 5 58 (.call 620 [.t 57,.c (.str [32,124,32])]),oq 6 59 56 58,oR 7 60 59 [10],oD2 8 61 619 3 60]
def qJ4:qG:=.seq (.blk 1 (sr qKA (sr [oP 0 6 (.mov (.c (.nils)))] (.seq (sr qKF (.blk 2 (.loop qJ8))) (.reg true qKB))))) (.reg true [oE 0 62 .add 20 1,oM 1 20 62])
def qKC:List qA:=[oU 0 63 1,oX 1 64 1 1,oW 2 65 64,oC 3 66 0]
def qKD:List qA:=[oA 0 68 12 64 66,oLs 1 69 12 68,oP 2 13 (.lalloc (.agg [.str [],.int .i64 0,.str [],.nils,.int .i64 0,.int .i64 0,.str [],.int .i64 0,.str [],.nils,.nils,.nils])),oS 3 13 0 12 69]
def qKE:List qA:=[oU 0 70 13,oX 1 71 13 0,oR' 2 72 [100,101,102,32] 71,oR 3 73 72 [32,58,32],oU 4 74 13,oY 5 75 13 1 3,oU 9 79 13,oY 10 80 13 4 8,oD1 6 76 336 75,oq 7 77 73 76,oR 8 78 77 [32,61,32],oP 11 81 (.call 621 [.t 80,.c (.int .i64 0)]),oq 12 82 78 81,oR 13 83 82 [10],oD2 14 84 619 3 83]
def qJ5:qG:=.loop (sr [oB 0 67 .lss 66 65] (.seq (.cond (.t 67) .skip (.exit 6)) (.seq (.blk 7 (sr qKD (.reg true qKE))) (.reg true [oE 0 85 .add 66 1,oM 1 66 85]))))
def qJ6:qG:=.seq (sr qJ9 (.blk 0 (.loop (sr [oB 0 21 .lss 20 19] (.seq (.cond (.t 21) .skip (.exit 0)) qJ4))))) (.seq (sr qKC (.blk 6 qJ5)) (sr [oD1 0 86 623 3,oD1 1 87 622 86,oM 2 2 87] .ret))
def UU:qI:=⟨1,88,[.t 2],sr [oI 0 1 2 0,oP 1 2 (.mov (.c (.str [])))] (.seq (sr [oY 0 14 1 0 2,oD1 1 15 527 14,oJ 2 16 15] (.cond (.t 16) (sr [oP 0 2 (.mov (.c (.str [])))] .ret) .skip)) (sr [oP 0 3 (.hallt 2 (.agg [.nilp,.nils]))] qJ6))⟩
def qJ2:List qA:=[oM 0 7 0,oD1 1 8 264 7,oM 2 6 8,oV 3 9 6 0,oV 4 10 6 1,oV 5 11 6 2,oZ2 6 3,oS 7 3 0 2 9,oM 8 4 10,oM 9 5 11]
def qJ3:List qA:=[oM 0 12 5,oE 1 13 .eql 12 0,oM 2 14 13,oG 3 15 14 true (.lload 3 0 (some 2)),oG 4 16 14 true (.call 262 [.t 15]),oH 5 17 14 true 0,oG 6 18 14 true (.sop .eql (.t 16) (.t 17)),oPf 7 19 14 18,oM 8 2 19]
def UT:qI:=⟨1,20,[.t 2],sr [oQ 0 2 false] (sr qJ2 (sr qJ3 .ret))⟩
def qMB:qG:=sr [oM 0 10 0,oD1 1 11 255 10,oM 2 4 11] (.seq (sr [oM 0 12 4,oM 1 13 3,oP 2 14 (.beq true (.t 12) (.t 13))] (.cond (.t 14) (sr [oQ 0 2 false] .ret) .skip)) (sr [oQ 0 2 true] .ret))
def qMC:qG:=.seq (sr [oM 0 5 0,oP 1 6 (.slen (.t 5)),oE 2 7 .gtr 6 1048576] (.cond (.t 7) (sr [oQ 0 2 true] .ret) .skip)) (sr [oM 0 8 0,oD1 1 9 254 8,oM 2 3 9] qMB)
def F43:qI:=⟨1,15,[.t 2],sr [oQ 0 2 false] qMC⟩
@[go_sem] theorem rR0:OE qDT.eq_1/\OE qFK.eq_1/\OE qGJ.eq_1/\OE qC7.eq_1/\OE qEK.eq_1/\CE qEI.eq_1/\CE qEJ.eq_1/\OE qC8.eq_1/\OE qDR.eq_1/\OE qDS.eq_1/\CE qDP.eq_1/\CE qDQ.eq_1/\OE qPT.eq_1/\OE qLG.eq_1/\OE qLH.eq_1/\OE qLK.eq_1/\OE qLL.eq_1/\OE qLM.eq_1/\CE qLE.eq_1/\CE qLF.eq_1/\OE qLN.eq_1/\OE qLO.eq_1/\OE qLP.eq_1/\OE qLI.eq_1/\CE qLC.eq_1/\CE qLD.eq_1/\OE qLJ.eq_1/\OE qQR.eq_1/\OE qQS.eq_1/\OE qR5.eq_1/\OE qDL.eq_1/\OE qDN.eq_1/\OE qDO.eq_1/\CE qDM.eq_1/\OE qC9.eq_1/\OE qDA.eq_1/\OE qGK.eq_1/\OE qDB.eq_1/\OE qPI.eq_1/\OE qPJ.eq_1/\OE qPK.eq_1/\CE qPF.eq_1/\CE qPG.eq_1/\CE qPH.eq_1/\OE qPL.eq_1/\OE qPM.eq_1/\OE qPN.eq_1/\OE qPO.eq_1/\CE qPD.eq_1/\CE qPE.eq_1/\OE qKW.eq_1/\OE qKX.eq_1/\OE qKY.eq_1/\OE qKZ.eq_1/\OE qK0.eq_1/\CE qKT.eq_1/\CE qKU.eq_1/\OE qK1.eq_1/\CE qKV.eq_1/\OE qDU.eq_1:=by and_intros<;>first|exact OEM _|exact CEM _
@[go_sem] theorem rR1:OE qDV.eq_1/\OE qDW.eq_1/\OE qPU.eq_1/\OE qDX.eq_1/\OE qDY.eq_1/\OE qPZ.eq_1/\OE qP0.eq_1/\OE qRN.eq_1/\OE qRO.eq_1/\OE qRP.eq_1/\CE qRM.eq_1/\OE qRQ.eq_1/\OE qR9.eq_1/\OE qPX.eq_1/\OE qPY.eq_1/\CE qPV.eq_1/\CE qPW.eq_1/\OE qP1.eq_1/\OE qLW.eq_1/\OE qLX.eq_1/\OE qL2.eq_1/\OE qHQ.eq_1/\OE qHS.eq_1/\OE qHT.eq_1/\CE qHR.eq_1/\OE qHU.eq_1/\OE qF6.eq_1/\OE qF7.eq_1/\OE qF8.eq_1/\CE qF5.eq_1/\OE qSO.eq_1/\OE qNP.eq_1/\CE qNK.eq_1/\CE qNL.eq_1/\OE qNQ.eq_1/\OE qNR.eq_1/\OE qNS.eq_1/\OE qNT.eq_1/\CE qNM.eq_1/\CE qNN.eq_1/\CE qNO.eq_1/\OE qJZ.eq_1/\OE qGW.eq_1/\OE qF1.eq_1/\OE qHY.eq_1/\CE qHX.eq_1/\OE qH1.eq_1/\OE qH2.eq_1/\OE qH3.eq_1/\OE qH4.eq_1/\CE qHZ.eq_1/\CE qH0.eq_1/\OE qH6.eq_1/\OE qH7.eq_1/\CE qH5.eq_1/\OE qG1.eq_1/\OE qG2.eq_1/\OE qG3.eq_1/\OE qG4.eq_1/\CE qGX.eq_1:=by and_intros<;>first|exact OEM _|exact CEM _
@[go_sem] theorem rR2:CE qGY.eq_1/\CE qGZ.eq_1/\OE qG5.eq_1/\OE qG6.eq_1/\CE qG0.eq_1/\OE qEN.eq_1/\OE qEO.eq_1/\OE qEP.eq_1/\OE qEQ.eq_1/\OE qER.eq_1/\OE qES.eq_1/\CE qEL.eq_1/\OE qET.eq_1/\CE qEM.eq_1/\OE qQF.eq_1/\OE qQG.eq_1/\OE qQH.eq_1/\CE qQE.eq_1/\OE qL4.eq_1/\OE qL5.eq_1/\OE qL6.eq_1/\OE qLB.eq_1/\OE qLA.eq_1/\OE qEU.eq_1/\OE qQM.eq_1/\OE qQN.eq_1/\OE qE0.eq_1/\OE qRD.eq_1/\OE qRE.eq_1/\OE qRF.eq_1/\OE qRG.eq_1/\OE qRH.eq_1/\OE qRI.eq_1/\OE qQK.eq_1/\OE qQL.eq_1/\CE qQI.eq_1/\CE qQJ.eq_1/\OE qL7.eq_1/\OE qL8.eq_1/\OE qQO.eq_1/\OE qQP.eq_1/\OE qL9.eq_1/\OE qMA.eq_1/\OE qLS.eq_1/\OE qLT.eq_1/\OE qLU.eq_1/\OE qLV.eq_1/\CE qLQ.eq_1/\CE qLR.eq_1/\OE qQQ.eq_1/\OE qP3.eq_1/\CE qP2.eq_1/\OE qL0.eq_1/\OE qL1.eq_1/\CE qLY.eq_1/\CE qLZ.eq_1/\CE qDZ.eq_1/\CE qD0.eq_1/\CE qD1.eq_1/\CE qD2.eq_1:=by and_intros<;>first|exact OEM _|exact CEM _
@[go_sem] theorem rR3:CE qD3.eq_1/\CE qD4.eq_1/\OE qGS.eq_1/\OE qQC.eq_1/\OE qQD.eq_1/\CE qQB.eq_1/\OE qGU.eq_1/\OE qGV.eq_1/\CE qGT.eq_1/\OE qD7.eq_1/\OE qD8.eq_1/\OE qEA.eq_1/\OE qEB.eq_1/\OE qEC.eq_1/\OE qED.eq_1/\OE qEE.eq_1/\OE qEF.eq_1/\OE qEG.eq_1/\OE qEH.eq_1/\CE qD5.eq_1/\OE qD9.eq_1/\CE qD6.eq_1/\OE qP6.eq_1/\OE qP7.eq_1/\OE qP8.eq_1/\OE qP9.eq_1/\OE qQA.eq_1/\CE qP4.eq_1/\CE qP5.eq_1/\OE qL3.eq_1/\OE qHB.eq_1/\OE qHC.eq_1/\CE qHA.eq_1/\OE qE5.eq_1/\OE qE6.eq_1/\OE qE7.eq_1/\OE qE8.eq_1/\CE qE4.eq_1/\OE qGP.eq_1/\OE qI0.eq_1/\OE qI1.eq_1/\OE qI2.eq_1/\CE qIY.eq_1/\CE qIZ.eq_1/\OE qI5.eq_1/\OE qI6.eq_1/\CE qI3.eq_1/\OE qI7.eq_1/\OE qI8.eq_1/\CE qI4.eq_1/\OE qJR.eq_1/\OE qJS.eq_1/\OE qJT.eq_1/\CE qJP.eq_1/\OE qJU.eq_1/\CE qJQ.eq_1/\OE qJA.eq_1/\OE qJB.eq_1/\OE qJC.eq_1/\CE qI9.eq_1:=by and_intros<;>first|exact OEM _|exact CEM _
@[go_sem] theorem rR4:OE qIJ.eq_1/\OE qIK.eq_1/\OE qIL.eq_1/\CE qIE.eq_1/\CE qIF.eq_1/\OE qIM.eq_1/\CE qIG.eq_1/\OE qIN.eq_1/\CE qIH.eq_1/\CE qII.eq_1/\OE qIO.eq_1/\OE qH9.eq_1/\OE qIA.eq_1/\CE qH8.eq_1/\OE qG8.eq_1/\OE qG9.eq_1/\CE qG7.eq_1/\OE qE2.eq_1/\OE qE3.eq_1/\CE qE1.eq_1/\OE qRK.eq_1/\OE qRL.eq_1/\CE qRJ.eq_1/\OE qMS.eq_1/\OE qMT.eq_1/\OE qMV.eq_1/\CE qMQ.eq_1/\OE qMW.eq_1/\OE qMX.eq_1/\OE qMY.eq_1/\CE qMR.eq_1/\OE qMZ.eq_1/\OE qM0.eq_1/\OE qMU.eq_1/\CE qMN.eq_1/\CE qMO.eq_1/\CE qMP.eq_1/\OE qDK.eq_1/\OE qEV.eq_1/\OE qEX.eq_1/\OE qEY.eq_1/\CE qEW.eq_1/\OE qEZ.eq_1/\OE qQY.eq_1/\OE qQZ.eq_1/\OE qQ5.eq_1/\OE qQ6.eq_1/\OE qQ7.eq_1/\OE qQ8.eq_1/\OE qQ9.eq_1/\OE qRA.eq_1/\OE qRB.eq_1/\OE qRC.eq_1/\OE qQ0.eq_1/\OE qQ1.eq_1/\OE qQ2.eq_1/\OE qQ3.eq_1/\OE qQ4.eq_1/\CE qQT.eq_1/\CE qQU.eq_1:=by and_intros<;>first|exact OEM _|exact CEM _
@[go_sem] theorem rR5:CE qQV.eq_1/\CE qQW.eq_1/\CE qQX.eq_1/\OE qMG.eq_1/\OE qMH.eq_1/\OE qMI.eq_1/\OE qMJ.eq_1/\OE qMK.eq_1/\OE qML.eq_1/\CE qMD.eq_1/\CE qME.eq_1/\OE qMM.eq_1/\CE qMF.eq_1/\OE qHV.eq_1/\OE qHW.eq_1/\OE qB0.eq_1/\OE qGR.eq_1/\CE qGQ.eq_1/\CE qFE.eq_1/\CE qFF.eq_1/\OE qFG.eq_1/\CE qGH.eq_1/\OE qJK.eq_1/\OE qJL.eq_1/\OE qJM.eq_1/\OE qJN.eq_1/\OE qJO.eq_1/\CE qJJ.eq_1/\CE qJD.eq_1/\OE qJY.eq_1/\OE qJW.eq_1/\OE qJX.eq_1/\CE qJV.eq_1/\OE qJF.eq_1/\OE qJG.eq_1/\OE qJH.eq_1/\CE qJE.eq_1/\OE qJI.eq_1/\OE qIT.eq_1/\CE qIP.eq_1/\CE qIQ.eq_1/\OE qIU.eq_1/\OE qIV.eq_1/\CE qIR.eq_1/\CE qIS.eq_1/\OE qIW.eq_1/\OE qIX.eq_1/\OE qIC.eq_1/\OE qID.eq_1/\CE qIB.eq_1/\OE qHE.eq_1/\OE qHF.eq_1/\OE qHG.eq_1/\OE qHH.eq_1/\CE qHD.eq_1/\OE qFA.eq_1/\OE qFB.eq_1/\OE qFC.eq_1/\OE qFD.eq_1/\CE qE9.eq_1:=by and_intros<;>first|exact OEM _|exact CEM _
@[go_sem] theorem rR6:OE qRS.eq_1/\OE qRT.eq_1/\OE qRU.eq_1/\CE qRR.eq_1/\OE qM6.eq_1/\OE qM7.eq_1/\OE qM9.eq_1/\CE qM4.eq_1/\OE qNA.eq_1/\OE qNB.eq_1/\OE qNC.eq_1/\CE qM5.eq_1/\OE qND.eq_1/\OE qNE.eq_1/\OE qM8.eq_1/\CE qM1.eq_1/\CE qM2.eq_1/\CE qM3.eq_1/\OE qHJ.eq_1/\OE qFH.eq_1/\OE qFN.eq_1/\OE qR7.eq_1/\OE qR8.eq_1/\OE qHK.eq_1/\OE qFI.eq_1/\OE qFJ.eq_1/\OE qRZ.eq_1/\OE qR0.eq_1/\OE qR1.eq_1/\OE qR2.eq_1/\OE qR3.eq_1/\OE qR4.eq_1/\CE qRV.eq_1/\CE qRW.eq_1/\CE qRX.eq_1/\CE qRY.eq_1/\OE qFL.eq_1/\OE qR6.eq_1/\OE qNG.eq_1/\OE qNH.eq_1/\OE qNI.eq_1/\OE qNJ.eq_1/\CE qNF.eq_1/\OE qGI.eq_1/\OE qC6.eq_1/\OE qO5.eq_1/\OE qO6.eq_1/\OE qO7.eq_1/\OE qO8.eq_1/\CE qO3.eq_1/\OE qO9.eq_1/\OE qPA.eq_1/\OE qPB.eq_1/\OE qPC.eq_1/\CE qO4.eq_1/\CE qO2.eq_1/\OE qKS.eq_1/\OE qSH.eq_1/\OE qSI.eq_1/\CE qSG.eq_1:=by and_intros<;>first|exact OEM _|exact CEM _
@[go_sem] theorem rR7:OE qF3.eq_1/\OE qF4.eq_1/\CE qF2.eq_1/\OE qSL.eq_1/\OE qSM.eq_1/\OE qSN.eq_1/\CE qSJ.eq_1/\CE qSK.eq_1/\OE qHN.eq_1/\OE qHO.eq_1/\OE qHP.eq_1/\CE qHM.eq_1/\OE qFT.eq_1/\OE qFU.eq_1/\OE qFV.eq_1/\OE qFW.eq_1/\OE qFX.eq_1/\OE qFY.eq_1/\OE qFZ.eq_1/\CE qFR.eq_1/\OE qF0.eq_1/\CE qFS.eq_1/\CE qFO.eq_1/\CE qFP.eq_1/\CE qFQ.eq_1/\OE qSC.eq_1/\OE qSD.eq_1/\OE qSE.eq_1/\OE qSF.eq_1/\CE qSA.eq_1/\CE qSB.eq_1/\OE qGN.eq_1/\OE qGO.eq_1/\CE qGL.eq_1/\CE qGM.eq_1/\OE qDD.eq_1/\OE qDE.eq_1/\OE qDF.eq_1/\CE qDC.eq_1/\OE qDH.eq_1/\OE qDI.eq_1/\OE qDJ.eq_1/\CE qDG.eq_1/\OE qPR.eq_1/\OE qPS.eq_1/\CE qPP.eq_1/\CE qPQ.eq_1/\OE qK3.eq_1/\OE qK4.eq_1/\OE qK5.eq_1/\OE qK6.eq_1/\OE qK7.eq_1/\OE qK8.eq_1/\OE qK9.eq_1/\CE qK2.eq_1/\OE qNZ.eq_1/\CE qNU.eq_1/\CE qNV.eq_1/\OE qN0.eq_1/\OE qN1.eq_1:=by and_intros<;>first|exact OEM _|exact CEM _
@[go_sem] theorem rR8:OE qN2.eq_1/\OE qN3.eq_1/\CE qNW.eq_1/\CE qNX.eq_1/\CE qNY.eq_1/\OE qGA.eq_1/\CE qF9.eq_1/\OE qCC.eq_1/\CE qCA.eq_1/\OE qCD.eq_1/\CE qCB.eq_1/\CE qOZ.eq_1/\OE qB7.eq_1/\OE qB8.eq_1/\CE qB5.eq_1/\OE qB9.eq_1/\CE qB6.eq_1/\OE qOU.eq_1/\OE qOV.eq_1/\OE qOW.eq_1/\OE qOX.eq_1/\CE qOR.eq_1/\OE qOY.eq_1/\CE qOS.eq_1/\CE qOT.eq_1/\OE qCI.eq_1/\CE qCE.eq_1/\OE qCJ.eq_1/\CE qCF.eq_1/\CE qCG.eq_1/\CE qCH.eq_1/\OE qGB.eq_1/\OE qGE.eq_1/\OE qGF.eq_1/\CE qGC.eq_1/\OE qGG.eq_1/\CE qGD.eq_1/\OE qCR.eq_1/\OE qCS.eq_1/\OE qCY.eq_1/\OE qC0.eq_1/\OE qC1.eq_1/\CE qCQ.eq_1/\OE qC2.eq_1/\OE qC3.eq_1/\OE qC4.eq_1/\OE qC5.eq_1/\OE qCT.eq_1/\OE qCU.eq_1/\OE qCV.eq_1/\OE qCW.eq_1/\CE qCK.eq_1/\CE qCL.eq_1/\OE qCX.eq_1/\CE qCM.eq_1/\CE qCN.eq_1/\CE qCO.eq_1/\CE qCP.eq_1/\OE qCZ.eq_1/\OE qO0.eq_1:=by and_intros<;>first|exact OEM _|exact CEM _
@[go_sem] theorem rR9:OE qO1.eq_1/\OE qKO.eq_1/\OE qKP.eq_1/\CE qKL.eq_1/\OE qKQ.eq_1/\OE qKR.eq_1/\CE qKM.eq_1/\CE qKN.eq_1/\OE qJ0.eq_1/\OE qJ1.eq_1/\OE qN4.eq_1/\OE qN5.eq_1/\OE qN6.eq_1/\CE qBV.eq_1/\CE qBW.eq_1/\CE qBX.eq_1/\CE qBY.eq_1/\OE qBZ.eq_1/\OE qB3.eq_1/\OE qB4.eq_1/\CE qB1.eq_1/\CE qB2.eq_1/\OE qOD.eq_1/\OE qOE.eq_1/\OE qOJ.eq_1/\OE qOK.eq_1/\OE qOL.eq_1/\CE qOC.eq_1/\OE qOM.eq_1/\OE qON.eq_1/\OE qOO.eq_1/\OE qOP.eq_1/\OE qOF.eq_1/\OE qOG.eq_1/\OE qOH.eq_1/\OE qOI.eq_1/\CE qN7.eq_1/\CE qN8.eq_1/\CE qN9.eq_1/\CE qOA.eq_1/\CE qOB.eq_1/\CE qOQ.eq_1/\OE qJ9.eq_1/\OE qKA.eq_1/\OE qKF.eq_1/\OE qKG.eq_1/\OE qKH.eq_1/\OE qKI.eq_1/\OE qKJ.eq_1/\CE qJ7.eq_1/\OE qKK.eq_1/\CE qJ8.eq_1/\OE qKB.eq_1/\CE qJ4.eq_1/\OE qKC.eq_1/\OE qKD.eq_1/\OE qKE.eq_1/\CE qJ5.eq_1/\CE qJ6.eq_1/\OE qJ2.eq_1:=by and_intros<;>first|exact OEM _|exact CEM _
@[go_sem] theorem rR10:OE qJ3.eq_1/\CE qMB.eq_1/\CE qMC.eq_1:=by and_intros<;>first|exact OEM _|exact CEM _
def tabm:List (Nat×qI):=[(1100,VI),(1206,Vc),(1330,Vn),(1012,Y8),(1106,VO),(732,U9),(1013,Y9),(1099,VH),(717,U1),(331,Ud),(74,F74),(889,KO),(577,Uq),(1051,VF),(1091,VG),(1014,VA),(1331,Vo),(1015,VB),(632,Uz),(266,UX),(1101,VJ),(719,U2),(1103,VL),(721,U4),(875,KI),(876,KJ),(908,KS),(911,KT),(1102,VK),(720,U3),(722,U5),(335,Uf),(340,Uh),(1440,V3),(1513,UC),(1441,V4),(1442,V5),(1241,Vi),(921,KX),(541,Up),(208,UR),(1393,Vu),(1237,Vg),(1496,V7),(1497,V8),(1498,V9),(1394,Vv),(1107,VP),(735,KA),(358,Uj),(327,Ua),(326,UZ),(328,Ub),(329,Uc),(1108,VQ),(737,KB),(1185,VU),(871,KF),(872,KG),(736,WK),(359,WH),(738,KD),(360,Uk),(332,Ue),(73,F73),(723,U6),(336,Ug),(1104,VM),(1391,Vs),(729,U8),(1392,Vt),(1105,VN),(728,U7),(350,Ui),(1470,V6),(1424,Vx),(1187,VW),(1333,Vq),(1550,UH),(1551,UI),(1559,UO),(1552,UJ),(1537,UD),(1538,UE),(1510,UA),(1423,Vw),(1186,VV),(873,KH),(509,Um),(1050,VE),(1143,VS),(1144,VT),(807,KE),(445,Ul),(144,V2),(1002,Y1),(1383,Vr),(1189,VY),(1190,VZ),(1327,Qp),(1556,UN),(1553,UK),(1561,UQ),(1560,UP),(1554,UL),(1555,UM),(1539,UF),(1540,UG),(1511,UB),(1425,Vy),(1188,VX),(877,KM),(511,Un),(1429,qHI),(1430,Vz),(1204,Va),(1432,qHL),(1208,qFM),(1209,Ve),(892,KR),(1431,V0),(1205,Vb),(888,KN),(891,F891),(1207,Vd),(890,KQ),(527,Uo),(1328,Vm),(1009,Y7),(629,Uy),(264,UW),(916,KV),(1238,Vh),(917,KW),(1439,V1),(1236,Vf),(915,KU),(624,Uu),(1332,Vp),(1016,VC),(1017,VD),(633,U0),(267,UY),(574,WI),(1324,Vj),(1005,Y4),(626,Uw),(1004,Y3),(625,Uv),(1006,Y5),(1325,Vk),(1326,Vl),(1007,Y6),(627,Ux),(263,UV),(254,US),(618,Ur),(619,Us),(1000,Yz),(1001,Y0),(1003,Y2),(621,WJ),(622,Ut),(262,UU),(255,UT),(43,F43)]
def XO:List AV->AV->Prop:=fun as v=>∃(xs:List (List UInt8))(cl:Bool)(sep:List UInt8),as=[.lst 1 (xs.map qR) cl,.str sep]/\xs.length<=1048576/\(Lib.join xs sep).length<=140737488355328/\v=.str (Lib.join xs sep)
def XQ:List AV->AH->Qo->AH->Prop:=fun as h r h'=>∃id a0 a1,as=[.ptr id 0 0]/\h id=some (.row 2 [.agg [a0,a1]] false)/\(a0=.nilp\/a0=.ptr id 0 0)/\r=.ok (zQ [])/\h'=h.upd id (.row 2 [.agg [.ptr id 0 0,a1]] false)
def XP:List AV->AH->Qo->AH->Prop:=fun as h r h'=>∃id a0 a1 bs,as=[.ptr id 0 0]/\h id=some (.row 2 [.agg [a0,a1]] false)/\bs.length<=4611686018427387904/\r=.ok (.str bs)/\((a1=.nils/\bs=[]/\h'=h)\/∃k,a1=.slice 1 k 0 bs.length false/\h k=some (.row 1 (bs.map fun b:UInt8=>AV.int .u8 b.toNat) false)/\bs≠[]/\h'=h.upd k .dead)
def tabt:List (Nat×AFn):=[(628,.try XR),(620,.ext (Jf XO)),(623,.ext XP),(998,.ext XQ),(631,.ext (Jf Ka)),(957,.ext (Jf Kb)),(1382,.ext (Jf KZ))]
def Gm(g:Nat):Option AFn:=Jk g tabt tabm
theorem g631:Gm 631=some (.ext (Jf Ka)):=by kernel_rfl
theorem g620:Gm 620=some (.ext (Jf XO)):=by kernel_rfl
theorem g623:Gm 623=some (.ext XP):=by kernel_rfl
theorem g998:Gm 998=some (.ext XQ):=by kernel_rfl
theorem g957:Gm 957=some (.ext (Jf Kb)):=by kernel_rfl
theorem qcC:Gm 1382=some (.ext (Jf KZ)):=by kernel_rfl
theorem g628:Gm 628=some (.try XR):=by kernel_rfl
theorem gk(g:Nat)(F:qI)(h:Gm g=some (.fn F):=by kernel_rfl):Gm g=some (.fn F):=h
section
variable {E:Ev} {ks:List Fr1} {s m:qf} {h:List qC} {Q:qS->VSt->Prop} {l:List qA} {a b:List UInt8}
def qVZ(t:Nat):Option AV->Option AV
 | some v=>some (.iface t v)
 | none=>none
@[go_sem] theorem qk1{t:Nat}{v:AV}:qVZ t (some v)=some (.iface t v):=rfl
@[go_sem] theorem qjL{i t:Nat}{d:Option Nat}{g:Option (Nat×Bool)}{x:Ao}{ck:List qA}:Go1 E (.mk i d g (.mkif t x) ck) l ks ⟨s,m,h⟩ Q=Put E (qVZ t (ev (toE s) x)) d l ks ⟨s,m,h⟩ Q:=by
 rw[zo rfl fun _=>rfl];congr 1;show (ev (toE s) x).map (AV.iface t)=_;cases ev (toE s) x<;>rfl
def kY:Bool->Option AV->Option AV
 | n,some (.iface _ _)=>some (.bool n)
 | n,some .nili=>some (.bool !n)
 | _,_=>none
@[go_sem] theorem qkL{n:Bool}{t:Nat}{v:AV}:kY n (some (.iface t v))=some (.bool n):=rfl
@[go_sem] theorem qkM{n:Bool}:kY n (some .nili)=some (.bool !n):=rfl
@[go_sem] theorem qjB{i:Nat}{d:Option Nat}{g:Option (Nat×Bool)}{n:Bool}{x:Ao}{ck:List qA}:Go1 E (.mk i d g (.isnil 4 n x) ck) l ks ⟨s,m,h⟩ Q=Put E (kY n (ev (toE s) x)) d l ks ⟨s,m,h⟩ Q:=by
 rw[zo rfl fun _=>rfl];congr 1;show ((ev (toE s) x).bind (AV.isNil 4)).map (fun b=>AV.bool (if n then !b else b))=_;generalize ev (toE s) x=o;rcases o with _ | v
 ·rfl
 ·cases v<;>cases n<;>rfl
@[go_sem] theorem qnL:wh .eql a b=some (.bool (a==b)):=rfl
@[go_sem] theorem qnM:wh .neq a b=some (.bool (!(a==b))):=rfl
@[go_sem] theorem qnF{k:IntKind}:YZ (some (.str a)) (some (.int k 0))=(a[0]?).map fun b=>.int .u8 b.toNat:=qf0 (n:=0)
theorem J9(h:a.length+b.length<=9223372036854775807):wh .add a b=some (.str (a++b)):=if_pos h
theorem W5{x lo hi:Ao}{k1 k2:IntKind}{n e:Nat}{hh:AH}{mm:Env}(h1:ev (toE s) x=some (.str a))(h2:ev (toE s) lo=some (.int k1 (n:Int)))(h3:ev (toE s) hi=some (.int k2 (e:Int)))(he:e<=a.length)(hb:n<=e):
  val (.sslc x (some lo) (some hi)) (toE s) mm hh=some (.str ((a.drop n).take (e-n))):=by
 simp only[val,h1,bnd,h3];rw[if_pos ⟨by omega,by omega⟩];simp only[h2];rw[if_pos ⟨by omega,by simpa using hb⟩];simp
theorem qf5{x lo:Ao}{k1:IntKind}{n:Nat}{hh:AH}{mm:Env}(h1:ev (toE s) x=some (.str a))(h2:ev (toE s) lo=some (.int k1 (n:Int)))(hb:n<=a.length):
  val (.sslc x (some lo) none) (toE s) mm hh=some (.str (a.drop n)):=by
 simp only[val,h1,bnd,h2];rw[if_pos ⟨by omega,by simpa using hb⟩];show some (AV.str (List.take (a.length-((n:Int)).toNat) (List.drop ((n:Int)).toNat a)))=_;rw[Int.toNat_natCast,List.take_of_length_le (by simp)]
end
abbrev Str:=List UInt8
def jC(b:UInt8):Bool:=decide (97<=b.toNat)&&decide (b.toNat<=122)
def jG(b:UInt8):Bool:=decide (65<=b.toNat)&&decide (b.toNat<=90)
def zJ(b:UInt8):Bool:=decide (48<=b.toNat)&&decide (b.toNat<=57)
def zE(b:UInt8):Bool:=jC b || (jG b || zJ b)
def kws:List Str:=[[100,97,116,97],[100,101,102],[108,101,116],[105,110],[109,97,116,99,104],[105,102],[116,104,101,110],[101,108,115,101]]
def zi(s:Str):Bool:=kws.contains s
def ze(s:Str):Bool:=match s with
 |[]=>false
 | c::_=>decide (s.length<=12)&&(!zJ c&&(!zi s&&s.all zE))
def zL(s:Str):Bool:=ze s&&jG (s.headD 0)
def zV(s:Str):Bool:=ze s&&jC (s.headD 0)
def qi(t:Str)(i:Nat):Str:=(t.drop i).takeWhile zE
set_option maxHeartbeats 2000000
theorem qTF{b:UInt8}:Pure Gm 1100 [.int .u8 (b.toNat:Nat)] (.bool (jG b)):=by
 refine pJ VI ?_;simp only[VI,qH,go_sem]
 first | (apply QO<;>intro hc<;>simp only[hc,go_sem]) | (apply zj<;>intro hc<;>simp only[hc,go_sem])
 ·exact qE rfl (by first | (simp[jG]at hc|-;omega) | (simp only[dTe,decide_eq_false_iff_not]at hc;congr 1;rw[bEi];simp[jG];omega))
 ·exact qE rfl (by first | (simp[jG]at hc|-;omega) | (simp only[dTe,decide_eq_false_iff_not]at hc;congr 1;rw[bEi];simp[jG];omega))
theorem qTH{b:UInt8}:Pure Gm 1206 [.int .u8 (b.toNat:Nat)] (.bool (jC b)):=by
 refine pJ Vc ?_;simp only[Vc,qH,go_sem]
 first | (apply QO<;>intro hc<;>simp only[hc,go_sem]) | (apply zj<;>intro hc<;>simp only[hc,go_sem])
 ·exact qE rfl (by first | (simp[jC]at hc|-;omega) | (simp only[dTe,decide_eq_false_iff_not]at hc;congr 1;rw[bEi];simp[jC];omega))
 ·exact qE rfl (by first | (simp[jC]at hc|-;omega) | (simp only[dTe,decide_eq_false_iff_not]at hc;congr 1;rw[bEi];simp[jC];omega))
theorem qTM{b:UInt8}:Pure Gm 1330 [.int .u8 (b.toNat:Nat)] (.bool (zJ b)):=by
 refine pJ Vn ?_;simp only[Vn,qH,go_sem]
 first | (apply QO<;>intro hc<;>simp only[hc,go_sem]) | (apply zj<;>intro hc<;>simp only[hc,go_sem])
 ·exact qE rfl (by first | (simp[zJ]at hc|-;omega) | (simp only[dTe,decide_eq_false_iff_not]at hc;congr 1;rw[bEi];simp[zJ];omega))
 ·exact qE rfl (by first | (simp[zJ]at hc|-;omega) | (simp only[dTe,decide_eq_false_iff_not]at hc;congr 1;rw[bEi];simp[zJ];omega))
theorem Ks{b:UInt8}:Pure Gm 1012 [.int .u8 (b.toNat:Nat)] (.bool (zE b)):=by
 refine pJ Y8 ?_;simp only[Y8,qH,go_sem];refine qF qTH ?_;simp only[go_sem];cases h1:jC b<;>simp only[go_sem]
 ·refine qF qTF ?_;simp only[go_sem];cases h2:jG b<;>simp only[go_sem]
  ·refine qF qTM ?_;simp only[go_sem];exact qE rfl (by simp[zE,h1,h2])
  ·exact qE rfl (by simp[zE,h1,h2])
 ·exact qE rfl (by simp[zE,h1])
theorem qZX{xs:List Str}{v:Str}(hl:xs.length<=1048576):Pure Gm 1106 [.lst 1 (xs.map qR) false,.str v] (.int .i64 (qz (fun x=>v==x) xs 0)):=by
 refine pI VO (by simp[AV.trees,AV.tree,zD shS.tree]) rfl ?_;simp only[VO,qH,go_sem];refine Sem.loop (fun i:Nat=>i<=xs.length/\qz (fun x=>v==x) xs 0=qz (fun x=>v==x) (xs.drop i) i) (fun i=>(⟨[(0,.lst 1 (xs.map qR) false),(1,.str v),(7,.int .i64 xs.length),(8,.int .i64 (i:Nat))],[],[]⟩:VSt)) (fun i=>xs.length-i) 0 (by kernel_rfl) ⟨nZl _,by simp⟩ cS ?_;rintro i ⟨hi,hI⟩;simp only[go_sem];apply zj<;>intro hc<;>simp only[hc,go_sem]
 ·have hlt:i<xs.length:=by have:=odT hc;omega
  simp only[gMp,gEg hlt,oMs,shS.part,qR,go_sem];have hd:xs.drop i=xs[i]::xs.drop (i+1):=by simp
  apply zj<;>intro hc<;>simp only[hc,go_sem]
  ·refine qE rfl ?_;have hq:=odT hc;rw[hI,hd];simp[qz,<-hq]
  ·simp only[qp (show i<4611686018427387904 by omega)];refine qW (i+1) ⟨by omega, ?_⟩ (by omega) cS;have hq:=odF hc;rw[hI,hd];simp only[qz];rw[if_neg (by simpa using hq)]
 ·obtain rfl:i=xs.length:=by have:=odF hc;omega
  refine qE rfl ?_;rw[hI];simp[qz]
theorem c732{xs:List Str}{v:Str}(hl:xs.length<=1048576):Pure Gm 732 [.lst 1 (xs.map qR) false,.str v] (.bool (xs.any fun x=>v==x)):=by
 refine pI U9 (by simp[AV.trees,AV.tree,zD shS.tree]) rfl ?_;simp only[U9,qH,go_sem];simp only[WW,qH];simp only[go_sem];refine qF (qZX hl) ?_;simp only[go_sem];exact qE rfl (by rw[<-Zm _ xs 0])
theorem qTB{v:Str}:Pure Gm 1013 [.str v] (.bool (zi v)):=by
 refine pJ Y9 ?_;simp only[Y9,qH,go_sem];rw[show zH _ _ _ _=some (kws.map qR)from rfl];simp only[go_sem];refine QF (vs':=[.lst 1 (kws.map qR) false,.str v]) (Cvs.cons (Cv.row rfl rfl rfl (by decide)) (Cvs.cons (.refl rfl) Cvs.nil)) (c732 (by decide)) rfl ?_;simp only[go_sem];exact qE rfl (by simp only[zi,List.contains_eq_any_beq])
theorem qTE{v:Str}(hl:v.length<=4611686018427387904):Pure Gm 1099 [.str v] (.bool (ze v)):=by
 refine pJ VH ?_;simp only[VH,qH,go_sem];by_cases h0:v.length<1
 ·have e0:decide ((v.length:Int)<1)=true:=dTt (by omega);simp only[e0,go_sem];exact qE rfl (by have:v=[]:=List.length_eq_zero_iff.1 (by omega);subst this;rfl)
 have e0:decide ((v.length:Int)<1)=false:=dFf (by omega);simp only[e0,go_sem];obtain⟨c,r,hv⟩:∃c r,v=c::r:=by cases v with
  | nil=>simp at h0
  | cons c r=>exact⟨c,r,rfl⟩
 by_cases h12:v.length<=12
 case neg=>
  have e1:decide ((v.length:Int)>12)=true:=dTt (by omega);simp only[gt_iff_lt]at e1;simp only[e1,go_sem];exact qE rfl (by subst hv;simp only[ze,dFf h12,Bool.false_and])
 have e1:decide ((v.length:Int)>12)=false:=dFf (by omega);simp only[gt_iff_lt]at e1;have eh:v[0]?=some c:=by rw[hv];rfl
 simp only[e1,go_sem,eh,oMs];refine qF qTM ?_;simp only[go_sem];cases hd:zJ c
 case true=>
  simp only[go_sem];exact qE rfl (by subst hv;simp[ze,hd])
 simp only[go_sem];refine qF qTB ?_;simp only[go_sem];cases hk:zi v
 case true=>
  simp only[go_sem];exact qE rfl (by subst hv;simp[ze,hk])
 simp only[go_sem];have hn:ze v=v.all zE:=by subst hv;simp only[ze,hd,hk,dTt h12,nF,Bool.true_and]
 refine Sem.loop (fun i:Nat=>i<=v.length/\v.all zE=(v.drop i).all zE) (fun i=>(⟨[(0,.str v),(22,.int .i64 v.length),(23,.int .i64 (i:Nat))],[],[]⟩:VSt)) (fun i=>v.length-i) 0 (by kernel_rfl) ⟨nZl _,by simp⟩ cS ?_;rintro i ⟨hi,hI⟩;simp only[go_sem];apply zj<;>intro hc<;>simp only[hc,go_sem]
 ·have hlt:i<v.length:=by have:=odT hc;omega
  have hq:v.drop i=v[i]::v.drop (i+1):=by simp
  simp only[gEg hlt,oMs,go_sem];refine qF Ks ?_;simp only[go_sem];cases hw:zE v[i]
  ·simp only[nF];simp only[go_sem];refine qE rfl ?_;rw[hn,hI,hq,lAc,hw,Bool.false_and]
  ·simp only[nT];simp only[go_sem];simp only[qp (show i<4611686018427387904 by omega)];refine qW (i+1) ⟨by omega, ?_⟩ (by omega) cS;rw[hI,hq,lAc,hw,Bool.true_and]
 ·obtain rfl:i=v.length:=by have:=odF hc;omega
  refine qE rfl ?_;rw[hn,hI];simp
theorem jx{v:Str}(hl:v.length<=4611686018427387904):Pure Gm 717 [.str v] (.bool (zL v)):=by
 refine pJ U1 ?_;simp only[U1,qH,go_sem];refine qF (qTE hl) ?_;simp only[go_sem];cases hn:ze v
 ·simp only[go_sem];exact qE rfl (by simp[zL,hn])
 ·cases v with
  | nil=>cases hn
  | cons c r=>
  simp only[List.getElem?_cons_zero,oMs,go_sem];refine qF qTF ?_;simp only[go_sem];exact qE rfl (by simp[zL,hn])
theorem wI{v:Str}(hl:v.length<=4611686018427387904):Pure Gm 889 [.str v] (.bool (zV v)):=by
 refine pJ KO ?_;simp only[KO,qH,go_sem];refine qF (qTE hl) ?_;simp only[go_sem];cases hn:ze v
 ·simp only[go_sem];exact qE rfl (by simp[zV,hn])
 ·cases v with
  | nil=>cases hn
  | cons c r=>
  simp only[List.getElem?_cons_zero,oMs,go_sem];refine qF qTH ?_;simp only[go_sem];exact qE rfl (by simp[zV,hn])
structure qK where
 Kind:Int
 Text:List UInt8
 At:Int
def qK.enc(x:qK):AV:=.agg [.int .i64 x.Kind,.str x.Text,.int .i64 x.At]
theorem qK.isSh:Sh qK.enc 3 (some 3):=⟨fun x=>by simp[qK.enc,AV.tree,AV.trees],fun _=>rfl,fun _=>rfl,by decide,fun x=>by simp[qK.enc]⟩
section
variable {x:qK}
@[go_sem] theorem qK.tr:x.enc.tree=true:=qK.isSh.tree x
@[go_sem] theorem qK.ln:x.enc.cells.length=3:=nr rfl
@[go_sem] theorem qK.all:x.enc.part 0 (some 3)=some x.enc:=nr rfl
@[go_sem] theorem qK.p0:x.enc.part 0 none=some (.int .i64 x.Kind):=nr rfl
@[go_sem] theorem qK.p1:x.enc.part 1 none=some (.str x.Text):=nr rfl
@[go_sem] theorem qK.p2:x.enc.part 2 none=some (.int .i64 x.At):=nr rfl
end
def qK.sz(x:qK):Nat:=x.Text.length
def qK.bd(x:qK):Prop:=x.Text.length<=140737488355328
def pfx(p s:Str):Bool:=decide (p.length<=s.length)&&decide (s.take p.length=p)
def zw:Str:=[43,45,42,47,60,61,40,41,91,93,123,125,44,59,58,46,124,33,92]
def Zf:Str:=[32,10,9]
def JF:Str:=[50,49,52,55,52,56,51,54,52,56]
def wD(s:Str):Option Int:=match Lib.parseIntB 64 s with
 |.ok n=>if (-2147483648<=n/\n<=2147483647)/\Lib.itoa n=s then some n else none
 | _=>none
def J3(s:Str):Bool:=match wD s with
 | some n=>decide (0<=n)
 | none=>false
def zI(t:Str)(i:Nat):Int×Nat:=
 if 0<(qi t i).length then
  if zi (qi t i)then(3,i+(qi t i).length)else if zV (qi t i)then(1,i+(qi t i).length)else if zL (qi t i)then(2,i+(qi t i).length)
  else if decide (qi t i=JF) || J3 (qi t i)then(4,i+(qi t i).length)else(0,i)
 else if pfx [45,62] (t.drop i)then(5,i+2)else if 0<=Lib.indexByte zw (t.getD i 0).toNat.toUInt8 then(5,i+1)else(0,i)
def jk(t:Str):Nat->Nat->List qK->Except Nat (List qK)
 | 0,_,acc=>.ok acc
 | f+1,i,acc=>if i<t.length then
   if 0<=Lib.indexByte Zf (t.getD i 0).toNat.toUInt8 then jk t f (i+1) acc
   else if (zI t i).1=0 then .error i
   else jk t f (zI t i).2 (acc++[⟨(zI t i).1,(t.drop i).take ((zI t i).2-i),i⟩])
  else .ok acc
def Jp(t:Str):Except Nat (List qK):=jk t t.length 0 []
theorem qYQ{p:UInt8->Bool}:∀{l:Str}{k:Nat},k<=(l.takeWhile p).length->((∃c,l[k]?=some c/\p c=true)↔k<(l.takeWhile p).length)
 |[],k,h=>by simp
 | x::l,k,h=>by
  by_cases hx:p x=true
  ·rw[List.takeWhile_cons_of_pos hx]at h|-;cases k with
   | zero=>simp[hx]
   | succ k=>
    simp only[lCo,Nat.add_le_add_iff_right]at h;have:=qYQ (p:=p) h;simpa using this
  ·rw[List.takeWhile_cons_of_neg hx]at h|-;have:k=0:=by simpa using h
   subst this;simp[hx]
theorem qBM{p:UInt8->Bool}:∀{l:Str},l.take (l.takeWhile p).length=l.takeWhile p
 |[]=>rfl
 | x::l=>by
  by_cases hx:p x=true
  ·rw[List.takeWhile_cons_of_pos hx];simp[qBM]
  ·rw[List.takeWhile_cons_of_neg hx];rfl
theorem qg0{p:UInt8->Bool}{l:Str}:(l.takeWhile p).length<=l.length:=by
 rw[<-qBM (p:=p) (l:=l),lLt];omega
theorem qBP{t:Str}{i k:Nat}(h:k<=(qi t i).length):(∃c,t[i+k]?=some c/\zE c=true)↔k<(qi t i).length:=by
 have:=qYQ (p:=zE) (l:=t.drop i) (k:=k) h;rw[gDr]at this;exact this
theorem qBQ{t:Str}{i:Nat}:(t.drop i).take (qi t i).length=qi t i:=qBM
theorem Yt{t:Str}{i:Nat}:i<=t.length->i+(qi t i).length<=t.length:=fun h=>by
 have:=qg0 (p:=zE) (l:=t.drop i);rw[List.length_drop]at this;unfold qi;omega
theorem W8{t:Str}{i:Nat}(h:i<t.length):i<=(zI t i).2/\(zI t i).2<=t.length/\((zI t i).1≠0->i<(zI t i).2):=by
 have hw:=Yt (t:=t) (i:=i) (by omega);have hp:pfx [45,62] (t.drop i)=true->i+2<=t.length:=fun q=>by
  simp only[pfx,bAt,dTe,List.length_drop,lCo,lNi]at q;omega
 unfold zI
 repeat' split
 all_goals first
  | (rename_i q;have:=hp q;refine⟨?_, ?_,fun _=> ?_⟩<;>simp only<;>omega)
  | (refine⟨?_, ?_,fun q=> ?_⟩<;>simp only at* <;>first | omega | exact absurd rfl q)
theorem qf4{E:Ev}{s:qf}{a:Str}{x hi:Ao}{k1:IntKind}{n:Nat}{hh:AH}{mm:Env}(h1:ev (toE s) x=some (.str a))(h2:ev (toE s) hi=some (.int k1 (n:Int)))(hb:n<=a.length):
  val (.sslc x none (some hi)) (toE s) mm hh=some (.str (a.take n)):=by
 simp only[val,h1,bnd,h2];rw[if_pos ⟨by omega,by omega⟩];simp
theorem qU2{s:Str}{c:UInt8}:Pure Gm 631 [.str s,.int .u8 (c.toNat:Nat)] (.int .i64 (Lib.indexByte s (c.toNat:Nat).toUInt8)):=
 Pure.told g631 rfl ⟨s,_,rfl,by simp⟩ rfl rfl
theorem qb9{n:Int}(h0: -9223372036854775808<=n)(h1:n<=9223372036854775807):Pure Gm 957 [.int .i64 n,.int .i64 10] (.str (Lib.itoa n)):=
 Pure.told g957 rfl ⟨n,rfl,h0,h1,rfl⟩ rfl rfl
theorem qe1{s:Str}{h:List qC}(hl:s.length<=140737488355328):SCallP Gm 1382 [.str s,.int .i64 10,.int .i64 64] h fun v=>v=ZH s:=
 SCallP.told qcC rfl ⟨s,rfl,hl,rfl⟩ (fun ρ=>by unfold ZH;split<;>simp only[RelV,RelVs]<;>simp)
theorem qZ7{p s:Str}(hl:p.length<=1000000):Pure Gm 1331 [.str s,.str p] (.bool (pfx p s)):=by
 refine pJ Vo ?_;simp only[Vo,qH,go_sem];by_cases hp:p.length<=s.length
 ·have e:decide ((s.length:Int)≥p.length)=true:=dTt (by omega);simp only[ge_iff_le]at e;simp only[e,go_sem];refine ZJ (qf4 (E:=⟨Gm,0,[],[]⟩) rfl rfl hp) ?_;simp only[go_sem];exact qE rfl (by simp[pfx,hp])
 ·have e:decide ((s.length:Int)≥p.length)=false:=dFf (by omega);simp only[ge_iff_le]at e;simp only[e,go_sem];exact qE rfl (by simp[pfx,hp])
theorem qZU{p s:Str}(hl:p.length<=1000000):Pure Gm 1015 [.str s,.str p] (.bool (pfx p s)):=by
 refine pJ VB ?_;simp only[VB,qH,go_sem]
 repeat' (first | (refine zM rfl ?_;simp only[go_sem]) | (first | (apply QO<;>intro hc<;>simp only[hc,go_sem]) | (apply zj<;>intro hc<;>simp only[hc,go_sem])) | (refine qF (qZ7 hl) ?_;simp only[go_sem]) | refine qE rfl ?_ | refine zU (by rfl) ?_)
 all_goals (simp_all<;>omega)
theorem qTD{n:Int}:Pure Gm 1051 [.int .i64 n] (.bool (decide (-2147483648<=n)&&decide (n<=2147483647))):=by
 refine pJ VF ?_;simp only[VF,qH,go_sem]
 first | (apply QO<;>intro hc<;>simp only[hc,go_sem]) | (apply zj<;>intro hc<;>simp only[hc,go_sem])
 ·exact qE rfl (by have hq:=odT hc;simp<;>omega)
 ·exact qE rfl (by have hq:=odF hc;simp<;>omega)
theorem Kv{n:Int}(h0: -9223372036854775808<=n)(h1:n<=9223372036854775807):Pure Gm 577 [.int .i64 n] (.str (Lib.itoa n)):=by
 refine pJ Uq ?_;simp only[Uq,qH,go_sem]
 repeat' (first | (refine zM rfl ?_;simp only[go_sem]) | (first | (apply QO<;>intro hc<;>simp only[hc,go_sem]) | (apply zj<;>intro hc<;>simp only[hc,go_sem])) | (refine qF (qb9 h0 h1) ?_;simp only[go_sem]) | refine qE rfl ?_ | refine zU (by rfl) ?_)
 all_goals (simp_all<;>omega)
theorem Xa{s:Str}(hl:s.length<=140737488355328):Pure Gm 1091 [.str s] (.tup [.int .i64 ((wD s).getD 0),.bool (wD s).isSome]):=by
 refine pJ VG ?_;simp only[VG,qH,go_sem];refine qaN (qe1 hl) ?_;unfold ZH;cases hp:Lib.parseIntB 64 s with
 | range=>
  simp only[go_sem];exact zU rfl (by simp[wD,hp])
 | ok n=>
  simp only[go_sem];refine qF qTD ?_;simp only[go_sem];cases hb:(decide (-2147483648<=n)&&decide (n<=2147483647))
  ·simp only[nF,nT];simp only[go_sem];have hn:¬(-2147483648<=n/\n<=2147483647):=by intro q;rw[dTt q.1,dTt q.2]at hb;cases hb
   exact zU rfl (by simp[wD,hp,hn])
  ·simp only[nF,nT];simp only[go_sem];simp only[bAt,dTe]at hb;refine qF (Kv (by omega) (by omega)) ?_;simp only[go_sem];by_cases he:Lib.itoa n=s
   ·simp only[he,decide_true,nT];simp only[go_sem];exact zU rfl (by simp[wD,hp,hb,he])
   ·simp only[he,decide_false,nF];simp only[go_sem];exact zU rfl (by simp[wD,hp,he])
 | _=>
  simp only[go_sem];exact zU rfl (by simp[wD,hp])
theorem qZT{s:Str}(hl:s.length<=140737488355328):Pure Gm 1014 [.str s] (.bool (J3 s)):=by
 refine pJ VA ?_;simp only[VA,qH,go_sem];refine qF (Xa hl) ?_;simp only[go_sem];cases hr:wD s with
 | none=>
  simp only[Option.isSome_none];simp only[go_sem];exact qE rfl (by simp[J3,hr])
 | some n=>
  simp only[Option.isSome_some,Option.getD_some];simp only[go_sem];exact qE rfl (by simp[J3,hr])
theorem c632{t:Str}{i:Nat}(hi:i<t.length)(hl:t.length<=20000):Pure Gm 632 [.str t,.int .i64 (i:Nat)] (.tup [.int .i64 (zI t i).1,.int .i64 ((zI t i).2:Nat)]):=by
 refine pJ Uz ?_;simp only[Uz,qH,go_sem];refine Sem.loop (fun k:Nat=>k<=(qi t i).length) (fun k=>(⟨[(0,.str t),(1,.int .i64 (i:Nat)),(6,.int .i64 ((i+k:Nat):Int))],[],[]⟩:VSt)) (fun k=>(qi t i).length-k) 0 (by kernel_rfl) (nZl _) cS ?_;intro k hk;have ws:=qBP hk;have wl:=Yt (t:=t) (i:=i) (by omega);simp only[go_sem];have hcase:(k<(qi t i).length/\∃h:i+k<t.length,zE t[i+k]=true)\/(k=(qi t i).length/\(¬i+k<t.length\/∃h:i+k<t.length,zE t[i+k]=false)):=by
  by_cases h1:i+k<t.length
  ·rcases hb:zE t[i+k]with _ | _
   ·have h2:=hb;right;refine⟨?_,.inr ⟨h1,h2⟩⟩;have:¬k<(qi t i).length:=fun q=>by
     obtain⟨c,e1,e2⟩:=ws.2 q;rw[gEg h1]at e1;cases e1;rw[h2]at e2;cases e2
    omega
   ·exact .inl ⟨ws.1 ⟨_,gEg h1,hb⟩,h1,hb⟩
  ·right;exact⟨by omega,.inl h1⟩
 rcases hcase with⟨h1,hlt,hw⟩ | ⟨rfl,hx⟩
 ·have e:decide (((i+k:Nat):Int)<t.length)=true:=dTt (by omega);simp only[e,gEg hlt,oMs,go_sem];refine qF Ks ?_;simp only[go_sem];simp only[hw];simp only[go_sem];simp only[qp (show i+k<4611686018427387904 by omega)];exact qW (k+1) h1 (by omega) (Can.sub (by simp[go_sem,Nat.add_assoc]) (by simp[go_sem]))
 rcases hx with hx | ⟨hlt,hw⟩
 case' inl=>
  have e:decide (((i+(qi t i).length:Nat):Int)<t.length)=false:=dFf (by omega);simp only[e,go_sem]
 case' inr=>
  have e:decide (((i+(qi t i).length:Nat):Int)<t.length)=true:=dTt (by omega);simp only[e,gEg hlt,oMs,go_sem];refine qF Ks ?_;simp only[go_sem];simp only[hw];simp only[go_sem]
 all_goals
  by_cases hp:0<(qi t i).length
  ·have e:decide ((i:Int)<((i+(qi t i).length:Nat):Int))=true:=dTt (by omega);simp only[e,go_sem];refine ZJ (W5 rfl rfl rfl (by omega) (by omega)) ?_;rw[Nat.add_sub_cancel_left,qBQ];have hwl:(qi t i).length<=20000:=by omega
   generalize hW:qi t i=W at*;have r1:zI t i=if zi W then(3,i+W.length)else if zV W then(1,i+W.length)else if zL W then(2,i+W.length)else if decide (W=JF) || J3 W then(4,i+W.length)else(0,i):=by
    unfold zI;rw[hW,if_pos hp]
   simp only[go_sem];refine qF qTB ?_;simp only[go_sem];cases k1:zi W
   case true=>simp only[go_sem];exact zU rfl (by simp[r1,k1])
   simp only[go_sem];refine qF (wI (by omega)) ?_;simp only[go_sem];cases k2:zV W
   case true=>simp only[go_sem];exact zU rfl (by simp[r1,k1,k2])
   simp only[go_sem];refine qF (jx (by omega)) ?_;simp only[go_sem];cases k3:zL W
   case true=>simp only[go_sem];exact zU rfl (by simp[r1,k1,k2,k3])
   simp only[go_sem];by_cases k4:W=JF
   ·have e4:decide (W=[50,49,52,55,52,56,51,54,52,56])=true:=dTt k4;simp only[e4,go_sem];exact zU rfl (by rw[r1];simp only[k1,k2,k3,dTt k4,Bool.true_or,bFt,if_false,if_true])
   ·have e4:decide (W=[50,49,52,55,52,56,51,54,52,56])=false:=dFf k4;simp only[e4,go_sem];refine qF (qZT (by omega)) ?_;simp only[go_sem];cases k5:J3 W
    ·simp only[go_sem];exact zU rfl (by simp[r1,k1,k2,k3,k4,k5])
    ·simp only[go_sem];exact zU rfl (by simp[r1,k1,k2,k3,k4,k5])
  ·have e:decide ((i:Int)<((i+(qi t i).length:Nat):Int))=false:=dFf (by omega);have r1:zI t i=if pfx [45,62] (t.drop i)then(5,i+2)else if 0<=Lib.indexByte zw (t.getD i 0).toNat.toUInt8 then(5,i+1)else(0,i):=by
    unfold zI;rw[if_neg hp]
   simp only[e,go_sem];refine ZJ (qf5 rfl rfl (by omega)) ?_;simp only[go_sem];refine qF (qZU (by simp)) ?_;simp only[go_sem];cases k1:pfx [45,62] (t.drop i)
   case true=>
    simp only[go_sem];simp only[zF (n:=(i:Int)+2) (by omega) (by omega)];exact zU rfl (by simp[r1,k1])
   simp only[gEg hi,oMs,go_sem];refine qF qU2 ?_;simp only[go_sem];have eg:t.getD i 0=t[i]:=by simp[List.getD,gEg hi]
   by_cases k2:0<=Lib.indexByte zw t[i].toNat.toUInt8
   ·have e2:decide (0<=Lib.indexByte [43,45,42,47,60,61,40,41,91,93,123,125,44,59,58,46,124,33,92] t[i].toNat.toUInt8)=true:=dTt k2;simp only[e2,go_sem];simp only[zF (n:=(i:Int)+1) (by omega) (by omega)];exact zU rfl (by simp only[r1,k1,eg,if_pos k2];simp)
   ·have e2:decide (0<=Lib.indexByte [43,45,42,47,60,61,40,41,91,93,123,125,44,59,58,46,124,33,92] t[i].toNat.toUInt8)=false:=dFf k2;simp only[e2,go_sem];exact zU rfl (by simp only[r1,k1,eg,if_neg k2];simp)
theorem qy{E:Ev}{d:Option Nat}{w:Nat}{z v:AV}{x:Ao}{l:List qA}{ks:List Fr1}{s m:qf}{h:List qC}{Q:qS->VSt->Prop}(hx:ev (toE s) x=some v)(hl:v.cells.length=w)
  (hr:wm E d (.row w [v] true) (.slice w h.length 0 1 false) l ks ⟨s,m,h⟩ Q):Bsl E d w 1 (zH (toE s) w (List.replicate 1 z) [(0,x)]) l ks ⟨s,m,h⟩ Q:=by
 have e:zH (toE s) w (List.replicate 1 z) [(0,x)]=some [v]:=by simp[zH,hx,hl,List.replicate]
 rw[e,qZN];exact hr
theorem JT{h:List qC}{a b v:AV}{vs:List AV}(hc:Cv h (.tup (a::b::vs)) v):Fin (some (a::b::vs)) h v:=by unfold Fin;exact hc
theorem Cvs.tup{h:List qC}{as bs:List AV}(x:Cvs h as bs):Cv h (.tup as) (.tup bs):=.tup x.1 x.2
def jR(t:Str)(i:Nat):qK:=⟨(zI t i).1,(t.drop i).take ((zI t i).2-i),i⟩
theorem qYH{t:Str}:∀(f:Nat){i:Nat}{acc:List qK},t.length-i<=f->jk t f i acc=jk t (t.length-i) i acc:=by
 intro f
 induction f using Nat.strongRecOn with
 | _ f ih=>
 intro i acc hf;cases f with
 | zero=>rw[show t.length-i=0 by omega]
 | succ f=>
  by_cases hi:i<t.length
  ·obtain⟨g,hg⟩:∃g,t.length-i=g+1:=⟨t.length-i-1,by omega⟩;rw[hg];obtain⟨h1,h2,h3⟩:=W8 hi;simp only[jk,if_pos hi];split
   ·rw[ih f (by omega) (by omega),ih g (by omega) (by omega)]
   ·split
    ·rfl
    ·rename_i hk;have:=h3 hk;rw[ih f (by omega) (by omega),ih g (by omega) (by omega)]
  ·rw[show t.length-i=0 by omega];simp only[jk,if_neg hi]
def Qm(t:Str)(i:Nat)(acc:List qK):Except Nat (List qK):=jk t (t.length-i) i acc
theorem qYI{t:Str}{i:Nat}{acc:List qK}(hi:¬i<t.length):Qm t i acc=.ok acc:=by
 unfold Qm;rw[show t.length-i=0 by omega];rfl
theorem qYJ{t:Str}{i:Nat}{acc:List qK}(hi:i<t.length):Qm t i acc=if 0<=Lib.indexByte Zf (t.getD i 0).toNat.toUInt8 then Qm t (i+1) acc else if (zI t i).1=0 then .error i else Qm t (zI t i).2 (acc++[jR t i]):=by
 obtain⟨g,hg⟩:∃g,t.length-i=g+1:=⟨t.length-i-1,by omega⟩;obtain⟨h1,h2,h3⟩:=W8 hi;unfold Qm;rw[hg];simp only[jk,if_pos hi];split
 ·rw[qYH g (by omega)]
 ·split
  ·rfl
  ·rename_i hk;have:=h3 hk;rw[qYH g (by omega)];rfl
def qo(t:Str):List qK×Int×Int:=if 20000<t.length then([],0,2)else match Jp t with
 |.error i=>([],i,6)
 |.ok l=>(l,0,0)
theorem c266{t:Str}:Pure Gm 266 [.str t] (.tup [.lst 3 ((qo t).1.map qK.enc) false,.int .i64 (qo t).2.1,.int .i64 (qo t).2.2]):=by
 refine pI UX (by simp[AV.trees,AV.tree,go_sem]) (by simp[AV.tree,AV.trees,zD qK.isSh.tree]) ?_;simp only[UX,qH,go_sem];by_cases hl:20000<t.length
 ·have e:decide ((20000:Int)<t.length)=true:=dTt (by omega);simp only[e,go_sem];have er:qo t=([],0,2):=by rw[qo,if_pos hl]
  rw[er];refine JT (Cvs.tup (Cvs.cons .nils (Cvs.cons (.refl rfl) (Cvs.cons (.refl rfl) Cvs.nil))))
 have e:decide ((20000:Int)<t.length)=false:=dFf (by omega);simp only[e,go_sem];have er:qo t=match Jp t with
  |.error i=>([],i,6)
  |.ok l=>(l,0,0):=by rw[qo,if_neg hl]
 refine Sem.loop (fun a:Nat×List qK=>a.1<=t.length/\a.2.length<=a.1/\Jp t=Qm t a.1 a.2) (fun a=>(⟨[(0,.str t),(5,.slice 3 0 0 a.2.length false),(6,.int .i64 (a.1:Nat))],[],[.row 3 (a.2.map qK.enc) true]⟩:VSt)) (fun a=>t.length-a.1) (0,[]) (by kernel_rfl) ⟨nZl _,nZl _,rfl⟩ (Can.renum [none] rfl ⟨.ph,trivial⟩ ⟨⟨_,rfl,.tree rfl⟩,⟨_,rfl,.ph rfl⟩,⟨_,rfl,.tree rfl⟩,trivial⟩ trivial) ?_;rintro⟨i,acc⟩ ⟨hi,ha,hI⟩;simp only at hi ha hI;simp only[go_sem];by_cases hlt:i<t.length
 case neg=>
  have e:decide ((i:Int)<t.length)=false:=dFf (by omega);simp only[e,go_sem];rw[hI,qYI hlt]at er;rw[er];refine JT (Cvs.tup (Cvs.cons (Cv.row rfl (by simp) (zD qK.isSh.tree _) (by decide)) (Cvs.cons (.refl rfl) (Cvs.cons (.refl rfl) Cvs.nil))))
 have e:decide ((i:Int)<t.length)=true:=dTt (by omega);simp only[e,gEg hlt,oMs,go_sem];refine qF qU2 ?_;simp only[go_sem];rw[qYJ hlt]at hI;have eg:t.getD i 0=t[i]:=by simp[List.getD,gEg hlt]
 rw[eg]at hI;by_cases hb:0<=Lib.indexByte Zf t[i].toNat.toUInt8
 ·have e:decide (0<=Lib.indexByte [32,10,9] t[i].toNat.toUInt8)=true:=dTt hb;simp only[e,go_sem];simp only[qp (show i<4611686018427387904 by omega)];rw[if_pos hb]at hI;exact qW (i+1,acc) ⟨by simp only;omega,by simp only;omega,hI⟩ (by simp only;omega) cS
 have e:decide (0<=Lib.indexByte [32,10,9] t[i].toNat.toUInt8)=false:=dFf hb;simp only[e,go_sem];rw[if_neg hb]at hI;refine qF (c632 hlt (by omega)) ?_;simp only[go_sem];obtain⟨t1,t2,t3⟩:=W8 hlt;by_cases hk:(zI t i).1=0
 ·simp only[hk,decide_true,go_sem];rw[if_pos hk]at hI;rw[hI]at er;rw[er];refine JT (Cvs.tup (Cvs.cons .nils (Cvs.cons (.refl rfl) (Cvs.cons (.refl rfl) Cvs.nil))))
 have t4:=t3 hk;rw[if_neg hk]at hI;simp only[dFf hk,go_sem];refine ZJ (W5 rfl rfl rfl (by omega) (by omega)) ?_;simp only[go_sem];refine qy (v:=(jR t i).enc) rfl rfl ?_;simp only[go_sem];refine Qt (el:=acc.map qK.enc) rfl rfl (by simp) (by omega) ?_;simp only[go_sem];refine qW ((zI t i).2,acc++[jR t i]) ⟨by simp only;omega,by simp only[lAp,lCo,lNi];omega,hI⟩ (by simp only;omega) ?_;simp only[lAp,lCo,lNi,nZa];refine Can.renum [some 2] rfl ⟨.row rfl ?_,trivial⟩ ⟨⟨_,rfl,.tree rfl⟩,⟨_,rfl,.slice rfl⟩,⟨_,rfl,.tree rfl⟩,trivial⟩ trivial;rw[lMa];have tt:=zD qK.isSh.tree (acc++[jR t i]);rw[lMa]at tt;exact VR2s.trees tt
section
variable {E:Ev} {l:List qA} {ks:List Fr1} {s m:qf} {h h0:List qC} {Q:qS->VSt->Prop} {k e:Nat} {vs:List AV} {v0:AV}
theorem qe{ck:List qA}(hck:ck=[])(hp:SCall E.Γ k vs h fun v h'=>v=v0/\h'=h0)(hr:R E (.ops l::ks) ⟨(e,v0)::s,m,h0⟩ Q):jv E (some (k,vs)) ck (some e) l ks ⟨s,m,h⟩ Q:=by
 subst hck;exact qO (hp.mono fun v h' ⟨h1,h2⟩=>by subst h1;subst h2;exact hr)
end
@[go_sem] theorem qiK{off:Nat}{sh:Option Nat}{x:qK}:fld1 off sh (some x.enc)=x.enc.part off sh:=rfl
def prI(toks:List qK)(a:Nat)(e:Int):qC:=.row 3 [.agg [.lst 3 (toks.map qK.enc) false,.int .i64 (a:Nat),.int .i64 e]] true
def nxt(toks:List qK)(a:Nat)(e:Int):qK:=(toks[a]?).getD ⟨0,[],e⟩
def isI(toks:List qK)(a:Nat)(e:Int)(s:Str):Bool:=decide ((nxt toks a e).Text=s)&&(decide ((nxt toks a e).Kind=5) || decide ((nxt toks a e).Kind=3))
def wO(i:Int):AV:=.iface 751 (.agg [.int .i64 i])
section
variable {h:List qC} {id a:Nat} {toks:List qK} {e:Int}
theorem ZB(ho:h[id]?=some (prI toks a e)):SCall Gm 1101 [.ptr id 0 0] h fun v h'=>v=(nxt toks a e).enc/\h'=h:=by
 refine sI VJ ?_;unfold prI at ho;simp only[VJ,qH,go_sem,ho,oMs,lMp];by_cases hlt:a<toks.length
 ·have e1:decide ((a:Int)<toks.length)=true:=dTt (by omega);simp only[e1,go_sem,ho,gMp,gEg hlt,oMs];refine lA ?_;simp only[go_sem];exact⟨by simp[nxt,gEg hlt],trivial⟩
 ·have e1:decide ((a:Int)<toks.length)=false:=dFf (by omega);simp only[e1,go_sem,ho];refine lA ?_;simp only[go_sem];exact⟨by simp[nxt,gEn (show toks.length<=a by omega),qK.enc],trivial⟩
theorem Wp(ho:h[id]?=some (prI toks a e)):SCallX Gm 719 [.ptr id 0 0] h (fun _ _=>False) fun v h'=>v=wO (nxt toks a e).At/\h'=h:=by
 refine xI U2 ?_;simp only[U2,qH,go_sem];refine qe rfl (ZB ho) ?_;simp only[go_sem];exact⟨rfl,rfl,rfl,trivial⟩
theorem YC{s:Str}(ho:h[id]?=some (prI toks a e)):SCall Gm 1103 [.ptr id 0 0,.str s] h fun v h'=>v=.bool (isI toks a e s)/\h'=h:=by
 refine sI VL ?_;simp only[VL,qH,go_sem];refine qe rfl (ZB ho) ?_;simp only[go_sem];refine lA ?_;simp only[go_sem];by_cases h1:(nxt toks a e).Text=s
 case neg=>
  simp only[dFf h1,go_sem];exact⟨by simp[isI,h1],trivial⟩
 simp only[dTt h1,go_sem];by_cases h2:(nxt toks a e).Kind=5
 ·simp only[dTt h2,go_sem];exact⟨by simp[isI,h1,h2],trivial⟩
 ·simp only[dFf h2,go_sem];exact⟨by simp[isI,h1,h2],trivial⟩
theorem qcX{s:Str}(hs:s≠[])(q:isI toks a e s=true):a<toks.length:=by
 rcases Nat.lt_or_ge a toks.length with h1 | h1
 ·exact h1
 ·exfalso;simp only[isI,nxt,gEn h1,Option.getD_none,bAt,dTe]at q;exact hs q.1.symm
theorem Qb{k:Int}(hk:k≠0)(q:(nxt toks a e).Kind=k):a<toks.length:=by
 rcases Nat.lt_or_ge a toks.length with h1 | h1
 ·exact h1
 ·exfalso;simp only[nxt,gEn h1,Option.getD_none]at q;exact hk q.symm
theorem jH{s:Str}(ho:h[id]?=some (prI toks a e))(hl:toks.length<=1048576)(hs:s≠[]):SCall Gm 721 [.ptr id 0 0,.str s] h fun v h'=>v=.bool (isI toks a e s)/\h'=if isI toks a e s then h.set id (prI toks (a+1) e)else h:=by
 refine sI U4 ?_;simp only[U4,qH,go_sem];refine qe rfl (YC ho) ?_;simp only[go_sem];cases hi:isI toks a e s
 ·simp only[nF,go_sem];exact⟨trivial,by simp⟩
 ·have hlt:=qcX hs hi;have ho':=ho;unfold prI at ho';simp only[nT,go_sem,ho',oMs];simp only[qp (show a<4611686018427387904 by omega)];refine jQ rfl ho' rfl rfl ?_;simp only[go_sem];exact⟨trivial,rfl⟩
theorem jc{s:Str}(ho:h[id]?=some (prI toks a e))(hl:toks.length<=1048576)(hs:s≠[]):SCallX Gm 876 [.ptr id 0 0,.str s] h (fun _ h'=>isI toks a e s=true/\h'=h.set id (prI toks (a+1) e)) fun v h'=>isI toks a e s=false/\v=wO (nxt toks a e).At/\h'=h:=by
 refine xI KJ ?_;simp only[KJ,qH,go_sem];refine qe rfl (jH ho hl hs) ?_;simp only[go_sem];cases hi:isI toks a e s
 ·simp only[nF,bFt,if_false,go_sem];refine qY ((Wp ho).mono (fun _ _ q=>q.elim) ?_);rintro v h' ⟨rfl,rfl⟩;exact⟨rfl,trivial,rfl,rfl⟩
 ·simp only[nT,if_true,go_sem];exact⟨trivial,trivial⟩
theorem Jn{k:Int}(ho:h[id]?=some (prI toks a e))(hl:toks.length<=1048576)(hk:k≠0):SCallX Gm 875 [.ptr id 0 0,.int .i64 k] h (fun v h'=>(nxt toks a e).Kind=k/\v=.str (nxt toks a e).Text/\h'=h.set id (prI toks (a+1) e)) fun v h'=>(nxt toks a e).Kind≠k/\v=wO (nxt toks a e).At/\h'=h:=by
 refine xI KI ?_;simp only[KI,qH,go_sem];refine qe rfl (ZB ho) ?_;simp only[go_sem];refine lA ?_;simp only[go_sem];by_cases hi:(nxt toks a e).Kind=k
 ·have hlt:=Qb hk hi;have ho':=ho;unfold prI at ho';simp only[hi,decide_true,nT,go_sem,ho',oMs];simp only[qp (show a<4611686018427387904 by omega)];refine jQ rfl ho' rfl rfl ?_;simp only[go_sem];exact⟨trivial,trivial,rfl⟩
 ·simp only[dFf hi,nF,go_sem];refine qY ((Wp ho).mono (fun _ _ q=>q.elim) ?_);rintro v h' ⟨rfl,rfl⟩;exact⟨rfl,hi,rfl,rfl⟩
end
structure PS(h:List qC)(id:Nat)(o:qC)(h':List qC):Prop where
 at':h'[id]?=some o
 len:h.length<=h'.length
 old:∀j,j≠id->j<h.length->h'[j]?=h[j]?
theorem PS.set{h:List qC}{id:Nat}{o0 o:qC}(ho:h[id]?=some o0):PS h id o (h.set id o) where
 at':=by rw[gSs (gSi.1 ho).1]
 len:=by simp
 old:=fun j hj _=>gSn (Ne.symm hj)
theorem PS.refl{h:List qC}{id:Nat}{o:qC}(ho:h[id]?=some o):PS h id o h:=⟨ho,nLr _,fun _ _ _=>rfl⟩
theorem PS.trans{h h1 h2:List qC}{id:Nat}{o1 o2:qC}(a:PS h id o1 h1)(b:PS h1 id o2 h2):PS h id o2 h2:=
 ⟨b.at',nLt a.len b.len,fun j hj hl=>(b.old j hj (Nat.lt_of_lt_of_le hl a.len)).trans (a.old j hj hl)⟩
theorem PS.push{h h1:List qC}{id:Nat}{o x:qC}(a:PS h id o h1):PS h id o (h1++[x]):=
 ⟨by rw[gAl (gSi.1 a.at').1];exact a.at',by have:=a.len;simp;omega,fun j hj hl=>by rw[gAl (Nat.lt_of_lt_of_le hl a.len)];exact a.old j hj hl⟩
def Bh(b:Nat)(S:List (Option Nat))(h:List qC):Prop:=∀j,some j∈S->b<=j/\j<h.length
theorem qu.ps{S:List (Option Nat)}{h1 h2:List qC}{id b:Nat}{o:qC}{v t:AV}(x:qu S h1 v t)(hb:Bh b S h1)(hid:id<b)(a:PS h1 id o h2):qu S h2 v t/\Bh b S h2:=
 ⟨x.heap fun j hj=>a.old j (by have:=(hb j hj).1;omega) (hb j hj).2,fun j hj=>⟨(hb j hj).1,Nat.lt_of_lt_of_le (hb j hj).2 a.len⟩⟩
theorem qu.push{S:List (Option Nat)}{h1:List qC}{b:Nat}{v t:AV}{y:qC}(x:qu S h1 v t)(hb:Bh b S h1):qu S (h1++[y]) v t/\Bh b S (h1++[y]):=
 ⟨x.heap fun j hj=>gAl (hb j hj).2,fun j hj=>⟨(hb j hj).1,by have:=(hb j hj).2;simp;omega⟩⟩
theorem Wv{S:List (Option Nat)}{h:List qC}{k:Int}{n:Str}{v2:AV}{ks:List qB}(x:qu S h v2 (.lst 3 (ks.map qB.enc) false)):qu S h (.agg [.int .i64 k,.str n,v2]) (qB.mk k n ks).enc:=by
 have h1:=(zT.nil (h:=h)).scal (a:=.int .i64 k) (fun _=>rfl) rfl rfl;have h2:=h1.scal (a:=.str n) (fun _=>rfl) rfl rfl;have h3:=(h2.snoc x (fun j hj=>by cases hj)).agg;rw[qB.enc_eq];exact h3
theorem Z2{h:List qC}{k:Int}{n:Str}:qu [none] h (.agg [.int .i64 k,.str n,.nils]) (qB.mk k n []).enc:=Wv (ks:=[]) (qu.nils (c:=false))
theorem Qe{S:List (Option Nat)}{h:List qC}{v:AV}{t:qB}(x:qu S h v t.enc):∃a b c,v=.agg [a,b,c]:=by
 rw[qB.enc_eq]at x;obtain⟨vs,rfl,y⟩:=x.aggs;have:=y.cnt
 match vs,this with
 |[a,b,c],_=>exact⟨a,b,c,rfl⟩
theorem qW4{S:List (Option Nat)}{h:List qC}{b:Nat}{v:AV}{t:qB}(x:qu S h v t.enc)(hb:Bh b S h)(hl:b<=h.length):
  qu (some h.length::S) (h++[.row 3 [v] true]) (.slice 3 h.length 0 1 false) (.lst 3 ([t].map qB.enc) false)/\Bh b (some h.length::S) (h++[.row 3 [v] true]):=by
 obtain⟨x1,b1⟩:=x.push (y:=.row 3 [v] true) hb;refine⟨x1.one.row (by simp) (fun hj=>by have:=(hb _ hj).2;omega),fun j hj=> ?_⟩;rcases List.mem_cons.1 hj with e | hj
 ·cases e;exact⟨hl,by simp⟩
 ·exact b1 j hj
theorem qW5{S S':List (Option Nat)}{h:List qC}{b c:Nat}{v u:AV}{t r:qB}(x:qu S h v t.enc)(y:qu S' h u r.enc)(hb:Bh b S h)(hc:Bh c S' h)(hl:b<=h.length)(hl':b<=c)(hbc:∀j,some j∈S->j<c):
  qu (some h.length::(S++S')) (h++[.row 3 [v,u] true]) (.slice 3 h.length 0 2 false) (.lst 3 ([t,r].map qB.enc) false)/\Bh b (some h.length::(S++S')) (h++[.row 3 [v,u] true]):=by
 obtain⟨x1,b1⟩:=x.push (y:=.row 3 [v,u] true) hb;obtain⟨y1,c1⟩:=y.push (y:=.row 3 [v,u] true) hc;have z:=x1.one.app y1.one (fun j hj hk=>by have:=hbc j hj;have:=(hc j hk).1;omega);refine⟨z.row (by simp) (fun hj=> ?_),fun j hj=> ?_⟩
 ·rcases ja.1 hj with hj | hj
  ·have:=(hb _ hj).2;omega
  ·have:=(hc _ hj).2;omega
 ·rcases List.mem_cons.1 hj with e | hj
  ·cases e;exact⟨hl,by simp⟩
  ·rcases ja.1 hj with hj | hj
   ·exact b1 j hj
   ·have:=c1 j hj;exact⟨by omega,this.2⟩
def Q3:qB:=.mk 1 [] []
def Ju(s:Str):qB:=.mk 2 s []
def QN(a b:qB):qB:=.mk 3 [] [a,b]
def Qu(a:qB):qB:=.mk 4 [] [a]
section
variable {h:List qC} {a0 a1 a2 b0 b1 b2:AV} {s:Str}
theorem n908:SCall Gm 908 [] h fun v h'=>v=.agg [.int .i64 1,.str [],.nils]/\h'=h:=by
 refine sI KS ?_;simp only[KS,qH,go_sem];refine lA ?_;simp only[go_sem];exact⟨trivial,trivial⟩
theorem qd8:SCall Gm 1102 [.str s] h fun v h'=>v=.agg [.int .i64 2,.str s,.nils]/\h'=h:=by
 refine sI VK ?_;simp only[VK,qH,go_sem];refine lA ?_;simp only[go_sem];exact⟨trivial,trivial⟩
theorem n911:SCall Gm 911 [.agg [a0,a1,a2]] h fun v h'=>v=.agg [.int .i64 4,.str [],.slice 3 h.length 0 1 false]/\h'=h++[.row 3 [.agg [a0,a1,a2]] true]:=by
 refine sI KT ?_;simp only[KT,qH,go_sem];refine zM rfl ?_;simp only[go_sem];refine qy (v:=.agg [a0,a1,a2]) rfl rfl ?_;simp only[go_sem];refine lA ?_;simp only[go_sem];exact⟨trivial,trivial⟩
theorem n722:SCall Gm 722 [.agg [a0,a1,a2],.agg [b0,b1,b2]] h fun v h'=>v=.agg [.int .i64 3,.str [],.slice 3 h.length 0 2 false]/\h'=h++[.row 3 [.agg [a0,a1,a2],.agg [b0,b1,b2]] true]:=by
 refine sI U5 ?_;simp only[U5,qH,go_sem];refine zM rfl ?_;simp only[go_sem];refine zM rfl ?_;simp only[go_sem];rw[show zH _ 3 _ _=some [.agg [a0,a1,a2],.agg [b0,b1,b2]]from rfl];simp only[go_sem];refine lA ?_;simp only[go_sem];exact⟨trivial,trivial⟩
end
def isP(toks:List qK)(a:Nat)(s:Str):Bool:=match toks[a]? with
 | some t=>decide (t.Text=s)&&(decide (t.Kind=5) || decide (t.Kind=3))
 | none=>false
theorem qk{toks:List qK}{a:Nat}{e:Int}{s:Str}(hs:s≠[]):isI toks a e s=isP toks a s:=by
 unfold isI isP nxt;cases h:toks[a]? with
 | none=>
  have:¬([]:Str)=s:=fun q=>hs q.symm;simp[this]
 | some t=>simp
theorem qa{toks:List qK}{a:Nat}{s:Str}(q:isP toks a s=true):a<toks.length:=by
 rcases Nat.lt_or_ge a toks.length with h1 | h1
 ·exact h1
 ·rw[isP,gEn h1]at q;cases q
def pT(toks:List qK):Nat->Bool->Nat->Except Nat (qB×Nat)
 | 0,_,a=>.error a
 | f+1,true,a=>if isP toks a [33]then(match pT toks f true (a+1)with
   |.ok (t,b)=>.ok (Qu t,b)
   |.error b=>.error b)
  else if isP toks a [40]then(match pT toks f false (a+1)with
   |.ok (t,b)=>if isP toks b [41]then .ok (t,b+1)else .error b
   |.error b=>.error b)
  else(match toks[a]? with
   | some t=>if t.Kind=2 then .ok (if t.Text=[73,110,116]then Q3 else Ju t.Text,a+1)else .error a
   | none=>.error a)
 | f+1,false,a=>(match pT toks f true a with
   |.ok (t,b)=>if isP toks b [45,62]then(match pT toks f false (b+1)with
     |.ok (u,c)=>.ok (QN t u,c)
     |.error c=>.error c)
    else .ok (t,b)
   |.error b=>.error b)
def zr(toks:List qK)(flag:Bool)(a:Nat):Nat:=2*(toks.length-a)+(if flag then 1 else 2)
theorem jY{toks:List qK}:∀(f:Nat)(flag:Bool)(a:Nat){t:qB}{b:Nat},pT toks f flag a=.ok (t,b)->a<b/\b<=toks.length:=by
 intro f
 induction f with
 | zero=>intro flag a t b h;simp[pT]at h
 | succ f ih=>
  intro flag a t b h;cases flag with
  | true=>
   simp only[pT]at h;split at h
   ·rename_i h1;have:=qa h1;split at h
    ·rename_i h2;have:=ih _ _ h2;cases h;omega
    ·cases h
   ·split at h
    ·rename_i h1;have:=qa h1;split at h
     ·rename_i h2;have:=ih _ _ h2;split at h
      ·rename_i h3;have:=qa h3;cases h;omega
      ·cases h
     ·cases h
    ·split at h
     ·rename_i h1;have:=(gSi.1 h1).1;split at h
      ·cases h;omega
      ·cases h
     ·cases h
  | false=>
   simp only[pT]at h;split at h
   ·rename_i h2;have:=ih _ _ h2;split at h
    ·rename_i h1;have:=qa h1;split at h
     ·rename_i h3;have:=ih _ _ h3;cases h;omega
     ·cases h
    ·cases h;omega
   ·cases h
section
variable {id:Nat} {toks:List qK} {e:Int}
theorem qV6(hl:toks.length<=1048576):∀(f:Nat)(flag:Bool)(a:Nat)(h:List qC),zr toks flag a<=f->a<=toks.length->h[id]?=some (prI toks a e)->
  SCallX Gm (if flag then 720 else 335) [.ptr id 0 0] h (fun v h'=>∃t b S,pT toks f flag a=.ok (t,b)/\PS h id (prI toks b e) h'/\qu S h' v t.enc/\Bh h.length S h') (fun v h'=>∃b,pT toks f flag a=.error b/\v=wO (nxt toks b e).At):=by
 intro f
 induction f with
 | zero=>intro flag a h hf;exfalso;unfold zr at hf;cases flag<;>simp at hf
 | succ f ih=>
 intro flag a h hf ha ho;have hid:id<h.length:=(gSi.1 ho).1;cases flag with
 | true=>
  refine xI U3 ?_;simp only[U3,qH,go_sem];refine qe rfl (jH ho hl (by decide)) ?_;rw[qk (by decide)];simp only[go_sem];cases hb:isP toks a [33]
  case true=>
   have hlt:=qa hb;simp only[if_true,go_sem];refine qY ((ih true (a+1) (h.set id (prI toks (a+1) e)) (by unfold zr at hf|-;simp at hf|-;omega) (by omega) (by rw[gSs hid])).mono ?_ ?_)
   ·rintro v h1 ⟨t,b,S,q1,q2,q3,q4⟩;obtain⟨x0,x1,x2,rfl⟩:=Qe q3;simp only[go_sem];refine qe rfl n911 ?_;simp only[go_sem];refine lA ?_;simp only[go_sem];rw[lLs]at q4;obtain⟨r1,r2⟩:=qW4 q3 q4 (by have:=q2.len;rw[lLs]at this;exact this);refine⟨Qu t,b,_,by simp only[pT,hb,if_true,q1],((PS.set ho).trans q2).push,Wv r1,r2⟩
   ·rintro v h1 ⟨b,q1,rfl⟩;exact⟨rfl,b,by simp only[pT,hb,if_true,q1],rfl⟩
  simp only[bFt,if_false,go_sem];refine qe rfl (jH ho hl (by decide)) ?_;rw[qk (by decide)];simp only[go_sem];cases hc:isP toks a [40]
  case true=>
   have hlt:=qa hc;simp only[if_true,go_sem];refine qY ((ih false (a+1) (h.set id (prI toks (a+1) e)) (by unfold zr at hf|-;simp at hf|-;omega) (by omega) (by rw[gSs hid])).mono ?_ ?_)
   ·rintro v h1 ⟨t,b,S,q1,q2,q3,q4⟩;have hb2:=jY _ _ _ q1;obtain⟨x0,x1,x2,rfl⟩:=Qe q3;simp only[go_sem];refine lA ?_;simp only[go_sem];refine qY ((jc q2.at' hl (by decide)).mono ?_ ?_)
    ·rintro v2 h2 ⟨e1,rfl⟩;rw[qk (by decide)]at e1;simp only[go_sem];refine lA ?_;simp only[go_sem];rw[lLs]at q4;obtain⟨r1,r2⟩:=q3.ps q4 hid (PS.set q2.at' (o:=prI toks (b+1) e));exact⟨t,b+1,S,by simp only[pT,hb,hc,bFt,if_false,if_true,q1,e1],((PS.set ho).trans q2).trans (PS.set q2.at'),r1,r2⟩
    ·rintro v2 h2 ⟨e1,rfl,rfl⟩;rw[qk (by decide)]at e1;exact⟨rfl,b,by simp only[pT,hb,hc,bFt,if_false,if_true,q1,e1],rfl⟩
   ·rintro v h1 ⟨b,q1,rfl⟩;exact⟨rfl,b,by simp only[pT,hb,hc,bFt,if_false,if_true,q1],rfl⟩
  simp only[bFt,if_false,go_sem];refine qY ((Jn ho hl (by decide)).mono ?_ ?_)
  ·rintro v h1 ⟨e1,rfl,rfl⟩;have hlt:=Qb (by decide) e1;have en:nxt toks a e=toks[a]:=by simp[nxt,gEg hlt]
   rw[en]at e1|-;simp only[go_sem];by_cases hn:toks[a].Text=[73,110,116]
   ·simp only[dTt hn,nT,go_sem];refine qe rfl n908 ?_;simp only[go_sem];refine lA ?_;simp only[go_sem];exact⟨Q3,a+1,[none],by simp[pT,hb,hc,gEg hlt,e1,hn],PS.set ho,Z2,fun j hj=>by simp at hj⟩
   ·simp only[dFf hn,nF,go_sem];refine qe rfl qd8 ?_;simp only[go_sem];refine lA ?_;simp only[go_sem];exact⟨Ju toks[a].Text,a+1,[none],by simp[pT,hb,hc,gEg hlt,e1,hn],PS.set ho,Z2,fun j hj=>by simp at hj⟩
  ·rintro v h1 ⟨e1,rfl,rfl⟩;refine⟨rfl,a, ?_,rfl⟩;simp only[pT,hb,hc,bFt,if_false];unfold nxt at e1;split
   ·rename_i t ht;rw[ht]at e1;rw[if_neg (by simpa using e1)]
   ·rfl
 | false=>
  refine xI Uf ?_;simp only[Uf,qH,go_sem];refine qY ((ih true a h (by unfold zr at hf|-;simp at hf|-;omega) ha ho).mono ?_ ?_)
  ·rintro v h1 ⟨t,b,S,q1,q2,q3,q4⟩;obtain⟨b1,b2⟩:=jY _ _ _ q1;obtain⟨x0,x1,x2,rfl⟩:=Qe q3;simp only[go_sem];refine lA ?_;simp only[go_sem];refine qe rfl (jH q2.at' hl (by decide)) ?_;rw[qk (by decide)];simp only[go_sem];cases hb:isP toks b [45,62]
   ·simp only[bFt,if_false,go_sem];refine lA ?_;simp only[go_sem];exact⟨t,b,S,by simp only[pT,q1,hb,bFt,if_false],q2,q3,q4⟩
   ·have hlt:=qa hb;simp only[if_true,go_sem];have hid1:id<h1.length:=Nat.lt_of_lt_of_le hid q2.len;have q2':=q2.trans (PS.set q2.at' (o:=prI toks (b+1) e));obtain⟨q3',q4'⟩:=q3.ps q4 hid (PS.set q2.at' (o:=prI toks (b+1) e));refine qY ((ih false (b+1) (h1.set id (prI toks (b+1) e)) (by unfold zr at hf|-;simp at hf|-;omega) (by omega) (by rw[gSs hid1])).mono ?_ ?_)
    ·rintro v2 h2 ⟨u,c,S2,p1,p2,p3,p4⟩;obtain⟨y0,y1,y2,rfl⟩:=Qe p3;simp only[go_sem];refine qe rfl n722 ?_;simp only[go_sem];refine lA ?_;simp only[go_sem];obtain⟨z3,z4⟩:=q3'.ps q4' hid p2;obtain⟨r1,r2⟩:=qW5 z3 p3 z4 p4 (by have:=q2.len;have:=p2.len;rw[lLs]at this;omega) (by have:=q2.len;rw[lLs];omega) (fun j hj=>(q4' j hj).2);exact⟨QN t u,c,_,by simp only[pT,q1,hb,if_true,p1],(q2'.trans p2).push,Wv r1,r2⟩
    ·rintro v2 h2 ⟨c,p1,rfl⟩;exact⟨rfl,c,by simp only[pT,q1,hb,if_true,p1],rfl⟩
  ·rintro v h1 ⟨b,q1,rfl⟩;exact⟨rfl,b,by simp only[pT,q1],rfl⟩
end
def okT(k:Int)(n:Str)(l:Nat):Bool:=if k=1 then decide (n=[])&&decide (l=0)else if k=2 then zL n&&(!decide (n=[73,110,116])&&decide (l=0))else if k=3 then decide (n=[])&&decide (l=2)else if k=4 then decide (n=[])&&decide (l=1)else false
mutual
def qB.shp:qB->Nat×Nat×Bool
 |.mk k n ks=>match qB.shps ks 1 1 with
  | none=>(0,0,false)
  | some (d,s)=>(d,s,okT k n ks.length)
def qB.shps:List qB->Nat->Nat->Option (Nat×Nat)
 |[],d,s=>some (d,s)
 | x::xs,d,s=>match x.shp with
  | (d',s',true)=>qB.shps xs (max d (d'+1)) (s+s')
  | (_,_,false)=>none
end
mutual
def qB.nd:qB->Nat
 |.mk _ _ ks=>1+qB.nds ks
def qB.nds:List qB->Nat
 |[]=>0
 | x::xs=>x.nd+qB.nds xs
end
theorem qB.nds_eq:∀xs,qB.nds xs=qM qB.nd xs
 |[]=>by simp[qB.nds,qM]
 | x::xs=>by simp[qB.nds,qM,qB.nds_eq xs]
theorem qB.nd_eq(x:qB):x.nd=1+qM qB.nd x.Kids:=by cases x;simp[qB.nd,qB.nds_eq,qB.Kids]
theorem qB.shp_eq(x:qB):x.shp=match qB.shps x.Kids 1 1 with
  | none=>(0,0,false)
  | some (d,s)=>(d,s,okT x.Kind x.Name x.Kids.length):=by cases x;rfl
theorem qB.shps_le{xs:List qB}(ih:∀y∈xs,y.shp.1<=y.shp.2.1/\y.shp.2.1<=y.nd):∀{d s d1 s1:Nat},d<=s->1<=s->qB.shps xs d s=some (d1,s1)->d1<=s1/\s1<=s+qM qB.nd xs:=by
 induction xs with
 | nil=>intro d s d1 s1 h1 h2 h;simp only[qB.shps,oSi,Prod.mk.injEq]at h;obtain⟨rfl,rfl⟩:=h;simp[qM];exact h1
 | cons x xs ihx=>
  intro d s d1 s1 h1 h2 h;have hx:=ih x (by simp);simp only[qB.shps]at h;split at h
  ·rename_i d' s' he;rw[he]at hx;simp only at hx;have:=ihx (fun y hy=>ih y (by simp[hy])) (by omega) (by omega) h;simp only[qM];omega
  ·cases h
theorem qB.shp_le:∀x:qB,x.shp.1<=x.shp.2.1/\x.shp.2.1<=x.nd:=qB.ind fun x ih=>by
 rw[qB.shp_eq,qB.nd_eq];split
 ·simp
 ·rename_i d s h;have:=qB.shps_le ih (nLr _) (nLr _) h;simp only;omega
def zZ(x:qB):Bool:=x.shp.2.2&&(decide (x.shp.1<=6)&&decide (x.shp.2.1<=16))
theorem c331(x:qB):∀(hb:x.bd)(hn:x.nd<=1048576),Pure Gm 331 [x.enc] (.tup [.int .i64 (x.shp.1:Nat),.int .i64 (x.shp.2.1:Nat),.bool x.shp.2.2]):=by
 induction x using qB.ind with
 | _ x ih=>
 intro hb hn;refine pJ Ud ?_;simp only[Ud,qH,go_sem];refine zM qB.ln ?_;simp only[go_sem];rw[qB.nd_eq]at hn;rw[qB.bd_eq]at hb;obtain⟨b1,b2,b3⟩:=hb;have hs:=qB.shp_eq x;have e0:x.Kids.length<=1048576:=by
  have:∀xs:List qB,xs.length<=qM qB.nd xs:=fun xs=>by
   induction xs with
   | nil=>simp
   | cons y ys ihy=>have:=qB.nd_eq y;simp only[lCo,qM];omega
  have:=this x.Kids;omega
 refine Sem.loop (fun a:Nat×Nat×Nat=>a.1<=x.Kids.length/\a.2.1<=a.2.2/\1<=a.2.2/\a.2.2+qM qB.nd (x.Kids.drop a.1)<=1048576/\qB.shps x.Kids 1 1=qB.shps (x.Kids.drop a.1) a.2.1 a.2.2)
  (fun a=>(⟨[(2,.int .i64 (a.2.1:Nat)),(3,.int .i64 (a.2.2:Nat)),(4,.bool false),(11,.lst 3 (x.Kids.map qB.enc) false),(12,.int .i64 x.Kids.length),(13,.int .i64 (a.1:Nat))],[(1,x.enc)],[]⟩:VSt)) (fun a=>x.Kids.length-a.1) (0,1,1) (by kernel_rfl) ⟨nZl _,nLr _,nLr _,by simpa using hn,rfl⟩ cS ?_
 rintro⟨i,d,s⟩ ⟨hi,h1,h2,h3,hI⟩;simp only at hi h1 h2 h3 hI;simp only[go_sem];apply zj<;>intro hc<;>simp only[hc,go_sem]
 ·have hlt:i<x.Kids.length:=by have:=odT hc;omega
  simp only[gMp,gEg hlt,oMs,go_sem];refine wf rfl qB.ln (by exact⟨_,qB.enc_eq _⟩) (by decide) ?_;simp only[go_sem];have hm:=gMm hlt;have hd:x.Kids.drop i=x.Kids[i]::x.Kids.drop (i+1):=by simp
  rw[hd]at h3;simp only[qM]at h3;refine qF (ih _ hm (b3 _ hm) (by omega)) ?_;simp only[go_sem];have hle:=qB.shp_le x.Kids[i];cases hg:x.Kids[i].shp.2.2
  ·simp only[nF];simp only[go_sem];refine zU rfl ?_;have:qB.shps x.Kids 1 1=none:=by
    rw[hI,hd,qB.shps];split
    ·rename_i he;rw[he]at hg;cases hg
    ·rfl
   rw[hs,this];rfl
  ·simp only[nT];simp only[go_sem];simp only[zF (n:=((x.Kids[i].shp.1:Nat):Int)+1) (by omega) (by omega),zF (n:=(s:Int)+((x.Kids[i].shp.2.1:Nat):Int)) (by omega) (by omega)];have em:max ((d:Nat):Int) (((x.Kids[i].shp.1:Nat):Int)+1)=((max d (x.Kids[i].shp.1+1):Nat):Int):=by omega
   have es:(s:Int)+((x.Kids[i].shp.2.1:Nat):Int)=((s+x.Kids[i].shp.2.1:Nat):Int):=by omega
   rw[em,es];simp only[qp (show i<4611686018427387904 by omega)];refine qW (i+1,max d (x.Kids[i].shp.1+1),s+x.Kids[i].shp.2.1) ⟨by simp only;omega,by simp only;omega,by simp only;omega,by simp only;omega, ?_⟩ (by simp only;omega) ?_
   ·simp only;rw[hI,hd,qB.shps];split
    ·rename_i he;rw[he]
    ·rename_i he;rw[he]at hg;cases hg
   ·exact cS
 ·obtain rfl:i=x.Kids.length:=by have:=odF hc;omega
  have hk:qB.shps x.Kids 1 1=some (d,s):=by rw[hI];simp[qB.shps]
  rw[hk]at hs;simp only at hs;rw[hs];clear hs hk;have ek:decide (((x.Kids.length:Nat):Int)=0)=decide (x.Kids.length=0):=by rw[decide_eq_decide];omega
  have ek2:decide (((x.Kids.length:Nat):Int)=2)=decide (x.Kids.length=2):=by rw[decide_eq_decide];omega
  have ek1:decide (((x.Kids.length:Nat):Int)=1)=decide (x.Kids.length=1):=by rw[decide_eq_decide];omega
  by_cases k1:x.Kind=1
  ·simp only[dTt k1,go_sem];by_cases q:x.Name=[]
   ·simp only[dTt q,go_sem];exact zU rfl (by rw[ek];simp[okT,k1,q])
   ·simp only[dFf q,go_sem];exact zU rfl (by simp[okT,k1,q])
  simp only[dFf k1,go_sem];by_cases k2:x.Kind=2
  ·simp only[dTt k2,go_sem];refine qF (jx (by omega)) ?_;simp only[go_sem];cases q:zL x.Name
   ·simp only[go_sem];exact zU rfl (by simp[okT,k2,q])
   ·simp only[go_sem];by_cases q2:x.Name=[73,110,116]
    ·simp only[dTt q2,nT,go_sem];exact zU rfl (by simp[okT,k2,q2])
    ·simp only[dFf q2,nF,go_sem];exact zU rfl (by rw[ek];simp[okT,k2,q,q2])
  simp only[dFf k2,go_sem];by_cases k3:x.Kind=3
  ·simp only[dTt k3,go_sem];by_cases q:x.Name=[]
   ·simp only[dTt q,go_sem];exact zU rfl (by rw[ek2];simp[okT,k3,q])
   ·simp only[dFf q,go_sem];exact zU rfl (by simp[okT,k3,q])
  simp only[dFf k3,go_sem];by_cases k4:x.Kind=4
  ·simp only[dTt k4,go_sem];by_cases q:x.Name=[]
   ·simp only[dTt q,go_sem];exact zU rfl (by rw[ek1];simp[okT,k4,q])
   ·simp only[dFf q,go_sem];exact zU rfl (by simp[okT,k4,q])
  simp only[dFf k4,go_sem];exact zU rfl (by simp[okT,k1,k2,k3,k4])
theorem c74{x:qB}(hb:x.bd)(hn:x.nd<=1048576):Pure Gm 74 [x.enc] (.bool (zZ x)):=by
 refine pJ F74 ?_;simp only[F74,qH,go_sem];refine zM qB.ln ?_;simp only[go_sem];refine qF (c331 x hb hn) ?_;simp only[go_sem];have e1:decide (((x.shp.1:Nat):Int)<=6)=decide (x.shp.1<=6):=by rw[decide_eq_decide];omega
 have e2:decide (((x.shp.2.1:Nat):Int)<=16)=decide (x.shp.2.1<=16):=by rw[decide_eq_decide];omega
 cases h1:x.shp.2.2
 ·simp only[go_sem];exact qE rfl (by simp[zZ,h1])
 ·simp only[go_sem,e1];by_cases h2:x.shp.1<=6
  ·simp only[dTt h2,go_sem,e2];exact qE rfl (by simp[zZ,h1,h2])
  ·simp only[dFf h2,go_sem];exact qE rfl (by simp[zZ,h1,h2])
theorem Fresh.ofS{Γ:Nat->Option AFn}{g:Nat}{as:List AV}{t:AV}(ht:AV.trees as=true)(hp:t.pl=true)(hs:SCall Γ g as [] fun v h'=>∃S,qu S h' v t):Fresh Γ g as t:=by
 unfold Fresh;refine⟨ht,hp,fun hr ar har=> ?_⟩;obtain⟨k,r,hr',ρ',v,h',hx,⟨S,own⟩,g1,g2,g3,_⟩:=hs ρ0 hr ar ⟨(fun i o h=>by simp at h),(fun i j a o o' h=>by cases h),(fun _ _=>rfl),(fun i a h=>by cases h)⟩ har;obtain⟨r1,r2⟩:=qXM own.d own.o g1;exact⟨k,r,hr',_,hx,r1,own.v.rel g2,g3.trans r2⟩
@[go_sem] theorem qkY{E:Ev}{l:List qA}{ks:List Fr1}{s m:qf}{h:List qC}{Q:qS->VSt->Prop}{t:Nat}{k k':IntKind}{a b:Int}:Lst E t 0 1 (some (.int k a)) (some (.int k' b)) l ks ⟨s,m,h⟩ Q=R E (.ops l::ks) ⟨s,(t,.int k' b)::m,h⟩ Q:=by
 unfold Lst;simp[AV.put,AV.cells]
@[go_sem] theorem qnO{E:Ev}{t:jA}{K:AV->List qC->Prop}{st:VSt}:Yn E t K .ret st=wG (zC (zy st) t.res) st.h K:=rfl
@[go_sem] theorem qnN{E:Ev}{t:jA}{K:AV->List qC->Prop}{st:VSt}:Yn E t K .nrm st=((∀i∈t.cap,get st.l i≠none)/\get st.s t.d5=none/\R E [.code t.mid] st (JX fun st=>R E [.ops t.l7] st (Yo E t K))):=rfl
@[go_sem] theorem qnP{E:Ev}{t:jA}{K:AV->List qC->Prop}{st:VSt}:Yo E t K .nrm st=R E [.code t.r8] st (JX (ZS E t K)):=rfl
@[go_sem] theorem qgX{E:Ev}{t:jA}{K:AV->List qC->Prop}{st:VSt}{v:AV}:Yo E t K (.pan v) st=QA E t K v st:=rfl
theorem qgY{E:Ev}{t:jA}{K:AV->List qC->Prop}{st:VSt}(h:ev (toE st.s) t.x=some (.bool false))(hr:R E [.code t.tail] st (QM t.res K)):ZS E t K st:=by
 unfold ZS;rw[h];exact hr
theorem qgZ{E:Ev}{t:jA}{K:AV->List qC->Prop}{st:VSt}(h:ev (toE st.s) t.x=some (.bool true))(hr:R E [.ops t.l9] st (panQ (QA E t K))):ZS E t K st:=by
 unfold ZS;rw[h];exact hr
theorem qYP{E:Ev}{t:jA}{K:AV->List qC->Prop}{st:VSt}{T:Nat}{x:AV}(hT:T=t.T)(hl:x.leaf=true)(hr:R E [.code t.hnd] ⟨[(t.nh,x)],wo st.l 0 t.cap,st.h⟩ (JX fun s=>wG (zC (zy s) t.resH) s.h K)):QA E t K (.iface T x) st:=⟨hT,hl,hr⟩
@[go_sem] theorem qhS{l:qf}{n:Nat}:wo l n []=[]:=rfl
def qTS(v:Option AV)(n:Nat)(r:qf):qf:=match v with
 | some v=>(n,v)::r
 | none=>r
@[go_sem] theorem qhQ{v:AV}{n:Nat}{r:qf}:qTS (some v) n r=(n,v)::r:=rfl
@[go_sem] theorem qhR{l:qf}{n c:Nat}{r:List Nat}:wo l n (c::r)=qTS (get l c) n (wo l (n+1) r):=by
 rw[wo];cases get l c<;>rfl
theorem qBI{t:Str}:∀(f:Nat){i:Nat}{acc l:List qK},jk t f i acc=.ok l->i<=t.length->acc.length<=i->(∀x∈acc,x.Text.length<=t.length)->l.length<=t.length/\∀x∈l,x.Text.length<=t.length
 | 0,i,acc,l,h,hi,ha,hx=>by simp only[jk,Except.ok.injEq]at h;subst h;exact⟨by omega,hx⟩
 | f+1,i,acc,l,h,hi,ha,hx=>by
  simp only[jk]at h;split at h
  ·rename_i hlt;obtain⟨t1,t2,t3⟩:=W8 hlt;split at h
   ·exact qBI f h (by omega) (by omega) hx
   ·split at h
    ·cases h
    ·rename_i hk;have:=t3 hk;refine qBI f h (by omega) (by simp;omega) fun x hm=> ?_;rcases ja.1 hm with hm | hm
     ·exact hx x hm
     ·simp only[lMg]at hm;subst hm;simp only[lLt,List.length_drop];omega
  ·simp only[Except.ok.injEq]at h;subst h;exact⟨by omega,hx⟩
theorem qYG{t:Str}:(qo t).1.length<=20000/\∀x∈(qo t).1,x.Text.length<=20000:=by
 unfold qo;split
 ·exact⟨by simp,fun x hx=>by simp at hx⟩
 ·rename_i hl;split
  ·exact⟨by simp,fun x hx=>by simp at hx⟩
  ·rename_i l h;obtain⟨h1,h2⟩:=qBI _ h (nZl _) (nLr _) (fun x hx=>by simp at hx);exact⟨by simp only;omega,fun x hx=>by have:=h2 x hx;omega⟩
theorem XA{t:Str}:(qo t).1.length<=20000:=qYG.1
theorem qgT{t:Str}:∀x∈(qo t).1,x.Text.length<=20000:=qYG.2
theorem qAY{toks:List qK}(hx:∀x∈toks,x.Text.length<=20000):∀(f:Nat)(flag:Bool)(a:Nat){t:qB}{b:Nat},pT toks f flag a=.ok (t,b)->t.bd/\t.nd<=b-a:=by
 intro f
 induction f with
 | zero=>intro flag a t b h;simp[pT]at h
 | succ f ih=>
  intro flag a t b h;have hp:=jY _ _ _ h;cases flag with
  | true=>
   simp only[pT]at h;split at h
   ·split at h
    ·rename_i t1 b1 h2;obtain⟨i1,i2⟩:=ih _ _ h2;have:=jY _ _ _ h2;cases h;refine⟨by rw[qB.bd_eq];exact⟨by simp[Qu,qB.Name],by simp[Qu,qB.Kids],fun y hy=>by simp[Qu,qB.Kids]at hy;subst hy;exact i1⟩, ?_⟩;rw[qB.nd_eq];simp only[Qu,qB.Kids,qM];omega
    ·cases h
   ·split at h
    ·split at h
     ·rename_i t1 b1 h2;obtain⟨i1,i2⟩:=ih _ _ h2;have:=jY _ _ _ h2;split at h
      ·cases h;exact⟨i1,by omega⟩
      ·cases h
     ·cases h
    ·split at h
     ·rename_i tk h1;split at h
      ·cases h;split
       ·exact⟨by rw[qB.bd_eq];exact⟨by simp[Q3,qB.Name],by simp[Q3,qB.Kids],fun y hy=>by simp[Q3,qB.Kids]at hy⟩,by rw[qB.nd_eq];simp only[Q3,qB.Kids,qM];omega⟩
       ·exact⟨by rw[qB.bd_eq];exact⟨by have:=hx _ (lMo h1);simp only[Ju,qB.Name];omega,by simp[Ju,qB.Kids],fun y hy=>by simp[Ju,qB.Kids]at hy⟩,by rw[qB.nd_eq];simp only[Ju,qB.Kids,qM];omega⟩
      ·cases h
     ·cases h
  | false=>
   simp only[pT]at h;split at h
   ·rename_i t1 b1 h2;obtain⟨i1,i2⟩:=ih _ _ h2;have:=jY _ _ _ h2;split at h
    ·split at h
     ·rename_i u c h3;obtain⟨j1,j2⟩:=ih _ _ h3;have:=jY _ _ _ h3;cases h;refine⟨by rw[qB.bd_eq];exact⟨by simp[QN,qB.Name],by simp[QN,qB.Kids],fun y hy=>by simp[QN,qB.Kids]at hy;rcases hy with rfl | rfl;exact i1;exact j1⟩, ?_⟩;rw[qB.nd_eq];simp only[QN,qB.Kids,qM];omega
     ·cases h
    ·cases h;exact⟨i1,i2⟩
   ·cases h
theorem YP{α:Type}{enc:α->AV}:∀{xs:List α},(∀x∈xs,(enc x).pl=true)->AV.pls (xs.map enc)=true
 |[],_=>rfl
 | x::xs,h=>by simp only[lMc,AV.pls,h x (by simp),YP (xs:=xs) (fun y hy=>h y (by simp[hy])),Bool.and_self]
theorem Xh{α:Type}{enc:α->AV}:∀{xs:List α},(∀x∈xs,(enc x).cn=true)->AV.cns (xs.map enc)=true
 |[],_=>rfl
 | x::xs,h=>by simp only[lMc,AV.cns,h x (by simp),Xh (xs:=xs) (fun y hy=>h y (by simp[hy])),Bool.and_self]
theorem qB.plx:∀x:qB,x.enc.pl=true:=qB.ind fun x ih=>by
 rw[qB.enc_eq];simp[AV.pl,AV.pls,YP ih]
theorem qB.cnx:∀x:qB,x.enc.cn=true:=qB.ind fun x ih=>by
 rw[qB.enc_eq];simp[AV.cn,AV.cns,Xh ih]
theorem Qy{n lo hi:Int}:Pure Gm 340 [.int .i64 n,.int .i64 lo,.int .i64 hi] (.bool (decide (lo<=n)&&decide (n<=hi))):=by
 refine pJ Uh ?_;simp only[Uh,qH,go_sem]
 first | (apply QO<;>intro hc<;>simp only[hc,go_sem]) | (apply zj<;>intro hc<;>simp only[hc,go_sem])
 ·exact qE rfl (by have hq:=odT hc;simp<;>omega)
 ·exact qE rfl (by have hq:=odF hc;simp<;>omega)
theorem Xb{b:UInt8}:Pure Gm 1440 [.int .u8 (b.toNat:Nat)] (.bool (jC b || jG b)):=by
 refine pJ V3 ?_;simp only[V3,qH,go_sem];by_cases h1:97<=b.toNat
 ·have e1:decide ((97:Int)<=(b.toNat:Nat))=true:=dTt (by omega);simp only[ge_iff_le,e1,go_sem];by_cases h2:b.toNat<=122
  ·have e2:decide (((b.toNat:Nat):Int)<=122)=true:=dTt (by omega);simp only[e2,go_sem];exact qE rfl (by simp[jC,h1,h2])
  ·have e2:decide (((b.toNat:Nat):Int)<=122)=false:=dFf (by omega);have e3:decide ((65:Int)<=(b.toNat:Nat))=true:=dTt (by omega);have e4:decide (((b.toNat:Nat):Int)<=90)=false:=dFf (by omega);simp only[e2,e3,e4,go_sem];exact qE rfl (by simp[jC,jG,h2];omega)
 ·have e1:decide ((97:Int)<=(b.toNat:Nat))=false:=dFf (by omega);simp only[ge_iff_le,e1,go_sem];by_cases h2:65<=b.toNat
  ·have e2:decide ((65:Int)<=(b.toNat:Nat))=true:=dTt (by omega);simp only[e2,go_sem];exact qE rfl (by congr 1;rw[bEi];simp[jC,jG];omega)
  ·have e2:decide ((65:Int)<=(b.toNat:Nat))=false:=dFf (by omega);simp only[e2,go_sem];exact qE rfl (by simp[jC,jG,h1,h2])
theorem WS{b:UInt8}:Pure Gm 1442 [.int .u8 (b.toNat:Nat)] (.bool (zJ b)):=by
 refine pJ V5 ?_;simp only[V5,qH,go_sem]
 first | (apply QO<;>intro hc<;>simp only[hc,go_sem]) | (apply zj<;>intro hc<;>simp only[hc,go_sem])
 ·exact qE rfl (by first | (simp[zJ]at hc|-;omega) | (simp only[dTe,decide_eq_false_iff_not]at hc;congr 1;rw[bEi];simp[zJ];omega))
 ·exact qE rfl (by first | (simp[zJ]at hc|-;omega) | (simp only[dTe,decide_eq_false_iff_not]at hc;congr 1;rw[bEi];simp[zJ];omega))
theorem qTP:Pure Gm 1513 [] (.lst 1 (kws.map qR) false):=by
 refine pJ UC ?_;simp only[UC,qH,go_sem];rw[show zH _ _ _ _=some (kws.map qR)from rfl];simp only[go_sem];exact kI (Cv.row rfl rfl rfl (by decide))
theorem qTO{v:Str}:Pure Gm 1441 [.str v] (.bool (zi v)):=by
 refine pJ V4 ?_;simp only[V4,qH,go_sem];have hk:zi v=kws.any fun x=>v==x:=by simp only[zi,List.contains_eq_any_beq]
 have h8:kws.length=8:=rfl;refine Sem.loop (fun i:Nat=>i<=kws.length/\(kws.any fun x=>v==x)=((kws.drop i).any fun x=>v==x)) (fun i=>(⟨[(0,.str v),(3,.int .i64 (i:Nat))],[],[]⟩:VSt)) (fun i=>kws.length-i) 0 (by kernel_rfl) ⟨nZl _,rfl⟩ cS ?_;rintro i ⟨hi,hI⟩;simp only[go_sem];refine qF qTP ?_;simp only[go_sem];by_cases hlt:i<kws.length
 ·have e1:decide ((i:Int)<kws.length)=true:=dTt (by omega);simp only[e1,go_sem];refine qF qTP ?_;simp only[go_sem];simp only[gMp,gEg hlt,oMs,shS.part,qR,go_sem];have hd:kws.drop i=kws[i]::kws.drop (i+1):=by simp
  rw[hd,List.any_cons]at hI;by_cases he:kws[i]=v
  ·simp only[dTt he,go_sem];refine qE rfl ?_;rw[hk,hI,he];simp
  ·simp only[dFf he,go_sem];simp only[qp (show i<4611686018427387904 by omega)];refine qW (i+1) ⟨by omega, ?_⟩ (by omega) cS;rw[hI,show (v==kws[i])=false from by simpa using fun q=>he q.symm,Bool.false_or]
 ·have e1:decide ((i:Int)<kws.length)=false:=dFf (by omega);obtain rfl:i=kws.length:=by omega
  simp only[e1,go_sem];refine qE rfl ?_;rw[hk,hI];simp
theorem qTK{v:Str}(hl:v.length<=4611686018427387904):Pure Gm 1241 [.str v] (.bool (ze v)):=by
 refine pJ Vi ?_;simp only[Vi,qH,go_sem];by_cases h0:v.length<1
 ·have e0:decide ((v.length:Int)<1)=true:=dTt (by omega);simp only[e0,go_sem];exact qE rfl (by have:v=[]:=List.length_eq_zero_iff.1 (by omega);subst this;rfl)
 have e0:decide ((v.length:Int)<1)=false:=dFf (by omega);simp only[e0,go_sem];obtain⟨c,r,hv⟩:∃c r,v=c::r:=by cases v with
  | nil=>simp at h0
  | cons c r=>exact⟨c,r,rfl⟩
 by_cases h12:v.length<=12
 case neg=>
  have e1:decide ((v.length:Int)>12)=true:=dTt (by omega);simp only[gt_iff_lt]at e1;simp only[e1,go_sem];exact qE rfl (by subst hv;simp only[ze,dFf h12,Bool.false_and])
 have e1:decide ((v.length:Int)>12)=false:=dFf (by omega);simp only[gt_iff_lt]at e1;have eh:v[0]?=some c:=by rw[hv];rfl
 simp only[e1,go_sem,eh,oMs];refine qF Xb ?_;simp only[go_sem];cases hd:(jC c || jG c)
 case false=>
  simp only[nF];simp only[go_sem];refine qE rfl ?_;subst hv;have:ze (c::r)=false:=by
   simp only[ze,lAc,zE];rw[Bool.or_eq_false_iff]at hd;simp only[hd.1,hd.2,Bool.false_or];cases zJ c<;>simp
  rw[this]
 simp only[nT];simp only[go_sem];have hdd:zJ c=false:=by
  rw[Bool.or_eq_true]at hd;rcases hd with hd | hd<;>simp[jC,jG,zJ]at hd|-<;>omega
 refine qF qTO ?_;simp only[go_sem];cases hk:zi v
 case true=>
  simp only[go_sem];exact qE rfl (by subst hv;simp[ze,hk])
 simp only[go_sem];have hn:ze v=v.all zE:=by subst hv;simp only[ze,hdd,hk,dTt h12,nF,Bool.true_and]
 refine Sem.loop (fun i:Nat=>i<=v.length/\v.all zE=(v.drop i).all zE) (fun i=>(⟨[(0,.str v),(3,.int .i64 (i:Nat))],[],[]⟩:VSt)) (fun i=>v.length-i) 0 (by kernel_rfl) ⟨nZl _,rfl⟩ cS ?_;rintro i ⟨hi,hI⟩;simp only[go_sem];apply zj<;>intro hc<;>simp only[hc,go_sem]
 ·have hlt:i<v.length:=by have:=odT hc;omega
  have hq:v.drop i=v[i]::v.drop (i+1):=by simp
  rw[hq,lAc]at hI;simp only[gEg hlt,oMs];simp only[go_sem];refine qF Xb ?_;simp only[go_sem];cases hw:(jC v[i] || jG v[i])
  ·simp only[nF];simp only[go_sem];simp only[gEg hlt,oMs];simp only[go_sem];refine qF WS ?_;simp only[go_sem];have hw2:zE v[i]=zJ v[i]:=by rw[Bool.or_eq_false_iff]at hw;simp[zE,hw.1,hw.2]
   cases hw3:zJ v[i]
   ·simp only[nF];simp only[go_sem];refine qE rfl ?_;rw[hn,hI,hw2,hw3,Bool.false_and]
   ·simp only[nT];simp only[go_sem];simp only[qp (show i<4611686018427387904 by omega)];refine qW (i+1) ⟨by omega, ?_⟩ (by omega) cS;rw[hI,hw2,hw3,Bool.true_and]
  ·simp only[nT];simp only[go_sem];have hw2:zE v[i]=true:=by rw[Bool.or_eq_true]at hw;simp only[zE];rcases hw with hw | hw<;>simp[hw]
   simp only[qp (show i<4611686018427387904 by omega)];refine qW (i+1) ⟨by omega, ?_⟩ (by omega) cS;rw[hI,hw2,Bool.true_and]
 ·obtain rfl:i=v.length:=by have:=odF hc;omega
  refine qE rfl ?_;rw[hn,hI];simp
theorem qU6{c:UInt8}{r:Str}(h:ze (c::r)=true):jC c=true\/jG c=true:=by
 simp only[ze,lAc,zE,bAt,Bool.or_eq_true,bNt]at h;obtain⟨_,h1,_,h2,_⟩:=h;rcases h2 with h2 | h2 | h2
 ·exact .inl h2
 ·exact .inr h2
 ·rw[h1]at h2;cases h2
theorem Jt{v:Str}(hl:v.length<=4611686018427387904):Pure Gm 921 [.str v] (.bool (zL v)):=by
 refine pJ KX ?_;simp only[KX,qH,go_sem];refine qF (qTK hl) ?_;simp only[go_sem];cases hn:ze v
 ·simp only[go_sem];exact qE rfl (by simp[zL,hn])
 ·cases v with
  | nil=>cases hn
  | cons c r=>
  have hh:=qU6 hn;simp only[List.getElem?_cons_zero,oMs,go_sem];exact qE rfl (by simp only[zL,hn,List.headD_cons,Bool.true_and];congr 1;rw[bEi];simp[jC,jG]at hh|-;omega)
theorem Qw{v:Str}(hl:v.length<=4611686018427387904):Pure Gm 1237 [.str v] (.bool (zV v)):=by
 refine pJ Vg ?_;simp only[Vg,qH,go_sem];refine qF (qTK hl) ?_;simp only[go_sem];cases hn:ze v
 ·simp only[go_sem];exact qE rfl (by simp[zV,hn])
 ·cases v with
  | nil=>cases hn
  | cons c r=>
  have hh:=qU6 hn;simp only[List.getElem?_cons_zero,oMs,go_sem];exact qE rfl (by simp only[zV,hn,List.headD_cons,Bool.true_and];congr 1;rw[bEi];simp[jC,jG]at hh|-;omega)
theorem qZ9{b:UInt8}:Pure Gm 1393 [.int .u8 (b.toNat:Nat)] (.bool (decide (0<=Lib.indexByte Zf (b.toNat:Nat).toUInt8))):=by
 refine pJ Vu ?_;simp only[Vu,qH,go_sem];have hb:(b.toNat:Nat).toUInt8=b:=by simp
 rw[hb];by_cases h1:b=32
 ·subst h1;have e1:decide ((((32:UInt8).toNat:Nat):Int)=32)=true:=rfl;simp only[e1,go_sem];exact qE rfl rfl
 by_cases h2:b=10
 ·subst h2;have e1:decide ((((10:UInt8).toNat:Nat):Int)=32)=false:=rfl;have e2:decide ((((10:UInt8).toNat:Nat):Int)=10)=true:=rfl;simp only[e1,e2,go_sem];exact qE rfl rfl
 by_cases h3:b=9
 ·subst h3;have e1:decide ((((9:UInt8).toNat:Nat):Int)=32)=false:=rfl;have e2:decide ((((9:UInt8).toNat:Nat):Int)=10)=false:=rfl;have e3:decide ((((9:UInt8).toNat:Nat):Int)=9)=true:=rfl;simp only[e1,e2,e3,go_sem];exact qE rfl rfl
 have hne:∀c:UInt8,¬b=c->decide (((b.toNat:Nat):Int)=(c.toNat:Nat))=false:=fun c hc=>dFf fun q=>hc (UInt8.toNat_inj.1 (by omega));have e1:decide (((b.toNat:Nat):Int)=32)=false:=hne 32 h1;have e2:decide (((b.toNat:Nat):Int)=10)=false:=hne 10 h2;have e3:decide (((b.toNat:Nat):Int)=9)=false:=hne 9 h3;simp only[e1,e2,e3,go_sem];exact qE rfl (by simp[Lib.indexByte,Zf,Ne.symm h1,Ne.symm h2,Ne.symm h3])
theorem qaG{t:Str}{i:Nat}(hi:i<=t.length)(hl:t.length<=20000):Pure Gm 1496 [.str t,.int .i64 (i:Nat)] (.int .i64 ((i+(qi t i).length:Nat):Int)):=by
 refine pJ V7 ?_;simp only[V7,qH,go_sem];refine Sem.loop (fun k:Nat=>k<=(qi t i).length) (fun k=>(⟨[(0,.str t),(1,.int .i64 ((i+k:Nat):Int))],[],[]⟩:VSt)) (fun k=>(qi t i).length-k) 0 (by kernel_rfl) (nZl _) cS ?_;intro k hk;have ws:=qBP hk;simp only[go_sem];by_cases hlt:i+k<t.length
 case neg=>
  have e:decide (((i+k:Nat):Int)<t.length)=false:=dFf (by omega);simp only[e,go_sem];have:k=(qi t i).length:=by have:=Yt (t:=t) (i:=i) hi;omega
  exact qE rfl (by rw[this])
 have e:decide (((i+k:Nat):Int)<t.length)=true:=dTt (by omega);simp only[e,gEg hlt,oMs,go_sem];refine qF Xb ?_;simp only[go_sem];have go:zE t[i+k]=true->k<(qi t i).length:=fun q=>ws.1 ⟨_,gEg hlt,q⟩;have no:zE t[i+k]=false->k=(qi t i).length:=fun q=>by
  have:¬k<(qi t i).length:=fun q2=>by
   obtain⟨c,e1,e2⟩:=ws.2 q2;rw[gEg hlt]at e1;cases e1;rw[q]at e2;cases e2
  omega
 cases hw:(jC t[i+k] || jG t[i+k])
 ·simp only[gEg hlt,oMs,go_sem];refine qF WS ?_;simp only[go_sem];have hw2:zE t[i+k]=zJ t[i+k]:=by rw[Bool.or_eq_false_iff]at hw;simp[zE,hw.1,hw.2]
  cases hw3:zJ t[i+k]
  ·simp only[go_sem];exact qE rfl (by rw[<-no (by rw[hw2,hw3])])
  ·simp only[go_sem];have h1:=go (by rw[hw2,hw3]);simp only[qp (show i+k<4611686018427387904 by omega)];exact qW (k+1) h1 (by omega) (Can.sub (by simp[go_sem,Nat.add_assoc]) (by simp[go_sem]))
 ·simp only[go_sem];have h1:=go (by rw[Bool.or_eq_true]at hw;simp only[zE];rcases hw with hw | hw<;>simp[hw]);simp only[qp (show i+k<4611686018427387904 by omega)];exact qW (k+1) h1 (by omega) (Can.sub (by simp[go_sem,Nat.add_assoc]) (by simp[go_sem]))
def jg(a:Nat)(s:Str):Nat:=s.foldl (fun a c=>10*a+(c.toNat-48)) a
def qd(s:Str):Nat:=jg 0 s
def zu(s:Str):Bool:=decide (s.length<=10)&&(!(decide (1<s.length)&&decide (s.headD 0=48))&&(s.all zJ&&decide (qd s<=2147483648)))
theorem JA{a:Nat}:jg a []=a:=by unfold jg;rw[List.foldl_nil]
theorem JY{a:Nat}{c:UInt8}{s:Str}:jg a (c::s)=jg (10*a+(c.toNat-48)) s:=by unfold jg;rw[List.foldl_cons]
theorem YH{s r:Str}{a:Nat}:jg a (s++r)=jg (jg a s) r:=List.foldl_append ..
theorem qWJ{s:Str}:∀{a:Nat},a<=jg a s:=by
 induction s with
 | nil=>intro a;exact nLr _
 | cons c s ih=>intro a;rw[JY];exact nLt (by omega) ih
theorem Jj{c:UInt8}:zJ c=true↔48<=c.toNat/\c.toNat<=57:=by simp[zJ]
theorem qWK:∀{s:Str}{a k:Nat},s.all zJ=true->a<10^k->jg a s<10^(k+s.length)
 |[],a,k,_,h=>by rw[JA];exact h
 | c::s,a,k,hd,h=>by
  simp only[lAc,bAt]at hd;rw[JY,show k+(c::s).length=(k+1)+s.length by simp;omega];have:=Jj.1 hd.1;exact qWK hd.2 (by rw[Nat.pow_succ];omega)
theorem qWM{s:Str}(hd:s.all zJ=true):qd s<10^s.length:=by
 have:=qWK (k:=0) (a:=0) hd (by decide);rwa[nZa]at this
theorem qA1{M:Nat}(hM:M=2^64-1):∀{s:Str}{a:Nat},s.all zJ=true->jg a s<=9000000000000000000->Lib.parseUintM M a s=.ok (jg a s)
 |[],a,_,_=>by rw[JA];rfl
 | c::s,a,hd,h=>by
  simp only[lAc,bAt]at hd;have h1:=Jj.1 hd.1;rw[JY]at h|-;have h2:=qWJ (s:=s) (a:=10*a+(c.toNat-48));rw[Lib.parseUintM,if_pos h1,if_neg (by omega),if_neg (by subst hM;omega),show a*10+(c.toNat-48)=10*a+(c.toNat-48) by omega];exact qA1 hM hd.2 h
theorem qW7{s:Str}(hn:s≠[])(hd:s.all zJ=true)(h:qd s<=9000000000000000000):Lib.parseIntB 64 s=.ok (qd s:Int):=by
 cases s with
 | nil=>exact absurd rfl hn
 | cons c r=>
  have h1:=Jj.1 (by simp only[lAc,bAt]at hd;exact hd.1);unfold Lib.parseIntB;simp only;rw[if_neg (by omega),Lib.parseUintB,if_neg (by simp),qA1 rfl hd h];simp only;rw[if_neg (by intro q;have:=q.2;change qd (c::r)<=_ at h;unfold qd at h;omega),if_neg (by omega),if_neg (by omega)];rfl
theorem WY{u:Nat}(h:u<10):Lib.decDigits u=[UInt8.ofNat (48+u)]:=by rw[Lib.decDigits,dif_pos h]
theorem Xl{u:Nat}(h:¬u<10):Lib.decDigits u=Lib.decDigits (u/10)++[UInt8.ofNat (48+u%10)]:=by rw[Lib.decDigits,dif_neg h]
theorem ofN{d:Nat}(h:d<10):(UInt8.ofNat (48+d)).toNat=48+d:=by
 rw[UInt8.toNat_ofNat'];omega
theorem qT9:∀u:Nat,(Lib.decDigits u).all zJ=true/\qd (Lib.decDigits u)=u/\Lib.decDigits u≠[]/\(1<(Lib.decDigits u).length->(Lib.decDigits u).headD 0≠48)/\(0<u->(Lib.decDigits u).headD 0≠48):=by
 intro u
 induction u using Nat.strongRecOn with
 | _ u ih=>
 by_cases h:u<10
 ·rw[WY h];have hu:=ofN h;refine⟨by simp only[lAc,List.all_nil,Bool.and_true];rw[Jj,hu];omega,by simp only[qd,JY,JA,hu];omega,by simp,by simp,fun h0 q=> ?_⟩;simp only[List.headD_cons]at q;rw[q]at hu;have:(48:UInt8).toNat=48:=rfl;omega
 ·rw[Xl h];obtain⟨i1,i2,i3,i4,i5⟩:=ih (u/10) (by omega);have hu:=ofN (d:=u%10) (by omega);obtain⟨c,r,e⟩:∃c r,Lib.decDigits (u/10)=c::r:=by
   cases hq:Lib.decDigits (u/10)with
   | nil=>exact absurd hq i3
   | cons c r=>exact⟨c,r,rfl⟩
  have h5:=i5 (by omega);refine⟨?_, ?_,by simp,fun _=> ?_,fun _=> ?_⟩
  ·rw[List.all_append,i1];simp only[lAc,List.all_nil,Bool.and_true,Bool.true_and];rw[Jj,hu];omega
  ·unfold qd at i2|-;rw[YH,i2,JY,JA,hu];omega
  ·rw[e]at h5|-;exact h5
  ·rw[e]at h5|-;exact h5
theorem qUA:∀(n:Nat){s:Str},s.length=n->s≠[]->s.all zJ=true->(1<s.length->s.headD 0≠48)->Lib.decDigits (qd s)=s:=by
 intro n
 induction n using Nat.strongRecOn with
 | _ n ih=>
 intro s hl hn hd h0;obtain⟨l,c,rfl⟩:∃l c,s=l++[c]:=⟨s.dropLast,s.getLast hn,(List.dropLast_concat_getLast hn).symm⟩;rw[List.all_append,bAt]at hd;have hc:=Jj.1 (by simpa using hd.2);have e:qd (l++[c])=10*qd l+(c.toNat-48):=by unfold qd;rw[YH,JY,JA]
 have ec:UInt8.ofNat (48+(c.toNat-48))=c:=by
  apply UInt8.toNat_inj.1;rw[ofN (by omega)];omega
 rw[e];cases l with
 | nil=>
  simp only[qd,JA,lNa];rw[WY (by omega),show 48+(10*0+(c.toNat-48))=48+(c.toNat-48) by omega,ec]
 | cons x r=>
  have hx:=h0 (by simp);simp only[lCa,List.headD_cons]at hx;have hxd:=Jj.1 (by have:=hd.1;simp only[lAc,bAt]at this;exact this.1);have hpos:1<=qd (x::r):=by
   unfold qd;rw[JY];refine nLt ?_ (qWJ (s:=r));have:x.toNat≠48:=fun q=>hx (UInt8.toNat_inj.1 q);omega
  have hi:=ih (x::r).length (by rw[<-hl];simp) rfl (by simp) hd.1 (fun _=>by simpa using hx);rw[Xl (by omega),show (10*qd (x::r)+(c.toNat-48))/10=qd (x::r) by omega,hi,show (10*qd (x::r)+(c.toNat-48))%10=c.toNat-48 by omega,ec]
theorem K5{u:Nat}(h:u<=2147483648):(Lib.decDigits u).length<=10:=by
 rcases Nat.lt_or_ge 10 (Lib.decDigits u).length with q | q
 ·exfalso;obtain⟨h1,h2,h3,h4,_⟩:=qT9 u;obtain⟨c,r,e⟩:∃c r,Lib.decDigits u=c::r:=by
   cases hq:Lib.decDigits u with
   | nil=>exact absurd hq h3
   | cons c r=>exact⟨c,r,rfl⟩
  have h5:=h4 (by omega);rw[e]at h1 h2 h5 q;simp only[List.headD_cons]at h5;have hd:=h1;simp only[lAc,bAt]at hd;have hxd:=Jj.1 hd.1;have:c.toNat≠48:=fun q=>h5 (UInt8.toNat_inj.1 q);have low:∀(s:Str)(a:Nat),a*10^s.length<=jg a s:=fun s=>by
   induction s with
   | nil=>intro a;simp[JA]
   | cons y s ihs=>
    intro a;rw[JY];refine nLt ?_ (ihs _);rw[lCo,Nat.pow_succ,Nat.mul_comm (10^s.length) 10,<-Nat.mul_assoc];exact Nat.mul_le_mul_right _ (by omega)
  have hb:=low r (10*0+(c.toNat-48));have hb2:10^10<=10^r.length:=Nat.pow_le_pow_right (by decide) (by simp at q;omega);have hb3:1*10^r.length<=(10*0+(c.toNat-48))*10^r.length:=Nat.mul_le_mul_right _ (by omega);have e2:qd (c::r)=jg (10*0+(c.toNat-48)) r:=by unfold qd;rw[JY]
  rw[e2]at h2;have:(10:Nat)^10=10000000000:=by decide
  omega
 ·exact q
theorem qeN{s:Str}(hn:s≠[]):zu s=(decide (s=JF) || J3 s):=by
 rw[bEi];constructor
 ·intro h;simp only[zu,bAt,dTe,bNt,Bool.and_eq_false_iff,decide_eq_false_iff_not]at h;obtain⟨h1,h2,h3,h4⟩:=h;have hu:=qUA _ rfl hn h3 (fun q=>by rcases h2 with h2 | h2;exact absurd q h2;exact h2);by_cases e:qd s=2147483648
  ·rw[e]at hu;have:Lib.decDigits 2147483648=JF:=by
    repeat rw[Xl (by decide)]
    rw[WY (by decide)];rfl
   rw[this]at hu;simp[<-hu]
  ·have hp:=qW7 hn h3 (by omega);have hi:Lib.itoa (qd s:Int)=s:=by
    unfold Lib.itoa;rw[if_neg (by omega),Int.toNat_natCast];exact hu
   have hr:wD s=some (qd s:Int):=by
    unfold wD;rw[hp];simp only;rw[if_pos ⟨⟨by omega,by omega⟩,hi⟩]
   simp[J3,hr]
 ·intro h;have key:∀u:Nat,u<=2147483648->zu (Lib.decDigits u)=true:=fun u hu=>by
   obtain⟨d1,d2,d3,d4,_⟩:=qT9 u;have d5:=K5 hu;simp only[zu,bAt,dTe,bNt,Bool.and_eq_false_iff,decide_eq_false_iff_not];refine⟨d5, ?_,d1,by omega⟩;by_cases q:1<(Lib.decDigits u).length
   ·exact .inr (d4 q)
   ·exact .inl q
  rw[Bool.or_eq_true]at h;rcases h with h | h
  ·have e:=odT h;subst e;decide
  ·unfold J3 at h;split at h
   ·rename_i n hr;have h0:=odT h;unfold wD at hr;split at hr
    ·split at hr
     ·rename_i hq;cases hr;obtain⟨⟨q1,q2⟩,q3⟩:=hq;unfold Lib.itoa at q3;rw[if_neg (by omega)]at q3;rw[<-q3];exact key _ (by omega)
     ·cases hr
    ·cases hr
   ·cases h
theorem qUY:∀{l:Str}{c:UInt8},decide (0<=Lib.indexByte l c)=l.any fun x=>x==c
 |[],c=>by simp[Lib.indexByte]
 | b::l,c=>by
  have ih:=qUY (l:=l) (c:=c);have hg:=Lib.indexByte_ge l c;unfold Lib.indexByte;rw[List.any_cons,<-ih];by_cases h:(b==c)=true
  ·rw[if_pos h,h];simp
  ·rw[if_neg h];have h':(b==c)=false:=by simpa using h
   rw[h',Bool.false_or];split
   ·rename_i q;have q':Lib.indexByte l c= -1:=by simpa using q
    simp[q']
   ·rename_i q;have q':Lib.indexByte l c≠-1:=by simpa using q
    rw[decide_eq_decide];omega
theorem qeO{s:Str}(h:zu s=true):s.all zJ=true:=by
 simp only[zu,bAt]at h;exact h.2.2.1
theorem qU7{s:Str}(h:ze s=true):zu s=false:=by
 cases s with
 | nil=>cases h
 | cons c r=>
  rw[<-Bool.not_eq_true];intro q;have:=qeO q;simp only[lAc,bAt]at this;simp only[ze,bAt,bNt]at h;rw[h.2.1]at this;cases this.1
theorem qcY{s:Str}(h:zi s=true):zV s=false/\zL s=false/\zu s=false:=by
 have hn:ze s=false:=by
  cases s with
  | nil=>rfl
  | cons c r=>simp only[ze,h,nT,Bool.false_and,Bool.and_false]
 refine⟨by simp[zV,hn],by simp[zL,hn], ?_⟩;have:s∈kws:=by simpa[zi]using h
 simp only[kws,List.mem_cons,List.not_mem_nil,or_false]at this;rcases this with rfl | rfl | rfl | rfl | rfl | rfl | rfl | rfl<;>decide
theorem qc0{s:Str}(h:zV s=true):zL s=false/\zu s=false:=by
 simp only[zV,bAt]at h;refine⟨?_,qU7 h.1⟩;simp only[zL,Bool.and_eq_false_iff];right;have:=h.2;simp[jC]at this;simp[jG];omega
theorem qc4{s:Str}(h:zL s=true):zu s=false:=by
 simp only[zL,bAt]at h;exact qU7 h.1
def wQ(t:Str)(i:Nat):qK:=if (zI t i).1=0 then(if 0<(qi t i).length then⟨0,qi t i,i⟩else⟨0,[],0⟩)else jR t i
theorem Xc{s:Str}(hs:s≠[])(hl:s.length<=20000):Pure Gm 1497 [.str s] (.bool (zu s)):=by
 refine pJ V8 ?_;simp only[V8,qH,go_sem];obtain⟨c,r,hv⟩:∃c r,s=c::r:=by cases s with
  | nil=>exact absurd rfl hs
  | cons c r=>exact⟨c,r,rfl⟩
 have eh:s[0]?=some c:=by rw[hv];rfl
 have ehd:s.headD 0=c:=by rw[hv];rfl
 have h1:1<=s.length:=by rw[hv];simp
 by_cases h10:s.length<=10
 case neg=>
  have e0:decide ((10:Int)<(s.length:Nat))=true:=dTt (by omega);simp only[e0,go_sem];exact qE rfl (by simp[zu,h10])
 have e0:decide ((10:Int)<(s.length:Nat))=false:=dFf (by omega);simp only[e0,go_sem];have hz:(!(decide (1<s.length)&&decide (s.headD 0=48)))=true\/(1<s.length/\c=48):=by
  rw[ehd];by_cases q1:1<s.length
  ·by_cases q2:c=48
   ·exact .inr ⟨q1,q2⟩
   ·left;simp[q2]
  ·left;simp[q1]
 have fin0:(1<s.length/\c=48)->zu s=false:=fun q=>by
  rw[zu,ehd,dTt q.1,dTt q.2];simp
 by_cases q1:1<s.length
 case' pos=>
  have e1:decide ((1:Int)<(s.length:Nat))=true:=dTt (by omega);simp only[e1,eh,oMs,go_sem];by_cases q2:c=48
  case pos=>
   have e2:decide (((c.toNat:Nat):Int)=48)=true:=by subst q2;rfl
   simp only[e2,go_sem];exact qE rfl (by rw[fin0 ⟨q1,q2⟩])
  case' neg=>
   have e2:decide (((c.toNat:Nat):Int)=48)=false:=dFf fun q=>q2 (UInt8.toNat_inj.1 (by have:(48:UInt8).toNat=48:=rfl;omega));simp only[e2,go_sem]
 case' neg=>
  have e1:decide ((1:Int)<(s.length:Nat))=false:=dFf (by omega);simp only[e1,go_sem]
 all_goals
  have hz':(!(decide (1<s.length)&&decide (s.headD 0=48)))=true:=by
   rcases hz with q | q
   ·exact q
   ·first | exact absurd q.1 q1 | exact absurd q.2 q2
  have hn:zu s=(s.all zJ&&decide (qd s<=2147483648)):=by rw[zu,dTt h10,hz',Bool.true_and,Bool.true_and]
  refine Sem.loop (fun i:Nat=>i<=s.length/\(s.take i).all zJ=true) (fun i=>(⟨[(0,.str s),(3,.int .i64 (qd (s.take i):Nat)),(4,.int .i64 (i:Nat))],[],[]⟩:VSt)) (fun i=>s.length-i) 0 (by kernel_rfl) ⟨nZl _,by simp⟩ (Can.sub (by simp[go_sem,qd,JA]) (by simp[go_sem])) ?_;rintro i ⟨hi,hI⟩;simp only[go_sem];by_cases hlt:i<s.length
  ·have e1:decide ((i:Int)<(s.length:Nat))=true:=dTt (by omega);simp only[e1,gEg hlt,oMs,go_sem];refine qF WS ?_;simp only[go_sem];have et:s.take (i+1)=s.take i++[s[i]]:=by rw[List.take_add_one,gEg hlt];rfl
   cases hd:zJ s[i]
   ·simp only[nF,go_sem];refine qE rfl ?_;have:s.all zJ=false:=by
     rw[<-Bool.not_eq_true];intro q;rw[lAt]at q;rw[q _ (gMm hlt)]at hd;cases hd
    rw[hn,this,Bool.false_and]
   ·simp only[nT,gEg hlt,oMs,go_sem];have hb:=Jj.1 hd;have hv:=qWM hI;have hp:10^(s.take i).length<=10^10:=Nat.pow_le_pow_right (by decide) (by simp;omega);have h10':(10:Nat)^10=10000000000:=by decide
    have w1:IntKind.u8.wrap (((s[i].toNat:Nat):Int)-48)=((s[i].toNat-48:Nat):Int):=by rw[IntWalk.u8_in _ ⟨by omega,by omega⟩];omega
    simp only[w1,zF (n:=((s[i].toNat-48:Nat):Int)) (by omega) (by omega),zF (n:=10*((qd (s.take i):Nat):Int)) (by omega) (by omega),zF (n:=10*((qd (s.take i):Nat):Int)+((s[i].toNat-48:Nat):Int)) (by omega) (by omega),qp (show i<4611686018427387904 by omega)];have en:qd (s.take (i+1))=10*qd (s.take i)+(s[i].toNat-48):=by rw[et];unfold qd;rw[YH,JY,JA]
    have ee:10*((qd (s.take i):Nat):Int)+((s[i].toNat-48:Nat):Int)=((qd (s.take (i+1)):Nat):Int):=by rw[en];omega
    rw[ee];refine qW (i+1) ⟨by omega,by rw[et,List.all_append,hI];simp[hd]⟩ (by omega) ?_;exact cS
  ·have e1:decide ((i:Int)<(s.length:Nat))=false:=dFf (by omega);obtain rfl:i=s.length:=by omega
   simp only[e1,go_sem];rw[lTl]at hI|-;refine qE rfl ?_;rw[hn,hI,Bool.true_and];congr 1;rw[decide_eq_decide];omega
theorem qaH{b:UInt8}:Pure Gm 1498 [.int .u8 (b.toNat:Nat)] (.bool (decide (0<=Lib.indexByte zw b))):=by
 refine pJ V9 ?_;simp only[V9,qH,go_sem];have hk:decide (0<=Lib.indexByte zw b)=zw.any fun x=>x==b:=qUY;have h8:zw.length=19:=rfl;have es:([43,45,42,47,60,61,40,41,91,93,123,125,44,59,58,46,124,33,92]:Str)=zw:=rfl;rw[es];refine Sem.loop (fun i:Nat=>i<=zw.length/\(zw.any fun x=>x==b)=((zw.drop i).any fun x=>x==b)) (fun i=>(⟨[(0,.int .u8 (b.toNat:Nat)),(3,.str zw),(4,.int .i64 (i:Nat))],[],[]⟩:VSt)) (fun i=>zw.length-i) 0 (by kernel_rfl) ⟨nZl _,rfl⟩ cS ?_;rintro i ⟨hi,hI⟩;simp only[go_sem];by_cases hlt:i<zw.length
 ·have e1:decide ((i:Int)<(zw.length:Nat))=true:=dTt (by omega);simp only[e1,gEg hlt,oMs,go_sem];have hd:zw.drop i=zw[i]::zw.drop (i+1):=by simp
  rw[hd,List.any_cons]at hI;by_cases he:zw[i]=b
  ·have e2:decide (((zw[i].toNat:Nat):Int)=(b.toNat:Nat))=true:=dTt (by rw[he]);simp only[e2,go_sem];refine qE rfl ?_;rw[hk,hI,he];simp
  ·have e2:decide (((zw[i].toNat:Nat):Int)=(b.toNat:Nat))=false:=dFf fun q=>he (UInt8.toNat_inj.1 (by omega));simp only[e2,go_sem];simp only[qp (show i<4611686018427387904 by omega)];refine qW (i+1) ⟨by omega, ?_⟩ (by omega) cS;rw[hI,show (zw[i]==b)=false from by simpa using he,Bool.false_or]
 ·have e1:decide ((i:Int)<(zw.length:Nat))=false:=dFf (by omega);obtain rfl:i=zw.length:=by omega
  simp only[e1,go_sem];refine qE rfl ?_;rw[hk,hI];simp
theorem qhA{t:Str}{i:Nat}(hi:i<t.length):zE t[i]=decide (0<(qi t i).length):=by
 have:=qBP (t:=t) (i:=i) (k:=0) (nZl _);rw[nAz]at this;rw[bEi,dTe,<-this];constructor
 ·intro q;exact⟨_,gEg hi,q⟩
 ·rintro⟨c,e1,e2⟩;rw[gEg hi]at e1;cases e1;exact e2
theorem Yh{t:Str}{i:Nat}(h:0<(qi t i).length):zI t i=if zi (qi t i)then(3,i+(qi t i).length)else if zV (qi t i)then(1,i+(qi t i).length)else if zL (qi t i)then(2,i+(qi t i).length)else if zu (qi t i)then(4,i+(qi t i).length)else(0,i):=by
 rw[qeN (fun q=>by rw[q]at h;simp at h)];unfold zI;rw[if_pos h]
theorem qBH{t:Str}{i:Nat}(h:0<(qi t i).length):wQ t i=⟨(zI t i).1,qi t i,i⟩:=by
 unfold wQ jR;rw[if_pos h];have e:=Yh h;split
 ·rename_i q;rw[q]
 ·rename_i q;have:(zI t i).2=i+(qi t i).length:=by
   rw[e]at q|-
   repeat' split
   all_goals first | rfl | (simp_all;done)
  rw[this,Nat.add_sub_cancel_left,qBQ]
theorem qgQ{t:Str}{i:Nat}(hi:i<t.length)(h:¬0<(qi t i).length):zI t i=if pfx [45,62] (t.drop i)then(5,i+2)else if 0<=Lib.indexByte zw t[i]then(5,i+1)else(0,i):=by
 have eg:t.getD i 0=t[i]:=by simp[List.getD,gEg hi]
 unfold zI;rw[if_neg h,eg];simp
theorem qe3{t:Str}{i:Nat}(hi:i<t.length):pfx [45,62] (t.drop i)=(decide (t[i]=45)&&(match t[i+1]? with | some c=>decide (c=62) | none=>false)):=by
 have e:t.drop i=t[i]::t.drop (i+1):=by simp
 unfold pfx;rw[e];by_cases h1:i+1<t.length
 ·have e1:t.drop (i+1)=t[i+1]::t.drop (i+2):=by simp
  rw[e1,gEg h1];generalize t.drop (i+2)=r;simp
 ·have e1:t.drop (i+1)=[]:=List.drop_eq_nil_of_le (by omega);rw[e1,gEn (by omega)];simp
theorem qaA{t:Str}{i:Nat}(hi:i<t.length)(hl:t.length<=20000):Pure Gm 1394 [.str t,.int .i64 (i:Nat)] ((wQ t i).enc):=by
 refine pI Vv (by simp[AV.trees,AV.tree,go_sem]) (by simp[go_sem]) ?_;simp only[Vv,qH,go_sem];have wl:=Yt (t:=t) (i:=i) (by omega);have wp:=qhA hi;simp only[gEg hi,oMs,go_sem];refine qF Xb ?_;simp only[go_sem];have hw:zE t[i]=((jC t[i] || jG t[i]) || zJ t[i]):=by simp[zE,Bool.or_assoc]
 by_cases hp:0<(qi t i).length
 ·rw[dTt hp]at wp;rw[wp]at hw;have er:=qBH hp;have ee:=Yh hp;have hne:qi t i≠[]:=fun q=>by rw[q]at hp;simp at hp
  cases hq:(jC t[i] || jG t[i])
  case' false=>
   rw[hq,Bool.false_or]at hw;simp only[go_sem];refine qF WS ?_;simp only[go_sem];simp only[<-hw,go_sem]
  case' true=>
   simp only[go_sem]
  all_goals
   refine qF (qaG (by omega) hl) ?_;simp only[go_sem];refine ZJ (W5 rfl rfl rfl (by omega) (by omega)) ?_;rw[Nat.add_sub_cancel_left,qBQ];simp only[go_sem];refine lA ?_;simp only[go_sem];refine qF qTO ?_;simp only[go_sem];cases k1:zi (qi t i)
   case' true=>
    obtain⟨f1,f2,f3⟩:=qcY k1;simp only[go_sem];refine qF (Qw (by omega)) ?_;simp only[f1,go_sem];refine qF (Jt (by omega)) ?_;simp only[f2,go_sem];refine qF (Xc hne (by omega)) ?_;simp only[f3,go_sem];refine lA ?_;simp only[go_sem];exact qE rfl (by rw[er,ee,k1];rfl)
   case' false=>
    simp only[go_sem];refine qF (Qw (by omega)) ?_;simp only[go_sem];cases k2:zV (qi t i)
    case' true=>
     obtain⟨f2,f3⟩:=qc0 k2;simp only[go_sem];refine qF (Jt (by omega)) ?_;simp only[f2,go_sem];refine qF (Xc hne (by omega)) ?_;simp only[f3,go_sem];refine lA ?_;simp only[go_sem];exact qE rfl (by rw[er,ee,k1,k2];rfl)
    case' false=>
     simp only[go_sem];refine qF (Jt (by omega)) ?_;simp only[go_sem];cases k3:zL (qi t i)
     case' true=>
      have f3:=qc4 k3;simp only[go_sem];refine qF (Xc hne (by omega)) ?_;simp only[f3,go_sem];refine lA ?_;simp only[go_sem];exact qE rfl (by rw[er,ee,k1,k2,k3];rfl)
     case' false=>
      simp only[go_sem];refine qF (Xc hne (by omega)) ?_;simp only[go_sem];cases k4:zu (qi t i)
      case' true=>
       simp only[go_sem];refine lA ?_;simp only[go_sem];exact qE rfl (by rw[er,ee,k1,k2,k3,k4];rfl)
      case' false=>
       simp only[go_sem];refine lA ?_;simp only[go_sem];exact qE rfl (by rw[er,ee,k1,k2,k3,k4];rfl)
 ·rw[dFf hp]at wp;rw[wp]at hw;have hw1:(jC t[i] || jG t[i])=false/\zJ t[i]=false:=by rw[<-Bool.or_eq_false_iff];exact hw.symm
  simp only[hw1.1,go_sem];refine qF WS ?_;simp only[go_sem];simp only[hw1.2,go_sem];have ee:=qgQ hi hp;have p2:=qe3 hi;have e3:((i:Nat):Int)+1=((i+1:Nat):Int):=by omega
  have hcc:(t[i]=45/\∃h:i+1<t.length,t[i+1]=62)\/(t[i]=45/\∃h:i+1<t.length,¬t[i+1]=62)\/(t[i]=45/\¬i+1<t.length)\/¬t[i]=45:=by
   by_cases q1:t[i]=45
   ·by_cases q2:i+1<t.length
    ·by_cases q3:t[i+1]=62
     ·exact .inl ⟨q1,q2,q3⟩
     ·exact .inr (.inl ⟨q1,q2,q3⟩)
    ·exact .inr (.inr (.inl ⟨q1,q2⟩))
   ·exact .inr (.inr (.inr q1))
  have n45:t[i]=45->decide (((t[i].toNat:Nat):Int)=45)=true:=fun q=>by rw[q];rfl
  rcases hcc with⟨q1,q2,q3⟩ | ⟨q1,q2,q3⟩ | ⟨q1,q2⟩ | q1
  case inl=>
   have e2:decide ((i:Int)+1<(t.length:Nat))=true:=dTt (by omega);simp only[n45 q1,go_sem,zF (n:=(i:Int)+1) (by omega) (by omega)];simp only[e2,go_sem,zF (n:=(i:Int)+1) (by omega) (by omega)];simp only[e3,gEg q2,oMs,go_sem];have e4:decide (((t[i+1].toNat:Nat):Int)=62)=true:=by rw[q3];rfl
   simp only[e4,go_sem];refine lA ?_;simp only[go_sem];have hpf:pfx [45,62] (t.drop i)=true:=by rw[p2,gEg q2];simp[q1,q3]
   rw[hpf,if_pos rfl]at ee;have et:(t.drop i).take 2=[45,62]:=by
    unfold pfx at hpf;simp only[bAt,dTe]at hpf;exact hpf.2
   refine qE rfl ?_;unfold wQ jR;rw[ee,if_neg (by simp)];simp only[Nat.add_sub_cancel_left,et];rfl
  case' inr.inl=>
   have e2:decide ((i:Int)+1<(t.length:Nat))=true:=dTt (by omega);simp only[n45 q1,go_sem,zF (n:=(i:Int)+1) (by omega) (by omega)];simp only[e2,go_sem,zF (n:=(i:Int)+1) (by omega) (by omega)];simp only[e3,gEg q2,oMs,go_sem];have e4:decide (((t[i+1].toNat:Nat):Int)=62)=false:=dFf fun q=>q3 (UInt8.toNat_inj.1 (by have:(62:UInt8).toNat=62:=rfl;omega));simp only[e4,go_sem];have hpf:pfx [45,62] (t.drop i)=false:=by rw[p2,gEg q2];simp[q3]
  case' inr.inr.inl=>
   have e2:decide ((i:Int)+1<(t.length:Nat))=false:=dFf (by omega);simp only[n45 q1,go_sem,zF (n:=(i:Int)+1) (by omega) (by omega)];simp only[e2,go_sem];have hpf:pfx [45,62] (t.drop i)=false:=by rw[p2,gEn (by omega)];simp
  case' inr.inr.inr=>
   have e1:decide (((t[i].toNat:Nat):Int)=45)=false:=dFf fun q=>q1 (UInt8.toNat_inj.1 (by have:(45:UInt8).toNat=45:=rfl;omega));simp only[e1,go_sem];have hpf:pfx [45,62] (t.drop i)=false:=by rw[p2];simp[q1]
  all_goals
   rw[hpf,if_neg (by decide)]at ee;refine qF qaH ?_;simp only[go_sem];by_cases q5:0<=Lib.indexByte zw t[i]
   ·rw[if_pos q5]at ee;simp only[dTt q5,go_sem,zF (n:=(i:Int)+1) (by omega) (by omega)];refine ZJ (W5 (e:=i+1) rfl rfl (by simp only[go_sem];rfl) (by omega) (by omega)) ?_;simp only[go_sem];refine lA ?_;simp only[go_sem];refine qE rfl ?_;unfold wQ jR;rw[ee,if_neg (by simp)];rfl
   ·rw[if_neg q5]at ee;simp only[dFf q5,go_sem];refine lA ?_;simp only[go_sem];refine qE rfl ?_;unfold wQ;rw[ee,if_pos rfl,if_neg hp];rfl
theorem qgU{t:Str}{i:Nat}:(wQ t i).Kind=(zI t i).1:=by
 unfold wQ;split
 ·rename_i h;split<;>exact h.symm
 ·rfl
def W9(t:Str):List qK×Int×Bool:=match Jp t with
 |.error i=>([],i,false)
 |.ok l=>(l,0,true)
theorem qZY{t:Str}(hl:t.length<=20000):Pure Gm 1107 [.str t] (.tup [.lst 3 ((W9 t).1.map qK.enc) false,.int .i64 (W9 t).2.1,.bool (W9 t).2.2]):=by
 refine pI VP (by simp[AV.trees,AV.tree,go_sem]) (by simp[AV.tree,AV.trees,zD qK.isSh.tree]) ?_;simp only[VP,qH,go_sem];have er:W9 t=match Jp t with
  |.error i=>([],i,false)
  |.ok l=>(l,0,true):=rfl
 refine Sem.loop (fun a:Nat×List qK=>a.1<=t.length/\a.2.length<=a.1/\Jp t=Qm t a.1 a.2) (fun a=>(⟨[(0,.str t),(5,.slice 3 0 0 a.2.length false),(6,.int .i64 (a.1:Nat))],[],[.row 3 (a.2.map qK.enc) true]⟩:VSt)) (fun a=>t.length-a.1) (0,[]) (by kernel_rfl) ⟨nZl _,nZl _,rfl⟩ (Can.renum [none] rfl ⟨.ph,trivial⟩ ⟨⟨_,rfl,.tree rfl⟩,⟨_,rfl,.ph2 rfl⟩,⟨_,rfl,.tree rfl⟩,trivial⟩ trivial) ?_;rintro⟨i,acc⟩ ⟨hi,ha,hI⟩;simp only at hi ha hI;simp only[go_sem];by_cases hlt:i<t.length
 case neg=>
  have e:decide ((i:Int)<t.length)=false:=dFf (by omega);simp only[e,go_sem];rw[hI,qYI hlt]at er;rw[er];refine JT (Cvs.tup (Cvs.cons (Cv.row rfl (by simp) (zD qK.isSh.tree _) (by decide)) (Cvs.cons (.refl rfl) (Cvs.cons (.refl rfl) Cvs.nil))))
 have e:decide ((i:Int)<t.length)=true:=dTt (by omega);simp only[e,gEg hlt,oMs,go_sem];refine qF qZ9 ?_;simp only[go_sem];rw[qYJ hlt]at hI;have eg:t.getD i 0=t[i]:=by simp[List.getD,gEg hlt]
 rw[eg]at hI;by_cases hb:0<=Lib.indexByte Zf t[i].toNat.toUInt8
 ·simp only[dTt hb,go_sem];simp only[qp (show i<4611686018427387904 by omega)];rw[if_pos hb]at hI;exact qW (i+1,acc) ⟨by simp only;omega,by simp only;omega,hI⟩ (by simp only;omega) cS
 simp only[dFf hb,go_sem];rw[if_neg hb]at hI;refine qF (qaA hlt (by omega)) ?_;simp only[go_sem];refine lA ?_;simp only[go_sem];obtain⟨t1,t2,t3⟩:=W8 hlt;have tk:=qgU (t:=t) (i:=i);by_cases hk:(zI t i).1=0
 ·rw[hk]at tk;simp only[dTt tk,go_sem];rw[if_pos hk]at hI;rw[hI]at er;rw[er];refine JT (Cvs.tup (Cvs.cons .nils (Cvs.cons (.refl rfl) (Cvs.cons (.refl rfl) Cvs.nil))))
 have t4:=t3 hk;rw[if_neg hk]at hI;have hk':¬(wQ t i).Kind=0:=by rw[tk];exact hk
 simp only[dFf hk',go_sem];have ets:wQ t i=jR t i:=by unfold wQ;rw[if_neg hk]
 rw[ets];refine qy (v:=(jR t i).enc) rfl rfl ?_;simp only[go_sem];refine Qt (el:=acc.map qK.enc) rfl rfl (by simp) (by omega) ?_;simp only[go_sem];have elen:(jR t i).Text.length=(zI t i).2-i:=by simp only[jR,lLt,List.length_drop];omega
 simp only[elen,zF (n:=(i:Int)+(((zI t i).2-i:Nat):Int)) (by omega) (by omega)];have ee:(i:Int)+(((zI t i).2-i:Nat):Int)=(((zI t i).2:Nat):Int):=by omega
 rw[ee];refine qW ((zI t i).2,acc++[jR t i]) ⟨by simp only;omega,by simp only[lAp,lCo,lNi];omega,hI⟩ (by simp only;omega) ?_;simp only[lAp,lCo,lNi,nZa];refine Can.renum [some 2] rfl ⟨.row rfl ?_,trivial⟩ ⟨⟨_,rfl,.tree rfl⟩,⟨_,rfl,.slice rfl⟩,⟨_,rfl,.tree rfl⟩,trivial⟩ trivial;rw[lMa];have tt:=zD qK.isSh.tree (acc++[jR t i]);rw[lMa]at tt;exact VR2s.trees tt
theorem c735{t:Str}:Pure Gm 735 [.str t] (.tup [.lst 3 ((qo t).1.map qK.enc) false,.int .i64 (qo t).2.1,.int .i64 (qo t).2.2]):=by
 refine pI KA (by simp[AV.trees,AV.tree,go_sem]) (by simp[AV.tree,AV.trees,zD qK.isSh.tree]) ?_;simp only[KA,qH,go_sem];by_cases hl:20000<t.length
 ·have e:decide ((20000:Int)<t.length)=true:=dTt (by omega);simp only[e,go_sem];have er:qo t=([],0,2):=by rw[qo,if_pos hl]
  rw[er];exact JT (Cvs.tup (Cvs.cons .nils (Cvs.cons (.refl rfl) (Cvs.cons (.refl rfl) Cvs.nil))))
 have e:decide ((20000:Int)<t.length)=false:=dFf (by omega);simp only[e,go_sem];refine qF (qZY (by omega)) ?_;simp only[go_sem];have er:qo t=match Jp t with
  |.error i=>([],i,6)
  |.ok l=>(l,0,0):=by unfold qo;rw[if_neg hl]<;>(cases Jp t<;>rfl)
 have eq:W9 t=match Jp t with
  |.error i=>([],i,false)
  |.ok l=>(l,0,true):=rfl
 cases ho:Jp t with
 | error i=>
  rw[ho]at er eq;simp only[eq,nF,go_sem];rw[er];exact JT (Cvs.tup (Cvs.cons .nils (Cvs.cons (.refl rfl) (Cvs.cons (.refl rfl) Cvs.nil))))
 | ok l=>
  rw[ho]at er eq;simp only[eq,nT,go_sem];rw[er];exact zU (by simp[AV.tree,AV.trees,zD qK.isSh.tree]) rfl
end Go.Ab
