/- Texts Par0 .. Par30: the abstract machine, its laws and contracts of functions: lemmas for the statement. No condition. -/
import Derived.Lib.Bytealg
import Derived.Lib.ItoaNum
import Derived.Lib.ParseIntB
import Derived.Test.YtdcoliamajikfaaGreatDoorP5
set_option linter.unusedSimpArgs false
set_option linter.unusedVariables false
namespace Go.Ab
open Go
inductive GType where
  | mk (Kind:Int) (Name:List UInt8) (Kids:List GType)
def GType.Kind:GType→Int |.mk a _ _=>a
def GType.Name:GType→List UInt8 |.mk _ a _=>a
def GType.Kids:GType→List GType |.mk _ _ a=>a
theorem GType.ext{x y:GType}(h1:x.Kind=y.Kind)(h2:x.Name=y.Name)(h4:x.Kids=y.Kids):x=y:=by
  cases x;cases y;simp_all[GType.Kind,GType.Name,GType.Kids]
theorem GType.eta(x:GType):GType.mk x.Kind x.Name x.Kids=x:=by cases x;rfl
theorem GType.lt_of_mem{x:GType}{y:GType}(h:y∈x.Kids):SizeOf.sizeOf y<SizeOf.sizeOf x:=by
  cases x with
  | mk a b c=>
    have:=List.sizeOf_lt_of_mem (show y∈c from h);simp only[GType.mk.sizeOf_spec];omega
theorem GType.ind{P:GType→Prop}(h:∀x,(∀y,y∈x.Kids→P y)→P x)(x:GType):P x:=
  h x fun y hy=>GType.ind h y
termination_by SizeOf.sizeOf x
decreasing_by exact GType.lt_of_mem hy
mutual
def GType.enc:GType→AV
  |.mk k v ks=>.agg [.int .i64 k,.str v,.lst 3 (GType.encs ks) false]
def GType.encs:List GType→List AV
  |[]=>[]
  | x::xs=>x.enc::GType.encs xs
end
theorem GType.encs_eq:∀xs,GType.encs xs=xs.map GType.enc
  |[]=>by simp[GType.encs]
  | x::xs=>by simp[GType.encs,GType.encs_eq xs]
theorem GType.enc_eq(x:GType):x.enc=.agg [.int .i64 x.Kind,.str x.Name,.lst 3 (x.Kids.map GType.enc) false]:=by
  cases x;simp[GType.enc,GType.encs_eq,GType.Kind,GType.Name,GType.Kids]
theorem GType.trx:∀x:GType,x.enc.tree=true:=GType.ind fun x ih=>by
  rw[GType.enc_eq];have h:∀xs:List GType,(∀y∈xs,y.enc.tree=true)→AV.trees (xs.map GType.enc)=true:=by
    intro xs
    induction xs with
    | nil=>intro _;rfl
    | cons a xs ihx=>intro h;simp only[List.map_cons,AV.trees,Bool.and_eq_true];exact⟨h a (by simp),ihx fun y hy=>h y (by simp[hy])⟩
  simp[AV.tree,AV.trees,h _ ih]
theorem GType.isSh:Sh GType.enc 3 (some 3):=⟨GType.trx,fun x=>by rw[GType.enc_eq];rfl,fun x=>by rw[GType.enc_eq];rfl,by decide,fun x=>by rw[GType.enc_eq];simp⟩
section
variable {x:GType}
@[go_sem] theorem GType.tr:x.enc.tree=true:=GType.trx x
@[go_sem] theorem GType.ln:x.enc.cells.length=3:=by rw[GType.enc_eq];rfl
@[go_sem] theorem GType.all:x.enc.part 0 (some 3)=some x.enc:=by rw[GType.enc_eq];rfl
@[go_sem] theorem GType.cs:x.enc.cells=[.int .i64 x.Kind,.str x.Name,.lst 3 (x.Kids.map GType.enc) false]:=by rw[GType.enc_eq];rfl
@[go_sem] theorem GType.p0:x.enc.part 0 none=some (.int .i64 x.Kind):=by rw[GType.enc_eq];rfl
@[go_sem] theorem GType.p1:x.enc.part 1 none=some (.str x.Name):=by rw[GType.enc_eq];rfl
@[go_sem] theorem GType.p2:x.enc.part 2 none=some (.lst 3 (x.Kids.map GType.enc) false):=by rw[GType.enc_eq];rfl
end
mutual
def GType.sz:GType→Nat
  |.mk _ d ks=>d.length+(ks.length+GType.szs ks)
def GType.szs:List GType→Nat
  |[]=>0
  | x::xs=>x.sz+GType.szs xs
end
mutual
def GType.bd:GType→Prop
  |.mk _ d ks=>d.length≤140737488355328∧ks.length≤140737488355328∧GType.bds ks
def GType.bds:List GType→Prop
  |[]=>True
  | x::xs=>x.bd∧GType.bds xs
end
theorem GType.bds_eq:∀xs,GType.bds xs↔∀y∈xs,GType.bd y
  |[]=>by simp[GType.bds]
  | x::xs=>by simp[GType.bds,GType.bds_eq xs]
theorem GType.bd_eq(x:GType):x.bd↔x.Name.length≤140737488355328∧x.Kids.length≤140737488355328∧∀y∈x.Kids,y.bd:=by
  cases x;simp[GType.bd,GType.bds_eq,GType.Name,GType.Kids]
abbrev TNE:Nat:=1000000
def P631:List AV→AV→Prop:=fun as v=>∃(s:List UInt8)(c:Int),as=[.str s,.int .u8 c]∧v=.int .i64 (Lib.indexByte s c.toNat.toUInt8)
def P957:List AV→AV→Prop:=fun as v=>∃n:Int,as=[.int .i64 n,.int .i64 10]∧-9223372036854775808≤n∧n≤9223372036854775807∧v=.str (Lib.itoa n)
def parseV(s:List UInt8):AV:=match Lib.parseIntB 64 s with
  |.ok n=>.tup [.int .i64 n,.nili]
  |.range=>.tup [.int .i64 (Lib.intSat 64 s),.iface TNE .any]
  | _=>.tup [.int .i64 0,.iface TNE .any]
def P1382:List AV→AV→Prop:=fun as v=>∃s:List UInt8,as=[.str s,.int .i64 10,.int .i64 64]∧s.length≤140737488355328∧v=parseV s
end Go.Ab
namespace Go.Ab
open Go
set_option maxRecDepth 10000
def F1100_r0:List AOper:=[oM 0 3 0,oP 1 4 (.bin .geq (.t 3) (.c (.int .u8 65))),oM 2 5 4,oG 3 6 5 true (.mov (.t 0)),oG 4 7 5 true (.bin .leq (.t 6) (.c (.int .u8 90))),oP 5 8 (.pick (.t 5) (.t 7) (.c (.bool false))),oM 6 2 8]
@[go_sem] theorem F1100_r0_r:OE F1100_r0.eq_1:=OEM F1100_r0.eq_1
def F1100:AFun:=⟨1,9,[.t 2],.seq (.reg true [oP 0 2 (.mov (.c (.bool false)))]) (.seq (.reg true F1100_r0) (.ret))⟩
def F1206_r0:List AOper:=[oM 0 3 0,oP 1 4 (.bin .geq (.t 3) (.c (.int .u8 97))),oM 2 5 4,oG 3 6 5 true (.mov (.t 0)),oG 4 7 5 true (.bin .leq (.t 6) (.c (.int .u8 122))),oP 5 8 (.pick (.t 5) (.t 7) (.c (.bool false))),oM 6 2 8]
@[go_sem] theorem F1206_r0_r:OE F1206_r0.eq_1:=OEM F1206_r0.eq_1
def F1206:AFun:=⟨1,9,[.t 2],.seq (.reg true [oP 0 2 (.mov (.c (.bool false)))]) (.seq (.reg true F1206_r0) (.ret))⟩
def F1330_r0:List AOper:=[oM 0 3 0,oP 1 4 (.bin .geq (.t 3) (.c (.int .u8 48))),oM 2 5 4,oG 3 6 5 true (.mov (.t 0)),oG 4 7 5 true (.bin .leq (.t 6) (.c (.int .u8 57))),oP 5 8 (.pick (.t 5) (.t 7) (.c (.bool false))),oM 6 2 8]
@[go_sem] theorem F1330_r0_r:OE F1330_r0.eq_1:=OEM F1330_r0.eq_1
def F1330:AFun:=⟨1,9,[.t 2],.seq (.reg true [oP 0 2 (.mov (.c (.bool false)))]) (.seq (.reg true F1330_r0) (.ret))⟩
def F1012_r0:List AOper:=[oM 0 3 0,oP 1 4 (.call 1206 [.t 3]),oM 2 5 4,oG 3 6 5 false (.mov (.t 0)),oG 4 7 5 false (.call 1100 [.t 6]),oP 5 8 (.pick (.t 5) (.c (.bool true)) (.t 7)),oM 6 9 8,oG 7 10 9 false (.mov (.t 0)),oG 8 11 9 false (.call 1330 [.t 10]),oP 9 12 (.pick (.t 9) (.c (.bool true)) (.t 11)),oM 10 2 12]
@[go_sem] theorem F1012_r0_r:OE F1012_r0.eq_1:=OEM F1012_r0.eq_1
def F1012:AFun:=⟨1,13,[.t 2],.seq (.reg true [oP 0 2 (.mov (.c (.bool false)))]) (.seq (.reg true F1012_r0) (.ret))⟩
def F1106_r0:List AOper:=[oM 0 11 1,oM 1 12 0,oM 2 13 5,oP 3 14 (.iaddr 1 (.t 12) (.t 13)),oP 4 15 (.load none (.t 14)),oP 5 16 (.sop .eql (.t 11) (.t 15))]
@[go_sem] theorem F1106_r0_r:OE F1106_r0.eq_1:=OEM F1106_r0.eq_1
def F1106_k1:ACode:=.seq (.blk 1 (.seq (.reg true [oM 0 10 8,oM 1 5 10]) (.seq (.reg true F1106_r0) (.cond (.t 16) (.seq (.reg true [oM 0 17 5,oM 1 4 17]) (.ret)) (.skip))))) (.reg true [oP 0 18 (.bin .add (.t 8) (.c (.int .i64 1))),oM 1 8 18])
@[go_sem] theorem F1106_k1_r:CE F1106_k1.eq_1:=CEM F1106_k1.eq_1
def F1106_k2:ACode:=.seq (.seq (.reg true [oM 0 6 0,oP 1 7 (.len (.t 6)),oP 2 8 (.mov (.c (.int .i64 0)))]) (.blk 0 (.loop (.seq (.reg true [oP 0 9 (.bin .lss (.t 8) (.t 7))]) (.seq (.cond (.t 9) (.skip) (.exit 0)) F1106_k1))))) (.seq (.reg true [oP 0 4 (.mov (.c (.int .i64 (-1))))]) (.ret))
@[go_sem] theorem F1106_k2_r:CE F1106_k2.eq_1:=CEM F1106_k2.eq_1
def F1106:AFun:=⟨2,19,[.t 4],.seq (.reg true [oP 0 4 (.mov (.c (.int .i64 0)))]) F1106_k2⟩
def F732:AFun:=ctnF 1106
def F1013_r0:List AOper:=[oP 0 3 (.bslice 1 (.str []) 8 [(0,.c (.str [100,97,116,97])),(1,.c (.str [100,101,102])),(2,.c (.str [108,101,116])),(3,.c (.str [105,110])),(4,.c (.str [109,97,116,99,104])),(5,.c (.str [105,102])),(6,.c (.str [116,104,101,110])),(7,.c (.str [101,108,115,101]))]),oM 1 4 0,oP 2 5 (.call 732 [.t 3,.t 4]),oM 3 2 5]
@[go_sem] theorem F1013_r0_r:OE F1013_r0.eq_1:=OEM F1013_r0.eq_1
def F1013:AFun:=⟨1,6,[.t 2],.seq (.reg true [oP 0 2 (.mov (.c (.bool false)))]) (.seq (.reg true F1013_r0) (.ret))⟩
def F1099_r0:List AOper:=[oM 0 4 0,oP 1 5 (.slen (.t 4)),oP 2 6 (.bin .lss (.t 5) (.c (.int .i64 1))),oM 3 7 6,oG 4 8 7 false (.mov (.t 0)),oG 5 9 7 false (.slen (.t 8)),oG 6 10 7 false (.bin .gtr (.t 9) (.c (.int .i64 12))),oP 7 11 (.pick (.t 7) (.c (.bool true)) (.t 10)),oM 8 12 11,oG 9 13 12 false (.mov (.t 0)),oG 10 14 12 false (.sidx (.t 13) (.c (.int .i64 0))),oG 11 15 12 false (.call 1330 [.t 14]),oP 12 16 (.pick (.t 12) (.c (.bool true)) (.t 15)),oM 13 17 16,oG 14 18 17 false (.mov (.t 0)),oG 15 19 17 false (.call 1013 [.t 18]),oP 16 20 (.pick (.t 17) (.c (.bool true)) (.t 19))]
@[go_sem] theorem F1099_r0_r:OE F1099_r0.eq_1:=OEM F1099_r0.eq_1
def F1099_r1:List AOper:=[oM 0 26 0,oM 1 27 3,oP 2 28 (.sidx (.t 26) (.t 27)),oP 3 29 (.call 1012 [.t 28]),oP 4 30 (.not (.t 29))]
@[go_sem] theorem F1099_r1_r:OE F1099_r1.eq_1:=OEM F1099_r1.eq_1
def F1099_k2:ACode:=.seq (.blk 1 (.seq (.reg true [oM 0 25 23,oM 1 3 25]) (.seq (.reg true F1099_r1) (.cond (.t 30) (.seq (.reg true [oP 0 2 (.mov (.c (.bool false)))]) (.ret)) (.skip))))) (.reg true [oP 0 31 (.bin .add (.t 23) (.c (.int .i64 1))),oM 1 23 31])
@[go_sem] theorem F1099_k2_r:CE F1099_k2.eq_1:=CEM F1099_k2.eq_1
def F1099_k3:ACode:=.seq (.seq (.reg true [oM 0 21 0,oP 1 22 (.slen (.t 21)),oP 2 23 (.mov (.c (.int .i64 0)))]) (.blk 0 (.loop (.seq (.reg true [oP 0 24 (.bin .lss (.t 23) (.t 22))]) (.seq (.cond (.t 24) (.skip) (.exit 0)) F1099_k2))))) (.seq (.reg true [oP 0 2 (.mov (.c (.bool true)))]) (.ret))
@[go_sem] theorem F1099_k3_r:CE F1099_k3.eq_1:=CEM F1099_k3.eq_1
def F1099:AFun:=⟨1,32,[.t 2],.seq (.reg true [oP 0 2 (.mov (.c (.bool false)))]) (.seq (.seq (.reg true F1099_r0) (.cond (.t 20) (.seq (.reg true [oP 0 2 (.mov (.c (.bool false)))]) (.ret)) (.skip))) F1099_k3)⟩
def F717_r0:List AOper:=[oM 0 3 0,oP 1 4 (.call 1099 [.t 3]),oM 2 5 4,oG 3 6 5 true (.mov (.t 0)),oG 4 7 5 true (.sidx (.t 6) (.c (.int .i64 0))),oG 5 8 5 true (.call 1100 [.t 7]),oP 6 9 (.pick (.t 5) (.t 8) (.c (.bool false))),oM 7 2 9]
@[go_sem] theorem F717_r0_r:OE F717_r0.eq_1:=OEM F717_r0.eq_1
def F717:AFun:=⟨1,10,[.t 2],.seq (.reg true [oP 0 2 (.mov (.c (.bool false)))]) (.seq (.reg true F717_r0) (.ret))⟩
def F331_r0:List AOper:=[oP 0 1 (.lbox 3 (.t 0)),oP 1 2 (.mov (.c (.int .i64 0))),oP 2 3 (.mov (.c (.int .i64 0))),oP 3 4 (.mov (.c (.bool false)))]
@[go_sem] theorem F331_r0_r:OE F331_r0.eq_1:=OEM F331_r0.eq_1
def F331_r1:List AOper:=[oP 0 10 (.nop 1),oP 1 11 (.lload 1 2 none),oP 2 12 (.len (.t 11)),oP 3 13 (.mov (.c (.int .i64 0)))]
@[go_sem] theorem F331_r1_r:OE F331_r1.eq_1:=OEM F331_r1.eq_1
def F331_r2:List AOper:=[oP 0 15 (.iaddr 3 (.t 11) (.t 13)),oP 1 16 (.load (some 3) (.t 15)),oP 2 6 (.lalloc (.agg [.int .i64 0,.str [],.nils])),oN 3 (.lstore 6 0 3 (.t 16))]
@[go_sem] theorem F331_r2_r:OE F331_r2.eq_1:=OEM F331_r2.eq_1
def F331_r3:List AOper:=[oP 0 18 (.lload 6 0 (some 3)),oP 1 19 (.call 331 [.t 18]),oM 2 17 19,oP 3 20 (.ext (.t 17) 0),oP 4 21 (.ext (.t 17) 1),oP 5 22 (.ext (.t 17) 2),oM 6 7 20,oM 7 8 21,oM 8 9 22]
@[go_sem] theorem F331_r3_r:OE F331_r3.eq_1:=OEM F331_r3.eq_1
def F331_r4:List AOper:=[oM 0 25 2,oM 1 26 7,oP 2 27 (.bin .add (.t 26) (.c (.int .i64 1))),oP 3 28 (.max (.t 25) (.t 27)),oM 4 29 3,oM 5 30 8,oP 6 31 (.bin .add (.t 29) (.t 30)),oM 7 2 28,oM 8 3 31]
@[go_sem] theorem F331_r4_r:OE F331_r4.eq_1:=OEM F331_r4.eq_1
def F331_k5:ACode:=.seq (.reg true F331_r3) (.seq (.seq (.reg true [oM 0 23 9,oP 1 24 (.not (.t 23))]) (.cond (.t 24) (.seq (.reg true [oP 0 2 (.mov (.c (.int .i64 0))),oP 1 3 (.mov (.c (.int .i64 0))),oP 2 4 (.mov (.c (.bool false)))]) (.ret)) (.skip))) (.reg true F331_r4))
@[go_sem] theorem F331_k5_r:CE F331_k5.eq_1:=CEM F331_k5.eq_1
def F331_k6:ACode:=.seq (.reg true F331_r1) (.blk 0 (.loop (.seq (.reg true [oP 0 14 (.bin .lss (.t 13) (.t 12))]) (.seq (.cond (.t 14) (.skip) (.exit 0)) (.seq (.blk 1 (.seq (.reg true F331_r2) F331_k5)) (.reg true [oP 0 32 (.bin .add (.t 13) (.c (.int .i64 1))),oM 1 13 32]))))))
@[go_sem] theorem F331_k6_r:CE F331_k6.eq_1:=CEM F331_k6.eq_1
def F331_r7:List AOper:=[oP 0 37 (.nop 1),oP 1 38 (.lload 1 1 none),oP 2 39 (.sop .eql (.t 38) (.c (.str []))),oM 3 40 39,oG 4 41 40 true (.nop 1),oG 5 42 40 true (.lload 1 2 none),oG 6 43 40 true (.len (.t 42)),oG 7 44 40 true (.bin .eql (.t 43) (.c (.int .i64 0))),oP 8 45 (.pick (.t 40) (.t 44) (.c (.bool false))),oM 9 4 45]
@[go_sem] theorem F331_r7_r:OE F331_r7.eq_1:=OEM F331_r7.eq_1
def F331_r8:List AOper:=[oP 0 48 (.nop 1),oP 1 49 (.lload 1 1 none),oP 2 50 (.call 717 [.t 49]),oM 3 51 50,oG 4 52 51 true (.nop 1),oG 5 53 51 true (.lload 1 1 none),oG 6 54 51 true (.sop .neq (.t 53) (.c (.str [73,110,116]))),oP 7 55 (.pick (.t 51) (.t 54) (.c (.bool false))),oM 8 56 55,oG 9 57 56 true (.nop 1),oG 10 58 56 true (.lload 1 2 none),oG 11 59 56 true (.len (.t 58)),oG 12 60 56 true (.bin .eql (.t 59) (.c (.int .i64 0))),oP 13 61 (.pick (.t 56) (.t 60) (.c (.bool false))),oM 14 4 61]
@[go_sem] theorem F331_r8_r:OE F331_r8.eq_1:=OEM F331_r8.eq_1
def F331_r9:List AOper:=[oP 0 64 (.nop 1),oP 1 65 (.lload 1 1 none),oP 2 66 (.sop .eql (.t 65) (.c (.str []))),oM 3 67 66,oG 4 68 67 true (.nop 1),oG 5 69 67 true (.lload 1 2 none),oG 6 70 67 true (.len (.t 69)),oG 7 71 67 true (.bin .eql (.t 70) (.c (.int .i64 2))),oP 8 72 (.pick (.t 67) (.t 71) (.c (.bool false))),oM 9 4 72]
@[go_sem] theorem F331_r9_r:OE F331_r9.eq_1:=OEM F331_r9.eq_1
def F331_r10:List AOper:=[oP 0 75 (.nop 1),oP 1 76 (.lload 1 1 none),oP 2 77 (.sop .eql (.t 76) (.c (.str []))),oM 3 78 77,oG 4 79 78 true (.nop 1),oG 5 80 78 true (.lload 1 2 none),oG 6 81 78 true (.len (.t 80)),oG 7 82 78 true (.bin .eql (.t 81) (.c (.int .i64 1))),oP 8 83 (.pick (.t 78) (.t 82) (.c (.bool false))),oM 9 4 83]
@[go_sem] theorem F331_r10_r:OE F331_r10.eq_1:=OEM F331_r10.eq_1
def F331_k11:ACode:=.cond (.t 46) (.reg true F331_r8) (.seq (.reg true [oP 0 63 (.bin .eql (.t 34) (.c (.int .i64 3))),oM 1 62 63]) (.cond (.t 62) (.reg true F331_r9) (.seq (.reg true [oP 0 74 (.bin .eql (.t 34) (.c (.int .i64 4))),oM 1 73 74]) (.cond (.t 73) (.reg true F331_r10) (.skip)))))
@[go_sem] theorem F331_k11_r:CE F331_k11.eq_1:=CEM F331_k11.eq_1
def F331_k12:ACode:=.seq (.reg true [oP 0 33 (.nop 1),oP 1 34 (.lload 1 0 none)]) (.blk 2 (.seq (.reg true [oP 0 36 (.bin .eql (.t 34) (.c (.int .i64 1))),oM 1 35 36]) (.cond (.t 35) (.reg true F331_r7) (.seq (.reg true [oP 0 47 (.bin .eql (.t 34) (.c (.int .i64 2))),oM 1 46 47]) F331_k11))))
@[go_sem] theorem F331_k12_r:CE F331_k12.eq_1:=CEM F331_k12.eq_1
def F331_r13:List AOper:=[oM 0 84 2,oM 1 85 3,oM 2 86 4,oM 3 2 84,oM 4 3 85,oM 5 4 86]
@[go_sem] theorem F331_r13_r:OE F331_r13.eq_1:=OEM F331_r13.eq_1
def F331:AFun:=⟨1,87,[.t 2,.t 3,.t 4],.seq (.reg true F331_r0) (.seq (.reg true [oP 0 2 (.mov (.c (.int .i64 1))),oP 1 3 (.mov (.c (.int .i64 1)))]) (.seq F331_k6 (.seq F331_k12 (.seq (.reg true F331_r13) (.ret)))))⟩
def F74_r0:List AOper:=[oP 0 7 (.lload 1 0 (some 3)),oP 1 8 (.call 331 [.t 7]),oM 2 6 8,oP 3 9 (.ext (.t 6) 0),oP 4 10 (.ext (.t 6) 1),oP 5 11 (.ext (.t 6) 2),oM 6 3 9,oM 7 4 10,oM 8 5 11]
@[go_sem] theorem F74_r0_r:OE F74_r0.eq_1:=OEM F74_r0.eq_1
def F74_r1:List AOper:=[oM 0 12 5,oM 1 13 12,oG 2 14 13 true (.mov (.t 3)),oG 3 15 13 true (.bin .leq (.t 14) (.c (.int .i64 6))),oP 4 16 (.pick (.t 13) (.t 15) (.c (.bool false))),oM 5 17 16,oG 6 18 17 true (.mov (.t 4)),oG 7 19 17 true (.bin .leq (.t 18) (.c (.int .i64 16))),oP 8 20 (.pick (.t 17) (.t 19) (.c (.bool false))),oM 9 2 20]
@[go_sem] theorem F74_r1_r:OE F74_r1.eq_1:=OEM F74_r1.eq_1
def F74:AFun:=⟨1,21,[.t 2],.seq (.reg true [oP 0 1 (.lbox 3 (.t 0)),oP 1 2 (.mov (.c (.bool false)))]) (.seq (.reg true F74_r0) (.seq (.reg true F74_r1) (.ret)))⟩
def F889_r0:List AOper:=[oM 0 3 0,oP 1 4 (.call 1099 [.t 3]),oM 2 5 4,oG 3 6 5 true (.mov (.t 0)),oG 4 7 5 true (.sidx (.t 6) (.c (.int .i64 0))),oG 5 8 5 true (.call 1206 [.t 7]),oP 6 9 (.pick (.t 5) (.t 8) (.c (.bool false))),oM 7 2 9]
@[go_sem] theorem F889_r0_r:OE F889_r0.eq_1:=OEM F889_r0.eq_1
def F889:AFun:=⟨1,10,[.t 2],.seq (.reg true [oP 0 2 (.mov (.c (.bool false)))]) (.seq (.reg true F889_r0) (.ret))⟩
def F577:AFun:=⟨1,5,[.t 2],.seq (.reg true [oP 0 2 (.mov (.c (.str [])))]) (.seq (.reg true [oM 0 3 0,oP 1 4 (.call 957 [.t 3,.c (.int .i64 10)]),oM 2 2 4]) (.ret))⟩
def F1051_r0:List AOper:=[oM 0 3 0,oP 1 4 (.bin .geq (.t 3) (.c (.int .i64 (-2147483648)))),oM 2 5 4,oG 3 6 5 true (.mov (.t 0)),oG 4 7 5 true (.bin .leq (.t 6) (.c (.int .i64 2147483647))),oP 5 8 (.pick (.t 5) (.t 7) (.c (.bool false))),oM 6 2 8]
@[go_sem] theorem F1051_r0_r:OE F1051_r0.eq_1:=OEM F1051_r0.eq_1
def F1051:AFun:=⟨1,9,[.t 2],.seq (.reg true [oP 0 2 (.mov (.c (.bool false)))]) (.seq (.reg true F1051_r0) (.ret))⟩
def F1091_r0:List AOper:=[oM 0 7 0,oP 1 8 (.call 1382 [.t 7,.c (.int .i64 10),.c (.int .i64 64)]),oM 2 6 8,oP 3 9 (.ext (.t 6) 0),oP 4 10 (.ext (.t 6) 1),oM 5 4 9,oM 6 5 10]
@[go_sem] theorem F1091_r0_r:OE F1091_r0.eq_1:=OEM F1091_r0.eq_1
def F1091_r1:List AOper:=[oM 0 11 5,oP 1 12 (.isnil 4 true (.t 11)),oM 2 13 12,oG 3 14 13 false (.mov (.t 4)),oG 4 15 13 false (.call 1051 [.t 14]),oG 5 16 13 false (.not (.t 15)),oP 6 17 (.pick (.t 13) (.c (.bool true)) (.t 16)),oM 7 18 17,oG 8 19 18 false (.mov (.t 4)),oG 9 20 18 false (.call 577 [.t 19]),oG 10 21 18 false (.mov (.t 0)),oG 11 22 18 false (.sop .neq (.t 20) (.t 21)),oP 12 23 (.pick (.t 18) (.c (.bool true)) (.t 22))]
@[go_sem] theorem F1091_r1_r:OE F1091_r1.eq_1:=OEM F1091_r1.eq_1
def F1091_k2:ACode:=.seq (.reg true F1091_r0) (.seq (.seq (.reg true F1091_r1) (.cond (.t 23) (.seq (.reg true [oP 0 2 (.mov (.c (.int .i64 0))),oP 1 3 (.mov (.c (.bool false)))]) (.ret)) (.skip))) (.seq (.reg true [oM 0 24 4,oM 1 2 24,oP 2 3 (.mov (.c (.bool true)))]) (.ret)))
@[go_sem] theorem F1091_k2_r:CE F1091_k2.eq_1:=CEM F1091_k2.eq_1
def F1091:AFun:=⟨1,25,[.t 2,.t 3],.seq (.reg true [oP 0 2 (.mov (.c (.int .i64 0))),oP 1 3 (.mov (.c (.bool false)))]) F1091_k2⟩
def F1014_r0:List AOper:=[oM 0 6 0,oP 1 7 (.call 1091 [.t 6]),oM 2 5 7,oP 3 8 (.ext (.t 5) 0),oP 4 9 (.ext (.t 5) 1),oM 5 3 8,oM 6 4 9]
@[go_sem] theorem F1014_r0_r:OE F1014_r0.eq_1:=OEM F1014_r0.eq_1
def F1014_r1:List AOper:=[oM 0 10 4,oM 1 11 10,oG 2 12 11 true (.mov (.t 3)),oG 3 13 11 true (.bin .geq (.t 12) (.c (.int .i64 0))),oP 4 14 (.pick (.t 11) (.t 13) (.c (.bool false))),oM 5 2 14]
@[go_sem] theorem F1014_r1_r:OE F1014_r1.eq_1:=OEM F1014_r1.eq_1
def F1014:AFun:=⟨1,15,[.t 2],.seq (.reg true [oP 0 2 (.mov (.c (.bool false)))]) (.seq (.reg true F1014_r0) (.seq (.reg true F1014_r1) (.ret)))⟩
def F1331_r0:List AOper:=[oM 0 5 0,oP 1 6 (.slen (.t 5)),oM 2 7 1,oP 3 8 (.slen (.t 7)),oP 4 9 (.bin .geq (.t 6) (.t 8)),oM 5 10 9,oG 6 11 10 true (.mov (.t 0)),oG 7 12 10 true (.mov (.t 1)),oG 8 13 10 true (.slen (.t 12)),oG 9 14 10 true (.sslc (.t 11) none (some (.t 13))),oG 10 15 10 true (.mov (.t 1)),oG 11 16 10 true (.sop .eql (.t 14) (.t 15)),oP 12 17 (.pick (.t 10) (.t 16) (.c (.bool false))),oM 13 4 17]
@[go_sem] theorem F1331_r0_r:OE F1331_r0.eq_1:=OEM F1331_r0.eq_1
def F1331:AFun:=⟨2,18,[.t 4],.seq (.reg true [oP 0 4 (.mov (.c (.bool false)))]) (.seq (.reg true F1331_r0) (.ret))⟩
def F1015_r0:List AOper:=[oM 0 5 0,oM 1 6 1,oP 2 7 (.call 1331 [.t 5,.t 6]),oM 3 4 7]
@[go_sem] theorem F1015_r0_r:OE F1015_r0.eq_1:=OEM F1015_r0.eq_1
def F1015:AFun:=⟨2,8,[.t 4],.seq (.reg true [oP 0 4 (.mov (.c (.bool false)))]) (.seq (.reg true F1015_r0) (.ret))⟩
def F632_r0:List AOper:=[oM 0 9 6,oM 1 10 0,oP 2 11 (.slen (.t 10)),oP 3 12 (.bin .lss (.t 9) (.t 11)),oM 4 13 12,oG 5 14 13 true (.mov (.t 0)),oG 6 15 13 true (.mov (.t 6)),oG 7 16 13 true (.sidx (.t 14) (.t 15)),oG 8 17 13 true (.call 1012 [.t 16]),oP 9 18 (.pick (.t 13) (.t 17) (.c (.bool false)))]
@[go_sem] theorem F632_r0_r:OE F632_r0.eq_1:=OEM F632_r0.eq_1
def F632_r1:List AOper:=[oM 0 24 0,oM 1 25 1,oM 2 26 6,oP 3 27 (.sslc (.t 24) (some (.t 25)) (some (.t 26))),oM 4 7 27]
@[go_sem] theorem F632_r1_r:OE F632_r1.eq_1:=OEM F632_r1.eq_1
def F632_r2:List AOper:=[oM 0 41 7,oP 1 42 (.sop .eql (.t 41) (.c (.str [50,49,52,55,52,56,51,54,52,56]))),oM 2 43 42,oG 3 44 43 false (.mov (.t 7)),oG 4 45 43 false (.call 1014 [.t 44]),oP 5 46 (.pick (.t 43) (.c (.bool true)) (.t 45)),oM 6 40 46]
@[go_sem] theorem F632_r2_r:OE F632_r2.eq_1:=OEM F632_r2.eq_1
def F632_k3:ACode:=.cond (.t 36) (.seq (.reg true [oM 0 39 6,oP 1 4 (.mov (.c (.int .i64 2))),oM 2 5 39]) (.ret)) (.seq (.reg true F632_r2) (.cond (.t 40) (.seq (.reg true [oM 0 47 6,oP 1 4 (.mov (.c (.int .i64 4))),oM 2 5 47]) (.ret)) (.skip)))
@[go_sem] theorem F632_k3_r:CE F632_k3.eq_1:=CEM F632_k3.eq_1
def F632_k4:ACode:=.seq (.reg true [oM 0 33 7,oP 1 34 (.call 889 [.t 33]),oM 2 32 34]) (.cond (.t 32) (.seq (.reg true [oM 0 35 6,oP 1 4 (.mov (.c (.int .i64 1))),oM 2 5 35]) (.ret)) (.seq (.reg true [oM 0 37 7,oP 1 38 (.call 717 [.t 37]),oM 2 36 38]) F632_k3))
@[go_sem] theorem F632_k4_r:CE F632_k4.eq_1:=CEM F632_k4.eq_1
def F632_k5:ACode:=.seq (.reg true F632_r1) (.blk 2 (.seq (.reg true [oM 0 29 7,oP 1 30 (.call 1013 [.t 29]),oM 2 28 30]) (.cond (.t 28) (.seq (.reg true [oM 0 31 6,oP 1 4 (.mov (.c (.int .i64 3))),oM 2 5 31]) (.ret)) F632_k4)))
@[go_sem] theorem F632_k5_r:CE F632_k5.eq_1:=CEM F632_k5.eq_1
def F632_r6:List AOper:=[oM 0 49 0,oM 1 50 1,oP 2 51 (.sslc (.t 49) (some (.t 50)) none),oP 3 52 (.call 1015 [.t 51,.c (.str [45,62])])]
@[go_sem] theorem F632_r6_r:OE F632_r6.eq_1:=OEM F632_r6.eq_1
def F632_r7:List AOper:=[oM 0 53 1,oP 1 54 (.bin .add (.t 53) (.c (.int .i64 2))),oP 2 4 (.mov (.c (.int .i64 5))),oM 3 5 54]
@[go_sem] theorem F632_r7_r:OE F632_r7.eq_1:=OEM F632_r7.eq_1
def F632_r8:List AOper:=[oM 0 55 0,oM 1 56 1,oP 2 57 (.sidx (.t 55) (.t 56)),oP 3 58 (.call 631 [.c (.str [43,45,42,47,60,61,40,41,91,93,123,125,44,59,58,46,124,33,92]),.t 57]),oP 4 59 (.bin .geq (.t 58) (.c (.int .i64 0)))]
@[go_sem] theorem F632_r8_r:OE F632_r8.eq_1:=OEM F632_r8.eq_1
def F632_r9:List AOper:=[oM 0 60 1,oP 1 61 (.bin .add (.t 60) (.c (.int .i64 1))),oP 2 4 (.mov (.c (.int .i64 5))),oM 3 5 61]
@[go_sem] theorem F632_r9_r:OE F632_r9.eq_1:=OEM F632_r9.eq_1
def F632_k10:ACode:=.seq (.seq (.reg true [oM 0 21 6,oM 1 22 1,oP 2 23 (.bin .gtr (.t 21) (.t 22))]) (.cond (.t 23) (.seq F632_k5 (.seq (.reg true [oM 0 48 1,oP 1 4 (.mov (.c (.int .i64 0))),oM 2 5 48]) (.ret))) (.skip))) (.seq (.seq (.reg true F632_r6) (.cond (.t 52) (.seq (.reg true F632_r7) (.ret)) (.skip))) (.seq (.seq (.reg true F632_r8) (.cond (.t 59) (.seq (.reg true F632_r9) (.ret)) (.skip))) (.seq (.reg true [oM 0 62 1,oP 1 4 (.mov (.c (.int .i64 0))),oM 2 5 62]) (.ret))))
@[go_sem] theorem F632_k10_r:CE F632_k10.eq_1:=CEM F632_k10.eq_1
def F632_k11:ACode:=.seq (.reg true [oM 0 8 1,oM 1 6 8]) (.seq (.blk 0 (.loop (.seq (.seq (.reg true F632_r0) (.cond (.t 18) (.skip) (.exit 0))) (.blk 1 (.reg true [oM 0 19 6,oP 1 20 (.bin .add (.t 19) (.c (.int .i64 1))),oM 2 6 20]))))) F632_k10)
@[go_sem] theorem F632_k11_r:CE F632_k11.eq_1:=CEM F632_k11.eq_1
def F632:AFun:=⟨2,63,[.t 4,.t 5],.seq (.reg true [oP 0 4 (.mov (.c (.int .i64 0))),oP 1 5 (.mov (.c (.int .i64 0)))]) F632_k11⟩
def F266_r0:List AOper:=[oM 0 12 6,oM 1 13 0,oP 2 14 (.slen (.t 13)),oP 3 15 (.bin .lss (.t 12) (.t 14))]
@[go_sem] theorem F266_r0_r:OE F266_r0.eq_1:=OEM F266_r0.eq_1
def F266_r1:List AOper:=[oM 0 16 0,oM 1 17 6,oP 2 18 (.sidx (.t 16) (.t 17)),oP 3 19 (.call 631 [.c (.str [32,10,9]),.t 18]),oP 4 20 (.bin .geq (.t 19) (.c (.int .i64 0)))]
@[go_sem] theorem F266_r1_r:OE F266_r1.eq_1:=OEM F266_r1.eq_1
def F266_r2:List AOper:=[oM 0 24 0,oM 1 25 6,oP 2 26 (.call 632 [.t 24,.t 25]),oM 3 23 26,oP 4 27 (.ext (.t 23) 0),oP 5 28 (.ext (.t 23) 1),oM 6 7 27,oM 7 8 28]
@[go_sem] theorem F266_r2_r:OE F266_r2.eq_1:=OEM F266_r2.eq_1
def F266_r3:List AOper:=[oM 0 31 6,oP 1 2 (.mov (.c (.nils))),oM 2 3 31,oP 3 4 (.mov (.c (.int .i64 6)))]
@[go_sem] theorem F266_r3_r:OE F266_r3.eq_1:=OEM F266_r3.eq_1
def F266_r4:List AOper:=[oM 0 32 5,oM 1 33 7,oM 2 34 0,oM 3 35 6,oM 4 36 8,oP 5 37 (.sslc (.t 34) (some (.t 35)) (some (.t 36))),oM 6 38 6,oP 7 39 (.build (.agg [.int .i64 0,.str [],.int .i64 0]) [(0,1,.t 33),(1,1,.t 37),(2,1,.t 38)]),oP 8 40 (.bslice 3 (.agg [.int .i64 0,.str [],.int .i64 0]) 1 [(0,.t 39)]),oP 9 41 (.app 3 (.t 32) (.t 40)),oM 10 5 41]
@[go_sem] theorem F266_r4_r:OE F266_r4.eq_1:=OEM F266_r4.eq_1
def F266_k5:ACode:=.seq (.reg true F266_r2) (.seq (.seq (.reg true [oM 0 29 7,oP 1 30 (.bin .eql (.t 29) (.c (.int .i64 0)))]) (.cond (.t 30) (.seq (.reg true F266_r3) (.ret)) (.skip))) (.seq (.reg true F266_r4) (.reg true [oM 0 42 8,oM 1 6 42])))
@[go_sem] theorem F266_k5_r:CE F266_k5.eq_1:=CEM F266_k5.eq_1
def F266_k6:ACode:=.seq (.reg true [oP 0 6 (.mov (.c (.int .i64 0)))]) (.blk 0 (.loop (.seq (.seq (.reg true F266_r0) (.cond (.t 15) (.skip) (.exit 0))) (.blk 1 (.seq (.seq (.reg true F266_r1) (.cond (.t 20) (.seq (.reg true [oM 0 21 6,oP 1 22 (.bin .add (.t 21) (.c (.int .i64 1))),oM 2 6 22]) (.exit 1)) (.skip))) F266_k5)))))
@[go_sem] theorem F266_k6_r:CE F266_k6.eq_1:=CEM F266_k6.eq_1
def F266_r7:List AOper:=[oM 0 43 5,oM 1 2 43,oP 2 3 (.mov (.c (.int .i64 0))),oP 3 4 (.mov (.c (.int .i64 0)))]
@[go_sem] theorem F266_r7_r:OE F266_r7.eq_1:=OEM F266_r7.eq_1
def F266_k8:ACode:=.seq (.seq (.reg true [oM 0 9 0,oP 1 10 (.slen (.t 9)),oP 2 11 (.bin .gtr (.t 10) (.c (.int .i64 20000)))]) (.cond (.t 11) (.seq (.reg true [oP 0 2 (.mov (.c (.nils))),oP 1 3 (.mov (.c (.int .i64 0))),oP 2 4 (.mov (.c (.int .i64 2)))]) (.ret)) (.skip))) (.seq (.reg true [oP 0 5 (.mov (.c (.nils)))]) (.seq F266_k6 (.seq (.reg true F266_r7) (.ret))))
@[go_sem] theorem F266_k8_r:CE F266_k8.eq_1:=CEM F266_k8.eq_1
def F266:AFun:=⟨1,44,[.t 2,.t 3,.t 4],.seq (.reg true [oP 0 2 (.mov (.c (.nils))),oP 1 3 (.mov (.c (.int .i64 0))),oP 2 4 (.mov (.c (.int .i64 0)))]) F266_k8⟩
def F1101_r0:List AOper:=[oM 0 3 0,oP 1 4 (.nilchk (.t 3)),oP 2 5 (.faddr 1 (.t 4)),oP 3 6 (.load none (.t 5)),oM 4 7 0,oP 5 8 (.nilchk (.t 7)),oP 6 9 (.faddr 0 (.t 8)),oP 7 10 (.load none (.t 9)),oP 8 11 (.len (.t 10)),oP 9 12 (.bin .lss (.t 6) (.t 11))]
@[go_sem] theorem F1101_r0_r:OE F1101_r0.eq_1:=OEM F1101_r0.eq_1
def F1101_r1:List AOper:=[oM 0 13 0,oP 1 14 (.nilchk (.t 13)),oP 2 15 (.faddr 0 (.t 14)),oP 3 16 (.load none (.t 15)),oM 4 17 0,oP 5 18 (.nilchk (.t 17)),oP 6 19 (.faddr 1 (.t 18)),oP 7 20 (.load none (.t 19)),oP 8 21 (.iaddr 3 (.t 16) (.t 20)),oP 9 22 (.load (some 3) (.t 21)),oN 10 (.lstore 2 0 3 (.t 22))]
@[go_sem] theorem F1101_r1_r:OE F1101_r1.eq_1:=OEM F1101_r1.eq_1
def F1101_r2:List AOper:=[oM 0 23 0,oP 1 24 (.nilchk (.t 23)),oP 2 25 (.faddr 2 (.t 24)),oP 3 26 (.load none (.t 25)),oP 4 27 (.build (.agg [.int .i64 0,.str [],.int .i64 0]) [(2,1,.t 26)]),oN 5 (.lstore 2 0 3 (.t 27))]
@[go_sem] theorem F1101_r2_r:OE F1101_r2.eq_1:=OEM F1101_r2.eq_1
def F1101:AFun:=⟨1,28,[.l 2 (some 3)],.seq (.reg true [oP 0 2 (.lalloc (.agg [.int .i64 0,.str [],.int .i64 0]))]) (.seq (.seq (.reg true F1101_r0) (.cond (.t 12) (.seq (.reg true F1101_r1) (.ret)) (.skip))) (.seq (.reg true F1101_r2) (.ret)))⟩
def F719_r0:List AOper:=[oM 0 2 0,oP 1 3 (.call 1101 [.t 2]),oP 2 4 (.fld 2 none (.t 3)),oP 3 5 (.build (.agg [.int .i64 0]) [(0,1,.t 4)]),oP 4 6 (.mkif 751 (.t 5)),oN 5 (.panic (.t 6))]
@[go_sem] theorem F719_r0_r:OE F719_r0.eq_1:=OEM F719_r0.eq_1
def F719:AFun:=⟨1,7,[],.reg true F719_r0⟩
def F1103_r0:List AOper:=[oM 0 6 0,oP 1 7 (.call 1101 [.t 6]),oP 2 5 (.lalloc (.agg [.int .i64 0,.str [],.int .i64 0])),oN 3 (.lstore 5 0 3 (.t 7))]
@[go_sem] theorem F1103_r0_r:OE F1103_r0.eq_1:=OEM F1103_r0.eq_1
def F1103_r1:List AOper:=[oP 0 8 (.nop 5),oP 1 9 (.lload 5 1 none),oM 2 10 1,oP 3 11 (.sop .eql (.t 9) (.t 10)),oM 4 12 11,oG 5 13 12 true (.nop 5),oG 6 14 12 true (.lload 5 0 none),oG 7 15 12 true (.bin .eql (.t 14) (.c (.int .i64 5))),oG 8 16 12 true (.mov (.t 15)),oG 9 17 16 false (.nop 5),oG 10 18 16 false (.lload 5 0 none),oG 11 19 16 false (.bin .eql (.t 18) (.c (.int .i64 3))),oG 12 20 12 true (.pick (.t 16) (.c (.bool true)) (.t 19)),oP 13 21 (.pick (.t 12) (.t 20) (.c (.bool false))),oM 14 4 21]
@[go_sem] theorem F1103_r1_r:OE F1103_r1.eq_1:=OEM F1103_r1.eq_1
def F1103:AFun:=⟨2,22,[.t 4],.seq (.reg true [oP 0 4 (.mov (.c (.bool false)))]) (.seq (.reg true F1103_r0) (.seq (.reg true F1103_r1) (.ret)))⟩
def F721_r0:List AOper:=[oM 0 5 0,oM 1 6 1,oP 2 7 (.call 1103 [.t 5,.t 6]),oP 3 8 (.not (.t 7))]
@[go_sem] theorem F721_r0_r:OE F721_r0.eq_1:=OEM F721_r0.eq_1
def F721_r1:List AOper:=[oM 0 9 0,oP 1 10 (.nilchk (.t 9)),oP 2 11 (.faddr 1 (.t 10)),oP 3 12 (.load none (.t 11)),oP 4 13 (.bin .add (.t 12) (.c (.int .i64 1))),oP 5 14 (.nilchk (.t 9)),oP 6 15 (.faddr 1 (.t 14)),oN 7 (.store 1 (.t 15) (.t 13))]
@[go_sem] theorem F721_r1_r:OE F721_r1.eq_1:=OEM F721_r1.eq_1
def F721:AFun:=⟨2,16,[.t 4],.seq (.reg true [oP 0 4 (.mov (.c (.bool false)))]) (.seq (.seq (.reg true F721_r0) (.cond (.t 8) (.seq (.reg true [oP 0 4 (.mov (.c (.bool false)))]) (.ret)) (.skip))) (.seq (.reg true F721_r1) (.seq (.reg true [oP 0 4 (.mov (.c (.bool true)))]) (.ret))))⟩
def F875_r0:List AOper:=[oM 0 6 0,oP 1 7 (.call 1101 [.t 6]),oP 2 5 (.lalloc (.agg [.int .i64 0,.str [],.int .i64 0])),oN 3 (.lstore 5 0 3 (.t 7))]
@[go_sem] theorem F875_r0_r:OE F875_r0.eq_1:=OEM F875_r0.eq_1
def F875_r1:List AOper:=[oP 0 8 (.nop 5),oP 1 9 (.lload 5 0 none),oM 2 10 1,oP 3 11 (.bin .neq (.t 9) (.t 10))]
@[go_sem] theorem F875_r1_r:OE F875_r1.eq_1:=OEM F875_r1.eq_1
def F875_r2:List AOper:=[oM 0 14 0,oP 1 15 (.nilchk (.t 14)),oP 2 16 (.faddr 1 (.t 15)),oP 3 17 (.load none (.t 16)),oP 4 18 (.bin .add (.t 17) (.c (.int .i64 1))),oP 5 19 (.nilchk (.t 14)),oP 6 20 (.faddr 1 (.t 19)),oN 7 (.store 1 (.t 20) (.t 18))]
@[go_sem] theorem F875_r2_r:OE F875_r2.eq_1:=OEM F875_r2.eq_1
def F875_k3:ACode:=.seq (.seq (.reg true F875_r1) (.cond (.t 11) (.reg true [oM 0 12 0,oP 1 13 (.call 719 [.t 12])]) (.skip))) (.seq (.reg true F875_r2) (.seq (.reg true [oP 0 21 (.nop 5),oP 1 22 (.lload 5 1 none),oM 2 4 22]) (.ret)))
@[go_sem] theorem F875_k3_r:CE F875_k3.eq_1:=CEM F875_k3.eq_1
def F875:AFun:=⟨2,23,[.t 4],.seq (.reg true [oP 0 4 (.mov (.c (.str [])))]) (.seq (.reg true F875_r0) F875_k3)⟩
def F876_r0:List AOper:=[oM 0 4 0,oM 1 5 1,oP 2 6 (.call 721 [.t 4,.t 5]),oP 3 7 (.not (.t 6))]
@[go_sem] theorem F876_r0_r:OE F876_r0.eq_1:=OEM F876_r0.eq_1
def F876:AFun:=⟨2,10,[],.seq (.reg true F876_r0) (.cond (.t 7) (.reg true [oM 0 8 0,oP 1 9 (.call 719 [.t 8])]) (.skip))⟩
def F908:AFun:=⟨0,2,[.l 0 (some 3)],.seq (.reg true [oP 0 0 (.lalloc (.agg [.int .i64 0,.str [],.nils]))]) (.seq (.reg true [oP 0 1 (.build (.agg [.int .i64 0,.str [],.nils]) [(0,1,.c (.int .i64 1))]),oN 1 (.lstore 0 0 3 (.t 1))]) (.ret))⟩
def F911_r0:List AOper:=[oP 0 3 (.lload 1 0 (some 3)),oP 1 4 (.bslice 3 (.agg [.int .i64 0,.str [],.nils]) 1 [(0,.t 3)]),oP 2 5 (.build (.agg [.int .i64 0,.str [],.nils]) [(0,1,.c (.int .i64 4)),(2,1,.t 4)]),oN 3 (.lstore 2 0 3 (.t 5))]
@[go_sem] theorem F911_r0_r:OE F911_r0.eq_1:=OEM F911_r0.eq_1
def F911:AFun:=⟨1,6,[.l 2 (some 3)],.seq (.reg true [oP 0 1 (.lbox 3 (.t 0)),oP 1 2 (.lalloc (.agg [.int .i64 0,.str [],.nils]))]) (.seq (.reg true F911_r0) (.ret))⟩
def F1102:AFun:=⟨1,5,[.l 2 (some 3)],.seq (.reg true [oP 0 2 (.lalloc (.agg [.int .i64 0,.str [],.nils]))]) (.seq (.reg true [oM 0 3 0,oP 1 4 (.build (.agg [.int .i64 0,.str [],.nils]) [(0,1,.c (.int .i64 2)),(1,1,.t 3)]),oN 2 (.lstore 2 0 3 (.t 4))]) (.ret))⟩
def F720_r0:List AOper:=[oM 0 8 0,oP 1 9 (.call 720 [.t 8]),oP 2 10 (.call 911 [.t 9]),oN 3 (.lstore 2 0 3 (.t 10))]
@[go_sem] theorem F720_r0_r:OE F720_r0.eq_1:=OEM F720_r0.eq_1
def F720_r1:List AOper:=[oM 0 14 0,oP 1 15 (.call 335 [.t 14]),oP 2 3 (.lalloc (.agg [.int .i64 0,.str [],.nils])),oN 3 (.lstore 3 0 3 (.t 15))]
@[go_sem] theorem F720_r1_r:OE F720_r1.eq_1:=OEM F720_r1.eq_1
def F720_k2:ACode:=.seq (.reg true [oM 0 12 0,oP 1 13 (.call 721 [.t 12,.c (.str [40])]),oM 2 11 13]) (.cond (.t 11) (.seq (.reg true F720_r1) (.seq (.reg true [oM 0 16 0,oP 1 17 (.call 876 [.t 16,.c (.str [41])])]) (.seq (.reg true [oP 0 18 (.lload 3 0 (some 3)),oN 1 (.lstore 2 0 3 (.t 18))]) (.ret)))) (.skip))
@[go_sem] theorem F720_k2_r:CE F720_k2.eq_1:=CEM F720_k2.eq_1
def F720_k3:ACode:=.seq (.reg true [oM 0 19 0,oP 1 20 (.call 875 [.t 19,.c (.int .i64 2)]),oM 2 4 20]) (.seq (.reg true [oM 0 21 4,oP 1 22 (.sop .neq (.t 21) (.c (.str [73,110,116])))]) (.cond (.t 22) (.seq (.reg true [oM 0 23 4,oP 1 24 (.call 1102 [.t 23]),oN 2 (.lstore 2 0 3 (.t 24))]) (.ret)) (.skip)))
@[go_sem] theorem F720_k3_r:CE F720_k3.eq_1:=CEM F720_k3.eq_1
def F720:AFun:=⟨1,26,[.l 2 (some 3)],.seq (.reg true [oP 0 2 (.lalloc (.agg [.int .i64 0,.str [],.nils]))]) (.seq (.blk 0 (.seq (.reg true [oM 0 6 0,oP 1 7 (.call 721 [.t 6,.c (.str [33])]),oM 2 5 7]) (.cond (.t 5) (.seq (.reg true F720_r0) (.ret)) F720_k2))) (.seq F720_k3 (.seq (.reg true [oP 0 25 (.call 908 []),oN 1 (.lstore 2 0 3 (.t 25))]) (.ret))))⟩
def F722_r0:List AOper:=[oP 0 5 (.lload 2 0 (some 3)),oP 1 6 (.lload 3 0 (some 3)),oP 2 7 (.bslice 3 (.agg [.int .i64 0,.str [],.nils]) 2 [(0,.t 5),(1,.t 6)]),oP 3 8 (.build (.agg [.int .i64 0,.str [],.nils]) [(0,1,.c (.int .i64 3)),(2,1,.t 7)]),oN 4 (.lstore 4 0 3 (.t 8))]
@[go_sem] theorem F722_r0_r:OE F722_r0.eq_1:=OEM F722_r0.eq_1
def F722:AFun:=⟨2,9,[.l 4 (some 3)],.seq (.reg true [oP 0 2 (.lbox 3 (.t 0)),oP 1 3 (.lbox 3 (.t 1)),oP 2 4 (.lalloc (.agg [.int .i64 0,.str [],.nils]))]) (.seq (.reg true F722_r0) (.ret))⟩
def F335_r0:List AOper:=[oM 0 4 0,oP 1 5 (.call 720 [.t 4]),oP 2 3 (.lalloc (.agg [.int .i64 0,.str [],.nils])),oN 3 (.lstore 3 0 3 (.t 5))]
@[go_sem] theorem F335_r0_r:OE F335_r0.eq_1:=OEM F335_r0.eq_1
def F335_r1:List AOper:=[oP 0 8 (.lload 3 0 (some 3)),oM 1 9 0,oP 2 10 (.call 335 [.t 9]),oP 3 11 (.call 722 [.t 8,.t 10]),oN 4 (.lstore 2 0 3 (.t 11))]
@[go_sem] theorem F335_r1_r:OE F335_r1.eq_1:=OEM F335_r1.eq_1
def F335:AFun:=⟨1,13,[.l 2 (some 3)],.seq (.reg true [oP 0 2 (.lalloc (.agg [.int .i64 0,.str [],.nils]))]) (.seq (.reg true F335_r0) (.seq (.seq (.reg true [oM 0 6 0,oP 1 7 (.call 721 [.t 6,.c (.str [45,62])])]) (.cond (.t 7) (.seq (.reg true F335_r1) (.ret)) (.skip))) (.seq (.reg true [oP 0 12 (.lload 3 0 (some 3)),oN 1 (.lstore 2 0 3 (.t 12))]) (.ret))))⟩
def F76_r0:List AOper:=[oM 0 5 0,oP 1 6 (.call 334 [.t 5,.f 335,.f 74]),oP 2 7 (.ext (.t 6) 0),oP 3 8 (.ext (.t 6) 1),oP 4 9 (.ext (.t 6) 2),oN 5 (.lstore 2 0 3 (.t 7)),oM 6 3 8,oM 7 4 9]
@[go_sem] theorem F76_r0_r:OE F76_r0.eq_1:=OEM F76_r0.eq_1
def F76:AFun:=⟨1,10,[.l 2 (some 3),.t 3,.t 4],.seq (.reg true [oP 0 2 (.lalloc (.agg [.int .i64 0,.str [],.nils])),oP 1 3 (.mov (.c (.int .i64 0))),oP 2 4 (.mov (.c (.int .i64 0)))]) (.seq (.reg true F76_r0) (.ret))⟩
def F340_r0:List AOper:=[oM 0 7 0,oM 1 8 1,oP 2 9 (.bin .geq (.t 7) (.t 8)),oM 3 10 9,oG 4 11 10 true (.mov (.t 0)),oG 5 12 10 true (.mov (.t 2)),oG 6 13 10 true (.bin .leq (.t 11) (.t 12)),oP 7 14 (.pick (.t 10) (.t 13) (.c (.bool false))),oM 8 6 14]
@[go_sem] theorem F340_r0_r:OE F340_r0.eq_1:=OEM F340_r0.eq_1
def F340:AFun:=⟨3,15,[.t 6],.seq (.reg true [oP 0 6 (.mov (.c (.bool false)))]) (.seq (.reg true F340_r0) (.ret))⟩
def F1440_r0:List AOper:=[oM 0 3 0,oP 1 4 (.bin .geq (.t 3) (.c (.int .u8 97))),oM 2 5 4,oG 3 6 5 true (.mov (.t 0)),oG 4 7 5 true (.bin .leq (.t 6) (.c (.int .u8 122))),oP 5 8 (.pick (.t 5) (.t 7) (.c (.bool false))),oM 6 9 8,oG 7 10 9 false (.mov (.t 0)),oG 8 11 9 false (.bin .geq (.t 10) (.c (.int .u8 65))),oG 9 12 9 false (.mov (.t 11)),oG 10 13 12 true (.mov (.t 0)),oG 11 14 12 true (.bin .leq (.t 13) (.c (.int .u8 90))),oG 12 15 9 false (.pick (.t 12) (.t 14) (.c (.bool false))),oP 13 16 (.pick (.t 9) (.c (.bool true)) (.t 15)),oM 14 2 16]
@[go_sem] theorem F1440_r0_r:OE F1440_r0.eq_1:=OEM F1440_r0.eq_1
def F1440:AFun:=⟨1,17,[.t 2],.seq (.reg true [oP 0 2 (.mov (.c (.bool false)))]) (.seq (.reg true F1440_r0) (.ret))⟩
def F1513:AFun:=⟨0,2,[.t 0],.seq (.reg true [oP 0 0 (.mov (.c (.nils)))]) (.seq (.reg true [oP 0 1 (.bslice 1 (.str []) 8 [(0,.c (.str [100,97,116,97])),(1,.c (.str [100,101,102])),(2,.c (.str [108,101,116])),(3,.c (.str [105,110])),(4,.c (.str [109,97,116,99,104])),(5,.c (.str [105,102])),(6,.c (.str [116,104,101,110])),(7,.c (.str [101,108,115,101]))]),oM 1 0 1]) (.ret))⟩
def F1441_r0:List AOper:=[oM 0 4 3,oP 1 5 (.call 1513 []),oP 2 6 (.len (.t 5)),oP 3 7 (.bin .lss (.t 4) (.t 6))]
@[go_sem] theorem F1441_r0_r:OE F1441_r0.eq_1:=OEM F1441_r0.eq_1
def F1441_r1:List AOper:=[oP 0 10 (.call 1513 []),oM 1 11 3,oP 2 12 (.iaddr 1 (.t 10) (.t 11)),oP 3 13 (.load none (.t 12)),oM 4 14 0,oP 5 15 (.sop .eql (.t 13) (.t 14))]
@[go_sem] theorem F1441_r1_r:OE F1441_r1.eq_1:=OEM F1441_r1.eq_1
def F1441_k2:ACode:=.loop (.seq (.seq (.reg true F1441_r0) (.cond (.t 7) (.skip) (.exit 0))) (.seq (.blk 1 (.seq (.reg true F1441_r1) (.cond (.t 15) (.seq (.reg true [oP 0 2 (.mov (.c (.bool true)))]) (.ret)) (.skip)))) (.reg true [oM 0 8 3,oP 1 9 (.bin .add (.t 8) (.c (.int .i64 1))),oM 2 3 9])))
@[go_sem] theorem F1441_k2_r:CE F1441_k2.eq_1:=CEM F1441_k2.eq_1
def F1441:AFun:=⟨1,16,[.t 2],.seq (.reg true [oP 0 2 (.mov (.c (.bool false)))]) (.seq (.seq (.reg true [oP 0 3 (.mov (.c (.int .i64 0)))]) (.blk 0 F1441_k2)) (.seq (.reg true [oP 0 2 (.mov (.c (.bool false)))]) (.ret)))⟩
def F1442_r0:List AOper:=[oM 0 3 0,oP 1 4 (.bin .geq (.t 3) (.c (.int .u8 48))),oM 2 5 4,oG 3 6 5 true (.mov (.t 0)),oG 4 7 5 true (.bin .leq (.t 6) (.c (.int .u8 57))),oP 5 8 (.pick (.t 5) (.t 7) (.c (.bool false))),oM 6 2 8]
@[go_sem] theorem F1442_r0_r:OE F1442_r0.eq_1:=OEM F1442_r0.eq_1
def F1442:AFun:=⟨1,9,[.t 2],.seq (.reg true [oP 0 2 (.mov (.c (.bool false)))]) (.seq (.reg true F1442_r0) (.ret))⟩
def F1241_r0:List AOper:=[oM 0 4 0,oP 1 5 (.slen (.t 4)),oP 2 6 (.bin .lss (.t 5) (.c (.int .i64 1))),oM 3 7 6,oG 4 8 7 false (.mov (.t 0)),oG 5 9 7 false (.slen (.t 8)),oG 6 10 7 false (.bin .gtr (.t 9) (.c (.int .i64 12))),oP 7 11 (.pick (.t 7) (.c (.bool true)) (.t 10)),oM 8 12 11,oG 9 13 12 false (.mov (.t 0)),oG 10 14 12 false (.sidx (.t 13) (.c (.int .i64 0))),oG 11 15 12 false (.call 1440 [.t 14]),oG 12 16 12 false (.not (.t 15)),oP 13 17 (.pick (.t 12) (.c (.bool true)) (.t 16)),oM 14 18 17,oG 15 19 18 false (.mov (.t 0)),oG 16 20 18 false (.call 1441 [.t 19]),oP 17 21 (.pick (.t 18) (.c (.bool true)) (.t 20))]
@[go_sem] theorem F1241_r0_r:OE F1241_r0.eq_1:=OEM F1241_r0.eq_1
def F1241_r1:List AOper:=[oM 0 22 3,oM 1 23 0,oP 2 24 (.slen (.t 23)),oP 3 25 (.bin .lss (.t 22) (.t 24))]
@[go_sem] theorem F1241_r1_r:OE F1241_r1.eq_1:=OEM F1241_r1.eq_1
def F1241_r2:List AOper:=[oM 0 28 0,oM 1 29 3,oP 2 30 (.sidx (.t 28) (.t 29)),oP 3 31 (.call 1440 [.t 30]),oP 4 32 (.not (.t 31)),oM 5 33 32,oG 6 34 33 true (.mov (.t 0)),oG 7 35 33 true (.mov (.t 3)),oG 8 36 33 true (.sidx (.t 34) (.t 35)),oG 9 37 33 true (.call 1442 [.t 36]),oG 10 38 33 true (.not (.t 37)),oP 11 39 (.pick (.t 33) (.t 38) (.c (.bool false)))]
@[go_sem] theorem F1241_r2_r:OE F1241_r2.eq_1:=OEM F1241_r2.eq_1
def F1241_k3:ACode:=.loop (.seq (.seq (.reg true F1241_r1) (.cond (.t 25) (.skip) (.exit 0))) (.seq (.blk 1 (.seq (.reg true F1241_r2) (.cond (.t 39) (.seq (.reg true [oP 0 2 (.mov (.c (.bool false)))]) (.ret)) (.skip)))) (.reg true [oM 0 26 3,oP 1 27 (.bin .add (.t 26) (.c (.int .i64 1))),oM 2 3 27])))
@[go_sem] theorem F1241_k3_r:CE F1241_k3.eq_1:=CEM F1241_k3.eq_1
def F1241:AFun:=⟨1,40,[.t 2],.seq (.reg true [oP 0 2 (.mov (.c (.bool false)))]) (.seq (.seq (.reg true F1241_r0) (.cond (.t 21) (.seq (.reg true [oP 0 2 (.mov (.c (.bool false)))]) (.ret)) (.skip))) (.seq (.seq (.reg true [oP 0 3 (.mov (.c (.int .i64 0)))]) (.blk 0 F1241_k3)) (.seq (.reg true [oP 0 2 (.mov (.c (.bool true)))]) (.ret))))⟩
def F921_r0:List AOper:=[oM 0 3 0,oP 1 4 (.call 1241 [.t 3]),oM 2 5 4,oG 3 6 5 true (.mov (.t 0)),oG 4 7 5 true (.sidx (.t 6) (.c (.int .i64 0))),oG 5 8 5 true (.bin .leq (.t 7) (.c (.int .u8 90))),oP 6 9 (.pick (.t 5) (.t 8) (.c (.bool false))),oM 7 2 9]
@[go_sem] theorem F921_r0_r:OE F921_r0.eq_1:=OEM F921_r0.eq_1
def F921:AFun:=⟨1,10,[.t 2],.seq (.reg true [oP 0 2 (.mov (.c (.bool false)))]) (.seq (.reg true F921_r0) (.ret))⟩
def F541_r0:List AOper:=[oP 0 17 (.nop 2),oP 1 18 (.lload 2 1 none),oP 2 19 (.call 921 [.t 18]),oP 3 20 (.not (.t 19)),oM 4 21 20,oG 5 22 21 false (.nop 2),oG 6 23 21 false (.lload 2 1 none),oG 7 24 21 false (.sop .eql (.t 23) (.c (.str [73,110,116]))),oP 8 25 (.pick (.t 21) (.c (.bool true)) (.t 24))]
@[go_sem] theorem F541_r0_r:OE F541_r0.eq_1:=OEM F541_r0.eq_1
def F541_k1:ACode:=.cond (.t 26) (.reg true [oP 0 5 (.mov (.c (.int .i64 2)))]) (.seq (.reg true [oP 0 29 (.bin .eql (.t 12) (.c (.int .i64 4))),oM 1 28 29]) (.cond (.t 28) (.reg true [oP 0 5 (.mov (.c (.int .i64 1)))]) (.seq (.reg true [oP 0 4 (.mov (.c (.int .i64 (-1))))]) (.ret))))
@[go_sem] theorem F541_k1_r:CE F541_k1.eq_1:=CEM F541_k1.eq_1
def F541_k2:ACode:=.seq (.reg true [oP 0 16 (.bin .eql (.t 12) (.c (.int .i64 2))),oM 1 15 16]) (.cond (.t 15) (.seq (.reg true F541_r0) (.cond (.t 25) (.seq (.reg true [oP 0 4 (.mov (.c (.int .i64 (-1))))]) (.ret)) (.skip))) (.seq (.reg true [oP 0 27 (.bin .eql (.t 12) (.c (.int .i64 3))),oM 1 26 27]) F541_k1))
@[go_sem] theorem F541_k2_r:CE F541_k2.eq_1:=CEM F541_k2.eq_1
def F541_r3:List AOper:=[oP 0 30 (.nop 2),oP 1 31 (.lload 2 2 none),oP 2 32 (.len (.t 31)),oM 3 33 5,oP 4 34 (.bin .neq (.t 32) (.t 33)),oM 5 35 34,oG 6 36 35 false (.nop 2),oG 7 37 35 false (.lload 2 0 none),oG 8 38 35 false (.bin .neq (.t 37) (.c (.int .i64 2))),oG 9 39 35 false (.mov (.t 38)),oG 10 40 39 true (.nop 2),oG 11 41 39 true (.lload 2 1 none),oG 12 42 39 true (.sop .neq (.t 41) (.c (.str []))),oG 13 43 35 false (.pick (.t 39) (.t 42) (.c (.bool false))),oP 14 44 (.pick (.t 35) (.c (.bool true)) (.t 43))]
@[go_sem] theorem F541_r3_r:OE F541_r3.eq_1:=OEM F541_r3.eq_1
def F541_r4:List AOper:=[oM 0 45 7,oP 1 46 (.nop 2),oP 2 47 (.lload 2 2 none),oP 3 48 (.len (.t 47)),oP 4 49 (.bin .lss (.t 45) (.t 48))]
@[go_sem] theorem F541_r4_r:OE F541_r4.eq_1:=OEM F541_r4.eq_1
def F541_r5:List AOper:=[oP 0 52 (.nop 2),oP 1 53 (.lload 2 2 none),oM 2 54 7,oP 3 55 (.iaddr 3 (.t 53) (.t 54)),oP 4 56 (.load (some 3) (.t 55)),oM 5 57 1,oP 6 58 (.bin .sub (.t 57) (.c (.int .i64 1))),oP 7 59 (.call 541 [.t 56,.t 58]),oM 8 8 59]
@[go_sem] theorem F541_r5_r:OE F541_r5.eq_1:=OEM F541_r5.eq_1
def F541_r6:List AOper:=[oM 0 62 6,oM 1 63 8,oP 2 64 (.bin .add (.t 62) (.t 63)),oM 3 6 64]
@[go_sem] theorem F541_r6_r:OE F541_r6.eq_1:=OEM F541_r6.eq_1
def F541_k7:ACode:=.seq (.blk 2 (.seq (.reg true F541_r5) (.seq (.seq (.reg true [oM 0 60 8,oP 1 61 (.bin .lss (.t 60) (.c (.int .i64 0)))]) (.cond (.t 61) (.seq (.reg true [oP 0 4 (.mov (.c (.int .i64 (-1))))]) (.ret)) (.skip))) (.reg true F541_r6)))) (.reg true [oM 0 50 7,oP 1 51 (.bin .add (.t 50) (.c (.int .i64 1))),oM 2 7 51])
@[go_sem] theorem F541_k7_r:CE F541_k7.eq_1:=CEM F541_k7.eq_1
def F541_k8:ACode:=.seq (.reg true [oP 0 6 (.mov (.c (.int .i64 1)))]) (.seq (.seq (.reg true [oP 0 7 (.mov (.c (.int .i64 0)))]) (.blk 1 (.loop (.seq (.seq (.reg true F541_r4) (.cond (.t 49) (.skip) (.exit 1))) F541_k7)))) (.seq (.reg true [oM 0 65 6,oM 1 4 65]) (.ret)))
@[go_sem] theorem F541_k8_r:CE F541_k8.eq_1:=CEM F541_k8.eq_1
def F541_k9:ACode:=.seq (.seq (.reg true [oP 0 11 (.nop 2),oP 1 12 (.lload 2 0 none)]) (.blk 0 (.seq (.reg true [oP 0 14 (.bin .eql (.t 12) (.c (.int .i64 1))),oM 1 13 14]) (.cond (.t 13) (.skip) F541_k2)))) (.seq (.seq (.reg true F541_r3) (.cond (.t 44) (.seq (.reg true [oP 0 4 (.mov (.c (.int .i64 (-1))))]) (.ret)) (.skip))) F541_k8)
@[go_sem] theorem F541_k9_r:CE F541_k9.eq_1:=CEM F541_k9.eq_1
def F541:AFun:=⟨2,66,[.t 4],.seq (.reg true [oP 0 2 (.lbox 3 (.t 0)),oP 1 4 (.mov (.c (.int .i64 0)))]) (.seq (.seq (.reg true [oM 0 9 1,oP 1 10 (.bin .lss (.t 9) (.c (.int .i64 1)))]) (.cond (.t 10) (.seq (.reg true [oP 0 4 (.mov (.c (.int .i64 (-1))))]) (.ret)) (.skip))) (.seq (.reg true [oP 0 5 (.mov (.c (.int .i64 0)))]) F541_k9))⟩
def F208_r0:List AOper:=[oP 0 3 (.lload 1 0 (some 3)),oP 1 4 (.call 541 [.t 3,.c (.int .i64 6)]),oP 2 5 (.call 340 [.t 4,.c (.int .i64 1),.c (.int .i64 16)]),oM 3 2 5]
@[go_sem] theorem F208_r0_r:OE F208_r0.eq_1:=OEM F208_r0.eq_1
def F208:AFun:=⟨1,6,[.t 2],.seq (.reg true [oP 0 1 (.lbox 3 (.t 0)),oP 1 2 (.mov (.c (.bool false)))]) (.seq (.reg true F208_r0) (.ret))⟩
def F327_r0:List AOper:=[oP 0 5 (.lload 2 0 (some 3)),oP 1 6 (.lload 3 0 (some 3)),oP 2 7 (.bslice 3 (.agg [.int .i64 0,.str [],.nils]) 2 [(0,.t 5),(1,.t 6)]),oP 3 8 (.build (.agg [.int .i64 0,.str [],.nils]) [(0,1,.c (.int .i64 3)),(2,1,.t 7)]),oN 4 (.lstore 4 0 3 (.t 8))]
@[go_sem] theorem F327_r0_r:OE F327_r0.eq_1:=OEM F327_r0.eq_1
def F327:AFun:=⟨2,9,[.l 4 (some 3)],.seq (.reg true [oP 0 2 (.lbox 3 (.t 0)),oP 1 3 (.lbox 3 (.t 1)),oP 2 4 (.lalloc (.agg [.int .i64 0,.str [],.nils]))]) (.seq (.reg true F327_r0) (.ret))⟩
def F326_r0:List AOper:=[oP 0 3 (.lload 1 0 (some 3)),oP 1 4 (.bslice 3 (.agg [.int .i64 0,.str [],.nils]) 1 [(0,.t 3)]),oP 2 5 (.build (.agg [.int .i64 0,.str [],.nils]) [(0,1,.c (.int .i64 4)),(2,1,.t 4)]),oN 3 (.lstore 2 0 3 (.t 5))]
@[go_sem] theorem F326_r0_r:OE F326_r0.eq_1:=OEM F326_r0.eq_1
def F326:AFun:=⟨1,6,[.l 2 (some 3)],.seq (.reg true [oP 0 1 (.lbox 3 (.t 0)),oP 1 2 (.lalloc (.agg [.int .i64 0,.str [],.nils]))]) (.seq (.reg true F326_r0) (.ret))⟩
def F328:AFun:=⟨0,2,[.l 0 (some 3)],.seq (.reg true [oP 0 0 (.lalloc (.agg [.int .i64 0,.str [],.nils]))]) (.seq (.reg true [oP 0 1 (.build (.agg [.int .i64 0,.str [],.nils]) [(0,1,.c (.int .i64 1))]),oN 1 (.lstore 0 0 3 (.t 1))]) (.ret))⟩
def F329:AFun:=⟨1,5,[.l 2 (some 3)],.seq (.reg true [oP 0 2 (.lalloc (.agg [.int .i64 0,.str [],.nils]))]) (.seq (.reg true [oM 0 3 0,oP 1 4 (.build (.agg [.int .i64 0,.str [],.nils]) [(0,1,.c (.int .i64 2)),(1,1,.t 3)]),oN 2 (.lstore 2 0 3 (.t 4))]) (.ret))⟩
def F60_r0:List AOper:=[oM 0 5 0,oP 1 6 (.len (.t 5)),oP 2 7 (.bin .gtr (.t 6) (.c (.int .i64 3000))),oM 3 8 7,oG 4 9 8 false (.mov (.t 1)),oG 5 10 8 false (.len (.t 9)),oG 6 11 8 false (.bin .gtr (.t 10) (.c (.int .i64 3000))),oP 7 12 (.pick (.t 8) (.c (.bool true)) (.t 11)),oM 8 4 12]
@[go_sem] theorem F60_r0_r:OE F60_r0.eq_1:=OEM F60_r0.eq_1
def F60:AFun:=⟨2,13,[.t 4],.seq (.reg true [oP 0 4 (.mov (.c (.bool false)))]) (.seq (.reg true F60_r0) (.ret))⟩
def F316_r0:List AOper:=[oM 0 3 0,oP 1 4 (.build (.agg [.nils,.int .i64 0,.int .u64 0]) [(0,1,.t 3)]),oP 2 5 (.hbox 3 (.t 4)),oM 3 2 5]
@[go_sem] theorem F316_r0_r:OE F316_r0.eq_1:=OEM F316_r0.eq_1
def F316:AFun:=⟨1,6,[.t 2],.seq (.reg true [oP 0 2 (.mov (.c (.nilp)))]) (.seq (.reg true F316_r0) (.ret))⟩
def F773_r0:List AOper:=[oM 0 4 0,oP 1 5 (.nilchk (.t 4)),oP 2 6 (.faddr 1 (.t 5)),oP 3 7 (.load none (.t 6)),oM 4 8 0,oP 5 9 (.nilchk (.t 8)),oP 6 10 (.faddr 0 (.t 9)),oP 7 11 (.load none (.t 10)),oP 8 12 (.len (.t 11)),oP 9 13 (.bin .lss (.t 7) (.t 12))]
@[go_sem] theorem F773_r0_r:OE F773_r0.eq_1:=OEM F773_r0.eq_1
def F773_r1:List AOper:=[oM 0 14 0,oP 1 15 (.nilchk (.t 14)),oP 2 16 (.faddr 0 (.t 15)),oP 3 17 (.load none (.t 16)),oM 4 18 0,oP 5 19 (.nilchk (.t 18)),oP 6 20 (.faddr 1 (.t 19)),oP 7 21 (.load none (.t 20)),oP 8 22 (.iaddr 1 (.t 17) (.t 21)),oP 9 23 (.load none (.t 22)),oP 10 24 (.conv .i64 (.t 23)),oM 11 3 24]
@[go_sem] theorem F773_r1_r:OE F773_r1.eq_1:=OEM F773_r1.eq_1
def F773_r2:List AOper:=[oM 0 25 0,oP 1 26 (.nilchk (.t 25)),oP 2 27 (.faddr 1 (.t 26)),oP 3 28 (.load none (.t 27)),oP 4 29 (.bin .add (.t 28) (.c (.int .i64 1))),oP 5 30 (.nilchk (.t 25)),oP 6 31 (.faddr 1 (.t 30)),oN 7 (.store 1 (.t 31) (.t 29))]
@[go_sem] theorem F773_r2_r:OE F773_r2.eq_1:=OEM F773_r2.eq_1
def F773_r3:List AOper:=[oM 0 32 0,oM 1 33 0,oP 2 34 (.nilchk (.t 33)),oP 3 35 (.faddr 2 (.t 34)),oP 4 36 (.load none (.t 35)),oP 5 37 (.bin .mul (.t 36) (.c (.int .u64 6364136223846793005))),oM 6 38 3,oP 7 39 (.conv .u64 (.t 38)),oP 8 40 (.bin .add (.t 37) (.t 39)),oP 9 41 (.bin .add (.t 40) (.c (.int .u64 1442695040888963407))),oP 10 42 (.nilchk (.t 32)),oP 11 43 (.faddr 2 (.t 42)),oN 12 (.store 1 (.t 43) (.t 41))]
@[go_sem] theorem F773_r3_r:OE F773_r3.eq_1:=OEM F773_r3.eq_1
def F773_r4:List AOper:=[oM 0 44 0,oP 1 45 (.nilchk (.t 44)),oP 2 46 (.faddr 1 (.t 45)),oP 3 47 (.load none (.t 46)),oM 4 48 0,oP 5 49 (.nilchk (.t 48)),oP 6 50 (.faddr 0 (.t 49)),oP 7 51 (.load none (.t 50)),oP 8 52 (.len (.t 51)),oP 9 53 (.bin .leq (.t 47) (.t 52))]
@[go_sem] theorem F773_r4_r:OE F773_r4.eq_1:=OEM F773_r4.eq_1
def F773_r5:List AOper:=[oM 0 55 0,oP 1 56 (.nilchk (.t 55)),oP 2 57 (.faddr 2 (.t 56)),oP 3 58 (.load none (.t 57)),oP 4 59 (.shft .shr (.t 58) (.c (.int .u64 40))),oP 5 60 (.bin .and (.t 59) (.c (.int .u64 255))),oP 6 61 (.conv .i64 (.t 60)),oM 7 2 61]
@[go_sem] theorem F773_r5_r:OE F773_r5.eq_1:=OEM F773_r5.eq_1
def F773_k6:ACode:=.seq (.seq (.reg true F773_r0) (.cond (.t 13) (.reg true F773_r1) (.skip))) (.seq (.reg true F773_r2) (.seq (.reg true F773_r3) (.seq (.seq (.reg true F773_r4) (.cond (.t 53) (.seq (.reg true [oM 0 54 3,oM 1 2 54]) (.ret)) (.skip))) (.seq (.reg true F773_r5) (.ret)))))
@[go_sem] theorem F773_k6_r:CE F773_k6.eq_1:=CEM F773_k6.eq_1
def F773:AFun:=⟨1,62,[.t 2],.seq (.reg true [oP 0 2 (.mov (.c (.int .i64 0)))]) (.seq (.reg true [oP 0 3 (.mov (.c (.int .i64 0)))]) F773_k6)⟩
def F396_r0:List AOper:=[oM 0 12 5,oP 1 13 (.bin .mul (.t 12) (.c (.int .i64 256))),oM 2 14 0,oP 3 15 (.call 773 [.t 14]),oP 4 16 (.bin .add (.t 13) (.t 15)),oM 5 5 16]
@[go_sem] theorem F396_r0_r:OE F396_r0.eq_1:=OEM F396_r0.eq_1
def F396_r1:List AOper:=[oM 0 17 5,oM 1 18 1,oP 2 19 (.bin .rem (.t 17) (.t 18)),oM 3 4 19]
@[go_sem] theorem F396_r1_r:OE F396_r1.eq_1:=OEM F396_r1.eq_1
def F396_k2:ACode:=.seq (.reg true [oM 0 8 0,oP 1 9 (.call 773 [.t 8]),oM 2 5 9]) (.seq (.seq (.reg true [oM 0 10 1,oP 1 11 (.bin .gtr (.t 10) (.c (.int .i64 200)))]) (.cond (.t 11) (.reg true F396_r0) (.skip))) (.seq (.reg true F396_r1) (.ret)))
@[go_sem] theorem F396_k2_r:CE F396_k2.eq_1:=CEM F396_k2.eq_1
def F396:AFun:=⟨2,20,[.t 4],.seq (.reg true [oP 0 4 (.mov (.c (.int .i64 0)))]) (.seq (.seq (.reg true [oM 0 6 1,oP 1 7 (.bin .leq (.t 6) (.c (.int .i64 1)))]) (.cond (.t 7) (.seq (.reg true [oP 0 4 (.mov (.c (.int .i64 0)))]) (.ret)) (.skip))) F396_k2)⟩
def F440_r0:List AOper:=[oM 0 5 0,oM 1 6 1,oP 2 7 (.call 396 [.t 5,.t 6]),oP 3 8 (.bin .eql (.t 7) (.c (.int .i64 0))),oM 4 4 8]
@[go_sem] theorem F440_r0_r:OE F440_r0.eq_1:=OEM F440_r0.eq_1
def F440:AFun:=⟨2,9,[.t 4],.seq (.reg true [oP 0 4 (.mov (.c (.bool false)))]) (.seq (.reg true F440_r0) (.ret))⟩
def F716_r0:List AOper:=[oM 0 5 1,oM 1 6 0,oM 2 7 1,oP 3 8 (.len (.t 7)),oP 4 9 (.call 396 [.t 6,.t 8]),oP 5 10 (.iaddr 1 (.t 5) (.t 9)),oP 6 11 (.load none (.t 10)),oM 7 4 11]
@[go_sem] theorem F716_r0_r:OE F716_r0.eq_1:=OEM F716_r0.eq_1
def F716:AFun:=⟨2,12,[.t 4],.seq (.reg true [oP 0 4 (.mov (.c (.str [])))]) (.seq (.reg true F716_r0) (.ret))⟩
def F715_r0:List AOper:=[oM 0 8 2,oP 1 9 (.bin .lss (.t 8) (.c (.int .i64 2))),oM 2 10 9,oG 3 11 10 false (.mov (.t 0)),oG 4 12 10 false (.call 440 [.t 11,.c (.int .i64 3)]),oP 5 13 (.pick (.t 10) (.c (.bool true)) (.t 12))]
@[go_sem] theorem F715_r0_r:OE F715_r0.eq_1:=OEM F715_r0.eq_1
def F715_r1:List AOper:=[oM 0 14 1,oP 1 15 (.len (.t 14)),oP 2 16 (.bin .gtr (.t 15) (.c (.int .i64 0))),oM 3 17 16,oG 4 18 17 true (.mov (.t 0)),oG 5 19 17 true (.call 440 [.t 18,.c (.int .i64 2)]),oP 6 20 (.pick (.t 17) (.t 19) (.c (.bool false)))]
@[go_sem] theorem F715_r1_r:OE F715_r1.eq_1:=OEM F715_r1.eq_1
def F715_r2:List AOper:=[oM 0 21 0,oM 1 22 1,oP 2 23 (.call 716 [.t 21,.t 22]),oP 3 24 (.call 329 [.t 23]),oN 4 (.lstore 6 0 3 (.t 24))]
@[go_sem] theorem F715_r2_r:OE F715_r2.eq_1:=OEM F715_r2.eq_1
def F715_r3:List AOper:=[oM 0 28 0,oM 1 29 1,oM 2 30 2,oP 3 31 (.bin .sub (.t 30) (.c (.int .i64 1))),oP 4 32 (.call 715 [.t 28,.t 29,.t 31]),oP 5 33 (.call 326 [.t 32]),oN 6 (.lstore 6 0 3 (.t 33))]
@[go_sem] theorem F715_r3_r:OE F715_r3.eq_1:=OEM F715_r3.eq_1
def F715_r4:List AOper:=[oM 0 34 0,oM 1 35 1,oM 2 36 2,oP 3 37 (.bin .sub (.t 36) (.c (.int .i64 1))),oP 4 38 (.call 715 [.t 34,.t 35,.t 37]),oP 5 7 (.lalloc (.agg [.int .i64 0,.str [],.nils])),oN 6 (.lstore 7 0 3 (.t 38))]
@[go_sem] theorem F715_r4_r:OE F715_r4.eq_1:=OEM F715_r4.eq_1
def F715_r5:List AOper:=[oP 0 39 (.lload 7 0 (some 3)),oM 1 40 0,oM 2 41 1,oM 3 42 2,oP 4 43 (.bin .sub (.t 42) (.c (.int .i64 1))),oP 5 44 (.call 715 [.t 40,.t 41,.t 43]),oP 6 45 (.call 327 [.t 39,.t 44]),oN 7 (.lstore 6 0 3 (.t 45))]
@[go_sem] theorem F715_r5_r:OE F715_r5.eq_1:=OEM F715_r5.eq_1
def F715_k6:ACode:=.seq (.seq (.reg true F715_r0) (.cond (.t 13) (.seq (.seq (.reg true F715_r1) (.cond (.t 20) (.seq (.reg true F715_r2) (.ret)) (.skip))) (.seq (.reg true [oP 0 25 (.call 328 []),oN 1 (.lstore 6 0 3 (.t 25))]) (.ret))) (.skip))) (.seq (.seq (.reg true [oM 0 26 0,oP 1 27 (.call 440 [.t 26,.c (.int .i64 3)])]) (.cond (.t 27) (.seq (.reg true F715_r3) (.ret)) (.skip))) (.seq (.reg true F715_r4) (.seq (.reg true F715_r5) (.ret))))
@[go_sem] theorem F715_k6_r:CE F715_k6.eq_1:=CEM F715_k6.eq_1
def F715:AFun:=⟨3,46,[.l 6 (some 3)],.seq (.reg true [oP 0 6 (.lalloc (.agg [.int .i64 0,.str [],.nils]))]) F715_k6⟩
def F325_r0:List AOper:=[oM 0 5 0,oP 1 6 (.bslice 1 (.str []) 2 [(0,.c (.str [78,97,116])),(1,.c (.str [76,105,115,116]))]),oP 2 7 (.call 715 [.t 5,.t 6,.c (.int .i64 4)]),oP 3 3 (.lalloc (.agg [.int .i64 0,.str [],.nils])),oN 4 (.lstore 3 0 3 (.t 7))]
@[go_sem] theorem F325_r0_r:OE F325_r0.eq_1:=OEM F325_r0.eq_1
def F325_r1:List AOper:=[oM 0 12 0,oP 1 13 (.call 396 [.t 12,.c (.int .i64 6)]),oP 2 14 (.nop 3),oN 3 (.lstore 3 0 1 (.t 13))]
@[go_sem] theorem F325_r1_r:OE F325_r1.eq_1:=OEM F325_r1.eq_1
def F325_r2:List AOper:=[oM 0 17 0,oP 1 18 (.bslice 1 (.str []) 4 [(0,.c (.str [])),(1,.c (.str [73,110,116])),(2,.c (.str [110,97,116])),(3,.c (.str [88]))]),oP 2 19 (.call 716 [.t 17,.t 18]),oP 3 20 (.nop 3),oN 4 (.lstore 3 1 1 (.t 19))]
@[go_sem] theorem F325_r2_r:OE F325_r2.eq_1:=OEM F325_r2.eq_1
def F325_r3:List AOper:=[oP 0 23 (.nop 3),oP 1 24 (.lload 3 2 none),oP 2 25 (.call 328 []),oP 3 26 (.bslice 3 (.agg [.int .i64 0,.str [],.nils]) 1 [(0,.t 25)]),oP 4 27 (.app 3 (.t 24) (.t 26)),oP 5 28 (.nop 3),oN 6 (.lstore 3 2 1 (.t 27))]
@[go_sem] theorem F325_r3_r:OE F325_r3.eq_1:=OEM F325_r3.eq_1
def F325_k4:ACode:=.seq (.seq (.reg true [oM 0 34 4,oP 1 35 (.bin .geq (.t 34) (.c (.int .i64 0)))]) (.cond (.t 35) (.skip) (.exit 1))) (.seq (.blk 2 (.reg true [oP 0 38 (.lload 3 0 (some 3)),oP 1 39 (.call 326 [.t 38]),oN 2 (.lstore 3 0 3 (.t 39))])) (.reg true [oM 0 36 4,oP 1 37 (.bin .sub (.t 36) (.c (.int .i64 1))),oM 2 4 37]))
@[go_sem] theorem F325_k4_r:CE F325_k4.eq_1:=CEM F325_k4.eq_1
def F325_r5:List AOper:=[oP 0 42 (.lload 3 0 (some 3)),oP 1 43 (.lload 3 0 (some 3)),oP 2 44 (.lload 3 0 (some 3)),oP 3 45 (.call 328 []),oP 4 46 (.call 327 [.t 44,.t 45]),oP 5 47 (.call 327 [.t 43,.t 46]),oP 6 48 (.call 327 [.t 42,.t 47]),oN 7 (.lstore 3 0 3 (.t 48))]
@[go_sem] theorem F325_r5_r:OE F325_r5.eq_1:=OEM F325_r5.eq_1
def F325_k6:ACode:=.cond (.t 29) (.seq (.reg true [oM 0 32 0,oP 1 33 (.call 396 [.t 32,.c (.int .i64 5)]),oM 2 4 33]) (.blk 1 (.loop F325_k4))) (.seq (.reg true [oP 0 41 (.bin .eql (.t 9) (.c (.int .i64 5))),oM 1 40 41]) (.cond (.t 40) (.reg true F325_r5) (.skip)))
@[go_sem] theorem F325_k6_r:CE F325_k6.eq_1:=CEM F325_k6.eq_1
def F325_k7:ACode:=.seq (.reg true [oP 0 22 (.bin .eql (.t 9) (.c (.int .i64 2))),oM 1 21 22]) (.cond (.t 21) (.reg true F325_r3) (.seq (.seq (.reg true [oP 0 30 (.bin .eql (.t 9) (.c (.int .i64 3))),oM 1 29 30]) (.cond (.t 29) (.skip) (.reg true [oP 0 31 (.bin .eql (.t 9) (.c (.int .i64 4))),oM 1 29 31]))) F325_k6))
@[go_sem] theorem F325_k7_r:CE F325_k7.eq_1:=CEM F325_k7.eq_1
def F325_k8:ACode:=.seq (.reg true [oM 0 8 0,oP 1 9 (.call 396 [.t 8,.c (.int .i64 14)])]) (.blk 0 (.seq (.reg true [oP 0 11 (.bin .eql (.t 9) (.c (.int .i64 0))),oM 1 10 11]) (.cond (.t 10) (.reg true F325_r1) (.seq (.reg true [oP 0 16 (.bin .eql (.t 9) (.c (.int .i64 1))),oM 1 15 16]) (.cond (.t 15) (.reg true F325_r2) F325_k7)))))
@[go_sem] theorem F325_k8_r:CE F325_k8.eq_1:=CEM F325_k8.eq_1
def F325:AFun:=⟨1,50,[.l 2 (some 3)],.seq (.reg true [oP 0 2 (.lalloc (.agg [.int .i64 0,.str [],.nils]))]) (.seq (.reg true F325_r0) (.seq F325_k8 (.seq (.reg true [oP 0 49 (.lload 3 0 (some 3)),oN 1 (.lstore 2 0 3 (.t 49))]) (.ret))))⟩
def F69_r0:List AOper:=[oM 0 7 3,oP 1 8 (.call 325 [.t 7]),oP 2 4 (.lalloc (.agg [.int .i64 0,.str [],.nils])),oN 3 (.lstore 4 0 3 (.t 8))]
@[go_sem] theorem F69_r0_r:OE F69_r0.eq_1:=OEM F69_r0.eq_1
def F69_r1:List AOper:=[oP 0 12 (.call 328 []),oP 1 13 (.call 329 [.c (.str [78,97,116])]),oP 2 14 (.call 327 [.t 12,.t 13]),oP 3 15 (.call 326 [.t 14]),oN 4 (.lstore 2 0 3 (.t 15))]
@[go_sem] theorem F69_r1_r:OE F69_r1.eq_1:=OEM F69_r1.eq_1
def F69_k2:ACode:=.seq (.reg true [oM 0 5 0,oP 1 6 (.call 316 [.t 5]),oM 2 3 6]) (.seq (.reg true F69_r0) (.seq (.seq (.reg true [oP 0 9 (.lload 4 0 (some 3)),oP 1 10 (.call 208 [.t 9])]) (.cond (.t 10) (.seq (.reg true [oP 0 11 (.lload 4 0 (some 3)),oN 1 (.lstore 2 0 3 (.t 11))]) (.ret)) (.skip))) (.seq (.reg true F69_r1) (.ret))))
@[go_sem] theorem F69_k2_r:CE F69_k2.eq_1:=CEM F69_k2.eq_1
def F69:AFun:=⟨1,16,[.l 2 (some 3)],.seq (.reg true [oP 0 2 (.lalloc (.agg [.int .i64 0,.str [],.nils]))]) F69_k2⟩
def F330_r0:List AOper:=[oP 0 9 (.nop 1),oP 1 10 (.lload 1 2 none),oP 2 11 (.iaddr 3 (.t 10) (.c (.int .i64 0))),oP 3 12 (.load (some 3) (.t 11)),oN 4 (.lstore 1 0 3 (.t 12))]
@[go_sem] theorem F330_r0_r:OE F330_r0.eq_1:=OEM F330_r0.eq_1
def F330_r1:List AOper:=[oP 0 13 (.nop 1),oP 1 14 (.lload 1 0 none),oP 2 15 (.nop 1),oP 3 16 (.lload 1 1 none),oP 4 17 (.build (.agg [.int .i64 0,.str [],.nils]) [(0,1,.t 14),(1,1,.t 16)]),oP 5 3 (.lalloc (.agg [.int .i64 0,.str [],.nils])),oN 6 (.lstore 3 0 3 (.t 17))]
@[go_sem] theorem F330_r1_r:OE F330_r1.eq_1:=OEM F330_r1.eq_1
def F330_r2:List AOper:=[oP 0 18 (.nop 1),oP 1 19 (.lload 1 2 none),oP 2 20 (.len (.t 19)),oP 3 21 (.mov (.c (.int .i64 0)))]
@[go_sem] theorem F330_r2_r:OE F330_r2.eq_1:=OEM F330_r2.eq_1
def F330_r3:List AOper:=[oP 0 23 (.iaddr 3 (.t 19) (.t 21)),oP 1 24 (.load (some 3) (.t 23)),oP 2 5 (.lalloc (.agg [.int .i64 0,.str [],.nils])),oN 3 (.lstore 5 0 3 (.t 24))]
@[go_sem] theorem F330_r3_r:OE F330_r3.eq_1:=OEM F330_r3.eq_1
def F330_r4:List AOper:=[oP 0 25 (.nop 3),oP 1 26 (.lload 3 2 none),oP 2 27 (.lload 5 0 (some 3)),oP 3 28 (.call 330 [.t 27]),oP 4 29 (.bslice 3 (.agg [.int .i64 0,.str [],.nils]) 1 [(0,.t 28)]),oP 5 30 (.app 3 (.t 26) (.t 29)),oP 6 31 (.nop 3),oN 7 (.lstore 3 2 1 (.t 30))]
@[go_sem] theorem F330_r4_r:OE F330_r4.eq_1:=OEM F330_r4.eq_1
def F330_k5:ACode:=.loop (.seq (.reg true [oP 0 22 (.bin .lss (.t 21) (.t 20))]) (.seq (.cond (.t 22) (.skip) (.exit 2)) (.seq (.blk 3 (.seq (.reg true F330_r3) (.reg true F330_r4))) (.reg true [oP 0 32 (.bin .add (.t 21) (.c (.int .i64 1))),oM 1 21 32]))))
@[go_sem] theorem F330_k5_r:CE F330_k5.eq_1:=CEM F330_k5.eq_1
def F330_k6:ACode:=.seq (.blk 0 (.loop (.seq (.seq (.reg true [oP 0 6 (.nop 1),oP 1 7 (.lload 1 0 none),oP 2 8 (.bin .eql (.t 7) (.c (.int .i64 4)))]) (.cond (.t 8) (.skip) (.exit 0))) (.blk 1 (.reg true F330_r0))))) (.seq (.reg true F330_r1) (.seq (.seq (.reg true F330_r2) (.blk 2 F330_k5)) (.seq (.reg true [oP 0 33 (.lload 3 0 (some 3)),oN 1 (.lstore 2 0 3 (.t 33))]) (.ret))))
@[go_sem] theorem F330_k6_r:CE F330_k6.eq_1:=CEM F330_k6.eq_1
def F330:AFun:=⟨1,34,[.l 2 (some 3)],.seq (.reg true [oP 0 1 (.lbox 3 (.t 0)),oP 1 2 (.lalloc (.agg [.int .i64 0,.str [],.nils]))]) F330_k6⟩
def F70_k0:ACode:=.seq (.seq (.reg true [oP 0 3 (.lload 1 0 (some 3)),oP 1 4 (.call 74 [.t 3]),oP 2 5 (.not (.t 4))]) (.cond (.t 5) (.seq (.reg true [oP 0 6 (.build (.agg [.int .i64 0,.str [],.nils]) []),oN 1 (.lstore 2 0 3 (.t 6))]) (.ret)) (.skip))) (.seq (.reg true [oP 0 7 (.lload 1 0 (some 3)),oP 1 8 (.call 330 [.t 7]),oN 2 (.lstore 2 0 3 (.t 8))]) (.ret))
@[go_sem] theorem F70_k0_r:CE F70_k0.eq_1:=CEM F70_k0.eq_1
def F70:AFun:=⟨1,9,[.l 2 (some 3)],.seq (.reg true [oP 0 1 (.lbox 3 (.t 0)),oP 1 2 (.lalloc (.agg [.int .i64 0,.str [],.nils]))]) F70_k0⟩
def F71_r0:List AOper:=[oP 0 10 (.lload 1 0 (some 3)),oP 1 11 (.call 331 [.t 10]),oM 2 9 11,oP 3 12 (.ext (.t 9) 0),oP 4 13 (.ext (.t 9) 1),oP 5 14 (.ext (.t 9) 2),oM 6 3 12,oM 7 4 13,oM 8 5 14]
@[go_sem] theorem F71_r0_r:OE F71_r0.eq_1:=OEM F71_r0.eq_1
def F71_k1:ACode:=.seq (.seq (.reg true [oP 0 6 (.lload 1 0 (some 3)),oP 1 7 (.call 74 [.t 6]),oP 2 8 (.not (.t 7))]) (.cond (.t 8) (.seq (.reg true [oP 0 2 (.mov (.c (.int .i64 0)))]) (.ret)) (.skip))) (.seq (.reg true F71_r0) (.seq (.reg true [oM 0 15 4,oM 1 2 15]) (.ret)))
@[go_sem] theorem F71_k1_r:CE F71_k1.eq_1:=CEM F71_k1.eq_1
def F71:AFun:=⟨1,16,[.t 2],.seq (.reg true [oP 0 1 (.lbox 3 (.t 0)),oP 1 2 (.mov (.c (.int .i64 0)))]) F71_k1⟩
def F72_r0:List AOper:=[oM 0 8 4,oP 1 9 (.nop 1),oP 2 10 (.lload 1 2 none),oP 3 11 (.len (.t 10)),oP 4 12 (.bin .lss (.t 8) (.t 11))]
@[go_sem] theorem F72_r0_r:OE F72_r0.eq_1:=OEM F72_r0.eq_1
def F72_r1:List AOper:=[oM 0 15 3,oP 1 16 (.nop 1),oP 2 17 (.lload 1 2 none),oM 3 18 4,oP 4 19 (.iaddr 3 (.t 17) (.t 18)),oP 5 20 (.load (some 3) (.t 19)),oP 6 21 (.call 72 [.t 20]),oP 7 22 (.bin .add (.t 15) (.t 21)),oM 8 3 22]
@[go_sem] theorem F72_r1_r:OE F72_r1.eq_1:=OEM F72_r1.eq_1
def F72_k2:ACode:=.seq (.reg true [oP 0 4 (.mov (.c (.int .i64 0)))]) (.blk 0 (.loop (.seq (.seq (.reg true F72_r0) (.cond (.t 12) (.skip) (.exit 0))) (.seq (.blk 1 (.reg true F72_r1)) (.reg true [oM 0 13 4,oP 1 14 (.bin .add (.t 13) (.c (.int .i64 1))),oM 2 4 14])))))
@[go_sem] theorem F72_k2_r:CE F72_k2.eq_1:=CEM F72_k2.eq_1
def F72_k3:ACode:=.seq (.seq (.reg true [oP 0 5 (.nop 1),oP 1 6 (.lload 1 0 none),oP 2 7 (.bin .eql (.t 6) (.c (.int .i64 4)))]) (.cond (.t 7) (.reg true [oP 0 3 (.mov (.c (.int .i64 1)))]) (.skip))) (.seq F72_k2 (.seq (.reg true [oM 0 23 3,oM 1 2 23]) (.ret)))
@[go_sem] theorem F72_k3_r:CE F72_k3.eq_1:=CEM F72_k3.eq_1
def F72:AFun:=⟨1,24,[.t 2],.seq (.reg true [oP 0 1 (.lbox 3 (.t 0)),oP 1 2 (.mov (.c (.int .i64 0)))]) (.seq (.reg true [oP 0 3 (.mov (.c (.int .i64 0)))]) F72_k3)⟩
def F332_r0:List AOper:=[oM 0 10 0,oP 1 11 (.len (.t 10)),oM 2 12 1,oP 3 13 (.len (.t 12)),oP 4 14 (.bin .neq (.t 11) (.t 13))]
@[go_sem] theorem F332_r0_r:OE F332_r0.eq_1:=OEM F332_r0.eq_1
def F332_r1:List AOper:=[oM 0 19 17,oP 1 20 (.iaddr 3 (.t 15) (.t 17)),oP 2 21 (.load (some 3) (.t 20)),oP 3 8 (.lalloc (.agg [.int .i64 0,.str [],.nils])),oM 4 7 19,oN 5 (.lstore 8 0 3 (.t 21))]
@[go_sem] theorem F332_r1_r:OE F332_r1.eq_1:=OEM F332_r1.eq_1
def F332_r2:List AOper:=[oM 0 22 1,oM 1 23 7,oP 2 24 (.iaddr 3 (.t 22) (.t 23)),oP 3 25 (.load (some 3) (.t 24)),oP 4 9 (.lalloc (.agg [.int .i64 0,.str [],.nils])),oN 5 (.lstore 9 0 3 (.t 25))]
@[go_sem] theorem F332_r2_r:OE F332_r2.eq_1:=OEM F332_r2.eq_1
def F332_r3:List AOper:=[oM 0 26 2,oP 1 27 (.lload 8 0 (some 3)),oP 2 28 (.lload 9 0 (some 3)),oP 3 29 (.callv (.t 26) [.t 27,.t 28]),oP 4 30 (.not (.t 29))]
@[go_sem] theorem F332_r3_r:OE F332_r3.eq_1:=OEM F332_r3.eq_1
def F332_k4:ACode:=.seq (.reg true [oP 0 18 (.bin .lss (.t 17) (.t 16))]) (.seq (.cond (.t 18) (.skip) (.exit 0)) (.seq (.blk 1 (.seq (.reg true F332_r1) (.seq (.reg true F332_r2) (.seq (.reg true F332_r3) (.cond (.t 30) (.seq (.reg true [oP 0 6 (.mov (.c (.bool false)))]) (.ret)) (.skip)))))) (.reg true [oP 0 31 (.bin .add (.t 17) (.c (.int .i64 1))),oM 1 17 31])))
@[go_sem] theorem F332_k4_r:CE F332_k4.eq_1:=CEM F332_k4.eq_1
def F332_k5:ACode:=.seq (.seq (.reg true F332_r0) (.cond (.t 14) (.seq (.reg true [oP 0 6 (.mov (.c (.bool false)))]) (.ret)) (.skip))) (.seq (.seq (.reg true [oM 0 15 0,oP 1 16 (.len (.t 15)),oP 2 17 (.mov (.c (.int .i64 0)))]) (.blk 0 (.loop F332_k4))) (.seq (.reg true [oP 0 6 (.mov (.c (.bool true)))]) (.ret)))
@[go_sem] theorem F332_k5_r:CE F332_k5.eq_1:=CEM F332_k5.eq_1
def F332:AFun:=⟨3,32,[.t 6],.seq (.reg true [oP 0 6 (.mov (.c (.bool false)))]) F332_k5⟩
def F73_r0:List AOper:=[oP 0 5 (.nop 2),oP 1 6 (.lload 2 0 none),oP 2 7 (.nop 3),oP 3 8 (.lload 3 0 none),oP 4 9 (.bin .eql (.t 6) (.t 8)),oM 5 10 9,oG 6 11 10 true (.nop 2),oG 7 12 10 true (.lload 2 1 none),oG 8 13 10 true (.nop 3),oG 9 14 10 true (.lload 3 1 none),oG 10 15 10 true (.sop .eql (.t 12) (.t 14)),oP 11 16 (.pick (.t 10) (.t 15) (.c (.bool false))),oM 12 17 16,oG 13 18 17 true (.nop 2),oG 14 19 17 true (.lload 2 2 none),oG 15 20 17 true (.nop 3),oG 16 21 17 true (.lload 3 2 none),oG 17 22 17 true (.call 332 [.t 19,.t 21,.f 73]),oP 18 23 (.pick (.t 17) (.t 22) (.c (.bool false))),oM 19 4 23]
@[go_sem] theorem F73_r0_r:OE F73_r0.eq_1:=OEM F73_r0.eq_1
def F73:AFun:=⟨2,24,[.t 4],.seq (.reg true [oP 0 2 (.lbox 3 (.t 0)),oP 1 3 (.lbox 3 (.t 1)),oP 2 4 (.mov (.c (.bool false)))]) (.seq (.reg true F73_r0) (.ret))⟩
def F333_r0:List AOper:=[oP 0 6 (.nop 1),oP 1 7 (.lload 1 0 none),oP 2 8 (.nop 1),oP 3 9 (.lload 1 1 none),oP 4 10 (.build (.agg [.int .i64 0,.str [],.nils]) [(0,1,.t 7),(1,1,.t 9)]),oP 5 3 (.lalloc (.agg [.int .i64 0,.str [],.nils])),oN 6 (.lstore 3 0 3 (.t 10))]
@[go_sem] theorem F333_r0_r:OE F333_r0.eq_1:=OEM F333_r0.eq_1
def F333_r1:List AOper:=[oP 0 11 (.nop 1),oP 1 12 (.lload 1 2 none),oP 2 13 (.len (.t 12)),oP 3 14 (.mov (.c (.int .i64 0)))]
@[go_sem] theorem F333_r1_r:OE F333_r1.eq_1:=OEM F333_r1.eq_1
def F333_r2:List AOper:=[oP 0 16 (.iaddr 3 (.t 12) (.t 14)),oP 1 17 (.load (some 3) (.t 16)),oP 2 5 (.lalloc (.agg [.int .i64 0,.str [],.nils])),oN 3 (.lstore 5 0 3 (.t 17))]
@[go_sem] theorem F333_r2_r:OE F333_r2.eq_1:=OEM F333_r2.eq_1
def F333_r3:List AOper:=[oP 0 18 (.nop 3),oP 1 19 (.lload 3 2 none),oP 2 20 (.lload 5 0 (some 3)),oP 3 21 (.call 333 [.t 20]),oP 4 22 (.bslice 3 (.agg [.int .i64 0,.str [],.nils]) 1 [(0,.t 21)]),oP 5 23 (.app 3 (.t 19) (.t 22)),oP 6 24 (.nop 3),oN 7 (.lstore 3 2 1 (.t 23))]
@[go_sem] theorem F333_r3_r:OE F333_r3.eq_1:=OEM F333_r3.eq_1
def F333_k4:ACode:=.loop (.seq (.reg true [oP 0 15 (.bin .lss (.t 14) (.t 13))]) (.seq (.cond (.t 15) (.skip) (.exit 0)) (.seq (.blk 1 (.seq (.reg true F333_r2) (.reg true F333_r3))) (.reg true [oP 0 25 (.bin .add (.t 14) (.c (.int .i64 1))),oM 1 14 25]))))
@[go_sem] theorem F333_k4_r:CE F333_k4.eq_1:=CEM F333_k4.eq_1
def F333:AFun:=⟨1,27,[.l 2 (some 3)],.seq (.reg true [oP 0 1 (.lbox 3 (.t 0)),oP 1 2 (.lalloc (.agg [.int .i64 0,.str [],.nils]))]) (.seq (.reg true F333_r0) (.seq (.seq (.reg true F333_r1) (.blk 0 F333_k4)) (.seq (.reg true [oP 0 26 (.lload 3 0 (some 3)),oN 1 (.lstore 2 0 3 (.t 26))]) (.ret))))⟩
def F75_r0:List AOper:=[oP 0 12 (.nop 1),oP 1 13 (.lload 1 2 none),oP 2 14 (.iaddr 3 (.t 13) (.c (.int .i64 0))),oP 3 15 (.load (some 3) (.t 14)),oN 4 (.lstore 1 0 3 (.t 15))]
@[go_sem] theorem F75_r0_r:OE F75_r0.eq_1:=OEM F75_r0.eq_1
def F75_k1:ACode:=.seq (.seq (.reg true [oP 0 9 (.nop 1),oP 1 10 (.lload 1 0 none),oP 2 11 (.bin .eql (.t 10) (.c (.int .i64 4)))]) (.cond (.t 11) (.skip) (.exit 0))) (.blk 1 (.seq (.reg true F75_r0) (.reg true [oM 0 16 4,oP 1 17 (.bin .add (.t 16) (.c (.int .i64 1))),oM 2 4 17])))
@[go_sem] theorem F75_k1_r:CE F75_k1.eq_1:=CEM F75_k1.eq_1
def F75_r2:List AOper:=[oM 0 18 4,oP 1 19 (.lload 1 0 (some 3)),oP 2 20 (.call 333 [.t 19]),oM 3 2 18,oN 4 (.lstore 3 0 3 (.t 20))]
@[go_sem] theorem F75_r2_r:OE F75_r2.eq_1:=OEM F75_r2.eq_1
def F75_k3:ACode:=.seq (.seq (.reg true [oP 0 5 (.lload 1 0 (some 3)),oP 1 6 (.call 74 [.t 5]),oP 2 7 (.not (.t 6))]) (.cond (.t 7) (.seq (.reg true [oP 0 8 (.build (.agg [.int .i64 0,.str [],.nils]) []),oP 1 2 (.mov (.c (.int .i64 0))),oN 2 (.lstore 3 0 3 (.t 8))]) (.ret)) (.skip))) (.seq (.reg true [oP 0 4 (.mov (.c (.int .i64 0)))]) (.seq (.blk 0 (.loop F75_k1)) (.seq (.reg true F75_r2) (.ret))))
@[go_sem] theorem F75_k3_r:CE F75_k3.eq_1:=CEM F75_k3.eq_1
def F75:AFun:=⟨1,21,[.t 2,.l 3 (some 3)],.seq (.reg true [oP 0 1 (.lbox 3 (.t 0)),oP 1 2 (.mov (.c (.int .i64 0))),oP 2 3 (.lalloc (.agg [.int .i64 0,.str [],.nils]))]) F75_k3⟩
def F723_r0:List AOper:=[oP 0 6 (.lload 1 0 (some 3)),oP 1 7 (.call 336 [.t 6]),oP 2 8 (.sop .add (.c (.str [40])) (.t 7)),oP 3 9 (.sop .add (.t 8) (.c (.str [41]))),oM 4 2 9]
@[go_sem] theorem F723_r0_r:OE F723_r0.eq_1:=OEM F723_r0.eq_1
def F723_k1:ACode:=.seq (.seq (.reg true [oP 0 3 (.nop 1),oP 1 4 (.lload 1 0 none),oP 2 5 (.bin .eql (.t 4) (.c (.int .i64 3)))]) (.cond (.t 5) (.seq (.reg true F723_r0) (.ret)) (.skip))) (.seq (.reg true [oP 0 10 (.lload 1 0 (some 3)),oP 1 11 (.call 336 [.t 10]),oM 2 2 11]) (.ret))
@[go_sem] theorem F723_k1_r:CE F723_k1.eq_1:=CEM F723_k1.eq_1
def F723:AFun:=⟨1,12,[.t 2],.seq (.reg true [oP 0 1 (.lbox 3 (.t 0)),oP 1 2 (.mov (.c (.str [])))]) F723_k1⟩
def F336_r0:List AOper:=[oM 0 10 3,oP 1 11 (.nop 1),oP 2 12 (.lload 1 2 none),oP 3 13 (.iaddr 3 (.t 12) (.c (.int .i64 0))),oP 4 14 (.load (some 3) (.t 13)),oP 7 17 (.nop 1),oP 8 18 (.lload 1 2 none),oP 9 19 (.iaddr 3 (.t 18) (.c (.int .i64 1))),oP 10 20 (.load (some 3) (.t 19)),⟨5,some 15,none,.callv (.t 10) [.t 14],[⟨10,some 20,none,.load (some 3) (.t 19),[]⟩]⟩,oP 6 16 (.sop .add (.t 15) (.c (.str [32,45,62,32]))),oP 11 21 (.call 336 [.t 20]),oP 12 22 (.sop .add (.t 16) (.t 21)),oM 13 2 22]
@[go_sem] theorem F336_r0_r:OE F336_r0.eq_1:=OEM F336_r0.eq_1
def F336_r1:List AOper:=[oM 0 25 3,oP 1 26 (.nop 1),oP 2 27 (.lload 1 2 none),oP 3 28 (.iaddr 3 (.t 27) (.c (.int .i64 0))),oP 4 29 (.load (some 3) (.t 28)),oP 5 30 (.callv (.t 25) [.t 29]),oP 6 31 (.sop .add (.c (.str [33])) (.t 30)),oM 7 2 31]
@[go_sem] theorem F336_r1_r:OE F336_r1.eq_1:=OEM F336_r1.eq_1
def F336_k2:ACode:=.cond (.t 6) (.seq (.reg true [oP 0 2 (.mov (.c (.str [73,110,116])))]) (.ret)) (.seq (.reg true [oP 0 9 (.bin .eql (.t 5) (.c (.int .i64 3))),oM 1 8 9]) (.cond (.t 8) (.seq (.reg true F336_r0) (.ret)) (.seq (.reg true [oP 0 24 (.bin .eql (.t 5) (.c (.int .i64 4))),oM 1 23 24]) (.cond (.t 23) (.seq (.reg true F336_r1) (.ret)) (.skip)))))
@[go_sem] theorem F336_k2_r:CE F336_k2.eq_1:=CEM F336_k2.eq_1
def F336_k3:ACode:=.seq (.seq (.reg true [oP 0 4 (.nop 1),oP 1 5 (.lload 1 0 none)]) (.blk 0 (.seq (.reg true [oP 0 7 (.bin .eql (.t 5) (.c (.int .i64 1))),oM 1 6 7]) F336_k2))) (.seq (.reg true [oP 0 32 (.nop 1),oP 1 33 (.lload 1 1 none),oM 2 2 33]) (.ret))
@[go_sem] theorem F336_k3_r:CE F336_k3.eq_1:=CEM F336_k3.eq_1
def F336:AFun:=⟨1,34,[.t 2],.seq (.reg true [oP 0 1 (.lbox 3 (.t 0)),oP 1 2 (.mov (.c (.str [])))]) (.seq (.reg true [oP 0 3 (.mov (.f 723))]) F336_k3)⟩
def F77_k0:ACode:=.seq (.seq (.reg true [oP 0 3 (.lload 1 0 (some 3)),oP 1 4 (.call 74 [.t 3]),oP 2 5 (.not (.t 4))]) (.cond (.t 5) (.seq (.reg true [oP 0 2 (.mov (.c (.str [])))]) (.ret)) (.skip))) (.seq (.reg true [oP 0 6 (.lload 1 0 (some 3)),oP 1 7 (.call 336 [.t 6]),oM 2 2 7]) (.ret))
@[go_sem] theorem F77_k0_r:CE F77_k0.eq_1:=CEM F77_k0.eq_1
def F77:AFun:=⟨1,8,[.t 2],.seq (.reg true [oP 0 1 (.lbox 3 (.t 0)),oP 1 2 (.mov (.c (.str [])))]) F77_k0⟩
def F78_r0:List AOper:=[oP 0 6 (.nop 2),oP 1 7 (.lload 2 0 none),oP 2 8 (.nop 3),oP 3 9 (.lload 3 0 none),oP 4 10 (.bin .neq (.t 7) (.t 9)),oM 5 11 10,oG 6 12 11 false (.nop 2),oG 7 13 11 false (.lload 2 1 none),oG 8 14 11 false (.nop 3),oG 9 15 11 false (.lload 3 1 none),oG 10 16 11 false (.sop .neq (.t 13) (.t 15)),oP 11 17 (.pick (.t 11) (.c (.bool true)) (.t 16)),oM 12 18 17,oG 13 19 18 false (.nop 2),oG 14 20 18 false (.lload 2 2 none),oG 15 21 18 false (.len (.t 20)),oG 16 22 18 false (.nop 3),oG 17 23 18 false (.lload 3 2 none),oG 18 24 18 false (.len (.t 23)),oG 19 25 18 false (.bin .neq (.t 21) (.t 24)),oP 20 26 (.pick (.t 18) (.c (.bool true)) (.t 25))]
@[go_sem] theorem F78_r0_r:OE F78_r0.eq_1:=OEM F78_r0.eq_1
def F78_r1:List AOper:=[oM 0 27 5,oP 1 28 (.nop 2),oP 2 29 (.lload 2 2 none),oP 3 30 (.len (.t 29)),oP 4 31 (.bin .lss (.t 27) (.t 30))]
@[go_sem] theorem F78_r1_r:OE F78_r1.eq_1:=OEM F78_r1.eq_1
def F78_r2:List AOper:=[oP 0 34 (.nop 2),oP 1 35 (.lload 2 2 none),oM 2 36 5,oP 3 37 (.iaddr 3 (.t 35) (.t 36)),oP 4 38 (.load (some 3) (.t 37)),oP 5 39 (.nop 3),oP 6 40 (.lload 3 2 none),oM 7 41 5,oP 8 42 (.iaddr 3 (.t 40) (.t 41)),oP 9 43 (.load (some 3) (.t 42)),oP 10 44 (.call 78 [.t 38,.t 43]),oP 11 45 (.not (.t 44))]
@[go_sem] theorem F78_r2_r:OE F78_r2.eq_1:=OEM F78_r2.eq_1
def F78_k3:ACode:=.loop (.seq (.seq (.reg true F78_r1) (.cond (.t 31) (.skip) (.exit 0))) (.seq (.blk 1 (.seq (.reg true F78_r2) (.cond (.t 45) (.seq (.reg true [oP 0 4 (.mov (.c (.bool false)))]) (.ret)) (.skip)))) (.reg true [oM 0 32 5,oP 1 33 (.bin .add (.t 32) (.c (.int .i64 1))),oM 2 5 33])))
@[go_sem] theorem F78_k3_r:CE F78_k3.eq_1:=CEM F78_k3.eq_1
def F78:AFun:=⟨2,46,[.t 4],.seq (.reg true [oP 0 2 (.lbox 3 (.t 0)),oP 1 3 (.lbox 3 (.t 1)),oP 2 4 (.mov (.c (.bool false)))]) (.seq (.seq (.reg true F78_r0) (.cond (.t 26) (.seq (.reg true [oP 0 4 (.mov (.c (.bool false)))]) (.ret)) (.skip))) (.seq (.seq (.reg true [oP 0 5 (.mov (.c (.int .i64 0)))]) (.blk 0 F78_k3)) (.seq (.reg true [oP 0 4 (.mov (.c (.bool true)))]) (.ret))))⟩
def F4_r0:List AOper:=[oM 0 12 0,oP 1 13 (.call 69 [.t 12]),oP 2 3 (.lalloc (.agg [.int .i64 0,.str [],.nils])),oN 3 (.lstore 3 0 3 (.t 13))]
@[go_sem] theorem F4_r0_r:OE F4_r0.eq_1:=OEM F4_r0.eq_1
def F4_r1:List AOper:=[oP 0 14 (.lload 3 0 (some 3)),oP 1 15 (.call 70 [.t 14]),oP 2 4 (.lalloc (.agg [.int .i64 0,.str [],.nils])),oN 3 (.lstore 4 0 3 (.t 15))]
@[go_sem] theorem F4_r1_r:OE F4_r1.eq_1:=OEM F4_r1.eq_1
def F4_r2:List AOper:=[oP 0 16 (.lload 4 0 (some 3)),oP 2 18 (.lload 3 0 (some 3)),oP 4 20 (.lload 3 0 (some 3)),oP 1 17 (.call 71 [.t 16]),oP 3 19 (.call 71 [.t 18]),oP 5 21 (.call 72 [.t 20]),oP 6 22 (.bin .sub (.t 19) (.t 21)),oP 7 23 (.bin .neq (.t 17) (.t 22)),oM 8 24 23,oG 9 25 24 false (.lload 4 0 (some 3)),oG 10 26 24 false (.call 72 [.t 25]),oG 11 27 24 false (.bin .neq (.t 26) (.c (.int .i64 0))),oP 12 28 (.pick (.t 24) (.c (.bool true)) (.t 27)),oM 13 29 28,oG 14 30 29 false (.lload 4 0 (some 3)),oG 16 32 29 false (.lload 4 0 (some 3)),oG 15 31 29 false (.call 70 [.t 30]),oG 17 33 29 false (.call 73 [.t 31,.t 32]),oG 18 34 29 false (.not (.t 33)),oP 19 35 (.pick (.t 29) (.c (.bool true)) (.t 34)),oM 20 36 35,oG 21 37 36 false (.lload 4 0 (some 3)),oG 22 38 36 false (.call 74 [.t 37]),oG 23 39 36 false (.not (.t 38)),oP 24 40 (.pick (.t 36) (.c (.bool true)) (.t 39))]
@[go_sem] theorem F4_r2_r:OE F4_r2.eq_1:=OEM F4_r2.eq_1
def F4_r3:List AOper:=[oP 0 42 (.lload 3 0 (some 3)),oP 1 43 (.call 75 [.t 42]),oM 2 41 43,oP 3 44 (.ext (.t 41) 0),oP 4 45 (.ext (.t 41) 1),oP 5 6 (.lalloc (.agg [.int .i64 0,.str [],.nils])),oM 6 5 44,oN 7 (.lstore 6 0 3 (.t 45))]
@[go_sem] theorem F4_r3_r:OE F4_r3.eq_1:=OEM F4_r3.eq_1
def F4_r4:List AOper:=[oP 0 46 (.nop 6),oP 1 47 (.lload 6 0 none),oP 2 48 (.bin .eql (.t 47) (.c (.int .i64 4))),oM 3 49 48,oG 4 50 49 false (.mov (.t 5)),oG 5 51 49 false (.bin .lss (.t 50) (.c (.int .i64 0))),oP 6 52 (.pick (.t 49) (.c (.bool true)) (.t 51))]
@[go_sem] theorem F4_r4_r:OE F4_r4.eq_1:=OEM F4_r4.eq_1
def F4_r5:List AOper:=[oP 0 57 (.lload 6 0 (some 3)),oP 1 58 (.bslice 3 (.agg [.int .i64 0,.str [],.nils]) 1 [(0,.t 57)]),oP 2 59 (.build (.agg [.int .i64 0,.str [],.nils]) [(0,1,.c (.int .i64 4)),(2,1,.t 58)]),oN 3 (.lstore 6 0 3 (.t 59))]
@[go_sem] theorem F4_r5_r:OE F4_r5.eq_1:=OEM F4_r5.eq_1
def F4_k6:ACode:=.loop (.seq (.seq (.reg true [oM 0 53 5,oP 1 54 (.bin .gtr (.t 53) (.c (.int .i64 0)))]) (.cond (.t 54) (.skip) (.exit 0))) (.seq (.blk 1 (.reg true F4_r5)) (.reg true [oM 0 55 5,oP 1 56 (.bin .sub (.t 55) (.c (.int .i64 1))),oM 2 5 56])))
@[go_sem] theorem F4_k6_r:CE F4_k6.eq_1:=CEM F4_k6.eq_1
def F4_r7:List AOper:=[oP 0 61 (.lload 3 0 (some 3)),oP 1 62 (.call 77 [.t 61]),oP 2 63 (.call 76 [.t 62]),oM 3 60 63,oP 4 64 (.ext (.t 60) 0),oP 5 65 (.ext (.t 60) 1),oP 6 66 (.ext (.t 60) 2),oP 7 7 (.lalloc (.agg [.int .i64 0,.str [],.nils])),oN 8 (.lstore 7 0 3 (.t 64)),oM 9 8 65,oM 10 9 66]
@[go_sem] theorem F4_r7_r:OE F4_r7.eq_1:=OEM F4_r7.eq_1
def F4_r8:List AOper:=[oP 0 67 (.lload 6 0 (some 3)),oP 1 68 (.lload 3 0 (some 3)),oP 2 69 (.call 78 [.t 67,.t 68]),oM 3 70 69,oG 4 71 70 true (.mov (.t 9)),oG 5 72 70 true (.bin .eql (.t 71) (.c (.int .i64 0))),oP 6 73 (.pick (.t 70) (.t 72) (.c (.bool false))),oM 7 74 73,oG 8 75 74 true (.lload 7 0 (some 3)),oG 9 76 74 true (.lload 3 0 (some 3)),oG 10 77 74 true (.call 78 [.t 75,.t 76]),oP 11 78 (.pick (.t 74) (.t 77) (.c (.bool false))),oM 12 79 78,oG 13 80 79 true (.lload 3 0 (some 3)),oG 14 81 79 true (.lload 6 0 (some 3)),oG 15 82 79 true (.call 73 [.t 80,.t 81]),oP 16 83 (.pick (.t 79) (.t 82) (.c (.bool false))),oM 17 2 83]
@[go_sem] theorem F4_r8_r:OE F4_r8.eq_1:=OEM F4_r8.eq_1
def F4_k9:ACode:=.seq (.seq (.reg true F4_r2) (.cond (.t 40) (.seq (.reg true [oP 0 2 (.mov (.c (.bool false)))]) (.ret)) (.skip))) (.seq (.reg true F4_r3) (.seq (.seq (.reg true F4_r4) (.cond (.t 52) (.seq (.reg true [oP 0 2 (.mov (.c (.bool false)))]) (.ret)) (.skip))) (.seq (.blk 0 F4_k6) (.seq (.reg true F4_r7) (.seq (.reg true F4_r8) (.ret))))))
@[go_sem] theorem F4_k9_r:CE F4_k9.eq_1:=CEM F4_k9.eq_1
def F4:AFun:=⟨1,84,[.t 2],.seq (.reg true [oP 0 2 (.mov (.c (.bool false)))]) (.seq (.seq (.reg true [oM 0 10 0,oP 1 11 (.call 60 [.t 10,.c (.nils)])]) (.cond (.t 11) (.seq (.reg true [oP 0 2 (.mov (.c (.bool true)))]) (.ret)) (.skip))) (.seq (.reg true F4_r0) (.seq (.reg true F4_r1) F4_k9)))⟩
def T334:ATry:=⟨3,47,
 .reg true [⟨0,some 6,none,.lalloc (.agg [.int .i64 0,.str [],.nils]),[]⟩,
⟨1,some 7,none,.lalloc (.int .i64 0),[]⟩,
⟨2,some 8,none,.lalloc (.int .i64 0),[]⟩],
 .reg true [⟨0,some 9,none,.lalloc (.agg [.int .i64 0,.str [],.nils]),[]⟩],
 .reg true [⟨0,some 13,none,.mov (.t 0),[]⟩,
⟨1,some 14,none,.call 266 [.t 13],[]⟩,
⟨2,some 12,none,.mov (.t 14),[]⟩,
⟨3,some 15,none,.ext (.t 12) 0,[]⟩,
⟨4,some 16,none,.ext (.t 12) 1,[]⟩,
⟨5,some 17,none,.ext (.t 12) 2,[]⟩,
⟨6,some 10,none,.mov (.t 15),[]⟩,
⟨7,none,none,.lstore 7 0 1 (.t 16),[]⟩,
⟨8,none,none,.lstore 8 0 1 (.t 17),[]⟩],
 .seq (.reg true [⟨0,some 18,none,.lload 8 0 none,[]⟩,
⟨1,some 19,none,.bin .neq (.t 18) (.c (.int .i64 0)),[]⟩]) (.cond (.t 19) (.seq (.reg true [⟨0,some 20,none,.lload 9 0 (some 3),[]⟩,
⟨1,some 21,none,.lload 7 0 none,[]⟩,
⟨2,some 22,none,.lload 8 0 none,[]⟩,
⟨3,none,none,.lstore 6 0 3 (.t 20),[]⟩,
⟨4,none,none,.lstore 7 0 1 (.t 21),[]⟩,
⟨5,none,none,.lstore 8 0 1 (.t 22),[]⟩]) (.ret)) (.skip)),
 .reg true [⟨0,some 24,none,.mov (.t 10),[]⟩,
⟨1,some 25,none,.mov (.t 0),[]⟩,
⟨2,some 26,none,.slen (.t 25),[]⟩,
⟨3,some 27,none,.build (.agg [.nils,.int .i64 0,.int .i64 0]) [(0,1,.t 24),(2,1,.t 26)],[]⟩,
⟨4,some 28,none,.hbox 3 (.t 27),[]⟩,
⟨5,some 11,none,.mov (.t 28),[]⟩],
 [⟨0,some 29,none,.mov (.t 1),[]⟩,
⟨1,some 30,none,.mov (.t 11),[]⟩,
⟨2,some 31,none,.callv (.t 29) [.t 30],[]⟩,
⟨3,none,none,.lstore 6 0 3 (.t 31),[]⟩],
 .reg true [⟨0,some 32,none,.mov (.t 11),[]⟩,
⟨1,some 33,none,.nilchk (.t 32),[]⟩,
⟨2,some 34,none,.faddr 1 (.t 33),[]⟩,
⟨3,some 35,none,.load none (.t 34),[]⟩,
⟨4,some 36,none,.mov (.t 10),[]⟩,
⟨5,some 37,none,.len (.t 36),[]⟩,
⟨6,some 38,none,.bin .lss (.t 35) (.t 37),[]⟩],.t 38,
 [⟨0,some 39,none,.mov (.t 11),[]⟩,
⟨1,some 40,none,.call 719 [.t 39],[]⟩],
 .seq (.seq (.reg true [⟨0,some 41,none,.mov (.t 2),[]⟩,
⟨1,some 42,none,.lload 6 0 (some 3),[]⟩,
⟨2,some 43,none,.callv (.t 41) [.t 42],[]⟩,
⟨3,some 44,none,.not (.t 43),[]⟩]) (.cond (.t 44) (.seq (.reg true [⟨0,some 45,none,.lload 9 0 (some 3),[]⟩,
⟨1,none,none,.lstore 6 0 3 (.t 45),[]⟩,
⟨2,none,none,.lstore 7 0 1 (.c (.int .i64 0)),[]⟩,
⟨3,none,none,.lstore 8 0 1 (.c (.int .i64 1)),[]⟩]) (.ret)) (.skip))) (.seq (.reg true [⟨0,some 46,none,.lload 6 0 (some 3),[]⟩,
⟨1,none,none,.lstore 6 0 3 (.t 46),[]⟩,
⟨2,none,none,.lstore 7 0 1 (.c (.int .i64 0)),[]⟩,
⟨3,none,none,.lstore 8 0 1 (.c (.int .i64 0)),[]⟩]) (.ret)),
 .seq (.reg true [⟨0,some 5,none,.lalloc (.agg [.int .i64 0]),[]⟩,
⟨1,none,none,.lstore 5 0 1 (.t 12),[]⟩]) (.reg true [⟨0,some 13,none,.lload 0 0 (some 3),[]⟩,
⟨1,some 14,none,.nop 5,[]⟩,
⟨2,some 15,none,.lload 5 0 none,[]⟩,
⟨3,none,none,.lstore 1 0 3 (.t 13),[]⟩,
⟨4,none,none,.lstore 2 0 1 (.t 15),[]⟩,
⟨5,none,none,.lstore 3 0 1 (.c (.int .i64 6)),[]⟩]),
 751,23,12,[9,6,7,8],[.l 6 (some 3),.l 7 none,.l 8 none],[.l 1 (some 3),.l 2 none,.l 3 none]⟩
def tabm:List (Nat×AFun):=[(1100,F1100),(1206,F1206),(1330,F1330),(1012,F1012),(1106,F1106),(732,F732),(1013,F1013),(1099,F1099),(717,F717),(331,F331),(74,F74),(889,F889),(577,F577),(1051,F1051),(1091,F1091),(1014,F1014),(1331,F1331),(1015,F1015),(632,F632),(266,F266),(1101,F1101),(719,F719),(1103,F1103),(721,F721),(875,F875),(876,F876),(908,F908),(911,F911),(1102,F1102),(720,F720),(722,F722),(335,F335),(76,F76),(340,F340),(1440,F1440),(1513,F1513),(1441,F1441),(1442,F1442),(1241,F1241),(921,F921),(541,F541),(208,F208),(327,F327),(326,F326),(328,F328),(329,F329),(60,F60),(316,F316),(773,F773),(396,F396),(440,F440),(716,F716),(715,F715),(325,F325),(69,F69),(330,F330),(70,F70),(71,F71),(72,F72),(332,F332),(73,F73),(333,F333),(75,F75),(723,F723),(336,F336),(77,F77),(78,F78),(4,F4)]
def tabt:List (Nat×AFn):=[(334,.try T334),(631,.ext (told1 P631)),(957,.ext (told1 P957)),(1382,.ext (told1 P1382))]
def Gm(g:Nat):Option AFn:=lookY g tabt tabm
theorem g334:Gm 334=some (.try T334):=by kernel_rfl
theorem g631:Gm 631=some (.ext (told1 P631)):=by kernel_rfl
theorem g957:Gm 957=some (.ext (told1 P957)):=by kernel_rfl
theorem g1382:Gm 1382=some (.ext (told1 P1382)):=by kernel_rfl
theorem g1100:Gm 1100=some (.fn F1100):=by kernel_rfl
theorem g1206:Gm 1206=some (.fn F1206):=by kernel_rfl
theorem g1330:Gm 1330=some (.fn F1330):=by kernel_rfl
theorem g1012:Gm 1012=some (.fn F1012):=by kernel_rfl
theorem g1106:Gm 1106=some (.fn F1106):=by kernel_rfl
theorem g732:Gm 732=some (.fn F732):=by kernel_rfl
theorem g1013:Gm 1013=some (.fn F1013):=by kernel_rfl
theorem g1099:Gm 1099=some (.fn F1099):=by kernel_rfl
theorem g717:Gm 717=some (.fn F717):=by kernel_rfl
theorem g331:Gm 331=some (.fn F331):=by kernel_rfl
theorem g74:Gm 74=some (.fn F74):=by kernel_rfl
theorem g889:Gm 889=some (.fn F889):=by kernel_rfl
theorem g577:Gm 577=some (.fn F577):=by kernel_rfl
theorem g1051:Gm 1051=some (.fn F1051):=by kernel_rfl
theorem g1091:Gm 1091=some (.fn F1091):=by kernel_rfl
theorem g1014:Gm 1014=some (.fn F1014):=by kernel_rfl
theorem g1331:Gm 1331=some (.fn F1331):=by kernel_rfl
theorem g1015:Gm 1015=some (.fn F1015):=by kernel_rfl
theorem g632:Gm 632=some (.fn F632):=by kernel_rfl
theorem g266:Gm 266=some (.fn F266):=by kernel_rfl
theorem g1101:Gm 1101=some (.fn F1101):=by kernel_rfl
theorem g719:Gm 719=some (.fn F719):=by kernel_rfl
theorem g1103:Gm 1103=some (.fn F1103):=by kernel_rfl
theorem g721:Gm 721=some (.fn F721):=by kernel_rfl
theorem g875:Gm 875=some (.fn F875):=by kernel_rfl
theorem g876:Gm 876=some (.fn F876):=by kernel_rfl
theorem g908:Gm 908=some (.fn F908):=by kernel_rfl
theorem g911:Gm 911=some (.fn F911):=by kernel_rfl
theorem g1102:Gm 1102=some (.fn F1102):=by kernel_rfl
theorem g720:Gm 720=some (.fn F720):=by kernel_rfl
theorem g722:Gm 722=some (.fn F722):=by kernel_rfl
theorem g335:Gm 335=some (.fn F335):=by kernel_rfl
theorem g76:Gm 76=some (.fn F76):=by kernel_rfl
theorem g340:Gm 340=some (.fn F340):=by kernel_rfl
theorem g1440:Gm 1440=some (.fn F1440):=by kernel_rfl
theorem g1513:Gm 1513=some (.fn F1513):=by kernel_rfl
theorem g1441:Gm 1441=some (.fn F1441):=by kernel_rfl
theorem g1442:Gm 1442=some (.fn F1442):=by kernel_rfl
theorem g1241:Gm 1241=some (.fn F1241):=by kernel_rfl
theorem g921:Gm 921=some (.fn F921):=by kernel_rfl
theorem g541:Gm 541=some (.fn F541):=by kernel_rfl
theorem g208:Gm 208=some (.fn F208):=by kernel_rfl
theorem g327:Gm 327=some (.fn F327):=by kernel_rfl
theorem g326:Gm 326=some (.fn F326):=by kernel_rfl
theorem g328:Gm 328=some (.fn F328):=by kernel_rfl
theorem g329:Gm 329=some (.fn F329):=by kernel_rfl
theorem g60:Gm 60=some (.fn F60):=by kernel_rfl
theorem g316:Gm 316=some (.fn F316):=by kernel_rfl
theorem g773:Gm 773=some (.fn F773):=by kernel_rfl
theorem g396:Gm 396=some (.fn F396):=by kernel_rfl
theorem g440:Gm 440=some (.fn F440):=by kernel_rfl
theorem g716:Gm 716=some (.fn F716):=by kernel_rfl
theorem g715:Gm 715=some (.fn F715):=by kernel_rfl
theorem g325:Gm 325=some (.fn F325):=by kernel_rfl
theorem g69:Gm 69=some (.fn F69):=by kernel_rfl
theorem g330:Gm 330=some (.fn F330):=by kernel_rfl
theorem g70:Gm 70=some (.fn F70):=by kernel_rfl
theorem g71:Gm 71=some (.fn F71):=by kernel_rfl
theorem g72:Gm 72=some (.fn F72):=by kernel_rfl
theorem g332:Gm 332=some (.fn F332):=by kernel_rfl
theorem g73:Gm 73=some (.fn F73):=by kernel_rfl
theorem g333:Gm 333=some (.fn F333):=by kernel_rfl
theorem g75:Gm 75=some (.fn F75):=by kernel_rfl
theorem g723:Gm 723=some (.fn F723):=by kernel_rfl
theorem g336:Gm 336=some (.fn F336):=by kernel_rfl
theorem g77:Gm 77=some (.fn F77):=by kernel_rfl
theorem g78:Gm 78=some (.fn F78):=by kernel_rfl
theorem g4:Gm 4=some (.fn F4):=by kernel_rfl
end Go.Ab
namespace Go.Ab
open Go
section
variable {E:Ev} {ks:List Fr1} {s m:LEnv} {h:List AObj} {Q:AExit→VSt→Prop} {l:List AOper} {a b:List UInt8}
def mkif1(t:Nat):Option AV→Option AV
  | some v=>some (.iface t v)
  | none=>none
@[go_sem] theorem mkif1_s{t:Nat}{v:AV}:mkif1 t (some v)=some (.iface t v):=rfl
@[go_sem] theorem go_mkif{i t:Nat}{d:Option Nat}{g:Option (Nat×Bool)}{x:Ao}{ck:List AOper}:Go1 E (.mk i d g (.mkif t x) ck) l ks ⟨s,m,h⟩ Q=Put E (mkif1 t (ev (toE s) x)) d l ks ⟨s,m,h⟩ Q:=by
  rw[go1_val rfl fun _=>rfl];congr 1;show (ev (toE s) x).map (AV.iface t)=_;cases ev (toE s) x<;>rfl
def isn4:Bool→Option AV→Option AV
  | n,some (.iface _ _)=>some (.bool n)
  | n,some .nili=>some (.bool !n)
  | _,_=>none
@[go_sem] theorem isn4_i{n:Bool}{t:Nat}{v:AV}:isn4 n (some (.iface t v))=some (.bool n):=rfl
@[go_sem] theorem isn4_n{n:Bool}:isn4 n (some .nili)=some (.bool !n):=rfl
@[go_sem] theorem go_isnil4{i:Nat}{d:Option Nat}{g:Option (Nat×Bool)}{n:Bool}{x:Ao}{ck:List AOper}:Go1 E (.mk i d g (.isnil 4 n x) ck) l ks ⟨s,m,h⟩ Q=Put E (isn4 n (ev (toE s) x)) d l ks ⟨s,m,h⟩ Q:=by
  rw[go1_val rfl fun _=>rfl];congr 1;show ((ev (toE s) x).bind (AV.isNil 4)).map (fun b=>AV.bool (if n then !b else b))=_;generalize ev (toE s) x=o;rcases o with _ | v
  · rfl
  · cases v<;>cases n<;>rfl
@[go_sem] theorem strOp_eq:strOp .eql a b=some (.bool (a==b)):=rfl
@[go_sem] theorem strOp_ne:strOp .neq a b=some (.bool (!(a==b))):=rfl
@[go_sem] theorem sidx1_0{k:IntKind}:sidx1 (some (.str a)) (some (.int k 0))=(a[0]?).map fun b=>.int .u8 b.toNat:=sidx1_i (n:=0)
theorem strOp_add(h:a.length+b.length≤9223372036854775807):strOp .add a b=some (.str (a++b)):=if_pos h
theorem sslc_lh{x lo hi:Ao}{k1 k2:IntKind}{n e:Nat}{hh:AH}{mm:Env}(h1:ev (toE s) x=some (.str a))(h2:ev (toE s) lo=some (.int k1 (n:Int)))(h3:ev (toE s) hi=some (.int k2 (e:Int)))(he:e≤a.length)(hb:n≤e):
    val (.sslc x (some lo) (some hi)) (toE s) mm hh=some (.str ((a.drop n).take (e-n))):=by
  simp only[val,h1,bnd,h3];rw[if_pos ⟨by omega,by omega⟩];simp only[h2];rw[if_pos ⟨by omega,by simpa using hb⟩];simp
theorem sslc_l{x lo:Ao}{k1:IntKind}{n:Nat}{hh:AH}{mm:Env}(h1:ev (toE s) x=some (.str a))(h2:ev (toE s) lo=some (.int k1 (n:Int)))(hb:n≤a.length):
    val (.sslc x (some lo) none) (toE s) mm hh=some (.str (a.drop n)):=by
  simp only[val,h1,bnd,h2];rw[if_pos ⟨by omega,by simpa using hb⟩];show some (AV.str (List.take (a.length-((n:Int)).toNat) (List.drop ((n:Int)).toNat a)))=_;rw[Int.toNat_natCast,List.take_of_length_le (by simp)]
end
abbrev Str:=List UInt8
def isSm(b:UInt8):Bool:=decide (97≤b.toNat)&&decide (b.toNat≤122)
def isCap(b:UInt8):Bool:=decide (65≤b.toNat)&&decide (b.toNat≤90)
def isDig(b:UInt8):Bool:=decide (48≤b.toNat)&&decide (b.toNat≤57)
def isWB(b:UInt8):Bool:=isSm b || (isCap b || isDig b)
def kws:List Str:=[[100,97,116,97],[100,101,102],[108,101,116],[105,110],[109,97,116,99,104],[105,102],[116,104,101,110],[101,108,115,101]]
def isKw(s:Str):Bool:=kws.contains s
def isName(s:Str):Bool:=match s with
  |[]=>false
  | c::_=>decide (s.length≤12)&&(!isDig c&&(!isKw s&&s.all isWB))
def isUp(s:Str):Bool:=isName s&&isCap (s.headD 0)
def isLo(s:Str):Bool:=isName s&&isSm (s.headD 0)
def wordAt(t:Str)(i:Nat):Str:=(t.drop i).takeWhile isWB
end Go.Ab
namespace Go.Ab
open Go
set_option maxRecDepth 10000
end Go.Ab
namespace Go.Ab
open Go
set_option maxRecDepth 10000
set_option maxHeartbeats 2000000
theorem c1100{b:UInt8}:Pure Gm 1100 [.int .u8 (b.toNat:Nat)] (.bool (isCap b)):=by
  refine Pure.intro [] [] g1100 (by kernel_rfl) rfl (by simp[AV.trees,AV.tree,go_sem]) rfl ?_;simp only[F1100,vparams,go_sem]
  first | (refine grd_split ?_ ?_<;>intro hc<;>simp only[hc,go_sem]) | (refine cnd_split ?_ ?_<;>intro hc<;>simp only[hc,go_sem])
  · exact fin_eq rfl (by first | (simp[isCap]at hc⊢;omega) | (simp only[decide_eq_true_eq,decide_eq_false_iff_not]at hc;congr 1;rw[Bool.eq_iff_iff];simp[isCap];omega))
  · exact fin_eq rfl (by first | (simp[isCap]at hc⊢;omega) | (simp only[decide_eq_true_eq,decide_eq_false_iff_not]at hc;congr 1;rw[Bool.eq_iff_iff];simp[isCap];omega))
theorem c1206{b:UInt8}:Pure Gm 1206 [.int .u8 (b.toNat:Nat)] (.bool (isSm b)):=by
  refine Pure.intro [] [] g1206 (by kernel_rfl) rfl (by simp[AV.trees,AV.tree,go_sem]) rfl ?_;simp only[F1206,vparams,go_sem]
  first | (refine grd_split ?_ ?_<;>intro hc<;>simp only[hc,go_sem]) | (refine cnd_split ?_ ?_<;>intro hc<;>simp only[hc,go_sem])
  · exact fin_eq rfl (by first | (simp[isSm]at hc⊢;omega) | (simp only[decide_eq_true_eq,decide_eq_false_iff_not]at hc;congr 1;rw[Bool.eq_iff_iff];simp[isSm];omega))
  · exact fin_eq rfl (by first | (simp[isSm]at hc⊢;omega) | (simp only[decide_eq_true_eq,decide_eq_false_iff_not]at hc;congr 1;rw[Bool.eq_iff_iff];simp[isSm];omega))
theorem c1330{b:UInt8}:Pure Gm 1330 [.int .u8 (b.toNat:Nat)] (.bool (isDig b)):=by
  refine Pure.intro [] [] g1330 (by kernel_rfl) rfl (by simp[AV.trees,AV.tree,go_sem]) rfl ?_;simp only[F1330,vparams,go_sem]
  first | (refine grd_split ?_ ?_<;>intro hc<;>simp only[hc,go_sem]) | (refine cnd_split ?_ ?_<;>intro hc<;>simp only[hc,go_sem])
  · exact fin_eq rfl (by first | (simp[isDig]at hc⊢;omega) | (simp only[decide_eq_true_eq,decide_eq_false_iff_not]at hc;congr 1;rw[Bool.eq_iff_iff];simp[isDig];omega))
  · exact fin_eq rfl (by first | (simp[isDig]at hc⊢;omega) | (simp only[decide_eq_true_eq,decide_eq_false_iff_not]at hc;congr 1;rw[Bool.eq_iff_iff];simp[isDig];omega))
theorem c1012{b:UInt8}:Pure Gm 1012 [.int .u8 (b.toNat:Nat)] (.bool (isWB b)):=by
  refine Pure.intro [] [] g1012 (by kernel_rfl) rfl (by simp[AV.trees,AV.tree,go_sem]) rfl ?_;simp only[F1012,vparams,go_sem];refine call_pure c1206 ?_;simp only[go_sem];cases h1:isSm b<;>simp only[go_sem]
  · refine call_pure c1100 ?_;simp only[go_sem];cases h2:isCap b<;>simp only[go_sem]
    · refine call_pure c1330 ?_;simp only[go_sem];exact fin_eq rfl (by simp[isWB,h1,h2])
    · exact fin_eq rfl (by simp[isWB,h1,h2])
  · exact fin_eq rfl (by simp[isWB,h1])
end Go.Ab
namespace Go.Ab
open Go
set_option maxRecDepth 10000
set_option maxHeartbeats 2000000
theorem c1106{xs:List Str}{v:Str}(hl:xs.length≤1048576):Pure Gm 1106 [.lst 1 (xs.map encS) false,.str v] (.int .i64 (idxFrom (fun x=>v==x) xs 0)):=by
  refine Pure.intro [] [] g1106 (by kernel_rfl) rfl (by simp[AV.trees,AV.tree,trees_map shS.tree]) rfl ?_;simp only[F1106,vparams,go_sem];refine Sem.loop (fun i:Nat=>i≤xs.length∧idxFrom (fun x=>v==x) xs 0=idxFrom (fun x=>v==x) (xs.drop i) i) (fun i=>(⟨[(0,.lst 1 (xs.map encS) false),(1,.str v),(7,.int .i64 xs.length),(8,.int .i64 (i:Nat))],[],[]⟩:VSt)) (fun i=>xs.length-i) 0 (by kernel_rfl) ⟨Nat.zero_le _,by simp⟩ (Can.sub (by simp[go_sem]) (by simp[go_sem])) ?_;rintro i ⟨hi,hI⟩;simp only[go_sem];refine cnd_split ?_ ?_<;>intro hc<;>simp only[hc,go_sem]
  · have hlt:i<xs.length:=by have:=of_decide_eq_true hc;omega
    simp only[List.getElem?_map,List.getElem?_eq_getElem hlt,Option.map_some,shS.part,encS,go_sem];have hd:xs.drop i=xs[i]::xs.drop (i+1):=by simp
    refine cnd_split ?_ ?_<;>intro hc<;>simp only[hc,go_sem]
    · refine fin_eq rfl ?_;have hq:=of_decide_eq_true hc;rw[hI,hd];simp[idxFrom,←hq]
    · simp only[wrap_succ (show i<4611686018427387904 by omega)];refine loopQ_nrm (i+1) ⟨by omega, ?_⟩ (by omega) (Can.sub (by simp[go_sem]) (by simp[go_sem]));have hq:=of_decide_eq_false hc;rw[hI,hd];simp only[idxFrom];rw[if_neg (by simpa using hq)]
  · obtain rfl:i=xs.length:=by have:=of_decide_eq_false hc;omega
    refine fin_eq rfl ?_;rw[hI];simp[idxFrom]
theorem c732{xs:List Str}{v:Str}(hl:xs.length≤1048576):Pure Gm 732 [.lst 1 (xs.map encS) false,.str v] (.bool (xs.any fun x=>v==x)):=by
  refine Pure.intro [] [] g732 (by kernel_rfl) rfl (by simp[AV.trees,AV.tree,trees_map shS.tree]) rfl ?_;simp only[F732,vparams,go_sem];simp only[ctnF,vparams];simp only[go_sem];refine call_pure (c1106 hl) ?_;simp only[go_sem];exact fin_eq rfl (by rw[←idxFrom_any _ xs 0])
theorem c1013{v:Str}:Pure Gm 1013 [.str v] (.bool (isKw v)):=by
  refine Pure.intro [] [] g1013 (by kernel_rfl) rfl (by simp[AV.trees,AV.tree,go_sem]) rfl ?_;simp only[F1013,vparams,go_sem];rw[show fillAV _ _ _ _=some (kws.map encS)from rfl];simp only[go_sem];refine call_lend (vs':=[.lst 1 (kws.map encS) false,.str v]) (Cvs.cons (Cv.row rfl rfl rfl (by decide)) (Cvs.cons (.refl rfl) Cvs.nil)) (c732 (by decide)) rfl ?_;simp only[go_sem];exact fin_eq rfl (by simp only[isKw,List.contains_eq_any_beq])
theorem c1099{v:Str}(hl:v.length≤4611686018427387904):Pure Gm 1099 [.str v] (.bool (isName v)):=by
  refine Pure.intro [] [] g1099 (by kernel_rfl) rfl (by simp[AV.trees,AV.tree,go_sem]) rfl ?_;simp only[F1099,vparams,go_sem];by_cases h0:v.length<1
  · have e0:decide ((v.length:Int)<1)=true:=decide_eq_true (by omega);simp only[e0,go_sem];exact fin_eq rfl (by have:v=[]:=List.length_eq_zero_iff.1 (by omega);subst this;rfl)
  have e0:decide ((v.length:Int)<1)=false:=decide_eq_false (by omega);simp only[e0,go_sem];obtain⟨c,r,hv⟩:∃c r,v=c::r:=by cases v with
    | nil=>simp at h0
    | cons c r=>exact⟨c,r,rfl⟩
  by_cases h12:v.length≤12
  case neg=>
    have e1:decide ((v.length:Int)>12)=true:=decide_eq_true (by omega);simp only[gt_iff_lt]at e1;simp only[e1,go_sem];exact fin_eq rfl (by subst hv;simp only[isName,decide_eq_false h12,Bool.false_and])
  have e1:decide ((v.length:Int)>12)=false:=decide_eq_false (by omega);simp only[gt_iff_lt]at e1;have eh:v[0]?=some c:=by rw[hv];rfl
  simp only[e1,go_sem,eh,Option.map_some];refine call_pure c1330 ?_;simp only[go_sem];cases hd:isDig c
  case true=>
    simp only[go_sem];exact fin_eq rfl (by subst hv;simp[isName,hd])
  simp only[go_sem];refine call_pure c1013 ?_;simp only[go_sem];cases hk:isKw v
  case true=>
    simp only[go_sem];exact fin_eq rfl (by subst hv;simp[isName,hk])
  simp only[go_sem];have hn:isName v=v.all isWB:=by subst hv;simp only[isName,hd,hk,decide_eq_true h12,Bool.not_false,Bool.true_and]
  refine Sem.loop (fun i:Nat=>i≤v.length∧v.all isWB=(v.drop i).all isWB) (fun i=>(⟨[(0,.str v),(22,.int .i64 v.length),(23,.int .i64 (i:Nat))],[],[]⟩:VSt)) (fun i=>v.length-i) 0 (by kernel_rfl) ⟨Nat.zero_le _,by simp⟩ (Can.sub (by simp[go_sem]) (by simp[go_sem])) ?_;rintro i ⟨hi,hI⟩;simp only[go_sem];refine cnd_split ?_ ?_<;>intro hc<;>simp only[hc,go_sem]
  · have hlt:i<v.length:=by have:=of_decide_eq_true hc;omega
    have hq:v.drop i=v[i]::v.drop (i+1):=by simp
    simp only[List.getElem?_eq_getElem hlt,Option.map_some,go_sem];refine call_pure c1012 ?_;simp only[go_sem];cases hw:isWB v[i]
    · simp only[Bool.not_false];simp only[go_sem];refine fin_eq rfl ?_;rw[hn,hI,hq,List.all_cons,hw,Bool.false_and]
    · simp only[Bool.not_true];simp only[go_sem];simp only[wrap_succ (show i<4611686018427387904 by omega)];refine loopQ_nrm (i+1) ⟨by omega, ?_⟩ (by omega) (Can.sub (by simp[go_sem]) (by simp[go_sem]));rw[hI,hq,List.all_cons,hw,Bool.true_and]
  · obtain rfl:i=v.length:=by have:=of_decide_eq_false hc;omega
    refine fin_eq rfl ?_;rw[hn,hI];simp
theorem c717{v:Str}(hl:v.length≤4611686018427387904):Pure Gm 717 [.str v] (.bool (isUp v)):=by
  refine Pure.intro [] [] g717 (by kernel_rfl) rfl (by simp[AV.trees,AV.tree,go_sem]) rfl ?_;simp only[F717,vparams,go_sem];refine call_pure (c1099 hl) ?_;simp only[go_sem];cases hn:isName v
  · simp only[go_sem];exact fin_eq rfl (by simp[isUp,hn])
  · cases v with
    | nil=>cases hn
    | cons c r=>
    simp only[List.getElem?_cons_zero,Option.map_some,go_sem];refine call_pure c1100 ?_;simp only[go_sem];exact fin_eq rfl (by simp[isUp,hn])
theorem c889{v:Str}(hl:v.length≤4611686018427387904):Pure Gm 889 [.str v] (.bool (isLo v)):=by
  refine Pure.intro [] [] g889 (by kernel_rfl) rfl (by simp[AV.trees,AV.tree,go_sem]) rfl ?_;simp only[F889,vparams,go_sem];refine call_pure (c1099 hl) ?_;simp only[go_sem];cases hn:isName v
  · simp only[go_sem];exact fin_eq rfl (by simp[isLo,hn])
  · cases v with
    | nil=>cases hn
    | cons c r=>
    simp only[List.getElem?_cons_zero,Option.map_some,go_sem];refine call_pure c1206 ?_;simp only[go_sem];exact fin_eq rfl (by simp[isLo,hn])
end Go.Ab
namespace Go.Ab
open Go
structure GTok where
  Kind:Int
  Text:List UInt8
  At:Int
def GTok.enc(x:GTok):AV:=.agg [.int .i64 x.Kind,.str x.Text,.int .i64 x.At]
theorem GTok.isSh:Sh GTok.enc 3 (some 3):=⟨fun x=>by simp[GTok.enc,AV.tree,AV.trees],fun _=>rfl,fun _=>rfl,by decide,fun x=>by simp[GTok.enc]⟩
section
variable {x:GTok}
@[go_sem] theorem GTok.tr:x.enc.tree=true:=GTok.isSh.tree x
@[go_sem] theorem GTok.ln:x.enc.cells.length=3:=nr rfl
@[go_sem] theorem GTok.all:x.enc.part 0 (some 3)=some x.enc:=nr rfl
@[go_sem] theorem GTok.cs:x.enc.cells=[.int .i64 x.Kind,.str x.Text,.int .i64 x.At]:=nr rfl
@[go_sem] theorem GTok.p0:x.enc.part 0 none=some (.int .i64 x.Kind):=nr rfl
@[go_sem] theorem GTok.p1:x.enc.part 1 none=some (.str x.Text):=nr rfl
@[go_sem] theorem GTok.p2:x.enc.part 2 none=some (.int .i64 x.At):=nr rfl
end
def GTok.sz(x:GTok):Nat:=x.Text.length
def GTok.bd(x:GTok):Prop:=x.Text.length≤140737488355328
def pfx(p s:Str):Bool:=decide (p.length≤s.length)&&decide (s.take p.length=p)
def syms:Str:=[43,45,42,47,60,61,40,41,91,93,123,125,44,59,58,46,124,33,92]
def blanks:Str:=[32,10,9]
def max31:Str:=[50,49,52,55,52,56,51,54,52,56]
def readD(s:Str):Option Int:=match Lib.parseIntB 64 s with
  |.ok n=>if (-2147483648≤n∧n≤2147483647)∧Lib.itoa n=s then some n else none
  | _=>none
def plainN(s:Str):Bool:=match readD s with
  | some n=>decide (0≤n)
  | none=>false
def tokEnd(t:Str)(i:Nat):Int×Nat:=
  if 0<(wordAt t i).length then
    if isKw (wordAt t i)then(3,i+(wordAt t i).length)else if isLo (wordAt t i)then(1,i+(wordAt t i).length)else if isUp (wordAt t i)then(2,i+(wordAt t i).length)
    else if decide (wordAt t i=max31) || plainN (wordAt t i)then(4,i+(wordAt t i).length)else(0,i)
  else if pfx [45,62] (t.drop i)then(5,i+2)else if 0≤Lib.indexByte syms (t.getD i 0).toNat.toUInt8 then(5,i+1)else(0,i)
def toksF(t:Str):Nat→Nat→List GTok→Except Nat (List GTok)
  | 0,_,acc=>.ok acc
  | f+1,i,acc=>if i<t.length then
      if 0≤Lib.indexByte blanks (t.getD i 0).toNat.toUInt8 then toksF t f (i+1) acc
      else if (tokEnd t i).1=0 then .error i
      else toksF t f (tokEnd t i).2 (acc++[⟨(tokEnd t i).1,(t.drop i).take ((tokEnd t i).2-i),i⟩])
    else .ok acc
def toksOf(t:Str):Except Nat (List GTok):=toksF t t.length 0 []
theorem tw_step{p:UInt8→Bool}:∀{l:Str}{k:Nat},k≤(l.takeWhile p).length→((∃c,l[k]?=some c∧p c=true)↔k<(l.takeWhile p).length)
  |[],k,h=>by simp
  | x::l,k,h=>by
    by_cases hx:p x=true
    · rw[List.takeWhile_cons_of_pos hx]at h⊢;cases k with
      | zero=>simp[hx]
      | succ k=>
        simp only[List.length_cons,Nat.add_le_add_iff_right]at h;have:=tw_step (p:=p) h;simpa using this
    · rw[List.takeWhile_cons_of_neg hx]at h⊢;have:k=0:=by simpa using h
      subst this;simp[hx]
theorem tw_take{p:UInt8→Bool}:∀{l:Str},l.take (l.takeWhile p).length=l.takeWhile p
  |[]=>rfl
  | x::l=>by
    by_cases hx:p x=true
    · rw[List.takeWhile_cons_of_pos hx];simp[tw_take]
    · rw[List.takeWhile_cons_of_neg hx];rfl
theorem tw_le{p:UInt8→Bool}{l:Str}:(l.takeWhile p).length≤l.length:=by
  rw[←tw_take (p:=p) (l:=l),List.length_take];omega
theorem word_step{t:Str}{i k:Nat}(h:k≤(wordAt t i).length):(∃c,t[i+k]?=some c∧isWB c=true)↔k<(wordAt t i).length:=by
  have:=tw_step (p:=isWB) (l:=t.drop i) (k:=k) h;rw[List.getElem?_drop]at this;exact this
theorem word_take{t:Str}{i:Nat}:(t.drop i).take (wordAt t i).length=wordAt t i:=tw_take
theorem word_le{t:Str}{i:Nat}:i≤t.length→i+(wordAt t i).length≤t.length:=fun h=>by
  have:=tw_le (p:=isWB) (l:=t.drop i);rw[List.length_drop]at this;unfold wordAt;omega
theorem tokEnd_le{t:Str}{i:Nat}(h:i<t.length):i≤(tokEnd t i).2∧(tokEnd t i).2≤t.length∧((tokEnd t i).1≠0→i<(tokEnd t i).2):=by
  have hw:=word_le (t:=t) (i:=i) (by omega);have hp:pfx [45,62] (t.drop i)=true→i+2≤t.length:=fun q=>by
    simp only[pfx,Bool.and_eq_true,decide_eq_true_eq,List.length_drop,List.length_cons,List.length_nil]at q;omega
  unfold tokEnd
  repeat' split
  all_goals first
    | (rename_i q;have:=hp q;refine⟨?_, ?_,fun _=> ?_⟩<;>simp only<;>omega)
    | (refine⟨?_, ?_,fun q=> ?_⟩<;>simp only at* <;>first | omega | exact absurd rfl q)
end Go.Ab
namespace Go.Ab
open Go
set_option maxRecDepth 10000
set_option maxHeartbeats 2000000
theorem sslc_h{E:Ev}{s:LEnv}{a:Str}{x hi:Ao}{k1:IntKind}{n:Nat}{hh:AH}{mm:Env}(h1:ev (toE s) x=some (.str a))(h2:ev (toE s) hi=some (.int k1 (n:Int)))(hb:n≤a.length):
    val (.sslc x none (some hi)) (toE s) mm hh=some (.str (a.take n)):=by
  simp only[val,h1,bnd,h2];rw[if_pos ⟨by omega,by omega⟩];simp
theorem idx_told{s:Str}{c:UInt8}:Pure Gm 631 [.str s,.int .u8 (c.toNat:Nat)] (.int .i64 (Lib.indexByte s (c.toNat:Nat).toUInt8)):=
  Pure.told g631 rfl ⟨s,_,rfl,by simp⟩ rfl rfl
theorem fmt_told{n:Int}(h0: -9223372036854775808≤n)(h1:n≤9223372036854775807):Pure Gm 957 [.int .i64 n,.int .i64 10] (.str (Lib.itoa n)):=
  Pure.told g957 rfl ⟨n,rfl,h0,h1,rfl⟩ rfl rfl
theorem parse_told{s:Str}{h:List AObj}(hl:s.length≤140737488355328):SCallP Gm 1382 [.str s,.int .i64 10,.int .i64 64] h fun v=>v=parseV s:=
  SCallP.told g1382 rfl ⟨s,rfl,hl,rfl⟩ (fun ρ=>by unfold parseV;split<;>simp only[RelV,RelVs]<;>simp)
theorem c1331{p s:Str}(hl:p.length≤1000000):Pure Gm 1331 [.str s,.str p] (.bool (pfx p s)):=by
  refine Pure.intro [] [] g1331 (by kernel_rfl) rfl (by simp[AV.trees,AV.tree,go_sem]) rfl ?_;simp only[F1331,vparams,go_sem];by_cases hp:p.length≤s.length
  · have e:decide ((s.length:Int)≥p.length)=true:=decide_eq_true (by omega);simp only[ge_iff_le]at e;simp only[e,go_sem];refine put_v (sslc_h (E:=⟨Gm,0,[],[]⟩) rfl rfl hp) ?_;simp only[go_sem];exact fin_eq rfl (by simp[pfx,hp])
  · have e:decide ((s.length:Int)≥p.length)=false:=decide_eq_false (by omega);simp only[ge_iff_le]at e;simp only[e,go_sem];exact fin_eq rfl (by simp[pfx,hp])
theorem c1015{p s:Str}(hl:p.length≤1000000):Pure Gm 1015 [.str s,.str p] (.bool (pfx p s)):=by
  refine Pure.intro [] [] g1015 (by kernel_rfl) rfl (by simp[AV.trees,AV.tree,go_sem]) rfl ?_;simp only[F1015,vparams,go_sem]
  repeat' (first | (refine lbox_ok rfl ?_;simp only[go_sem]) | (first | (refine grd_split ?_ ?_<;>intro hc<;>simp only[hc,go_sem]) | (refine cnd_split ?_ ?_<;>intro hc<;>simp only[hc,go_sem])) | (refine call_pure (c1331 hl) ?_;simp only[go_sem]) | refine fin_eq rfl ?_ | refine fin_eqs (by rfl) ?_)
  all_goals (simp_all<;>omega)
theorem c1051{n:Int}:Pure Gm 1051 [.int .i64 n] (.bool (decide (-2147483648≤n)&&decide (n≤2147483647))):=by
  refine Pure.intro [] [] g1051 (by kernel_rfl) rfl (by simp[AV.trees,AV.tree,go_sem]) rfl ?_;simp only[F1051,vparams,go_sem]
  first | (refine grd_split ?_ ?_<;>intro hc<;>simp only[hc,go_sem]) | (refine cnd_split ?_ ?_<;>intro hc<;>simp only[hc,go_sem])
  · exact fin_eq rfl (by have hq:=of_decide_eq_true hc;simp<;>omega)
  · exact fin_eq rfl (by have hq:=of_decide_eq_false hc;simp<;>omega)
theorem c577{n:Int}(h0: -9223372036854775808≤n)(h1:n≤9223372036854775807):Pure Gm 577 [.int .i64 n] (.str (Lib.itoa n)):=by
  refine Pure.intro [] [] g577 (by kernel_rfl) rfl (by simp[AV.trees,AV.tree,go_sem]) rfl ?_;simp only[F577,vparams,go_sem]
  repeat' (first | (refine lbox_ok rfl ?_;simp only[go_sem]) | (first | (refine grd_split ?_ ?_<;>intro hc<;>simp only[hc,go_sem]) | (refine cnd_split ?_ ?_<;>intro hc<;>simp only[hc,go_sem])) | (refine call_pure (fmt_told h0 h1) ?_;simp only[go_sem]) | refine fin_eq rfl ?_ | refine fin_eqs (by rfl) ?_)
  all_goals (simp_all<;>omega)
theorem c1091{s:Str}(hl:s.length≤140737488355328):Pure Gm 1091 [.str s] (.tup [.int .i64 ((readD s).getD 0),.bool (readD s).isSome]):=by
  refine Pure.intro [] [] g1091 (by kernel_rfl) rfl (by simp[AV.trees,AV.tree,go_sem]) rfl ?_;simp only[F1091,vparams,go_sem];refine call_look (parse_told hl) ?_;unfold parseV;cases hp:Lib.parseIntB 64 s with
  | range=>
    simp only[go_sem];exact fin_eqs rfl (by simp[readD,hp])
  | ok n=>
    simp only[go_sem];refine call_pure c1051 ?_;simp only[go_sem];cases hb:(decide (-2147483648≤n)&&decide (n≤2147483647))
    · simp only[Bool.not_false,Bool.not_true];simp only[go_sem];have hn:¬(-2147483648≤n∧n≤2147483647):=by intro q;rw[decide_eq_true q.1,decide_eq_true q.2]at hb;cases hb
      exact fin_eqs rfl (by simp[readD,hp,hn])
    · simp only[Bool.not_false,Bool.not_true];simp only[go_sem];simp only[Bool.and_eq_true,decide_eq_true_eq]at hb;refine call_pure (c577 (by omega) (by omega)) ?_;simp only[go_sem];by_cases he:Lib.itoa n=s
      · simp only[he,decide_true,Bool.not_true];simp only[go_sem];exact fin_eqs rfl (by simp[readD,hp,hb,he])
      · simp only[he,decide_false,Bool.not_false];simp only[go_sem];exact fin_eqs rfl (by simp[readD,hp,he])
  | _=>
    simp only[go_sem];exact fin_eqs rfl (by simp[readD,hp])
theorem c1014{s:Str}(hl:s.length≤140737488355328):Pure Gm 1014 [.str s] (.bool (plainN s)):=by
  refine Pure.intro [] [] g1014 (by kernel_rfl) rfl (by simp[AV.trees,AV.tree,go_sem]) rfl ?_;simp only[F1014,vparams,go_sem];refine call_pure (c1091 hl) ?_;simp only[go_sem];cases hr:readD s with
  | none=>
    simp only[Option.isSome_none];simp only[go_sem];exact fin_eq rfl (by simp[plainN,hr])
  | some n=>
    simp only[Option.isSome_some,Option.getD_some];simp only[go_sem];exact fin_eq rfl (by simp[plainN,hr])
end Go.Ab
namespace Go.Ab
open Go
set_option maxRecDepth 10000
set_option maxHeartbeats 2000000
theorem c632{t:Str}{i:Nat}(hi:i<t.length)(hl:t.length≤20000):Pure Gm 632 [.str t,.int .i64 (i:Nat)] (.tup [.int .i64 (tokEnd t i).1,.int .i64 ((tokEnd t i).2:Nat)]):=by
  refine Pure.intro [] [] g632 (by kernel_rfl) rfl (by simp[AV.trees,AV.tree,go_sem]) rfl ?_;simp only[F632,vparams,go_sem];refine Sem.loop (fun k:Nat=>k≤(wordAt t i).length) (fun k=>(⟨[(0,.str t),(1,.int .i64 (i:Nat)),(6,.int .i64 ((i+k:Nat):Int))],[],[]⟩:VSt)) (fun k=>(wordAt t i).length-k) 0 (by kernel_rfl) (Nat.zero_le _) (Can.sub (by simp[go_sem]) (by simp[go_sem])) ?_;intro k hk;have ws:=word_step hk;have wl:=word_le (t:=t) (i:=i) (by omega);simp only[go_sem];have hcase:(k<(wordAt t i).length∧∃h:i+k<t.length,isWB t[i+k]=true)∨(k=(wordAt t i).length∧(¬i+k<t.length∨∃h:i+k<t.length,isWB t[i+k]=false)):=by
    by_cases h1:i+k<t.length
    · rcases hb:isWB t[i+k]with _ | _
      · have h2:=hb;right;refine⟨?_,.inr ⟨h1,h2⟩⟩;have:¬k<(wordAt t i).length:=fun q=>by
          obtain⟨c,e1,e2⟩:=ws.2 q;rw[List.getElem?_eq_getElem h1]at e1;cases e1;rw[h2]at e2;cases e2
        omega
      · exact .inl ⟨ws.1 ⟨_,List.getElem?_eq_getElem h1,hb⟩,h1,hb⟩
    · right;exact⟨by omega,.inl h1⟩
  rcases hcase with⟨h1,hlt,hw⟩ | ⟨rfl,hx⟩
  · have e:decide (((i+k:Nat):Int)<t.length)=true:=decide_eq_true (by omega);simp only[e,List.getElem?_eq_getElem hlt,Option.map_some,go_sem];refine call_pure c1012 ?_;simp only[go_sem];simp only[hw];simp only[go_sem];simp only[wrap_succ (show i+k<4611686018427387904 by omega)];exact loopQ_nrm (k+1) h1 (by omega) (Can.sub (by simp[go_sem,Nat.add_assoc]) (by simp[go_sem]))
  rcases hx with hx | ⟨hlt,hw⟩
  case' inl=>
    have e:decide (((i+(wordAt t i).length:Nat):Int)<t.length)=false:=decide_eq_false (by omega);simp only[e,go_sem]
  case' inr=>
    have e:decide (((i+(wordAt t i).length:Nat):Int)<t.length)=true:=decide_eq_true (by omega);simp only[e,List.getElem?_eq_getElem hlt,Option.map_some,go_sem];refine call_pure c1012 ?_;simp only[go_sem];simp only[hw];simp only[go_sem]
  all_goals
    by_cases hp:0<(wordAt t i).length
    · have e:decide ((i:Int)<((i+(wordAt t i).length:Nat):Int))=true:=decide_eq_true (by omega);simp only[e,go_sem];refine put_v (sslc_lh rfl rfl rfl (by omega) (by omega)) ?_;rw[Nat.add_sub_cancel_left,word_take];have hwl:(wordAt t i).length≤20000:=by omega
      generalize hW:wordAt t i=W at*;have r1:tokEnd t i=if isKw W then(3,i+W.length)else if isLo W then(1,i+W.length)else if isUp W then(2,i+W.length)else if decide (W=max31) || plainN W then(4,i+W.length)else(0,i):=by
        unfold tokEnd;rw[hW,if_pos hp]
      simp only[go_sem];refine call_pure c1013 ?_;simp only[go_sem];cases k1:isKw W
      case true=>simp only[go_sem];exact fin_eqs rfl (by simp[r1,k1])
      simp only[go_sem];refine call_pure (c889 (by omega)) ?_;simp only[go_sem];cases k2:isLo W
      case true=>simp only[go_sem];exact fin_eqs rfl (by simp[r1,k1,k2])
      simp only[go_sem];refine call_pure (c717 (by omega)) ?_;simp only[go_sem];cases k3:isUp W
      case true=>simp only[go_sem];exact fin_eqs rfl (by simp[r1,k1,k2,k3])
      simp only[go_sem];by_cases k4:W=max31
      · have e4:decide (W=[50,49,52,55,52,56,51,54,52,56])=true:=decide_eq_true k4;simp only[e4,go_sem];exact fin_eqs rfl (by rw[r1];simp only[k1,k2,k3,decide_eq_true k4,Bool.true_or,Bool.false_eq_true,if_false,if_true])
      · have e4:decide (W=[50,49,52,55,52,56,51,54,52,56])=false:=decide_eq_false k4;simp only[e4,go_sem];refine call_pure (c1014 (by omega)) ?_;simp only[go_sem];cases k5:plainN W
        · simp only[go_sem];exact fin_eqs rfl (by simp[r1,k1,k2,k3,k4,k5])
        · simp only[go_sem];exact fin_eqs rfl (by simp[r1,k1,k2,k3,k4,k5])
    · have e:decide ((i:Int)<((i+(wordAt t i).length:Nat):Int))=false:=decide_eq_false (by omega);have r1:tokEnd t i=if pfx [45,62] (t.drop i)then(5,i+2)else if 0≤Lib.indexByte syms (t.getD i 0).toNat.toUInt8 then(5,i+1)else(0,i):=by
        unfold tokEnd;rw[if_neg hp]
      simp only[e,go_sem];refine put_v (sslc_l rfl rfl (by omega)) ?_;simp only[go_sem];refine call_pure (c1015 (by simp)) ?_;simp only[go_sem];cases k1:pfx [45,62] (t.drop i)
      case true=>
        simp only[go_sem];simp only[wrap_small (n:=(i:Int)+2) (by omega) (by omega)];exact fin_eqs rfl (by simp[r1,k1])
      simp only[List.getElem?_eq_getElem hi,Option.map_some,go_sem];refine call_pure idx_told ?_;simp only[go_sem];have eg:t.getD i 0=t[i]:=by simp[List.getD,List.getElem?_eq_getElem hi]
      by_cases k2:0≤Lib.indexByte syms t[i].toNat.toUInt8
      · have e2:decide (0≤Lib.indexByte [43,45,42,47,60,61,40,41,91,93,123,125,44,59,58,46,124,33,92] t[i].toNat.toUInt8)=true:=decide_eq_true k2;simp only[e2,go_sem];simp only[wrap_small (n:=(i:Int)+1) (by omega) (by omega)];exact fin_eqs rfl (by simp only[r1,k1,eg,if_pos k2];simp)
      · have e2:decide (0≤Lib.indexByte [43,45,42,47,60,61,40,41,91,93,123,125,44,59,58,46,124,33,92] t[i].toNat.toUInt8)=false:=decide_eq_false k2;simp only[e2,go_sem];exact fin_eqs rfl (by simp only[r1,k1,eg,if_neg k2];simp)
end Go.Ab
namespace Go.Ab
open Go
set_option maxRecDepth 10000
set_option maxHeartbeats 2000000
theorem bsl_one{E:Ev}{d:Option Nat}{w:Nat}{z v:AV}{x:Ao}{l:List AOper}{ks:List Fr1}{s m:LEnv}{h:List AObj}{Q:AExit→VSt→Prop}(hx:ev (toE s) x=some v)(hl:v.cells.length=w)
    (hr:New1 E d (.row w [v] true) (.slice w h.length 0 1 false) l ks ⟨s,m,h⟩ Q):Bsl E d w 1 (fillAV (toE s) w (List.replicate 1 z) [(0,x)]) l ks ⟨s,m,h⟩ Q:=by
  have e:fillAV (toE s) w (List.replicate 1 z) [(0,x)]=some [v]:=by simp[fillAV,hx,hl,List.replicate]
  rw[e,bsl_s];exact hr
theorem fin_tup{h:List AObj}{a b v:AV}{vs:List AV}(hc:Cv h (.tup (a::b::vs)) v):Fin (some (a::b::vs)) h v:=by unfold Fin;exact hc
theorem Cvs.tup{h:List AObj}{as bs:List AV}(x:Cvs h as bs):Cv h (.tup as) (.tup bs):=.tup x.1 x.2
def tokAt(t:Str)(i:Nat):GTok:=⟨(tokEnd t i).1,(t.drop i).take ((tokEnd t i).2-i),i⟩
theorem toksF_fuel{t:Str}:∀(f:Nat){i:Nat}{acc:List GTok},t.length-i≤f→toksF t f i acc=toksF t (t.length-i) i acc:=by
  intro f
  induction f using Nat.strongRecOn with
  | _ f ih=>
  intro i acc hf;cases f with
  | zero=>rw[show t.length-i=0 by omega]
  | succ f=>
    by_cases hi:i<t.length
    · obtain⟨g,hg⟩:∃g,t.length-i=g+1:=⟨t.length-i-1,by omega⟩;rw[hg];obtain⟨h1,h2,h3⟩:=tokEnd_le hi;simp only[toksF,if_pos hi];split
      · rw[ih f (by omega) (by omega),ih g (by omega) (by omega)]
      · split
        · rfl
        · rename_i hk;have:=h3 hk;rw[ih f (by omega) (by omega),ih g (by omega) (by omega)]
    · rw[show t.length-i=0 by omega];simp only[toksF,if_neg hi]
def toksG(t:Str)(i:Nat)(acc:List GTok):Except Nat (List GTok):=toksF t (t.length-i) i acc
theorem toksG_end{t:Str}{i:Nat}{acc:List GTok}(hi:¬i<t.length):toksG t i acc=.ok acc:=by
  unfold toksG;rw[show t.length-i=0 by omega];rfl
theorem toksG_step{t:Str}{i:Nat}{acc:List GTok}(hi:i<t.length):toksG t i acc=if 0≤Lib.indexByte blanks (t.getD i 0).toNat.toUInt8 then toksG t (i+1) acc else if (tokEnd t i).1=0 then .error i else toksG t (tokEnd t i).2 (acc++[tokAt t i]):=by
  obtain⟨g,hg⟩:∃g,t.length-i=g+1:=⟨t.length-i-1,by omega⟩;obtain⟨h1,h2,h3⟩:=tokEnd_le hi;unfold toksG;rw[hg];simp only[toksF,if_pos hi];split
  · rw[toksF_fuel g (by omega)]
  · split
    · rfl
    · rename_i hk;have:=h3 hk;rw[toksF_fuel g (by omega)];rfl
theorem toksOf_eq{t:Str}:toksOf t=toksG t 0 []:=rfl
def tokR(t:Str):List GTok×Int×Int:=if 20000<t.length then([],0,2)else match toksOf t with
  |.error i=>([],i,6)
  |.ok l=>(l,0,0)
theorem c266{t:Str}:Pure Gm 266 [.str t] (.tup [.lst 3 ((tokR t).1.map GTok.enc) false,.int .i64 (tokR t).2.1,.int .i64 (tokR t).2.2]):=by
  refine Pure.intro [] [] g266 (by kernel_rfl) rfl (by simp[AV.trees,AV.tree,go_sem]) (by simp[AV.tree,AV.trees,trees_map GTok.isSh.tree]) ?_;simp only[F266,vparams,go_sem];by_cases hl:20000<t.length
  · have e:decide ((20000:Int)<t.length)=true:=decide_eq_true (by omega);simp only[e,go_sem];have er:tokR t=([],0,2):=by rw[tokR,if_pos hl]
    rw[er];refine fin_tup (Cvs.tup (Cvs.cons .nils (Cvs.cons (.refl rfl) (Cvs.cons (.refl rfl) Cvs.nil))))
  have e:decide ((20000:Int)<t.length)=false:=decide_eq_false (by omega);simp only[e,go_sem];have er:tokR t=match toksOf t with
    |.error i=>([],i,6)
    |.ok l=>(l,0,0):=by rw[tokR,if_neg hl]
  refine Sem.loop (fun a:Nat×List GTok=>a.1≤t.length∧a.2.length≤a.1∧toksOf t=toksG t a.1 a.2) (fun a=>(⟨[(0,.str t),(5,.slice 3 0 0 a.2.length false),(6,.int .i64 (a.1:Nat))],[],[.row 3 (a.2.map GTok.enc) true]⟩:VSt)) (fun a=>t.length-a.1) (0,[]) (by kernel_rfl) ⟨Nat.zero_le _,Nat.zero_le _,rfl⟩ (Can.renum [none] rfl ⟨.ph,trivial⟩ ⟨⟨_,rfl,.tree rfl⟩,⟨_,rfl,.ph rfl⟩,⟨_,rfl,.tree rfl⟩,trivial⟩ trivial) ?_;rintro⟨i,acc⟩ ⟨hi,ha,hI⟩;simp only at hi ha hI;simp only[go_sem];by_cases hlt:i<t.length
  case neg=>
    have e:decide ((i:Int)<t.length)=false:=decide_eq_false (by omega);simp only[e,go_sem];rw[hI,toksG_end hlt]at er;rw[er];refine fin_tup (Cvs.tup (Cvs.cons (Cv.row rfl (by simp) (trees_map GTok.isSh.tree _) (by decide)) (Cvs.cons (.refl rfl) (Cvs.cons (.refl rfl) Cvs.nil))))
  have e:decide ((i:Int)<t.length)=true:=decide_eq_true (by omega);simp only[e,List.getElem?_eq_getElem hlt,Option.map_some,go_sem];refine call_pure idx_told ?_;simp only[go_sem];rw[toksG_step hlt]at hI;have eg:t.getD i 0=t[i]:=by simp[List.getD,List.getElem?_eq_getElem hlt]
  rw[eg]at hI;by_cases hb:0≤Lib.indexByte blanks t[i].toNat.toUInt8
  · have e:decide (0≤Lib.indexByte [32,10,9] t[i].toNat.toUInt8)=true:=decide_eq_true hb;simp only[e,go_sem];simp only[wrap_succ (show i<4611686018427387904 by omega)];rw[if_pos hb]at hI;exact loopQ_nrm (i+1,acc) ⟨by simp only;omega,by simp only;omega,hI⟩ (by simp only;omega) (Can.sub (by simp[go_sem]) (by simp[go_sem]))
  have e:decide (0≤Lib.indexByte [32,10,9] t[i].toNat.toUInt8)=false:=decide_eq_false hb;simp only[e,go_sem];rw[if_neg hb]at hI;refine call_pure (c632 hlt (by omega)) ?_;simp only[go_sem];obtain⟨t1,t2,t3⟩:=tokEnd_le hlt;by_cases hk:(tokEnd t i).1=0
  · simp only[hk,decide_true,go_sem];rw[if_pos hk]at hI;rw[hI]at er;rw[er];refine fin_tup (Cvs.tup (Cvs.cons .nils (Cvs.cons (.refl rfl) (Cvs.cons (.refl rfl) Cvs.nil))))
  have t4:=t3 hk;rw[if_neg hk]at hI;simp only[decide_eq_false hk,go_sem];refine put_v (sslc_lh rfl rfl rfl (by omega) (by omega)) ?_;simp only[go_sem];refine bsl_one (v:=(tokAt t i).enc) rfl rfl ?_;simp only[go_sem];refine app_one (el:=acc.map GTok.enc) rfl rfl (by simp) (by omega) ?_;simp only[go_sem];refine loopQ_nrm ((tokEnd t i).2,acc++[tokAt t i]) ⟨by simp only;omega,by simp only[List.length_append,List.length_cons,List.length_nil];omega,hI⟩ (by simp only;omega) ?_;simp only[List.length_append,List.length_cons,List.length_nil,Nat.zero_add];refine Can.renum [some 2] rfl ⟨.row rfl ?_,trivial⟩ ⟨⟨_,rfl,.tree rfl⟩,⟨_,rfl,.slice rfl⟩,⟨_,rfl,.tree rfl⟩,trivial⟩ trivial;rw[List.map_append];have tt:=trees_map GTok.isSh.tree (acc++[tokAt t i]);rw[List.map_append]at tt;exact VR2s.trees tt
end Go.Ab
namespace Go.Ab
open Go
set_option maxRecDepth 10000
set_option maxHeartbeats 2000000
section
variable {E:Ev} {l:List AOper} {ks:List Fr1} {s m:LEnv} {h h0:List AObj} {Q:AExit→VSt→Prop} {k e:Nat} {vs:List AV} {v0:AV}
theorem call_hereE{ck:List AOper}(hck:ck=[])(hp:SCall E.Γ k vs h fun v h'=>v=v0∧h'=h0)(hr:R E (.ops l::ks) ⟨(e,v0)::s,m,h0⟩ Q):Call1 E (some (k,vs)) ck (some e) l ks ⟨s,m,h⟩ Q:=by
  subst hck;exact call_here (hp.mono fun v h' ⟨h1,h2⟩=>by subst h1;subst h2;exact hr)
end
@[go_sem] theorem fld1_tok{off:Nat}{sh:Option Nat}{x:GTok}:fld1 off sh (some x.enc)=x.enc.part off sh:=rfl
def prI(toks:List GTok)(a:Nat)(e:Int):AObj:=.row 3 [.agg [.lst 3 (toks.map GTok.enc) false,.int .i64 (a:Nat),.int .i64 e]] true
def nxt(toks:List GTok)(a:Nat)(e:Int):GTok:=(toks[a]?).getD ⟨0,[],e⟩
def isI(toks:List GTok)(a:Nat)(e:Int)(s:Str):Bool:=decide ((nxt toks a e).Text=s)&&(decide ((nxt toks a e).Kind=5) || decide ((nxt toks a e).Kind=3))
def synE(i:Int):AV:=.iface 751 (.agg [.int .i64 i])
section
variable {h:List AObj} {id a:Nat} {toks:List GTok} {e:Int}
theorem n1101(ho:h[id]?=some (prI toks a e)):SCall Gm 1101 [.ptr id 0 0] h fun v h'=>v=(nxt toks a e).enc∧h'=h:=by
  refine SCall.run [] [] g1101 (by kernel_rfl) rfl ?_;unfold prI at ho;simp only[F1101,vparams,go_sem,ho,Option.map_some,List.length_map];by_cases hlt:a<toks.length
  · have e1:decide ((a:Int)<toks.length)=true:=decide_eq_true (by omega);simp only[e1,go_sem,ho,List.getElem?_map,List.getElem?_eq_getElem hlt,Option.map_some];refine lst_all rfl rfl ⟨_,rfl⟩ (by decide) ?_;simp only[go_sem];exact⟨by simp[nxt,List.getElem?_eq_getElem hlt],trivial⟩
  · have e1:decide ((a:Int)<toks.length)=false:=decide_eq_false (by omega);simp only[e1,go_sem,ho];refine lst_all rfl rfl ⟨_,rfl⟩ (by decide) ?_;simp only[go_sem];exact⟨by simp[nxt,List.getElem?_eq_none (show toks.length≤a by omega),GTok.enc],trivial⟩
theorem n719(ho:h[id]?=some (prI toks a e)):SCallX Gm 719 [.ptr id 0 0] h (fun _ _=>False) fun v h'=>v=synE (nxt toks a e).At∧h'=h:=by
  refine SCallX.run [] [] g719 (by kernel_rfl) rfl ?_;simp only[F719,vparams,go_sem];refine call_hereE rfl (n1101 ho) ?_;simp only[go_sem];exact⟨rfl,rfl,rfl,trivial⟩
theorem n1103{s:Str}(ho:h[id]?=some (prI toks a e)):SCall Gm 1103 [.ptr id 0 0,.str s] h fun v h'=>v=.bool (isI toks a e s)∧h'=h:=by
  refine SCall.run [] [] g1103 (by kernel_rfl) rfl ?_;simp only[F1103,vparams,go_sem];refine call_hereE rfl (n1101 ho) ?_;simp only[go_sem];refine lst_all rfl rfl ⟨_,rfl⟩ (by decide) ?_;simp only[go_sem];by_cases h1:(nxt toks a e).Text=s
  case neg=>
    simp only[decide_eq_false h1,go_sem];exact⟨by simp[isI,h1],trivial⟩
  simp only[decide_eq_true h1,go_sem];by_cases h2:(nxt toks a e).Kind=5
  · simp only[decide_eq_true h2,go_sem];exact⟨by simp[isI,h1,h2],trivial⟩
  · simp only[decide_eq_false h2,go_sem];exact⟨by simp[isI,h1,h2],trivial⟩
theorem isI_lt{s:Str}(hs:s≠[])(q:isI toks a e s=true):a<toks.length:=by
  rcases Nat.lt_or_ge a toks.length with h1 | h1
  · exact h1
  · exfalso;simp only[isI,nxt,List.getElem?_eq_none h1,Option.getD_none,Bool.and_eq_true,decide_eq_true_eq]at q;exact hs q.1.symm
theorem nxtK_lt{k:Int}(hk:k≠0)(q:(nxt toks a e).Kind=k):a<toks.length:=by
  rcases Nat.lt_or_ge a toks.length with h1 | h1
  · exact h1
  · exfalso;simp only[nxt,List.getElem?_eq_none h1,Option.getD_none]at q;exact hk q.symm
theorem n721{s:Str}(ho:h[id]?=some (prI toks a e))(hl:toks.length≤1048576)(hs:s≠[]):SCall Gm 721 [.ptr id 0 0,.str s] h fun v h'=>v=.bool (isI toks a e s)∧h'=if isI toks a e s then h.set id (prI toks (a+1) e)else h:=by
  refine SCall.run [] [] g721 (by kernel_rfl) rfl ?_;simp only[F721,vparams,go_sem];refine call_hereE rfl (n1103 ho) ?_;simp only[go_sem];cases hi:isI toks a e s
  · simp only[Bool.not_false,go_sem];exact⟨trivial,by simp⟩
  · have hlt:=isI_lt hs hi;have ho':=ho;unfold prI at ho';simp only[Bool.not_true,go_sem,ho',Option.map_some];simp only[wrap_succ (show a<4611686018427387904 by omega)];refine sto_ok rfl ho' rfl rfl ?_;simp only[go_sem];exact⟨trivial,rfl⟩
theorem n876{s:Str}(ho:h[id]?=some (prI toks a e))(hl:toks.length≤1048576)(hs:s≠[]):SCallX Gm 876 [.ptr id 0 0,.str s] h (fun _ h'=>isI toks a e s=true∧h'=h.set id (prI toks (a+1) e)) fun v h'=>isI toks a e s=false∧v=synE (nxt toks a e).At∧h'=h:=by
  refine SCallX.run [] [] g876 (by kernel_rfl) rfl ?_;simp only[F876,vparams,go_sem];refine call_hereE rfl (n721 ho hl hs) ?_;simp only[go_sem];cases hi:isI toks a e s
  · simp only[Bool.not_false,Bool.false_eq_true,if_false,go_sem];refine call_hereX ((n719 ho).mono (fun _ _ q=>q.elim) ?_);rintro v h' ⟨rfl,rfl⟩;exact⟨rfl,trivial,rfl,rfl⟩
  · simp only[Bool.not_true,if_true,go_sem];exact⟨trivial,trivial⟩
theorem n875{k:Int}(ho:h[id]?=some (prI toks a e))(hl:toks.length≤1048576)(hk:k≠0):SCallX Gm 875 [.ptr id 0 0,.int .i64 k] h (fun v h'=>(nxt toks a e).Kind=k∧v=.str (nxt toks a e).Text∧h'=h.set id (prI toks (a+1) e)) fun v h'=>(nxt toks a e).Kind≠k∧v=synE (nxt toks a e).At∧h'=h:=by
  refine SCallX.run [] [] g875 (by kernel_rfl) rfl ?_;simp only[F875,vparams,go_sem];refine call_hereE rfl (n1101 ho) ?_;simp only[go_sem];refine lst_all rfl rfl ⟨_,rfl⟩ (by decide) ?_;simp only[go_sem];by_cases hi:(nxt toks a e).Kind=k
  · have hlt:=nxtK_lt hk hi;have ho':=ho;unfold prI at ho';simp only[hi,decide_true,Bool.not_true,go_sem,ho',Option.map_some];simp only[wrap_succ (show a<4611686018427387904 by omega)];refine sto_ok rfl ho' rfl rfl ?_;simp only[go_sem];exact⟨trivial,trivial,rfl⟩
  · simp only[decide_eq_false hi,Bool.not_false,go_sem];refine call_hereX ((n719 ho).mono (fun _ _ q=>q.elim) ?_);rintro v h' ⟨rfl,rfl⟩;exact⟨rfl,hi,rfl,rfl⟩
end
end Go.Ab
namespace Go.Ab
open Go
set_option maxRecDepth 10000
set_option maxHeartbeats 2000000
structure PS(h:List AObj)(id:Nat)(o:AObj)(h':List AObj):Prop where
  at':h'[id]?=some o
  len:h.length≤h'.length
  old:∀j,j≠id→j<h.length→h'[j]?=h[j]?
theorem PS.set{h:List AObj}{id:Nat}{o0 o:AObj}(ho:h[id]?=some o0):PS h id o (h.set id o) where
  at':=by rw[List.getElem?_set_self (List.getElem?_eq_some_iff.1 ho).1]
  len:=by simp
  old:=fun j hj _=>List.getElem?_set_ne (Ne.symm hj)
theorem PS.refl{h:List AObj}{id:Nat}{o:AObj}(ho:h[id]?=some o):PS h id o h:=⟨ho,Nat.le_refl _,fun _ _ _=>rfl⟩
theorem PS.trans{h h1 h2:List AObj}{id:Nat}{o1 o2:AObj}(a:PS h id o1 h1)(b:PS h1 id o2 h2):PS h id o2 h2:=
  ⟨b.at',Nat.le_trans a.len b.len,fun j hj hl=>(b.old j hj (Nat.lt_of_lt_of_le hl a.len)).trans (a.old j hj hl)⟩
theorem PS.push{h h1:List AObj}{id:Nat}{o x:AObj}(a:PS h id o h1):PS h id o (h1++[x]):=
  ⟨by rw[List.getElem?_append_left (List.getElem?_eq_some_iff.1 a.at').1];exact a.at',by have:=a.len;simp;omega,fun j hj hl=>by rw[List.getElem?_append_left (Nat.lt_of_lt_of_le hl a.len)];exact a.old j hj hl⟩
def Bh(b:Nat)(S:List (Option Nat))(h:List AObj):Prop:=∀j,some j∈S→b≤j∧j<h.length
theorem OwnT.ps{S:List (Option Nat)}{h1 h2:List AObj}{id b:Nat}{o:AObj}{v t:AV}(x:OwnT S h1 v t)(hb:Bh b S h1)(hid:id<b)(a:PS h1 id o h2):OwnT S h2 v t∧Bh b S h2:=
  ⟨x.heap fun j hj=>a.old j (by have:=(hb j hj).1;omega) (hb j hj).2,fun j hj=>⟨(hb j hj).1,Nat.lt_of_lt_of_le (hb j hj).2 a.len⟩⟩
theorem OwnT.push{S:List (Option Nat)}{h1:List AObj}{b:Nat}{v t:AV}{y:AObj}(x:OwnT S h1 v t)(hb:Bh b S h1):OwnT S (h1++[y]) v t∧Bh b S (h1++[y]):=
  ⟨x.heap fun j hj=>List.getElem?_append_left (hb j hj).2,fun j hj=>⟨(hb j hj).1,by have:=(hb j hj).2;simp;omega⟩⟩
theorem own_ty{S:List (Option Nat)}{h:List AObj}{k:Int}{n:Str}{v2:AV}{ks:List GType}(x:OwnT S h v2 (.lst 3 (ks.map GType.enc) false)):OwnT S h (.agg [.int .i64 k,.str n,v2]) (GType.mk k n ks).enc:=by
  have h1:=(OwnTs.nil (h:=h)).scal (a:=.int .i64 k) (fun _=>rfl) rfl rfl;have h2:=h1.scal (a:=.str n) (fun _=>rfl) rfl rfl;have h3:=(h2.snoc x (fun j hj=>by cases hj)).agg;rw[GType.enc_eq];exact h3
theorem own_ty0{h:List AObj}{k:Int}{n:Str}:OwnT [none] h (.agg [.int .i64 k,.str n,.nils]) (GType.mk k n []).enc:=own_ty (ks:=[]) (OwnT.nils (c:=false))
theorem own_agg{S:List (Option Nat)}{h:List AObj}{v:AV}{t:GType}(x:OwnT S h v t.enc):∃a b c,v=.agg [a,b,c]:=by
  rw[GType.enc_eq]at x;obtain⟨vs,rfl,y⟩:=x.aggs;have:=y.cnt
  match vs,this with
  |[a,b,c],_=>exact⟨a,b,c,rfl⟩
theorem own_row1{S:List (Option Nat)}{h:List AObj}{b:Nat}{v:AV}{t:GType}(x:OwnT S h v t.enc)(hb:Bh b S h)(hl:b≤h.length):
    OwnT (some h.length::S) (h++[.row 3 [v] true]) (.slice 3 h.length 0 1 false) (.lst 3 ([t].map GType.enc) false)∧Bh b (some h.length::S) (h++[.row 3 [v] true]):=by
  obtain⟨x1,b1⟩:=x.push (y:=.row 3 [v] true) hb;refine⟨x1.one.row (by simp) (fun hj=>by have:=(hb _ hj).2;omega),fun j hj=> ?_⟩;rcases List.mem_cons.1 hj with e | hj
  · cases e;exact⟨hl,by simp⟩
  · exact b1 j hj
theorem own_row2{S S':List (Option Nat)}{h:List AObj}{b c:Nat}{v u:AV}{t r:GType}(x:OwnT S h v t.enc)(y:OwnT S' h u r.enc)(hb:Bh b S h)(hc:Bh c S' h)(hl:b≤h.length)(hl':b≤c)(hbc:∀j,some j∈S→j<c):
    OwnT (some h.length::(S++S')) (h++[.row 3 [v,u] true]) (.slice 3 h.length 0 2 false) (.lst 3 ([t,r].map GType.enc) false)∧Bh b (some h.length::(S++S')) (h++[.row 3 [v,u] true]):=by
  obtain⟨x1,b1⟩:=x.push (y:=.row 3 [v,u] true) hb;obtain⟨y1,c1⟩:=y.push (y:=.row 3 [v,u] true) hc;have z:=x1.one.app y1.one (fun j hj hk=>by have:=hbc j hj;have:=(hc j hk).1;omega);refine⟨z.row (by simp) (fun hj=> ?_),fun j hj=> ?_⟩
  · rcases List.mem_append.1 hj with hj | hj
    · have:=(hb _ hj).2;omega
    · have:=(hc _ hj).2;omega
  · rcases List.mem_cons.1 hj with e | hj
    · cases e;exact⟨hl,by simp⟩
    · rcases List.mem_append.1 hj with hj | hj
      · exact b1 j hj
      · have:=c1 j hj;exact⟨by omega,this.2⟩
def intT:GType:=.mk 1 [] []
def dataT(s:Str):GType:=.mk 2 s []
def funT(a b:GType):GType:=.mk 3 [] [a,b]
def bangT(a:GType):GType:=.mk 4 [] [a]
section
variable {h:List AObj} {a0 a1 a2 b0 b1 b2:AV} {s:Str}
theorem n908:SCall Gm 908 [] h fun v h'=>v=.agg [.int .i64 1,.str [],.nils]∧h'=h:=by
  refine SCall.run [] [] g908 (by kernel_rfl) rfl ?_;simp only[F908,vparams,go_sem];refine lst_all rfl rfl ⟨_,rfl⟩ (by decide) ?_;simp only[go_sem];exact⟨trivial,trivial⟩
theorem n1102:SCall Gm 1102 [.str s] h fun v h'=>v=.agg [.int .i64 2,.str s,.nils]∧h'=h:=by
  refine SCall.run [] [] g1102 (by kernel_rfl) rfl ?_;simp only[F1102,vparams,go_sem];refine lst_all rfl rfl ⟨_,rfl⟩ (by decide) ?_;simp only[go_sem];exact⟨trivial,trivial⟩
theorem n911:SCall Gm 911 [.agg [a0,a1,a2]] h fun v h'=>v=.agg [.int .i64 4,.str [],.slice 3 h.length 0 1 false]∧h'=h++[.row 3 [.agg [a0,a1,a2]] true]:=by
  refine SCall.run [] [] g911 (by kernel_rfl) rfl ?_;simp only[F911,vparams,go_sem];refine lbox_ok rfl ?_;simp only[go_sem];refine bsl_one (v:=.agg [a0,a1,a2]) rfl rfl ?_;simp only[go_sem];refine lst_all rfl rfl ⟨_,rfl⟩ (by decide) ?_;simp only[go_sem];exact⟨trivial,trivial⟩
theorem n722:SCall Gm 722 [.agg [a0,a1,a2],.agg [b0,b1,b2]] h fun v h'=>v=.agg [.int .i64 3,.str [],.slice 3 h.length 0 2 false]∧h'=h++[.row 3 [.agg [a0,a1,a2],.agg [b0,b1,b2]] true]:=by
  refine SCall.run [] [] g722 (by kernel_rfl) rfl ?_;simp only[F722,vparams,go_sem];refine lbox_ok rfl ?_;simp only[go_sem];refine lbox_ok rfl ?_;simp only[go_sem];rw[show fillAV _ 3 _ _=some [.agg [a0,a1,a2],.agg [b0,b1,b2]]from rfl];simp only[go_sem];refine lst_all rfl rfl ⟨_,rfl⟩ (by decide) ?_;simp only[go_sem];exact⟨trivial,trivial⟩
end
end Go.Ab
namespace Go.Ab
open Go
set_option maxRecDepth 10000
set_option maxHeartbeats 2000000
def isP(toks:List GTok)(a:Nat)(s:Str):Bool:=match toks[a]? with
  | some t=>decide (t.Text=s)&&(decide (t.Kind=5) || decide (t.Kind=3))
  | none=>false
theorem isI_isP{toks:List GTok}{a:Nat}{e:Int}{s:Str}(hs:s≠[]):isI toks a e s=isP toks a s:=by
  unfold isI isP nxt;cases h:toks[a]? with
  | none=>
    have:¬([]:Str)=s:=fun q=>hs q.symm;simp[this]
  | some t=>simp
theorem isP_lt{toks:List GTok}{a:Nat}{s:Str}(q:isP toks a s=true):a<toks.length:=by
  rcases Nat.lt_or_ge a toks.length with h1 | h1
  · exact h1
  · rw[isP,List.getElem?_eq_none h1]at q;cases q
def pT(toks:List GTok):Nat→Bool→Nat→Except Nat (GType×Nat)
  | 0,_,a=>.error a
  | f+1,true,a=>if isP toks a [33]then(match pT toks f true (a+1)with
      |.ok (t,b)=>.ok (bangT t,b)
      |.error b=>.error b)
    else if isP toks a [40]then(match pT toks f false (a+1)with
      |.ok (t,b)=>if isP toks b [41]then .ok (t,b+1)else .error b
      |.error b=>.error b)
    else(match toks[a]? with
      | some t=>if t.Kind=2 then .ok (if t.Text=[73,110,116]then intT else dataT t.Text,a+1)else .error a
      | none=>.error a)
  | f+1,false,a=>(match pT toks f true a with
      |.ok (t,b)=>if isP toks b [45,62]then(match pT toks f false (b+1)with
          |.ok (u,c)=>.ok (funT t u,c)
          |.error c=>.error c)
        else .ok (t,b)
      |.error b=>.error b)
def fuelT(toks:List GTok)(flag:Bool)(a:Nat):Nat:=2*(toks.length-a)+(if flag then 1 else 2)
theorem pT_prog{toks:List GTok}:∀(f:Nat)(flag:Bool)(a:Nat){t:GType}{b:Nat},pT toks f flag a=.ok (t,b)→a<b∧b≤toks.length:=by
  intro f
  induction f with
  | zero=>intro flag a t b h;simp[pT]at h
  | succ f ih=>
    intro flag a t b h;cases flag with
    | true=>
      simp only[pT]at h;split at h
      · rename_i h1;have:=isP_lt h1;split at h
        · rename_i h2;have:=ih _ _ h2;cases h;omega
        · cases h
      · split at h
        · rename_i h1;have:=isP_lt h1;split at h
          · rename_i h2;have:=ih _ _ h2;split at h
            · rename_i h3;have:=isP_lt h3;cases h;omega
            · cases h
          · cases h
        · split at h
          · rename_i h1;have:=(List.getElem?_eq_some_iff.1 h1).1;split at h
            · cases h;omega
            · cases h
          · cases h
    | false=>
      simp only[pT]at h;split at h
      · rename_i h2;have:=ih _ _ h2;split at h
        · rename_i h1;have:=isP_lt h1;split at h
          · rename_i h3;have:=ih _ _ h3;cases h;omega
          · cases h
        · cases h;omega
      · cases h
section
variable {id:Nat} {toks:List GTok} {e:Int}
theorem n_typ(hl:toks.length≤1048576):∀(f:Nat)(flag:Bool)(a:Nat)(h:List AObj),fuelT toks flag a≤f→a≤toks.length→h[id]?=some (prI toks a e)→
    SCallX Gm (if flag then 720 else 335) [.ptr id 0 0] h (fun v h'=>∃t b S,pT toks f flag a=.ok (t,b)∧PS h id (prI toks b e) h'∧OwnT S h' v t.enc∧Bh h.length S h') (fun v h'=>∃b,pT toks f flag a=.error b∧v=synE (nxt toks b e).At):=by
  intro f
  induction f with
  | zero=>intro flag a h hf;exfalso;unfold fuelT at hf;cases flag<;>simp at hf
  | succ f ih=>
  intro flag a h hf ha ho;have hid:id<h.length:=(List.getElem?_eq_some_iff.1 ho).1;cases flag with
  | true=>
    refine SCallX.run [] [] g720 (by kernel_rfl) rfl ?_;simp only[F720,vparams,go_sem];refine call_hereE rfl (n721 ho hl (by decide)) ?_;rw[isI_isP (by decide)];simp only[go_sem];cases hb:isP toks a [33]
    case true=>
      have hlt:=isP_lt hb;simp only[if_true,go_sem];refine call_hereX ((ih true (a+1) (h.set id (prI toks (a+1) e)) (by unfold fuelT at hf⊢;simp at hf⊢;omega) (by omega) (by rw[List.getElem?_set_self hid])).mono ?_ ?_)
      · rintro v h1 ⟨t,b,S,q1,q2,q3,q4⟩;obtain⟨x0,x1,x2,rfl⟩:=own_agg q3;simp only[go_sem];refine call_hereE rfl n911 ?_;simp only[go_sem];refine lst_all rfl rfl ⟨_,rfl⟩ (by decide) ?_;simp only[go_sem];rw[List.length_set]at q4;obtain⟨r1,r2⟩:=own_row1 q3 q4 (by have:=q2.len;rw[List.length_set]at this;exact this);refine⟨bangT t,b,_,by simp only[pT,hb,if_true,q1],((PS.set ho).trans q2).push,own_ty r1,r2⟩
      · rintro v h1 ⟨b,q1,rfl⟩;exact⟨rfl,b,by simp only[pT,hb,if_true,q1],rfl⟩
    simp only[Bool.false_eq_true,if_false,go_sem];refine call_hereE rfl (n721 ho hl (by decide)) ?_;rw[isI_isP (by decide)];simp only[go_sem];cases hc:isP toks a [40]
    case true=>
      have hlt:=isP_lt hc;simp only[if_true,go_sem];refine call_hereX ((ih false (a+1) (h.set id (prI toks (a+1) e)) (by unfold fuelT at hf⊢;simp at hf⊢;omega) (by omega) (by rw[List.getElem?_set_self hid])).mono ?_ ?_)
      · rintro v h1 ⟨t,b,S,q1,q2,q3,q4⟩;have hb2:=pT_prog _ _ _ q1;obtain⟨x0,x1,x2,rfl⟩:=own_agg q3;simp only[go_sem];refine lst_all rfl rfl ⟨_,rfl⟩ (by decide) ?_;simp only[go_sem];refine call_hereX ((n876 q2.at' hl (by decide)).mono ?_ ?_)
        · rintro v2 h2 ⟨e1,rfl⟩;rw[isI_isP (by decide)]at e1;simp only[go_sem];refine lst_all rfl rfl ⟨_,rfl⟩ (by decide) ?_;simp only[go_sem];rw[List.length_set]at q4;obtain⟨r1,r2⟩:=q3.ps q4 hid (PS.set q2.at' (o:=prI toks (b+1) e));exact⟨t,b+1,S,by simp only[pT,hb,hc,Bool.false_eq_true,if_false,if_true,q1,e1],((PS.set ho).trans q2).trans (PS.set q2.at'),r1,r2⟩
        · rintro v2 h2 ⟨e1,rfl,rfl⟩;rw[isI_isP (by decide)]at e1;exact⟨rfl,b,by simp only[pT,hb,hc,Bool.false_eq_true,if_false,if_true,q1,e1],rfl⟩
      · rintro v h1 ⟨b,q1,rfl⟩;exact⟨rfl,b,by simp only[pT,hb,hc,Bool.false_eq_true,if_false,if_true,q1],rfl⟩
    simp only[Bool.false_eq_true,if_false,go_sem];refine call_hereX ((n875 ho hl (by decide)).mono ?_ ?_)
    · rintro v h1 ⟨e1,rfl,rfl⟩;have hlt:=nxtK_lt (by decide) e1;have en:nxt toks a e=toks[a]:=by simp[nxt,List.getElem?_eq_getElem hlt]
      rw[en]at e1⊢;simp only[go_sem];by_cases hn:toks[a].Text=[73,110,116]
      · simp only[decide_eq_true hn,Bool.not_true,go_sem];refine call_hereE rfl n908 ?_;simp only[go_sem];refine lst_all rfl rfl ⟨_,rfl⟩ (by decide) ?_;simp only[go_sem];exact⟨intT,a+1,[none],by simp[pT,hb,hc,List.getElem?_eq_getElem hlt,e1,hn],PS.set ho,own_ty0,fun j hj=>by simp at hj⟩
      · simp only[decide_eq_false hn,Bool.not_false,go_sem];refine call_hereE rfl n1102 ?_;simp only[go_sem];refine lst_all rfl rfl ⟨_,rfl⟩ (by decide) ?_;simp only[go_sem];exact⟨dataT toks[a].Text,a+1,[none],by simp[pT,hb,hc,List.getElem?_eq_getElem hlt,e1,hn],PS.set ho,own_ty0,fun j hj=>by simp at hj⟩
    · rintro v h1 ⟨e1,rfl,rfl⟩;refine⟨rfl,a, ?_,rfl⟩;simp only[pT,hb,hc,Bool.false_eq_true,if_false];unfold nxt at e1;split
      · rename_i t ht;rw[ht]at e1;rw[if_neg (by simpa using e1)]
      · rfl
  | false=>
    refine SCallX.run [] [] g335 (by kernel_rfl) rfl ?_;simp only[F335,vparams,go_sem];refine call_hereX ((ih true a h (by unfold fuelT at hf⊢;simp at hf⊢;omega) ha ho).mono ?_ ?_)
    · rintro v h1 ⟨t,b,S,q1,q2,q3,q4⟩;obtain⟨b1,b2⟩:=pT_prog _ _ _ q1;obtain⟨x0,x1,x2,rfl⟩:=own_agg q3;simp only[go_sem];refine lst_all rfl rfl ⟨_,rfl⟩ (by decide) ?_;simp only[go_sem];refine call_hereE rfl (n721 q2.at' hl (by decide)) ?_;rw[isI_isP (by decide)];simp only[go_sem];cases hb:isP toks b [45,62]
      · simp only[Bool.false_eq_true,if_false,go_sem];refine lst_all rfl rfl ⟨_,rfl⟩ (by decide) ?_;simp only[go_sem];exact⟨t,b,S,by simp only[pT,q1,hb,Bool.false_eq_true,if_false],q2,q3,q4⟩
      · have hlt:=isP_lt hb;simp only[if_true,go_sem];have hid1:id<h1.length:=Nat.lt_of_lt_of_le hid q2.len;have q2':=q2.trans (PS.set q2.at' (o:=prI toks (b+1) e));obtain⟨q3',q4'⟩:=q3.ps q4 hid (PS.set q2.at' (o:=prI toks (b+1) e));refine call_hereX ((ih false (b+1) (h1.set id (prI toks (b+1) e)) (by unfold fuelT at hf⊢;simp at hf⊢;omega) (by omega) (by rw[List.getElem?_set_self hid1])).mono ?_ ?_)
        · rintro v2 h2 ⟨u,c,S2,p1,p2,p3,p4⟩;obtain⟨y0,y1,y2,rfl⟩:=own_agg p3;simp only[go_sem];refine call_hereE rfl n722 ?_;simp only[go_sem];refine lst_all rfl rfl ⟨_,rfl⟩ (by decide) ?_;simp only[go_sem];obtain⟨z3,z4⟩:=q3'.ps q4' hid p2;obtain⟨r1,r2⟩:=own_row2 z3 p3 z4 p4 (by have:=q2.len;have:=p2.len;rw[List.length_set]at this;omega) (by have:=q2.len;rw[List.length_set];omega) (fun j hj=>(q4' j hj).2);exact⟨funT t u,c,_,by simp only[pT,q1,hb,if_true,p1],(q2'.trans p2).push,own_ty r1,r2⟩
        · rintro v2 h2 ⟨c,p1,rfl⟩;exact⟨rfl,c,by simp only[pT,q1,hb,if_true,p1],rfl⟩
    · rintro v h1 ⟨b,q1,rfl⟩;exact⟨rfl,b,by simp only[pT,q1],rfl⟩
end
end Go.Ab
namespace Go.Ab
open Go
set_option maxRecDepth 10000
set_option maxHeartbeats 2000000
def okT(k:Int)(n:Str)(l:Nat):Bool:=if k=1 then decide (n=[])&&decide (l=0)else if k=2 then isUp n&&(!decide (n=[73,110,116])&&decide (l=0))else if k=3 then decide (n=[])&&decide (l=2)else if k=4 then decide (n=[])&&decide (l=1)else false
mutual
def GType.shp:GType→Nat×Nat×Bool
  |.mk k n ks=>match GType.shps ks 1 1 with
    | none=>(0,0,false)
    | some (d,s)=>(d,s,okT k n ks.length)
def GType.shps:List GType→Nat→Nat→Option (Nat×Nat)
  |[],d,s=>some (d,s)
  | x::xs,d,s=>match x.shp with
    | (d',s',true)=>GType.shps xs (max d (d'+1)) (s+s')
    | (_,_,false)=>none
end
mutual
def GType.nd:GType→Nat
  |.mk _ _ ks=>1+GType.nds ks
def GType.nds:List GType→Nat
  |[]=>0
  | x::xs=>x.nd+GType.nds xs
end
theorem GType.nds_eq:∀xs,GType.nds xs=sumN GType.nd xs
  |[]=>by simp[GType.nds,sumN]
  | x::xs=>by simp[GType.nds,sumN,GType.nds_eq xs]
theorem GType.nd_eq(x:GType):x.nd=1+sumN GType.nd x.Kids:=by cases x;simp[GType.nd,GType.nds_eq,GType.Kids]
theorem GType.shp_eq(x:GType):x.shp=match GType.shps x.Kids 1 1 with
    | none=>(0,0,false)
    | some (d,s)=>(d,s,okT x.Kind x.Name x.Kids.length):=by cases x;rfl
theorem GType.shps_le{xs:List GType}(ih:∀y∈xs,y.shp.1≤y.shp.2.1∧y.shp.2.1≤y.nd):∀{d s d1 s1:Nat},d≤s→1≤s→GType.shps xs d s=some (d1,s1)→d1≤s1∧s1≤s+sumN GType.nd xs:=by
  induction xs with
  | nil=>intro d s d1 s1 h1 h2 h;simp only[GType.shps,Option.some.injEq,Prod.mk.injEq]at h;obtain⟨rfl,rfl⟩:=h;simp[sumN];exact h1
  | cons x xs ihx=>
    intro d s d1 s1 h1 h2 h;have hx:=ih x (by simp);simp only[GType.shps]at h;split at h
    · rename_i d' s' he;rw[he]at hx;simp only at hx;have:=ihx (fun y hy=>ih y (by simp[hy])) (by omega) (by omega) h;simp only[sumN];omega
    · cases h
theorem GType.shp_le:∀x:GType,x.shp.1≤x.shp.2.1∧x.shp.2.1≤x.nd:=GType.ind fun x ih=>by
  rw[GType.shp_eq,GType.nd_eq];split
  · simp
  · rename_i d s h;have:=GType.shps_le ih (Nat.le_refl _) (Nat.le_refl _) h;simp only;omega
def validT(x:GType):Bool:=x.shp.2.2&&(decide (x.shp.1≤6)&&decide (x.shp.2.1≤16))
theorem c331(x:GType):∀(hb:x.bd)(hn:x.nd≤1048576),Pure Gm 331 [x.enc] (.tup [.int .i64 (x.shp.1:Nat),.int .i64 (x.shp.2.1:Nat),.bool x.shp.2.2]):=by
  induction x using GType.ind with
  | _ x ih=>
  intro hb hn;refine Pure.intro [] [] g331 (by kernel_rfl) rfl (by simp[AV.trees,AV.tree,go_sem]) rfl ?_;simp only[F331,vparams,go_sem];refine lbox_ok GType.ln ?_;simp only[go_sem];rw[GType.nd_eq]at hn;rw[GType.bd_eq]at hb;obtain⟨b1,b2,b3⟩:=hb;have hs:=GType.shp_eq x;have e0:x.Kids.length≤1048576:=by
    have:∀xs:List GType,xs.length≤sumN GType.nd xs:=fun xs=>by
      induction xs with
      | nil=>simp
      | cons y ys ihy=>have:=GType.nd_eq y;simp only[List.length_cons,sumN];omega
    have:=this x.Kids;omega
  refine Sem.loop (fun a:Nat×Nat×Nat=>a.1≤x.Kids.length∧a.2.1≤a.2.2∧1≤a.2.2∧a.2.2+sumN GType.nd (x.Kids.drop a.1)≤1048576∧GType.shps x.Kids 1 1=GType.shps (x.Kids.drop a.1) a.2.1 a.2.2)
    (fun a=>(⟨[(2,.int .i64 (a.2.1:Nat)),(3,.int .i64 (a.2.2:Nat)),(4,.bool false),(11,.lst 3 (x.Kids.map GType.enc) false),(12,.int .i64 x.Kids.length),(13,.int .i64 (a.1:Nat))],[(1,x.enc)],[]⟩:VSt)) (fun a=>x.Kids.length-a.1) (0,1,1) (by kernel_rfl) ⟨Nat.zero_le _,Nat.le_refl _,Nat.le_refl _,by simpa using hn,rfl⟩ (Can.sub (by simp[go_sem]) (by simp[go_sem])) ?_
  rintro⟨i,d,s⟩ ⟨hi,h1,h2,h3,hI⟩;simp only at hi h1 h2 h3 hI;simp only[go_sem];refine cnd_split ?_ ?_<;>intro hc<;>simp only[hc,go_sem]
  · have hlt:i<x.Kids.length:=by have:=of_decide_eq_true hc;omega
    simp only[List.getElem?_map,List.getElem?_eq_getElem hlt,Option.map_some,go_sem];refine lst_all rfl GType.ln (by exact⟨_,GType.enc_eq _⟩) (by decide) ?_;simp only[go_sem];have hm:=List.getElem_mem hlt;have hd:x.Kids.drop i=x.Kids[i]::x.Kids.drop (i+1):=by simp
    rw[hd]at h3;simp only[sumN]at h3;refine call_pure (ih _ hm (b3 _ hm) (by omega)) ?_;simp only[go_sem];have hle:=GType.shp_le x.Kids[i];cases hg:x.Kids[i].shp.2.2
    · simp only[Bool.not_false];simp only[go_sem];refine fin_eqs rfl ?_;have:GType.shps x.Kids 1 1=none:=by
        rw[hI,hd,GType.shps];split
        · rename_i he;rw[he]at hg;cases hg
        · rfl
      rw[hs,this];rfl
    · simp only[Bool.not_true];simp only[go_sem];simp only[wrap_small (n:=((x.Kids[i].shp.1:Nat):Int)+1) (by omega) (by omega),wrap_small (n:=(s:Int)+((x.Kids[i].shp.2.1:Nat):Int)) (by omega) (by omega)];have em:max ((d:Nat):Int) (((x.Kids[i].shp.1:Nat):Int)+1)=((max d (x.Kids[i].shp.1+1):Nat):Int):=by omega
      have es:(s:Int)+((x.Kids[i].shp.2.1:Nat):Int)=((s+x.Kids[i].shp.2.1:Nat):Int):=by omega
      rw[em,es];simp only[wrap_succ (show i<4611686018427387904 by omega)];refine loopQ_nrm (i+1,max d (x.Kids[i].shp.1+1),s+x.Kids[i].shp.2.1) ⟨by simp only;omega,by simp only;omega,by simp only;omega,by simp only;omega, ?_⟩ (by simp only;omega) ?_
      · simp only;rw[hI,hd,GType.shps];split
        · rename_i he;rw[he]
        · rename_i he;rw[he]at hg;cases hg
      · exact Can.sub (by simp[go_sem]) (by simp[go_sem])
  · obtain rfl:i=x.Kids.length:=by have:=of_decide_eq_false hc;omega
    have hk:GType.shps x.Kids 1 1=some (d,s):=by rw[hI];simp[GType.shps]
    rw[hk]at hs;simp only at hs;rw[hs];clear hs hk;have ek:decide (((x.Kids.length:Nat):Int)=0)=decide (x.Kids.length=0):=by rw[decide_eq_decide];omega
    have ek2:decide (((x.Kids.length:Nat):Int)=2)=decide (x.Kids.length=2):=by rw[decide_eq_decide];omega
    have ek1:decide (((x.Kids.length:Nat):Int)=1)=decide (x.Kids.length=1):=by rw[decide_eq_decide];omega
    by_cases k1:x.Kind=1
    · simp only[decide_eq_true k1,go_sem];by_cases q:x.Name=[]
      · simp only[decide_eq_true q,go_sem];exact fin_eqs rfl (by rw[ek];simp[okT,k1,q])
      · simp only[decide_eq_false q,go_sem];exact fin_eqs rfl (by simp[okT,k1,q])
    simp only[decide_eq_false k1,go_sem];by_cases k2:x.Kind=2
    · simp only[decide_eq_true k2,go_sem];refine call_pure (c717 (by omega)) ?_;simp only[go_sem];cases q:isUp x.Name
      · simp only[go_sem];exact fin_eqs rfl (by simp[okT,k2,q])
      · simp only[go_sem];by_cases q2:x.Name=[73,110,116]
        · simp only[decide_eq_true q2,Bool.not_true,go_sem];exact fin_eqs rfl (by simp[okT,k2,q2])
        · simp only[decide_eq_false q2,Bool.not_false,go_sem];exact fin_eqs rfl (by rw[ek];simp[okT,k2,q,q2])
    simp only[decide_eq_false k2,go_sem];by_cases k3:x.Kind=3
    · simp only[decide_eq_true k3,go_sem];by_cases q:x.Name=[]
      · simp only[decide_eq_true q,go_sem];exact fin_eqs rfl (by rw[ek2];simp[okT,k3,q])
      · simp only[decide_eq_false q,go_sem];exact fin_eqs rfl (by simp[okT,k3,q])
    simp only[decide_eq_false k3,go_sem];by_cases k4:x.Kind=4
    · simp only[decide_eq_true k4,go_sem];by_cases q:x.Name=[]
      · simp only[decide_eq_true q,go_sem];exact fin_eqs rfl (by rw[ek1];simp[okT,k4,q])
      · simp only[decide_eq_false q,go_sem];exact fin_eqs rfl (by simp[okT,k4,q])
    simp only[decide_eq_false k4,go_sem];exact fin_eqs rfl (by simp[okT,k1,k2,k3,k4])
theorem c74{x:GType}(hb:x.bd)(hn:x.nd≤1048576):Pure Gm 74 [x.enc] (.bool (validT x)):=by
  refine Pure.intro [] [] g74 (by kernel_rfl) rfl (by simp[AV.trees,AV.tree,go_sem]) rfl ?_;simp only[F74,vparams,go_sem];refine lbox_ok GType.ln ?_;simp only[go_sem];refine call_pure (c331 x hb hn) ?_;simp only[go_sem];have e1:decide (((x.shp.1:Nat):Int)≤6)=decide (x.shp.1≤6):=by rw[decide_eq_decide];omega
  have e2:decide (((x.shp.2.1:Nat):Int)≤16)=decide (x.shp.2.1≤16):=by rw[decide_eq_decide];omega
  cases h1:x.shp.2.2
  · simp only[go_sem];exact fin_eq rfl (by simp[validT,h1])
  · simp only[go_sem,e1];by_cases h2:x.shp.1≤6
    · simp only[decide_eq_true h2,go_sem,e2];exact fin_eq rfl (by simp[validT,h1,h2])
    · simp only[decide_eq_false h2,go_sem];exact fin_eq rfl (by simp[validT,h1,h2])
end Go.Ab
namespace Go.Ab
open Go
set_option maxRecDepth 10000
set_option maxHeartbeats 2000000
theorem Fresh.ofS{Γ:Nat→Option AFn}{g:Nat}{as:List AV}{t:AV}(ht:AV.trees as=true)(hp:t.pl=true)(hs:SCall Γ g as [] fun v h'=>∃S,OwnT S h' v t):Fresh Γ g as t:=by
  unfold Fresh;refine⟨ht,hp,fun hr ar har=> ?_⟩;obtain⟨k,r,hr',ρ',v,h',hx,⟨S,own⟩,g1,g2,g3,_⟩:=hs ρ0 hr ar ⟨(fun i o h=>by simp at h),(fun i j a o o' h=>by cases h),(fun _ _=>rfl),(fun i a h=>by cases h)⟩ har;obtain⟨r1,r2⟩:=renum_ok own.d own.o g1;exact⟨k,r,hr',_,hx,r1,own.v.rel g2,g3.trans r2⟩
def zeroT:GType:=.mk 0 [] []
def parseT(t:Str):GType×Int×Int:=if (tokR t).2.2=0 then
    (match pT (tokR t).1 (fuelT (tokR t).1 false 0) false 0 with
    |.error b=>(zeroT,(nxt (tokR t).1 b t.length).At,6)
    |.ok (ty,b)=>if b<(tokR t).1.length then(zeroT,(nxt (tokR t).1 b t.length).At,6)else if validT ty then(ty,0,0)else(zeroT,0,1))
  else(zeroT,(tokR t).2.1,(tokR t).2.2)
def parseTV(t:Str):AV:=.tup [(parseT t).1.enc,.int .i64 (parseT t).2.1,.int .i64 (parseT t).2.2]
theorem own_res{S:List (Option Nat)}{h:List AObj}{v:AV}{ty:GType}{a c:Int}(x:OwnT S h v ty.enc):OwnT S h (.tup [v,.int .i64 a,.int .i64 c]) (.tup [ty.enc,.int .i64 a,.int .i64 c]):=by
  have h1:=x.one.scal (a:=.int .i64 a) (fun _=>rfl) rfl rfl;have h2:=h1.scal (a:=.int .i64 c) (fun _=>rfl) rfl rfl;exact h2.tup
@[go_sem] theorem lst_ii{E:Ev}{l:List AOper}{ks:List Fr1}{s m:LEnv}{h:List AObj}{Q:AExit→VSt→Prop}{t:Nat}{k k':IntKind}{a b:Int}:Lst E t 0 1 (some (.int k a)) (some (.int k' b)) l ks ⟨s,m,h⟩ Q=R E (.ops l::ks) ⟨s,(t,.int k' b)::m,h⟩ Q:=by
  unfold Lst;simp[AV.put,AV.cells]
@[go_sem] theorem tryQ3_r{E:Ev}{t:ATry}{K:AV→List AObj→Prop}{st:VSt}:tryQ3 E t K .ret st=FinI (resAll (toSt st) t.res) st.h K:=rfl
@[go_sem] theorem tryQ3_n{E:Ev}{t:ATry}{K:AV→List AObj→Prop}{st:VSt}:tryQ3 E t K .nrm st=((∀i∈t.cap,get st.l i≠none)∧get st.s t.d5=none∧R E [.code t.mid] st (nrmQ fun st=>R E [.ops t.l7] st (tryQ5 E t K))):=rfl
@[go_sem] theorem tryQ5_n{E:Ev}{t:ATry}{K:AV→List AObj→Prop}{st:VSt}:tryQ5 E t K .nrm st=R E [.code t.r8] st (nrmQ (tryQ6 E t K)):=rfl
@[go_sem] theorem tryQ5_p{E:Ev}{t:ATry}{K:AV→List AObj→Prop}{st:VSt}{v:AV}:tryQ5 E t K (.pan v) st=tryH E t K v st:=rfl
theorem tryQ6_f{E:Ev}{t:ATry}{K:AV→List AObj→Prop}{st:VSt}(h:ev (toE st.s) t.x=some (.bool false))(hr:R E [.code t.tail] st (finI t.res K)):tryQ6 E t K st:=by
  unfold tryQ6;rw[h];exact hr
theorem tryQ6_t{E:Ev}{t:ATry}{K:AV→List AObj→Prop}{st:VSt}(h:ev (toE st.s) t.x=some (.bool true))(hr:R E [.ops t.l9] st (panQ (tryH E t K))):tryQ6 E t K st:=by
  unfold tryQ6;rw[h];exact hr
theorem tryH_i{E:Ev}{t:ATry}{K:AV→List AObj→Prop}{st:VSt}{T:Nat}{x:AV}(hT:T=t.T)(hl:x.leaf=true)(hr:R E [.code t.hnd] ⟨[(t.nh,x)],capV st.l 0 t.cap,st.h⟩ (nrmQ fun s=>FinI (resAll (toSt s) t.resH) s.h K)):tryH E t K (.iface T x) st:=⟨hT,hl,hr⟩
@[go_sem] theorem capV_nil{l:LEnv}{n:Nat}:capV l n []=[]:=rfl
def capV1(v:Option AV)(n:Nat)(r:LEnv):LEnv:=match v with
  | some v=>(n,v)::r
  | none=>r
@[go_sem] theorem capV1_s{v:AV}{n:Nat}{r:LEnv}:capV1 (some v) n r=(n,v)::r:=rfl
@[go_sem] theorem capV_cons{l:LEnv}{n c:Nat}{r:List Nat}:capV l n (c::r)=capV1 (get l c) n (capV l (n+1) r):=by
  rw[capV];cases get l c<;>rfl
theorem toksF_len{t:Str}:∀(f:Nat){i:Nat}{acc l:List GTok},toksF t f i acc=.ok l→i≤t.length→acc.length≤i→(∀x∈acc,x.Text.length≤t.length)→l.length≤t.length∧∀x∈l,x.Text.length≤t.length
  | 0,i,acc,l,h,hi,ha,hx=>by simp only[toksF,Except.ok.injEq]at h;subst h;exact⟨by omega,hx⟩
  | f+1,i,acc,l,h,hi,ha,hx=>by
    simp only[toksF]at h;split at h
    · rename_i hlt;obtain⟨t1,t2,t3⟩:=tokEnd_le hlt;split at h
      · exact toksF_len f h (by omega) (by omega) hx
      · split at h
        · cases h
        · rename_i hk;have:=t3 hk;refine toksF_len f h (by omega) (by simp;omega) fun x hm=> ?_;rcases List.mem_append.1 hm with hm | hm
          · exact hx x hm
          · simp only[List.mem_singleton]at hm;subst hm;simp only[List.length_take,List.length_drop];omega
    · simp only[Except.ok.injEq]at h;subst h;exact⟨by omega,hx⟩
theorem tokR_both{t:Str}:(tokR t).1.length≤20000∧∀x∈(tokR t).1,x.Text.length≤20000:=by
  unfold tokR;split
  · exact⟨by simp,fun x hx=>by simp at hx⟩
  · rename_i hl;split
    · exact⟨by simp,fun x hx=>by simp at hx⟩
    · rename_i l h;obtain⟨h1,h2⟩:=toksF_len _ h (Nat.zero_le _) (Nat.le_refl _) (fun x hx=>by simp at hx);exact⟨by simp only;omega,fun x hx=>by have:=h2 x hx;omega⟩
theorem tokR_len{t:Str}:(tokR t).1.length≤20000:=tokR_both.1
theorem tokR_txt{t:Str}:∀x∈(tokR t).1,x.Text.length≤20000:=tokR_both.2
theorem pT_bd{toks:List GTok}(hx:∀x∈toks,x.Text.length≤20000):∀(f:Nat)(flag:Bool)(a:Nat){t:GType}{b:Nat},pT toks f flag a=.ok (t,b)→t.bd∧t.nd≤b-a:=by
  intro f
  induction f with
  | zero=>intro flag a t b h;simp[pT]at h
  | succ f ih=>
    intro flag a t b h;have hp:=pT_prog _ _ _ h;cases flag with
    | true=>
      simp only[pT]at h;split at h
      · split at h
        · rename_i t1 b1 h2;obtain⟨i1,i2⟩:=ih _ _ h2;have:=pT_prog _ _ _ h2;cases h;refine⟨by rw[GType.bd_eq];exact⟨by simp[bangT,GType.Name],by simp[bangT,GType.Kids],fun y hy=>by simp[bangT,GType.Kids]at hy;subst hy;exact i1⟩, ?_⟩;rw[GType.nd_eq];simp only[bangT,GType.Kids,sumN];omega
        · cases h
      · split at h
        · split at h
          · rename_i t1 b1 h2;obtain⟨i1,i2⟩:=ih _ _ h2;have:=pT_prog _ _ _ h2;split at h
            · cases h;exact⟨i1,by omega⟩
            · cases h
          · cases h
        · split at h
          · rename_i tk h1;split at h
            · cases h;split
              · exact⟨by rw[GType.bd_eq];exact⟨by simp[intT,GType.Name],by simp[intT,GType.Kids],fun y hy=>by simp[intT,GType.Kids]at hy⟩,by rw[GType.nd_eq];simp only[intT,GType.Kids,sumN];omega⟩
              · exact⟨by rw[GType.bd_eq];exact⟨by have:=hx _ (List.mem_of_getElem? h1);simp only[dataT,GType.Name];omega,by simp[dataT,GType.Kids],fun y hy=>by simp[dataT,GType.Kids]at hy⟩,by rw[GType.nd_eq];simp only[dataT,GType.Kids,sumN];omega⟩
            · cases h
          · cases h
    | false=>
      simp only[pT]at h;split at h
      · rename_i t1 b1 h2;obtain⟨i1,i2⟩:=ih _ _ h2;have:=pT_prog _ _ _ h2;split at h
        · split at h
          · rename_i u c h3;obtain⟨j1,j2⟩:=ih _ _ h3;have:=pT_prog _ _ _ h3;cases h;refine⟨by rw[GType.bd_eq];exact⟨by simp[funT,GType.Name],by simp[funT,GType.Kids],fun y hy=>by simp[funT,GType.Kids]at hy;rcases hy with rfl | rfl;exact i1;exact j1⟩, ?_⟩;rw[GType.nd_eq];simp only[funT,GType.Kids,sumN];omega
          · cases h
        · cases h;exact⟨i1,i2⟩
      · cases h
theorem pls_memT{α:Type}{enc:α→AV}:∀{xs:List α},(∀x∈xs,(enc x).pl=true)→AV.pls (xs.map enc)=true
  |[],_=>rfl
  | x::xs,h=>by simp only[List.map_cons,AV.pls,h x (by simp),pls_memT (xs:=xs) (fun y hy=>h y (by simp[hy])),Bool.and_self]
theorem cns_memT{α:Type}{enc:α→AV}:∀{xs:List α},(∀x∈xs,(enc x).cn=true)→AV.cns (xs.map enc)=true
  |[],_=>rfl
  | x::xs,h=>by simp only[List.map_cons,AV.cns,h x (by simp),cns_memT (xs:=xs) (fun y hy=>h y (by simp[hy])),Bool.and_self]
theorem GType.plx:∀x:GType,x.enc.pl=true:=GType.ind fun x ih=>by
  rw[GType.enc_eq];simp[AV.pl,AV.pls,pls_memT ih]
theorem GType.cnx:∀x:GType,x.enc.cn=true:=GType.ind fun x ih=>by
  rw[GType.enc_eq];simp[AV.cn,AV.cns,cns_memT ih]
theorem c334S{t:Str}:SCall Gm 334 [.str t,.fn 335 [],.fn 74 []] [] fun v h'=>∃S,OwnT S h' v (parseTV t):=by
  refine SCall.try g334 rfl (by kernel_rfl) ?_;simp only[T334,vparams,go_sem];refine call_pure c266 ?_;simp only[go_sem];by_cases hc:(tokR t).2.2=0
  case neg=>
    simp only[decide_eq_false hc,Bool.not_false,go_sem];refine lst_all rfl rfl ⟨_,rfl⟩ (by decide) ?_;simp only[go_sem];have er:parseT t=(zeroT,(tokR t).2.1,(tokR t).2.2):=by rw[parseT,if_neg hc]
    exact⟨[none],by unfold parseTV;rw[er];exact own_res own_ty0⟩
  simp only[decide_eq_true hc,Bool.not_true,go_sem];refine⟨by simp[get],rfl, ?_⟩;refine hbox_ok rfl ?_;simp only[go_sem];have hl:=tokR_len (t:=t);have htx:=tokR_txt (t:=t);have er:parseT t=match pT (tokR t).1 (fuelT (tokR t).1 false 0) false 0 with
    |.error b=>(zeroT,(nxt (tokR t).1 b t.length).At,6)
    |.ok (ty,b)=>if b<(tokR t).1.length then(zeroT,(nxt (tokR t).1 b t.length).At,6)else if validT ty then(ty,0,0)else(zeroT,0,1):=by rw[parseT,if_pos hc]
  generalize (tokR t).1=toks at*;refine call_hereX ((n_typ (toks:=toks) (id:=0) (e:=t.length) (by omega) _ false 0 _ (Nat.le_refl _) (Nat.zero_le _) rfl).mono ?_ ?_)
  · rintro v h1 ⟨ty,b,S,q1,q2,q3,q4⟩;rw[q1]at er;simp only at er;obtain⟨x0,x1,x2,rfl⟩:=own_agg q3;have ho:=q2.at';unfold prI at ho;simp only[go_sem];refine lst_all rfl rfl ⟨_,rfl⟩ (by decide) ?_;simp only[go_sem,ho,Option.map_some,List.length_map];by_cases hlt:b<toks.length
    · rw[if_pos hlt]at er;refine tryQ6_t (congrArg (fun q=>some (AV.bool q)) (decide_eq_true (by omega))) ?_;simp only[go_sem];refine call_hereX ((n719 q2.at').mono (fun _ _ q=>q.elim) ?_);rintro v2 h2 ⟨rfl,rfl⟩;rw[panQ_p];refine tryH_i rfl rfl ?_;simp only[go_sem];refine lst_all rfl rfl ⟨_,rfl⟩ (by decide) ?_;simp only[go_sem];exact⟨[none],by unfold parseTV;rw[er];exact own_res own_ty0⟩
    · rw[if_neg hlt]at er;refine tryQ6_f (congrArg (fun q=>some (AV.bool q)) (decide_eq_false (by omega))) ?_;simp only[go_sem];obtain⟨g1,g2⟩:=pT_bd htx _ _ _ q1;have g3:=(pT_prog _ _ _ q1).2;refine call_lend (vs':=[ty.enc]) (Cvs.cons (q3.cv (GType.cnx ty)) Cvs.nil) (c74 g1 (by omega)) rfl ?_;simp only[go_sem];cases hv:validT ty
      · rw[hv]at er;simp only[Bool.not_false,go_sem];refine lst_all rfl rfl ⟨_,rfl⟩ (by decide) ?_;simp only[go_sem];exact⟨[none],by unfold parseTV;rw[er];exact own_res own_ty0⟩
      · rw[hv]at er;simp only[Bool.not_true,go_sem];refine lst_all rfl rfl ⟨_,rfl⟩ (by decide) ?_;simp only[go_sem];exact⟨S,by unfold parseTV;rw[er];exact own_res q3⟩
  · rintro v h1 ⟨b,q1,rfl⟩;rw[q1]at er;simp only at er;rw[tryQ5_p];refine tryH_i rfl rfl ?_;simp only[go_sem];refine lst_all rfl rfl ⟨_,rfl⟩ (by decide) ?_;simp only[go_sem];exact⟨[none],by unfold parseTV;rw[er];exact own_res own_ty0⟩
theorem parseTV_pl{t:Str}:(parseTV t).pl=true:=by simp[parseTV,AV.pl,AV.pls,GType.plx]
theorem n334{t:Str}:Fresh Gm 334 [.str t,.fn 335 [],.fn 74 []] (parseTV t):=Fresh.ofS rfl parseTV_pl c334S
theorem own_res_shape{S:List (Option Nat)}{h:List AObj}{v:AV}{ty:GType}{a c:Int}(x:OwnT S h v (.tup [ty.enc,.int .i64 a,.int .i64 c])):∃x0 x1 x2,v=.tup [.agg [x0,x1,x2],.int .i64 a,.int .i64 c]:=by
  have q:=x.v;simp only[lay]at q;obtain⟨cs,hcs,p⟩:=q.tups;clear q;rw[GType.enc_eq]at p;simp only[lays,lay]at p;have hl:=p.1
  match cs,hl,p,hcs with
  |[u0,u1,u2],_,p,hcs=>
    obtain⟨p0,p'⟩:=p.hd;obtain⟨p1,p''⟩:=p'.hd;obtain⟨p2,_⟩:=p''.hd;obtain⟨ds,hds,r0⟩:=p0.aggs;have hl:=r0.1;have e1:=p1.int;have e2:=p2.int;subst e1;subst e2;subst hds;subst hcs
    match ds,hl with
    |[y0,y1,y2],_=>exact⟨y0,y1,y2,rfl⟩
theorem n76{t:Str}:Fresh Gm 76 [.str t] (parseTV t):=by
  refine Fresh.ofS rfl parseTV_pl ?_;refine SCall.run [] [] g76 (by kernel_rfl) rfl ?_;simp only[F76,vparams,go_sem];refine call_here (c334S.mono ?_);rintro v h' ⟨S,q⟩;obtain⟨x0,x1,x2,rfl⟩:=own_res_shape (by unfold parseTV at q;exact q);simp only[go_sem];refine lst_all rfl rfl ⟨_,rfl⟩ (by decide) ?_;simp only[go_sem];exact⟨S,q⟩
end Go.Ab
namespace Go.Ab
open Go
set_option maxRecDepth 10000
set_option maxHeartbeats 2000000
theorem c340{n lo hi:Int}:Pure Gm 340 [.int .i64 n,.int .i64 lo,.int .i64 hi] (.bool (decide (lo≤n)&&decide (n≤hi))):=by
  refine Pure.intro [] [] g340 (by kernel_rfl) rfl (by simp[AV.trees,AV.tree,go_sem]) rfl ?_;simp only[F340,vparams,go_sem]
  first | (refine grd_split ?_ ?_<;>intro hc<;>simp only[hc,go_sem]) | (refine cnd_split ?_ ?_<;>intro hc<;>simp only[hc,go_sem])
  · exact fin_eq rfl (by have hq:=of_decide_eq_true hc;simp<;>omega)
  · exact fin_eq rfl (by have hq:=of_decide_eq_false hc;simp<;>omega)
theorem c1440{b:UInt8}:Pure Gm 1440 [.int .u8 (b.toNat:Nat)] (.bool (isSm b || isCap b)):=by
  refine Pure.intro [] [] g1440 (by kernel_rfl) rfl (by simp[AV.trees,AV.tree,go_sem]) rfl ?_;simp only[F1440,vparams,go_sem];by_cases h1:97≤b.toNat
  · have e1:decide ((97:Int)≤(b.toNat:Nat))=true:=decide_eq_true (by omega);simp only[ge_iff_le,e1,go_sem];by_cases h2:b.toNat≤122
    · have e2:decide (((b.toNat:Nat):Int)≤122)=true:=decide_eq_true (by omega);simp only[e2,go_sem];exact fin_eq rfl (by simp[isSm,h1,h2])
    · have e2:decide (((b.toNat:Nat):Int)≤122)=false:=decide_eq_false (by omega);have e3:decide ((65:Int)≤(b.toNat:Nat))=true:=decide_eq_true (by omega);have e4:decide (((b.toNat:Nat):Int)≤90)=false:=decide_eq_false (by omega);simp only[e2,e3,e4,go_sem];exact fin_eq rfl (by simp[isSm,isCap,h2];omega)
  · have e1:decide ((97:Int)≤(b.toNat:Nat))=false:=decide_eq_false (by omega);simp only[ge_iff_le,e1,go_sem];by_cases h2:65≤b.toNat
    · have e2:decide ((65:Int)≤(b.toNat:Nat))=true:=decide_eq_true (by omega);simp only[e2,go_sem];exact fin_eq rfl (by congr 1;rw[Bool.eq_iff_iff];simp[isSm,isCap];omega)
    · have e2:decide ((65:Int)≤(b.toNat:Nat))=false:=decide_eq_false (by omega);simp only[e2,go_sem];exact fin_eq rfl (by simp[isSm,isCap,h1,h2])
theorem c1442{b:UInt8}:Pure Gm 1442 [.int .u8 (b.toNat:Nat)] (.bool (isDig b)):=by
  refine Pure.intro [] [] g1442 (by kernel_rfl) rfl (by simp[AV.trees,AV.tree,go_sem]) rfl ?_;simp only[F1442,vparams,go_sem]
  first | (refine grd_split ?_ ?_<;>intro hc<;>simp only[hc,go_sem]) | (refine cnd_split ?_ ?_<;>intro hc<;>simp only[hc,go_sem])
  · exact fin_eq rfl (by first | (simp[isDig]at hc⊢;omega) | (simp only[decide_eq_true_eq,decide_eq_false_iff_not]at hc;congr 1;rw[Bool.eq_iff_iff];simp[isDig];omega))
  · exact fin_eq rfl (by first | (simp[isDig]at hc⊢;omega) | (simp only[decide_eq_true_eq,decide_eq_false_iff_not]at hc;congr 1;rw[Bool.eq_iff_iff];simp[isDig];omega))
theorem c1513:Pure Gm 1513 [] (.lst 1 (kws.map encS) false):=by
  refine Pure.intro [] [] g1513 (by kernel_rfl) rfl (by simp[AV.trees,AV.tree,go_sem]) rfl ?_;simp only[F1513,vparams,go_sem];rw[show fillAV _ _ _ _=some (kws.map encS)from rfl];simp only[go_sem];exact fin_cv (Cv.row rfl rfl rfl (by decide))
theorem c1441{v:Str}:Pure Gm 1441 [.str v] (.bool (isKw v)):=by
  refine Pure.intro [] [] g1441 (by kernel_rfl) rfl (by simp[AV.trees,AV.tree,go_sem]) rfl ?_;simp only[F1441,vparams,go_sem];have hk:isKw v=kws.any fun x=>v==x:=by simp only[isKw,List.contains_eq_any_beq]
  have h8:kws.length=8:=rfl;refine Sem.loop (fun i:Nat=>i≤kws.length∧(kws.any fun x=>v==x)=((kws.drop i).any fun x=>v==x)) (fun i=>(⟨[(0,.str v),(3,.int .i64 (i:Nat))],[],[]⟩:VSt)) (fun i=>kws.length-i) 0 (by kernel_rfl) ⟨Nat.zero_le _,rfl⟩ (Can.sub (by simp[go_sem]) (by simp[go_sem])) ?_;rintro i ⟨hi,hI⟩;simp only[go_sem];refine call_pure c1513 ?_;simp only[go_sem];by_cases hlt:i<kws.length
  · have e1:decide ((i:Int)<kws.length)=true:=decide_eq_true (by omega);simp only[e1,go_sem];refine call_pure c1513 ?_;simp only[go_sem];simp only[List.getElem?_map,List.getElem?_eq_getElem hlt,Option.map_some,shS.part,encS,go_sem];have hd:kws.drop i=kws[i]::kws.drop (i+1):=by simp
    rw[hd,List.any_cons]at hI;by_cases he:kws[i]=v
    · simp only[decide_eq_true he,go_sem];refine fin_eq rfl ?_;rw[hk,hI,he];simp
    · simp only[decide_eq_false he,go_sem];simp only[wrap_succ (show i<4611686018427387904 by omega)];refine loopQ_nrm (i+1) ⟨by omega, ?_⟩ (by omega) (Can.sub (by simp[go_sem]) (by simp[go_sem]));rw[hI,show (v==kws[i])=false from by simpa using fun q=>he q.symm,Bool.false_or]
  · have e1:decide ((i:Int)<kws.length)=false:=decide_eq_false (by omega);obtain rfl:i=kws.length:=by omega
    simp only[e1,go_sem];refine fin_eq rfl ?_;rw[hk,hI];simp
theorem c1241{v:Str}(hl:v.length≤4611686018427387904):Pure Gm 1241 [.str v] (.bool (isName v)):=by
  refine Pure.intro [] [] g1241 (by kernel_rfl) rfl (by simp[AV.trees,AV.tree,go_sem]) rfl ?_;simp only[F1241,vparams,go_sem];by_cases h0:v.length<1
  · have e0:decide ((v.length:Int)<1)=true:=decide_eq_true (by omega);simp only[e0,go_sem];exact fin_eq rfl (by have:v=[]:=List.length_eq_zero_iff.1 (by omega);subst this;rfl)
  have e0:decide ((v.length:Int)<1)=false:=decide_eq_false (by omega);simp only[e0,go_sem];obtain⟨c,r,hv⟩:∃c r,v=c::r:=by cases v with
    | nil=>simp at h0
    | cons c r=>exact⟨c,r,rfl⟩
  by_cases h12:v.length≤12
  case neg=>
    have e1:decide ((v.length:Int)>12)=true:=decide_eq_true (by omega);simp only[gt_iff_lt]at e1;simp only[e1,go_sem];exact fin_eq rfl (by subst hv;simp only[isName,decide_eq_false h12,Bool.false_and])
  have e1:decide ((v.length:Int)>12)=false:=decide_eq_false (by omega);simp only[gt_iff_lt]at e1;have eh:v[0]?=some c:=by rw[hv];rfl
  simp only[e1,go_sem,eh,Option.map_some];refine call_pure c1440 ?_;simp only[go_sem];cases hd:(isSm c || isCap c)
  case false=>
    simp only[Bool.not_false];simp only[go_sem];refine fin_eq rfl ?_;subst hv;have:isName (c::r)=false:=by
      simp only[isName,List.all_cons,isWB];rw[Bool.or_eq_false_iff]at hd;simp only[hd.1,hd.2,Bool.false_or];cases isDig c<;>simp
    rw[this]
  simp only[Bool.not_true];simp only[go_sem];have hdd:isDig c=false:=by
    rw[Bool.or_eq_true]at hd;rcases hd with hd | hd<;>simp[isSm,isCap,isDig]at hd⊢<;>omega
  refine call_pure c1441 ?_;simp only[go_sem];cases hk:isKw v
  case true=>
    simp only[go_sem];exact fin_eq rfl (by subst hv;simp[isName,hk])
  simp only[go_sem];have hn:isName v=v.all isWB:=by subst hv;simp only[isName,hdd,hk,decide_eq_true h12,Bool.not_false,Bool.true_and]
  refine Sem.loop (fun i:Nat=>i≤v.length∧v.all isWB=(v.drop i).all isWB) (fun i=>(⟨[(0,.str v),(3,.int .i64 (i:Nat))],[],[]⟩:VSt)) (fun i=>v.length-i) 0 (by kernel_rfl) ⟨Nat.zero_le _,rfl⟩ (Can.sub (by simp[go_sem]) (by simp[go_sem])) ?_;rintro i ⟨hi,hI⟩;simp only[go_sem];refine cnd_split ?_ ?_<;>intro hc<;>simp only[hc,go_sem]
  · have hlt:i<v.length:=by have:=of_decide_eq_true hc;omega
    have hq:v.drop i=v[i]::v.drop (i+1):=by simp
    rw[hq,List.all_cons]at hI;simp only[List.getElem?_eq_getElem hlt,Option.map_some];simp only[go_sem];refine call_pure c1440 ?_;simp only[go_sem];cases hw:(isSm v[i] || isCap v[i])
    · simp only[Bool.not_false];simp only[go_sem];simp only[List.getElem?_eq_getElem hlt,Option.map_some];simp only[go_sem];refine call_pure c1442 ?_;simp only[go_sem];have hw2:isWB v[i]=isDig v[i]:=by rw[Bool.or_eq_false_iff]at hw;simp[isWB,hw.1,hw.2]
      cases hw3:isDig v[i]
      · simp only[Bool.not_false];simp only[go_sem];refine fin_eq rfl ?_;rw[hn,hI,hw2,hw3,Bool.false_and]
      · simp only[Bool.not_true];simp only[go_sem];simp only[wrap_succ (show i<4611686018427387904 by omega)];refine loopQ_nrm (i+1) ⟨by omega, ?_⟩ (by omega) (Can.sub (by simp[go_sem]) (by simp[go_sem]));rw[hI,hw2,hw3,Bool.true_and]
    · simp only[Bool.not_true];simp only[go_sem];have hw2:isWB v[i]=true:=by rw[Bool.or_eq_true]at hw;simp only[isWB];rcases hw with hw | hw<;>simp[hw]
      simp only[wrap_succ (show i<4611686018427387904 by omega)];refine loopQ_nrm (i+1) ⟨by omega, ?_⟩ (by omega) (Can.sub (by simp[go_sem]) (by simp[go_sem]));rw[hI,hw2,Bool.true_and]
  · obtain rfl:i=v.length:=by have:=of_decide_eq_false hc;omega
    refine fin_eq rfl ?_;rw[hn,hI];simp
theorem isName_head{c:UInt8}{r:Str}(h:isName (c::r)=true):isSm c=true∨isCap c=true:=by
  simp only[isName,List.all_cons,isWB,Bool.and_eq_true,Bool.or_eq_true,Bool.not_eq_true']at h;obtain⟨_,h1,_,h2,_⟩:=h;rcases h2 with h2 | h2 | h2
  · exact .inl h2
  · exact .inr h2
  · rw[h1]at h2;cases h2
theorem c921{v:Str}(hl:v.length≤4611686018427387904):Pure Gm 921 [.str v] (.bool (isUp v)):=by
  refine Pure.intro [] [] g921 (by kernel_rfl) rfl (by simp[AV.trees,AV.tree,go_sem]) rfl ?_;simp only[F921,vparams,go_sem];refine call_pure (c1241 hl) ?_;simp only[go_sem];cases hn:isName v
  · simp only[go_sem];exact fin_eq rfl (by simp[isUp,hn])
  · cases v with
    | nil=>cases hn
    | cons c r=>
    have hh:=isName_head hn;simp only[List.getElem?_cons_zero,Option.map_some,go_sem];exact fin_eq rfl (by simp only[isUp,hn,List.headD_cons,Bool.true_and];congr 1;rw[Bool.eq_iff_iff];simp[isSm,isCap]at hh⊢;omega)
end Go.Ab
namespace Go.Ab
open Go
def numF(a:Nat)(s:Str):Nat:=s.foldl (fun a c=>10*a+(c.toNat-48)) a
end Go.Ab
namespace Go.Ab
open Go
set_option maxRecDepth 10000
set_option maxHeartbeats 2000000
end Go.Ab
namespace Go.Ab
open Go
set_option maxRecDepth 10000
set_option maxHeartbeats 2000000
end Go.Ab
namespace Go.Ab
open Go
set_option maxRecDepth 10000
set_option maxHeartbeats 2000000
section
variable {h:List AObj} {id a:Nat} {toks:List GTok} {bad:Bool}
end
section
variable {h:List AObj} {a0 a1 a2 b0 b1 b2:AV} {s:Str}
theorem n328:SCall Gm 328 [] h fun v h'=>v=.agg [.int .i64 1,.str [],.nils]∧h'=h:=by
  refine SCall.run [] [] g328 (by kernel_rfl) rfl ?_;simp only[F328,vparams,go_sem];refine lst_all rfl rfl ⟨_,rfl⟩ (by decide) ?_;simp only[go_sem];exact⟨trivial,trivial⟩
theorem n329:SCall Gm 329 [.str s] h fun v h'=>v=.agg [.int .i64 2,.str s,.nils]∧h'=h:=by
  refine SCall.run [] [] g329 (by kernel_rfl) rfl ?_;simp only[F329,vparams,go_sem];refine lst_all rfl rfl ⟨_,rfl⟩ (by decide) ?_;simp only[go_sem];exact⟨trivial,trivial⟩
theorem n326:SCall Gm 326 [.agg [a0,a1,a2]] h fun v h'=>v=.agg [.int .i64 4,.str [],.slice 3 h.length 0 1 false]∧h'=h++[.row 3 [.agg [a0,a1,a2]] true]:=by
  refine SCall.run [] [] g326 (by kernel_rfl) rfl ?_;simp only[F326,vparams,go_sem];refine lbox_ok rfl ?_;simp only[go_sem];refine bsl_one (v:=.agg [a0,a1,a2]) rfl rfl ?_;simp only[go_sem];refine lst_all rfl rfl ⟨_,rfl⟩ (by decide) ?_;simp only[go_sem];exact⟨trivial,trivial⟩
theorem n327:SCall Gm 327 [.agg [a0,a1,a2],.agg [b0,b1,b2]] h fun v h'=>v=.agg [.int .i64 3,.str [],.slice 3 h.length 0 2 false]∧h'=h++[.row 3 [.agg [a0,a1,a2],.agg [b0,b1,b2]] true]:=by
  refine SCall.run [] [] g327 (by kernel_rfl) rfl ?_;simp only[F327,vparams,go_sem];refine lbox_ok rfl ?_;simp only[go_sem];refine lbox_ok rfl ?_;simp only[go_sem];rw[show fillAV _ 3 _ _=some [.agg [a0,a1,a2],.agg [b0,b1,b2]]from rfl];simp only[go_sem];refine lst_all rfl rfl ⟨_,rfl⟩ (by decide) ?_;simp only[go_sem];exact⟨trivial,trivial⟩
end
section
variable {id:Nat} {toks:List GTok}
end
end Go.Ab
namespace Go.Ab
open Go
set_option maxRecDepth 10000
set_option maxHeartbeats 2000000
mutual
def GType.nod:GType→Nat→Option Nat
  |.mk k n ks,d=>if d=0 then none else if okT k n ks.length then GType.nods ks (d-1) 1 else none
def GType.nods:List GType→Nat→Nat→Option Nat
  |[],_,s=>some s
  | x::xs,d,s=>match x.nod d with
    | none=>none
    | some k=>GType.nods xs d (s+k)
end
theorem GType.nod_eq(x:GType)(d:Nat):x.nod d=if d=0 then none else if okT x.Kind x.Name x.Kids.length then GType.nods x.Kids (d-1) 1 else none:=by cases x;rw[GType.nod];rfl
theorem GType.shps_ge:∀{xs:List GType}{d s d1 s1:Nat},GType.shps xs d s=some (d1,s1)→d≤d1
  |[],d,s,d1,s1,h=>by simp only[GType.shps,Option.some.injEq,Prod.mk.injEq]at h;omega
  | x::xs,d,s,d1,s1,h=>by
    simp only[GType.shps]at h;split at h
    · have:=GType.shps_ge h;omega
    · cases h
theorem GType.nods_shps{e:Nat}:∀{xs:List GType},(∀y∈xs,y.nod e=if y.shp.2.2=true∧y.shp.1≤e then some y.shp.2.1 else none)→∀{d s:Nat},d≤e+1→
    GType.nods xs e s=match GType.shps xs d s with
      | none=>none
      | some (d1,s1)=>if d1≤e+1 then some s1 else none
  |[],_,d,s,hd=>by simp[GType.nods,GType.shps,hd]
  | x::xs,ih,d,s,hd=>by
    have hx:=ih x (by simp);have hxs:=fun(d s:Nat)(q:d≤e+1)=>GType.nods_shps (xs:=xs) (fun y hy=>ih y (by simp[hy])) (d:=d) (s:=s) q;simp only[GType.nods,GType.shps,hx];generalize x.shp=p;obtain⟨d',s',ok⟩:=p;cases ok with
    | false=>simp
    | true=>
      simp only[true_and];by_cases h:d'≤e
      · rw[if_pos h];exact hxs _ _ (by omega)
      · rw[if_neg h];cases hq:GType.shps xs (max d (d'+1)) (s+s')with
        | none=>rfl
        | some p=>
          obtain⟨d1,s1⟩:=p;have:=GType.shps_ge hq;simp only;rw[if_neg (by omega)]
theorem GType.nod_shp:∀(x:GType)(d:Nat),x.nod d=if x.shp.2.2=true∧x.shp.1≤d then some x.shp.2.1 else none:=GType.ind fun x ih d=>by
  rw[GType.nod_eq,GType.shp_eq];cases d with
  | zero=>
    rw[if_pos rfl];split
    · simp
    · rename_i d1 s1 h;have:=GType.shps_ge h;rw[if_neg (fun q=>by simp only at q;omega)]
  | succ e=>
    rw[if_neg (by omega),Nat.add_sub_cancel];rw[GType.nods_shps (fun y hy=>ih y hy e) (show 1≤e+1 by omega)];cases GType.shps x.Kids 1 1 with
    | none=>simp
    | some p=>
      obtain⟨d1,s1⟩:=p;simp only;cases okT x.Kind x.Name x.Kids.length<;>simp
def nodI:Option Nat→Int
  | none=> -1
  | some n=>n
theorem valid_nod(x:GType):validT x=(decide (1≤nodI (x.nod 6))&&decide (nodI (x.nod 6)≤16)):=by
  rw[GType.nod_shp,validT];have h1:∀y:GType,y.shp.2.2=true→1≤y.shp.2.1:=fun y hy=>by
    rw[GType.shp_eq]at hy⊢;split
    · rename_i q;rw[q]at hy;cases hy
    · rename_i d s h;have:∀{xs:List GType}{d s d1 s1:Nat},GType.shps xs d s=some (d1,s1)→s≤s1:=by
        intro xs
        induction xs with
        | nil=>intro d s d1 s1 h;simp only[GType.shps,Option.some.injEq,Prod.mk.injEq]at h;omega
        | cons z zs ihz=>
          intro d s d1 s1 h;simp only[GType.shps]at h;split at h
          · have:=ihz h;omega
          · cases h
      exact this h
  by_cases a:x.shp.2.2=true
  · have:=h1 x a;by_cases b:x.shp.1≤6
    · rw[if_pos ⟨a,b⟩,a,decide_eq_true b];have e1:decide (1≤nodI (some x.shp.2.1))=true:=decide_eq_true (by simp only[nodI];omega);rw[e1,Bool.true_and,Bool.true_and,Bool.true_and,decide_eq_decide];simp only[nodI];omega
    · rw[if_neg (fun q=>b q.2),decide_eq_false b];simp[nodI]
  · rw[if_neg (fun q=>a q.1)];simp[nodI,a]
theorem GType.nod_le{x:GType}{d n:Nat}(h:x.nod d=some n):n≤x.nd:=by
  rw[GType.nod_shp]at h;split at h
  · cases h;exact(GType.shp_le x).2
  · cases h
theorem c541(x:GType):∀(d:Nat)(hd:d≤6)(hb:x.bd)(hn:x.nd≤1048576),Pure Gm 541 [x.enc,.int .i64 (d:Nat)] (.int .i64 (nodI (x.nod d))):=by
  induction x using GType.ind with
  | _ x ih=>
  intro d hd hb hn;refine Pure.intro [] [] g541 (by kernel_rfl) rfl (by simp[AV.trees,AV.tree,go_sem]) rfl ?_;simp only[F541,vparams,go_sem];refine lbox_ok GType.ln ?_;simp only[go_sem];have er:=GType.nod_eq x d;rw[GType.nd_eq]at hn;rw[GType.bd_eq]at hb;obtain⟨b1,b2,b3⟩:=hb;by_cases h0:d=0
  · have e0:decide (((d:Nat):Int)<1)=true:=decide_eq_true (by omega);simp only[e0,go_sem];exact fin_eq rfl (by rw[er,if_pos h0];rfl)
  have e0:decide (((d:Nat):Int)<1)=false:=decide_eq_false (by omega);simp only[e0,go_sem];rw[if_neg h0]at er;have e1:x.Kids.length≤1048576:=by
    have:∀xs:List GType,xs.length≤sumN GType.nd xs:=fun xs=>by
      induction xs with
      | nil=>simp
      | cons y ys ihy=>have:=GType.nd_eq y;simp only[List.length_cons,sumN];omega
    have:=this x.Kids;omega
  have z1:decide (((x.Kids.length:Nat):Int)=0)=decide (x.Kids.length=0):=by rw[decide_eq_decide];omega
  have z2:decide (((x.Kids.length:Nat):Int)=2)=decide (x.Kids.length=2):=by rw[decide_eq_decide];omega
  have z3:decide (((x.Kids.length:Nat):Int)=1)=decide (x.Kids.length=1):=by rw[decide_eq_decide];omega
  cases hok:okT x.Kind x.Name x.Kids.length
  · have bad:AV.int .i64 (-1)=.int .i64 (nodI (x.nod d)):=by rw[er,hok];rfl
    by_cases k1:x.Kind=1
    · have k2:¬x.Kind=2:=by omega
      simp only[decide_eq_true k1,decide_eq_false k2,go_sem,z1];by_cases q:x.Kids.length=0
      · simp only[decide_eq_true q,Bool.not_true,Bool.not_false,go_sem];by_cases q2:x.Name=[]
        · simp[okT,k1,q,q2]at hok
        · simp only[decide_eq_false k2,decide_eq_false q2,Bool.not_false,go_sem];exact fin_eq rfl bad
      · simp only[decide_eq_false q,Bool.not_false,go_sem];exact fin_eq rfl bad
    simp only[decide_eq_false k1,go_sem];by_cases k2:x.Kind=2
    · simp only[decide_eq_true k2,go_sem];refine call_pure (c921 (by omega)) ?_;simp only[go_sem];cases q:isUp x.Name
      · simp only[Bool.not_false,go_sem];exact fin_eq rfl bad
      · simp only[Bool.not_true,go_sem];by_cases q2:x.Name=[73,110,116]
        · simp only[decide_eq_true q2,go_sem];exact fin_eq rfl bad
        · simp only[decide_eq_false q2,go_sem,z1];by_cases q3:x.Kids.length=0
          · simp[okT,k2,q,q2,q3]at hok
          · simp only[decide_eq_false q3,Bool.not_false,go_sem];exact fin_eq rfl bad
    simp only[decide_eq_false k2,go_sem];by_cases k3:x.Kind=3
    · simp only[decide_eq_true k3,go_sem,z2];by_cases q:x.Kids.length=2
      · simp only[decide_eq_true q,decide_eq_false k2,Bool.not_true,Bool.not_false,go_sem];by_cases q2:x.Name=[]
        · simp[okT,k3,q,q2]at hok
        · simp only[decide_eq_false q2,Bool.not_false,go_sem];exact fin_eq rfl bad
      · simp only[decide_eq_false q,Bool.not_false,go_sem];exact fin_eq rfl bad
    simp only[decide_eq_false k3,go_sem];by_cases k4:x.Kind=4
    · simp only[decide_eq_true k4,go_sem,z3];by_cases q:x.Kids.length=1
      · simp only[decide_eq_true q,decide_eq_false k2,Bool.not_true,Bool.not_false,go_sem];by_cases q2:x.Name=[]
        · simp[okT,k4,q,q2]at hok
        · simp only[decide_eq_false q2,Bool.not_false,go_sem];exact fin_eq rfl bad
      · simp only[decide_eq_false q,Bool.not_false,go_sem];exact fin_eq rfl bad
    simp only[decide_eq_false k4,go_sem];exact fin_eq rfl bad
  rw[if_pos hok]at er;have four:(x.Kind=1∧x.Name=[]∧x.Kids.length=0)∨(x.Kind=2∧isUp x.Name=true∧¬x.Name=[73,110,116]∧x.Kids.length=0)∨(x.Kind=3∧x.Name=[]∧x.Kids.length=2)∨(x.Kind=4∧x.Name=[]∧x.Kids.length=1):=by
    unfold okT at hok;split at hok
    · rename_i k;simp at hok;exact .inl ⟨k,hok.1,by simp[hok.2]⟩
    · split at hok
      · rename_i k;simp at hok;exact .inr (.inl ⟨k,hok.1,hok.2.1,by simp[hok.2.2]⟩)
      · split at hok
        · rename_i k;simp at hok;exact .inr (.inr (.inl ⟨k,hok.1,hok.2⟩))
        · split at hok
          · rename_i k;simp at hok;exact .inr (.inr (.inr ⟨k,hok.1,hok.2⟩))
          · cases hok
  rcases four with⟨k,q1,q2⟩ | ⟨k,q1,q2,q3⟩ | ⟨k,q1,q2⟩ | ⟨k,q1,q2⟩
  case' inl=>
    have k2:¬x.Kind=2:=by omega
    simp only[decide_eq_true k,decide_eq_false k2,go_sem,z1,decide_eq_true q1,decide_eq_true q2,Bool.not_true,Bool.not_false]
  case' inr.inl=>
    have k1:¬x.Kind=1:=by omega
    simp only[decide_eq_false k1,decide_eq_true k,go_sem];refine call_pure (c921 (by omega)) ?_;simp only[q1,go_sem,decide_eq_false q2,z1,decide_eq_true q3,Bool.not_true,decide_eq_true k]
  case' inr.inr.inl=>
    have k1:¬x.Kind=1:=by omega
    have k2:¬x.Kind=2:=by omega
    simp only[decide_eq_false k1,decide_eq_false k2,decide_eq_true k,go_sem,z2,decide_eq_true q1,decide_eq_true q2,Bool.not_true,Bool.not_false]
  case' inr.inr.inr=>
    have k1:¬x.Kind=1:=by omega
    have k2:¬x.Kind=2:=by omega
    have k3:¬x.Kind=3:=by omega
    simp only[decide_eq_false k1,decide_eq_false k2,decide_eq_false k3,decide_eq_true k,go_sem,z3,decide_eq_true q1,decide_eq_true q2,Bool.not_true,Bool.not_false]
  all_goals
    refine Sem.loop (fun a:Nat×Nat=>a.1≤x.Kids.length∧a.2+sumN GType.nd (x.Kids.drop a.1)≤1048576∧GType.nods x.Kids (d-1) 1=GType.nods (x.Kids.drop a.1) (d-1) a.2)
      (fun a=>(⟨[(1,.int .i64 (d:Nat)),(6,.int .i64 (a.2:Nat)),(7,.int .i64 (a.1:Nat))],[(2,x.enc)],[]⟩:VSt)) (fun a=>x.Kids.length-a.1) (0,1) (by kernel_rfl) ⟨Nat.zero_le _,by simpa using hn,rfl⟩ (Can.sub (by simp[go_sem]) (by simp[go_sem])) ?_
    rintro⟨i,s⟩ ⟨hi,h3,hI⟩;simp only at hi h3 hI;simp only[go_sem];by_cases hlt:i<x.Kids.length
    · have e2:decide ((i:Int)<(x.Kids.length:Nat))=true:=decide_eq_true (by omega);have hm:=List.getElem_mem hlt;have hdr:x.Kids.drop i=x.Kids[i]::x.Kids.drop (i+1):=by simp
      rw[hdr]at h3 hI;simp only[sumN]at h3;have e3:((d:Nat):Int)-1=((d-1:Nat):Int):=by omega
      simp only[e2,go_sem,List.getElem?_map,List.getElem?_eq_getElem hlt,Option.map_some,wrap_small (n:=((d:Nat):Int)-1) (by omega) (by omega)];rw[e3];refine call_pure (ih _ hm (d-1) (by omega) (b3 _ hm) (by omega)) ?_;simp only[go_sem];rw[GType.nods]at hI;cases hk:x.Kids[i].nod (d-1)with
      | none=>
        rw[hk]at hI;simp only at hI;have e4:decide (nodI none<0)=true:=rfl;simp only[e4,go_sem];exact fin_eq rfl (by rw[er,hI];rfl)
      | some n=>
        rw[hk]at hI;simp only at hI;have hnl:=GType.nod_le hk;have e4:decide (nodI (some n)<0)=false:=decide_eq_false (by simp only[nodI];omega);have e5:(s:Int)+nodI (some n)=((s+n:Nat):Int):=by simp only[nodI];omega
        simp only[e4,e5,go_sem,wrap_small (n:=((s+n:Nat):Int)) (by omega) (by omega),wrap_succ (show i<4611686018427387904 by omega)];exact loopQ_nrm (i+1,s+n) ⟨by simp only;omega,by simp only;omega,hI⟩ (by simp only;omega) (Can.sub (by simp[go_sem]) (by simp[go_sem]))
    · have e2:decide ((i:Int)<(x.Kids.length:Nat))=false:=decide_eq_false (by omega);obtain rfl:i=x.Kids.length:=by omega
      simp only[e2,go_sem];refine fin_eq rfl ?_;rw[er,hI];simp[GType.nods,nodI]
theorem c208{x:GType}(hb:x.bd)(hn:x.nd≤1048576):Pure Gm 208 [x.enc] (.bool (validT x)):=by
  refine Pure.intro [] [] g208 (by kernel_rfl) rfl (by simp[AV.trees,AV.tree,go_sem]) rfl ?_;simp only[F208,vparams,go_sem];refine lbox_ok GType.ln ?_;simp only[go_sem];refine call_pure (c541 x 6 (by decide) hb hn) ?_;simp only[go_sem];refine call_pure c340 ?_;simp only[go_sem];exact fin_eq rfl (by rw[valid_nod])
end Go.Ab
namespace Go.Ab
open Go
set_option maxRecDepth 10000
set_option maxHeartbeats 2000000
section
variable {h:List AObj} {id a:Nat} {toks:List GTok} {bad:Bool} {t:Str}
end
end Go.Ab
namespace Go.Ab
open Go
set_option maxRecDepth 10000
set_option maxHeartbeats 2000000
def B2s(E:Ev)(d:Option Nat)(v:Option AV)(l:List AOper)(ks:List Fr1)(st:VSt)(Q:AExit→VSt→Prop):Prop:=match v with
  | some v=>(v=.nils∨wOf v=some 1)∧(match elemsOf (toH st.h) v with
      | some el=>∃a:List UInt8,el=(a.map fun b:UInt8=>AV.int .u8 b.toNat)∧R E (.ops l::ks) (st.put d (.str a)) Q
      | none=>False)
  | none=>False
section
variable {E:Ev} {i:Nat} {d:Option Nat} {g:Option (Nat×Bool)} {x:Ao} {ck l:List AOper} {ks:List Fr1} {s m:LEnv} {h:List AObj} {Q:AExit→VSt→Prop}
@[go_sem] theorem go_b2s:Go1 E (.mk i d g (.b2s x) ck) l ks ⟨s,m,h⟩ Q=B2s E d (ev (toE s) x) l ks ⟨s,m,h⟩ Q:=by
  unfold Go1 xrun xstep B2s;cases hq:ev (toE s) x<;>simp[AOper.o,AOper.d,AOp.isCall,AOper.apC,AOp.isApp,hq]<;>exact fun _=>Iff.rfl
end
end Go.Ab
namespace Go.Ab
open Go
set_option maxRecDepth 10000
set_option maxHeartbeats 2000000
theorem GType.layE(x:GType)(n:Nat):lay x.enc n=(.agg [.int .i64 x.Kind,.str x.Name,.slice 3 (n) 0 x.Kids.length false],(lay (.lst 3 (x.Kids.map GType.enc) false) (n)).2++[]):=by
  rw[GType.enc_eq];simp[lay,lays,lays_len,AV.rows,Nat.add_assoc,Nat.add_comm,Nat.add_left_comm]
def GType.ct(x:GType):Nat:=2*x.nd
end Go.Ab
namespace Go.Ab
open Go
set_option maxRecDepth 10000
set_option maxHeartbeats 2000000
theorem layPT{t:Str}{n:Nat}:lay (parseTV t) n=(.tup [(lay (parseT t).1.enc n).1,.int .i64 (parseT t).2.1,.int .i64 (parseT t).2.2],(lay (parseT t).1.enc n).2):=by simp[parseTV,lay,lays]
theorem layTp(x:GType)(n:Nat):(lay x.enc n).1.part 0 (some 3)=some (lay x.enc n).1:=lay_part (GType.plx x) ⟨_,GType.enc_eq x⟩ (by rw[GType.ln])
theorem layTl(x:GType)(n:Nat):(lay x.enc n).1.cells.length=3:=by rw[lay_cellsLen (GType.plx x)];exact GType.ln
theorem layTa(x:GType)(n:Nat):∃cs,(lay x.enc n).1=.agg cs:=⟨_,congrArg Prod.fst (GType.layE x n)⟩
end Go.Ab
namespace Go.Ab
open Go
set_option maxRecDepth 10000
set_option maxHeartbeats 2000000
def encY(n:Int):AV:=.int .u8 n
theorem shY:Sh encY 1 none:=⟨fun _=>rfl,fun _=>rfl,fun _=>rfl,by decide,fun _=>by simp[encY]⟩
def OkB(bytes:List Int):Prop:=∀b∈bytes,0≤b∧b≤255
theorem lt_some{α:Type}{xs:List α}{i:Nat}{x:α}(h:xs[i]?=some x):i<xs.length:=(List.getElem?_eq_some_iff.1 h).1
def shf2(op:BinOp):Option AV→Option AV→Option AV
  | some (.int k a),some (.int _ b)=>shOp op k a b
  | _,_=>none
section
variable {E:Ev} {ks:List Fr1} {s m:LEnv} {h:List AObj} {Q:AExit→VSt→Prop} {l:List AOper} {i:Nat} {d:Option Nat} {g:Option (Nat×Bool)} {ck:List AOper} {x y:Ao} {op:BinOp}
@[go_sem] theorem go_shft:Go1 E (.mk i d g (.shft op x y) ck) l ks ⟨s,m,h⟩ Q=Put E (shf2 op (ev (toE s) x) (ev (toE s) y)) d l ks ⟨s,m,h⟩ Q:=by
  rw[go1_val rfl fun _=>rfl];congr 1
@[go_sem] theorem shf2_i{k k':IntKind}{a b:Int}:shf2 op (some (.int k a)) (some (.int k' b))=shOp op k a b:=nr rfl
end
theorem shr_I{k:IntKind}{a b:Int}(h0:0≤b):shOp .shr k a b=some (.int k (a.fdiv (2^(min b.toNat k.bits)))):=by unfold shOp;rw[if_neg (by omega)]
theorem and_I{a c:Int}(hc:0≤c∧c<9223372036854775808):∃o:Int,intOp .and .u64 a c=some (.int .u64 o)∧0≤o∧o≤c:=by
  refine⟨_,rfl, ?_⟩;have h1:(BitVec.ofInt IntKind.u64.bits a&&&BitVec.ofInt IntKind.u64.bits c).toNat≤c.toNat:=by
    rw[BitVec.toNat_and];refine Nat.le_trans Nat.and_le_right ?_;rw[BitVec.toNat_ofInt];show (c%((2^64:Nat):Int)).toNat≤_;omega
  rw[IntWalk.u64_in _ (by omega)];omega
theorem idx1{id n i:Nat}(h:i<n):idx 1 (some (.slice 1 id 0 n false)) (some (.int .i64 (i:Nat)))=some (.ptr id i 0):=by simp[idx];omega
def srcV(bytes:List Int)(p:Nat)(seed:Int):AV:=.agg [.lst 1 (bytes.map encY) false,.int .i64 (p:Nat),.int .u64 seed]
section
variable {bytes:List Int} {sid p:Nat} {seed:Int} {h:List AObj} {K:AV→List AObj→Prop}
theorem s773(hb:∀b∈bytes,0≤b∧b≤255)(hs:h[sid]?=some (.row 3 [srcV bytes p seed] true))(hp:p<4611686018427387904)
    (hK:∀v seed',0≤v→v≤255→K (.int .i64 v) (h.set sid (.row 3 [srcV bytes (p+1) seed'] true))):SCall Gm 773 [.ptr sid 0 0] h K:=by
  unfold srcV at hs;have hl:=lt_some hs;refine SCall.run [] [] g773 (by kernel_rfl) rfl ?_;simp only[F773,vparams,hs,List.length_map,go_sem];have e1:IntKind.i64.wrap ((p:Int)+1)=((p+1:Nat):Int):=wrap_succ hp;have tail:∀(s':LEnv)(x:Int),0≤x→x≤255→get s' 0=some (.ptr sid 0 0)→get s' 3=some (.int .i64 x)→
      R ⟨Gm,h.length,[],[]⟩ [.ops F773_r2,.code ((ACode.reg true F773_r3).seq (((ACode.reg true F773_r4).seq (ACode.cond (.t 53) ((ACode.reg true [.mk 0 (some 54) none (.mov (.t 3)) [],.mk 1 (some 2) none (.mov (.t 54)) []]).seq .ret) .skip)).seq ((ACode.reg true F773_r5).seq .ret)))] ⟨s',[],h⟩ (finI [.t 2] K):=by
    intro s' x x0 x1 g0 g3;rw[F773_r2_r];simp only[g0,g3,hs,e1,go_sem];refine sto_ok (e':=.agg [.lst 1 (bytes.map encY) false,.int .i64 ((p+1:Nat):Int),.int .u64 seed]) rfl hs rfl rfl ?_;simp only[List.set_cons_zero,List.getElem?_set_self hl,g0,g3,List.length_map,go_sem];refine sto_ok (e':=.agg [.lst 1 (bytes.map encY) false,.int .i64 ((p+1:Nat):Int),.int .u64 (IntKind.u64.wrap (IntKind.u64.wrap (IntKind.u64.wrap (seed*6364136223846793005)+IntKind.u64.wrap x)+1442695040888963407))]) rfl (List.getElem?_set_self hl) rfl rfl ?_;generalize IntKind.u64.wrap (IntKind.u64.wrap (IntKind.u64.wrap (seed*6364136223846793005)+IntKind.u64.wrap x)+1442695040888963407)=w;have hK2:=fun v q1 q2=>hK v w q1 q2;unfold srcV at hK2;simp only[List.set_cons_zero,List.set_set,List.getElem?_set_self hl,g0,g3,List.length_map,go_sem];refine cnd_split ?_ ?_<;>intro hc<;>simp only[hc,go_sem]
    · try simp only[g0,g3,go_sem]
      exact hK2 x x0 x1
    · simp only[g0,g3,List.getElem?_set_self hl,shr_I (show (0:Int)≤40 by decide),go_sem];obtain⟨o,e,o1,o2⟩:=and_I (a:=w.fdiv (2^(min (40:Int).toNat 64))) (c:=255) (by decide);simp only[e,go_sem];rw[wrap_small (by omega) (by omega)];exact hK2 o o1 o2
  revert tail;generalize F773_r2=r2;intro tail;refine cnd_split ?_ ?_<;>intro hc<;>simp only[hc,go_sem]
  · have hlt:p<bytes.length:=by have:=of_decide_eq_true hc;omega
    have hbb:=hb _ (List.getElem_mem hlt);simp only[hs,List.length_map,List.getElem?_map,List.getElem?_eq_getElem hlt,Option.map_some,encY,go_sem];refine tail _ bytes[p] hbb.1 hbb.2 ?_ ?_
    · simp only[go_sem]
    · simp only[go_sem];rw[wrap_small (by omega) (by omega)]
  · refine tail _ 0 (by omega) (by omega) ?_ ?_<;>simp only[go_sem]
def SR(bytes:List Int)(sid B:Nat)(h:List AObj):Prop:=∃(p:Nat)(seed:Int),p≤B∧h[sid]?=some (.row 3 [srcV bytes p seed] true)
structure KS(bytes:List Int)(sid B:Nat)(h h':List AObj):Prop where
  l:h'.length=h.length
  k:∀j,j≠sid→h'[j]?=h[j]?
  s:SR bytes sid B h'
theorem KS.of{B:Nat}{seed':Int}(hl:sid<h.length)(hp:p≤B):KS bytes sid B h (h.set sid (.row 3 [srcV bytes p seed'] true)):=
  ⟨by simp,fun j hj=>List.getElem?_set_ne (Ne.symm hj),p,seed',hp,List.getElem?_set_self hl⟩
theorem KS.trans{B C:Nat}{h1 h2:List AObj}(x:KS bytes sid B h h1)(y:KS bytes sid C h1 h2):KS bytes sid C h h2:=⟨y.l.trans x.l,fun j hj=>(y.k j hj).trans (x.k j hj),y.s⟩
theorem SR.up{B C:Nat}(x:SR bytes sid B h)(hbc:B≤C):SR bytes sid C h:=by obtain⟨p,q,h1,h2⟩:=x;exact⟨p,q,by omega,h2⟩
theorem KS.up{B C:Nat}{h1:List AObj}(x:KS bytes sid B h h1)(hbc:B≤C):KS bytes sid C h h1:=⟨x.l,x.k,x.s.up hbc⟩
theorem KS.refl{B:Nat}(x:SR bytes sid B h):KS bytes sid B h h:=⟨rfl,fun _ _=>rfl,x⟩
variable {B:Nat} {n:Int}
theorem s773'(hb:OkB bytes)(hs:SR bytes sid B h)(hB:B<1000000000)(hK:∀v h',0≤v→v≤255→KS bytes sid (B+1) h h'→K (.int .i64 v) h'):SCall Gm 773 [.ptr sid 0 0] h K:=by
  obtain⟨p,seed,h1,h2⟩:=hs;exact s773 hb h2 (by omega) fun v seed' v0 v1=>hK v _ v0 v1 (KS.of (lt_some h2) (by omega))
theorem s396(hb:OkB bytes)(hs:SR bytes sid B h)(hB:B<900000000)(hK:∀r h',0≤r→r<max n 1→KS bytes sid (B+2) h h'→K (.int .i64 r) h'):SCall Gm 396 [.ptr sid 0 0,.int .i64 n] h K:=by
  refine SCall.run [] [] g396 (by kernel_rfl) rfl ?_;simp only[F396,vparams,go_sem];refine cnd_split ?_ ?_<;>intro hc<;>simp only[hc,go_sem]
  · exact hK 0 h (by omega) (by omega) (KS.refl (hs.up (by omega)))
  · have hn:=of_decide_eq_false hc;refine call_here (s773' hb hs (by omega) fun v h1 v0 v1 k1=> ?_);simp only[go_sem];refine cnd_split ?_ ?_<;>intro hc<;>simp only[hc,go_sem]
    · refine call_here (s773' hb k1.s (by omega) fun u h2 u0 u1 k2=> ?_);have e1:IntKind.i64.wrap (v*256)=v*256:=wrap_small (by omega) (by omega);have e2:IntKind.i64.wrap (v*256+u)=v*256+u:=wrap_small (by omega) (by omega);simp only[e1,e2,if_neg (show ¬n=0 by omega),go_sem];exact hK _ _ (Int.tmod_nonneg _ (by omega)) (by have:=Int.tmod_lt_of_pos (v*256+u) (show 0<n by omega);omega) ((k1.trans k2).up (by omega))
    · simp only[if_neg (show ¬n=0 by omega),go_sem];exact hK _ _ (Int.tmod_nonneg _ v0) (by have:=Int.tmod_lt_of_pos v (show 0<n by omega);omega) (k1.up (by omega))
theorem s440(hb:OkB bytes)(hs:SR bytes sid B h)(hB:B<900000000)(hK:∀r h',KS bytes sid (B+2) h h'→K (.bool r) h'):SCall Gm 440 [.ptr sid 0 0,.int .i64 n] h K:=by
  refine SCall.run [] [] g440 (by kernel_rfl) rfl ?_;simp only[F440,vparams,go_sem];refine call_here (s396 hb hs hB fun r h1 r0 r1 k1=> ?_);simp only[go_sem];exact hK _ _ k1
end
theorem c60{bs:List Int}(hl:bs.length≤140737488355328):Pure Gm 60 [.lst 1 (bs.map encY) false,.nils] (.bool (decide (3000<bs.length))):=by
  refine Pure.intro [] [] g60 (by kernel_rfl) rfl (by simp[AV.trees,AV.tree,trees_map shY.tree]) rfl ?_;simp only[F60,vparams,go_sem];have e:decide ((3000:Int)<bs.length)=decide (3000<bs.length):=by rw[decide_eq_decide];omega
  simp only[List.length_map,e];by_cases h:3000<bs.length
  · simp only[decide_eq_true h,go_sem];exact fin_eq rfl rfl
  · simp only[decide_eq_false h,go_sem];exact fin_eq rfl rfl
end Go.Ab
namespace Go.Ab
open Go
set_option maxRecDepth 10000
set_option maxHeartbeats 2000000
inductive Tw(b:Nat)(h:List AObj):Nat→AV→GType→Prop
  | nil {u:Nat} {k:Int} {n:Str}:Tw b h u (.agg [.int .i64 k,.str n,.nils]) (.mk k n [])
  | row {u:Nat} {k:Int} {n:Str} {ks:List GType} {j:Nat} {el:List AV} (hj:b≤j) (hu:j<u) (ho:h[j]?=some (.row 3 el true)) (hl:el.length=ks.length) (hc:∀p∈el.zip ks,Tw b h j p.1 p.2):Tw b h u (.agg [.int .i64 k,.str n,.slice 3 j 0 ks.length false]) (.mk k n ks)
structure Ks(b:Nat)(h h':List AObj):Prop where
  l:h.length≤h'.length
  k:∀j,b≤j→j<h.length→h'[j]?=h[j]?
theorem Ks.refl{b:Nat}{h:List AObj}:Ks b h h:=⟨Nat.le_refl _,fun _ _ _=>rfl⟩
theorem Ks.trans{b:Nat}{h h1 h2:List AObj}(x:Ks b h h1)(y:Ks b h1 h2):Ks b h h2:=⟨Nat.le_trans x.l y.l,fun j hj hl=>(y.k j hj (Nat.lt_of_lt_of_le hl x.l)).trans (x.k j hj hl)⟩
theorem Ks.push{b:Nat}{h:List AObj}{o:AObj}:Ks b h (h++[o]):=⟨by simp,fun j _ hl=>List.getElem?_append_left hl⟩
theorem KS.ks{bytes:List Int}{sid B b:Nat}{h h':List AObj}(x:KS bytes sid B h h')(hs:sid<b):Ks b h h':=⟨by rw[x.l];exact Nat.le_refl _,fun j hj _=>x.k j (by omega)⟩
theorem Tw.gen{b u:Nat}{h h':List AObj}{v:AV}{t:GType}(y:Tw b h u v t):(∀i,b≤i→i<u→i<h.length→h'[i]?=h[i]?)→Tw b h' u v t:=by
  induction y with
  | nil=>intro _;exact .nil
  | row hj hu ho hl hc ih=>intro x;exact .row hj hu ((x _ hj hu (lt_some ho)).trans ho) hl fun p hp=>ih p hp fun i h1 h2 h3=>x i h1 (by omega) h3
theorem Tw.mono{b u u':Nat}{h:List AObj}{v:AV}{t:GType}(y:Tw b h u v t)(hu:u≤u'):Tw b h u' v t:=by
  cases y with
  | nil=>exact .nil
  | row hj hu' ho hl hc=>exact .row hj (by omega) ho hl hc
def Tv(b:Nat)(h:List AObj)(v:AV)(t:GType):Prop:=Tw b h h.length v t
theorem Tv.nil{b:Nat}{h:List AObj}{k:Int}{n:Str}:Tv b h (.agg [.int .i64 k,.str n,.nils]) (.mk k n []):=Tw.nil
theorem Tv.up{b:Nat}{h h':List AObj}(x:Ks b h h'){v:AV}{t:GType}(y:Tv b h v t):Tv b h' v t:=
  (Tw.gen y fun i h1 _ h3=>x.k i h1 h3).mono x.l
theorem Tw.cv{b u:Nat}{h:List AObj}{v:AV}{t:GType}(y:Tw b h u v t):Cv h v t.enc:=by
  induction y with
  | nil=>
    rw[GType.enc_eq];exact .agg rfl (by
      intro p hp;simp only[List.zip_cons_cons,List.zip_nil_right,List.mem_cons,List.not_mem_nil,or_false]at hp;rcases hp with rfl | rfl | rfl
      · exact .refl rfl
      · exact .refl rfl
      · exact .nils)
  | @row u k n ks j el hj hu ho hl hc ih=>
    rw[GType.enc_eq];refine .agg rfl ?_;intro p hp;simp only[List.zip_cons_cons,List.zip_nil_right,List.mem_cons,List.not_mem_nil,or_false]at hp;rcases hp with rfl | rfl | rfl
    · exact .refl rfl
    · exact .refl rfl
    · have e:((el.drop 0).take ks.length)=el:=by rw[List.drop_zero,←hl,List.take_length]
      refine .slc ho (by omega) (by decide) (by rw[e,List.length_map];exact hl) ?_;rw[e];intro p hp;have hz:∀(el:List AV)(ks:List GType),p∈el.zip (ks.map GType.enc)→∃a t,(a,t)∈el.zip ks∧p=(a,t.enc):=by
        intro el
        induction el with
        | nil=>intro ks hp;simp at hp
        | cons a el ihe=>
          intro ks hp;cases ks with
          | nil=>simp at hp
          | cons t ks=>
            simp only[List.map_cons,List.zip_cons_cons,List.mem_cons]at hp;rcases hp with rfl | hp
            · exact⟨a,t,by simp,rfl⟩
            · obtain⟨a',t',h1,h2⟩:=ihe ks hp;exact⟨a',t',by simp[h1],h2⟩
      obtain⟨a,t,h1,rfl⟩:=hz el ks hp;exact ih _ h1
theorem Tv.cv{b:Nat}{h:List AObj}{v:AV}{t:GType}(y:Tv b h v t):Cv h v t.enc:=Tw.cv y
theorem Tv.shape{b:Nat}{h:List AObj}{v:AV}{t:GType}(y:Tv b h v t):∃v2,v=.agg [.int .i64 t.Kind,.str t.Name,v2]:=by
  cases y
  · exact⟨_,rfl⟩
  · exact⟨_,rfl⟩
theorem Tv.two{b:Nat}{h:List AObj}{v u:AV}{t r:GType}{k:Int}{n:Str}(hb:b≤h.length)(x:Tv b h v t)(y:Tv b h u r):Tv b (h++[.row 3 [v,u] true]) (.agg [.int .i64 k,.str n,.slice 3 h.length 0 2 false]) (.mk k n [t,r]):=by
  refine Tw.row (ks:=[t,r]) hb (by simp) List.getElem?_concat_length rfl ?_;intro p hp;simp only[List.zip_cons_cons,List.zip_nil_right,List.mem_cons,List.not_mem_nil,or_false]at hp;rcases hp with rfl | rfl
  · exact Tw.gen x fun i _ _ hi=>List.getElem?_append_left hi
  · exact Tw.gen y fun i _ _ hi=>List.getElem?_append_left hi
theorem Tv.one{b:Nat}{h:List AObj}{v:AV}{t:GType}{k:Int}{n:Str}(hb:b≤h.length)(x:Tv b h v t):Tv b (h++[.row 3 [v] true]) (.agg [.int .i64 k,.str n,.slice 3 h.length 0 1 false]) (.mk k n [t]):=by
  refine Tw.row (ks:=[t]) hb (by simp) List.getElem?_concat_length rfl ?_;intro p hp;simp only[List.zip_cons_cons,List.zip_nil_right,List.mem_cons,List.not_mem_nil,or_false]at hp;subst hp;exact Tw.gen x fun i _ _ hi=>List.getElem?_append_left hi
theorem Tv.kind{b:Nat}{h:List AObj}{k k':Int}{n n':Str}{v2:AV}{t:GType}(y:Tv b h (.agg [.int .i64 k,.str n,v2]) t):Tv b h (.agg [.int .i64 k',.str n',v2]) (.mk k' n' t.Kids):=by
  cases y with
  | nil=>exact Tw.nil
  | row hj hu ho hl hc=>exact Tw.row hj hu ho hl hc
def Sm(N:Nat)(t:GType):Prop:=t.bd∧t.nd≤N
theorem Sm.up{N M:Nat}{t:GType}(x:Sm N t)(h:N≤M):Sm M t:=⟨x.1,Nat.le_trans x.2 h⟩
theorem sm0{k:Int}{n:Str}(hn:n.length≤1000):Sm 1 (.mk k n []):=⟨by rw[GType.bd_eq];exact⟨by simp only[GType.Name];omega,by simp[GType.Kids],fun y hy=>by simp[GType.Kids]at hy⟩,by rw[GType.nd_eq];simp[GType.Kids,sumN]⟩
theorem sm1{k:Int}{n:Str}{t:GType}{N:Nat}(hn:n.length≤1000)(x:Sm N t):Sm (N+1) (.mk k n [t]):=⟨by rw[GType.bd_eq];exact⟨by simp only[GType.Name];omega,by simp[GType.Kids],fun y hy=>by simp[GType.Kids]at hy;subst hy;exact x.1⟩,by rw[GType.nd_eq];have:=x.2;simp only[GType.Kids,sumN];omega⟩
theorem sm2{k:Int}{n:Str}{t r:GType}{N M:Nat}(hn:n.length≤1000)(x:Sm N t)(y:Sm M r):Sm (N+M+1) (.mk k n [t,r]):=⟨by rw[GType.bd_eq];exact⟨by simp only[GType.Name];omega,by simp[GType.Kids],fun z hz=>by simp[GType.Kids]at hz;rcases hz with rfl | rfl;exact x.1;exact y.1⟩,by rw[GType.nd_eq];have:=x.2;have:=y.2;simp only[GType.Kids,sumN];omega⟩
section
variable {bytes:List Int} {sid lid n b B:Nat} {h:List AObj} {K:AV→List AObj→Prop} {ns:List Str}
theorem s716(hb:OkB bytes)(hs:SR bytes sid B h)(hB:B<900000000)(hl:h[lid]?=some (.row 1 (ns.map AV.str) true))(hn:ns.length=n)(h0:0<n)
    (hK:∀x h',x∈ns→KS bytes sid (B+2) h h'→K (.str x) h'):SCall Gm 716 [.ptr sid 0 0,.slice 1 lid 0 n false] h K:=by
  have hne:lid≠sid:=fun e=>by obtain⟨p,q,_,h2⟩:=hs;rw[←e,hl]at h2;simp at h2
  refine SCall.run [] [] g716 (by kernel_rfl) rfl ?_;simp only[F716,vparams,go_sem];refine call_here (s396 hb hs hB fun r h1 r0 r1 k1=> ?_);have hl1:h1[lid]?=some (.row 1 (ns.map AV.str) true):=(k1.k _ hne).trans hl;obtain⟨j,rfl⟩:∃j:Nat,r=(j:Int):=⟨r.toNat,by omega⟩;have hj:j<n:=by omega
  have hx:(ns.map AV.str)[j]?=some (.str (ns[j]'(by omega))):=by rw[List.getElem?_map,List.getElem?_eq_getElem (by omega)];rfl
  simp only[idx1 hj,hl1,hx,go_sem];exact hK _ _ (List.getElem_mem _) k1
end
def dC:Nat→Nat
  | 0=>10
  | d+1=>10+2*dC d
def dN:Nat→Nat
  | 0=>1
  | d+1=>1+2*dN d
theorem dC_le:∀d,d≤dC d
  | 0=>Nat.zero_le _
  | d+1=>by have:=dC_le d;simp only[dC];omega
structure Dk(bytes:List Int)(sid b B:Nat)(h h':List AObj):Prop where
  l:h.length≤h'.length
  k:∀j,j≠sid→j<h.length→h'[j]?=h[j]?
  s:SR bytes sid B h'
section
variable {bytes:List Int} {sid lid n b B C:Nat} {h h1 h2:List AObj} {K:AV→List AObj→Prop} {ns:List Str}
theorem KS.dk(x:KS bytes sid B h h1):Dk bytes sid b B h h1:=⟨by rw[x.l];exact Nat.le_refl _,fun j hj _=>x.k j hj,x.s⟩
theorem Dk.trans(x:Dk bytes sid b B h h1)(y:Dk bytes sid b C h1 h2):Dk bytes sid b C h h2:=⟨Nat.le_trans x.l y.l,fun j hj hl=>(y.k j hj (Nat.lt_of_lt_of_le hl x.l)).trans (x.k j hj hl),y.s⟩
theorem Dk.push{o:AObj}(x:Dk bytes sid b B h h1):Dk bytes sid b B h (h1++[o]):=by
  obtain⟨p,q,e1,e2⟩:=x.s;exact⟨by have:=x.l;simp;omega,fun j hj hl=>(List.getElem?_append_left (Nat.lt_of_lt_of_le hl x.l)).trans (x.k j hj hl),p,q,e1,by rw[List.getElem?_append_left (lt_some e2)];exact e2⟩
theorem Dk.up(x:Dk bytes sid b B h h1)(hc:B≤C):Dk bytes sid b C h h1:=⟨x.l,x.k,x.s.up hc⟩
theorem Dk.ks(x:Dk bytes sid b B h h1)(hs:sid<b):Ks b h h1:=⟨x.l,fun j hj hl=>x.k j (by omega) hl⟩
theorem s715(hb:OkB bytes)(hsb:sid<b)(hns:∀x∈ns,x.length≤1000)(hn:ns.length=n)(h0:0<n):∀(d:Nat)(B:Nat)(h:List AObj),SR bytes sid B h→B+dC d<900000000→b≤h.length→h[lid]?=some (.row 1 (ns.map AV.str) true)→
    SCall Gm 715 [.ptr sid 0 0,.slice 1 lid 0 n false,.int .i64 (d:Nat)] h fun v h'=>∃t,Tv b h' v t∧Sm (dN d) t∧Dk bytes sid b (B+dC d) h h':=by
  intro d
  induction d using Nat.strongRecOn with
  | _ d ih=>
  intro B h hs hB hbl hl;have hne:lid≠sid:=fun e=>by obtain⟨p,q,_,h2⟩:=hs;rw[←e,hl]at h2;simp at h2
  have hll:=lt_some hl;have hc10:10≤dC d:=by cases d<;>simp only[dC]<;>omega
  refine SCall.run [] [] g715 (by kernel_rfl) rfl ?_;simp only[F715,vparams,go_sem];obtain⟨K0,hK0⟩:∃K0:AV→List AObj→Prop,K0=fun v h'=>∃t,Tv b h' v t∧Sm (dN d) t∧Dk bytes sid b (B+dC d) h h':=⟨_,rfl⟩;rw[←hK0];have hn1:1≤dN d:=by cases d<;>simp only[dN]<;>omega
  have leaf:∀(ks:List Fr1)(s':LEnv)(h1:List AObj),get s' 0=some (.ptr sid 0 0)→get s' 1=some (.slice 1 lid 0 n false)→KS bytes sid (B+2) h h1→
      R ⟨Gm,h.length,[],[]⟩ (.ops F715_r1::.code (.cond (.t 20) (.seq (.reg true F715_r2) .ret) .skip)::.code (.seq (.reg true [.mk 0 (some 25) none (.call 328 []) [],.mk 1 none none (.lstore 6 0 3 (.t 25)) []]) .ret)::ks) ⟨s',[(6,.agg [.int .i64 0,.str [],.nils])],h1⟩ (finI [.l 6 (some 3)] K0):=by
    intro ks s' h1 g0 g1 k1;rw[F715_r1_r];have e0:decide ((0:Int)<(n:Nat))=true:=decide_eq_true (by omega);simp only[g0,g1,e0,go_sem];refine call_here (s440 hb k1.s (by omega) fun r h2 k2=> ?_);have hl2:h2[lid]?=some (.row 1 (ns.map AV.str) true):=(k2.k _ hne).trans ((k1.k _ hne).trans hl);simp only[go_sem];cases r
    · simp only[go_sem];refine call_hereE rfl n328 ?_;simp only[go_sem];refine lst_all rfl rfl ⟨_,rfl⟩ (by decide) ?_;simp only[go_sem,hK0];exact⟨_,.nil,(sm0 (by simp)).up hn1,((k1.trans k2).up (by omega)).dk⟩
    · simp only[g0,g1,go_sem];refine call_here (s716 hb k2.s (by omega) hl2 hn h0 fun x h3 hx k3=> ?_);simp only[go_sem];refine call_hereE rfl n329 ?_;simp only[go_sem];refine lst_all rfl rfl ⟨_,rfl⟩ (by decide) ?_;simp only[go_sem,hK0];exact⟨_,.nil,(sm0 (hns x hx)).up hn1,(((k1.trans k2).trans k3).up (by omega)).dk⟩
  by_cases hd:d<2
  · have e1:decide ((d:Int)<2)=true:=decide_eq_true (by omega);revert leaf;generalize F715_r1=r1;intro leaf;simp only[e1,go_sem];refine leaf _ _ _ ?_ ?_ (KS.refl (hs.up (by omega)))<;>simp only[go_sem]
  have e1:decide ((d:Int)<2)=false:=decide_eq_false (by omega);simp only[e1,go_sem];refine call_here (s440 hb hs (by omega) fun r h1 k1=> ?_);cases r
  case true=>
    revert leaf;generalize F715_r1=r1;intro leaf;simp only[go_sem];refine leaf _ _ _ ?_ ?_ k1<;>simp only[go_sem]
  obtain⟨e,rfl⟩:∃e,d=e+1:=⟨d-1,by omega⟩;simp only[dC]at hB hc10;have ed:=dC_le e;have w1:IntKind.i64.wrap (((e+1:Nat):Int)-1)=(e:Nat):=by
    rw[show ((e+1:Nat):Int)-1=((e:Nat):Int) by omega];exact wrap_small (by omega) (by omega)
  clear leaf;simp only[go_sem];refine call_here (s440 hb k1.s (by omega) fun r h2 k2=> ?_);have k12:=k1.trans k2;have hl2:h2[lid]?=some (.row 1 (ns.map AV.str) true):=(k12.k _ hne).trans hl;have hbl2:b≤h2.length:=by rw[k12.l];exact hbl
  cases r
  case true=>
    simp only[go_sem,w1];refine call_here ((ih e (by omega) _ h2 k12.s (by omega) hbl2 hl2).mono ?_);rintro v h3 ⟨t,q1,q2,q3⟩;obtain⟨v2,rfl⟩:=q1.shape;simp only[go_sem];refine call_hereE rfl n326 ?_;simp only[go_sem];refine lst_all rfl rfl ⟨_,rfl⟩ (by decide) ?_;simp only[go_sem,hK0];have hbl3:=Nat.le_trans hbl2 q3.l;exact⟨_,q1.one hbl3,(sm1 (by simp) q2).up (by simp only[dN];omega),((k12.dk.trans q3).push).up (by simp only[dC];omega)⟩
  simp only[go_sem,w1];refine call_here ((ih e (by omega) _ h2 k12.s (by omega) hbl2 hl2).mono ?_);rintro v h3 ⟨t,q1,q2,q3⟩;obtain⟨v2,rfl⟩:=q1.shape;simp only[go_sem];refine lst_all rfl rfl ⟨_,rfl⟩ (by decide) ?_;simp only[go_sem,w1];have hl3:h3[lid]?=some (.row 1 (ns.map AV.str) true):=(q3.k _ hne (lt_some hl2)).trans hl2;have hbl3:=Nat.le_trans hbl2 q3.l;refine call_here ((ih e (by omega) _ h3 q3.s (by omega) hbl3 hl3).mono ?_);rintro v' h4 ⟨t',p1,p2,p3⟩;obtain⟨v2',rfl⟩:=p1.shape;simp only[go_sem];have hbl4:=Nat.le_trans hbl3 p3.l;refine call_hereE rfl n327 ?_;simp only[go_sem];refine lst_all rfl rfl ⟨_,rfl⟩ (by decide) ?_;simp only[go_sem,hK0];exact⟨_,Tv.two hbl4 (q1.up (p3.ks hsb)) p1,(sm2 (by simp) q2 p2).up (by simp only[dN];omega),(((k12.dk.trans q3).trans p3).push).up (by simp only[dC];omega)⟩
end
end Go.Ab
namespace Go.Ab
open Go
set_option maxRecDepth 10000
set_option maxHeartbeats 2000000
theorem Tv.kids{b:Nat}{h:List AObj}{k:Int}{n:Str}{v2:AV}{t:GType}(y:Tv b h (.agg [.int .i64 k,.str n,v2]) t):(v2=.nils∧t.Kids=[])∨∃j el,v2=.slice 3 j 0 t.Kids.length false∧b≤j∧j<h.length∧h[j]?=some (.row 3 el true)∧el.length=t.Kids.length∧∀p∈el.zip t.Kids,Tw b h j p.1 p.2:=by
  cases y with
  | nil=>exact .inl ⟨rfl,rfl⟩
  | row hj hu ho hl hc=>exact .inr ⟨_,_,rfl,hj,hu,ho,hl,hc⟩
section
variable {bytes:List Int} {sid b B:Nat} {h:List AObj}
theorem s325(hb:OkB bytes)(hsb:sid<b)(hs:SR bytes sid B h)(hB:B+1000<900000000)(hbl:b≤h.length):SCall Gm 325 [.ptr sid 0 0] h fun v h'=>∃t,Tv b h' v t∧Sm 200 t:=by
  refine SCall.run [] [] g325 (by kernel_rfl) rfl ?_;simp only[F325,vparams,go_sem];rw[show fillAV _ 1 _ _=some (([[78,97,116],[76,105,115,116]]:List Str).map AV.str)from rfl];simp only[go_sem];have hs1:SR bytes sid B (h++[.row 1 (([[78,97,116],[76,105,115,116]]:List Str).map AV.str) true]):=by
    obtain⟨p,q,e1,e2⟩:=hs;exact⟨p,q,e1,by rw[List.getElem?_append_left (lt_some e2)];exact e2⟩
  refine call_here ((s715 (ns:=[[78,97,116],[76,105,115,116]]) hb hsb (by simp) rfl (by decide) 4 B _ hs1 (by simp only[dC];omega) (by simp;omega) List.getElem?_concat_length).mono ?_);rintro v h1 ⟨t,q1,q2,q3⟩;obtain⟨v2,rfl⟩:=q1.shape;have hbl1:b≤h1.length:=by have:=q3.l;simp at this;omega
  simp only[go_sem];refine lst_all rfl rfl ⟨_,rfl⟩ (by decide) ?_;simp only[go_sem];have q2':Sm 31 t:=q2.up (by decide);have hdc:dC 4=310:=rfl;rw[hdc]at q3;refine call_here (s396 hb q3.s (by omega) fun r h2 r0 r1 k2=> ?_);have q1':=q1.up (k2.ks hsb);have hbl2:b≤h2.length:=by rw[k2.l];exact hbl1
  have tb:=q2'.1;rw[GType.bd_eq]at tb;have tn:=q2'.2;rw[GType.nd_eq]at tn;simp only[go_sem];by_cases e0:r=0
  · simp only[decide_eq_true e0,go_sem];refine call_here (s396 hb k2.s (by omega) fun r' h3 r0' r1' k3=> ?_);simp only[go_sem];refine lst_all rfl rfl ⟨_,rfl⟩ (by decide) ?_;simp only[go_sem];exact⟨_,(q1'.up (k3.ks hsb)).kind,by rw[GType.bd_eq];exact tb,by rw[GType.nd_eq];exact Nat.le_trans tn (by decide)⟩
  simp only[decide_eq_false e0,go_sem];by_cases e1:r=1
  · simp only[decide_eq_true e1,go_sem];rw[show fillAV _ 1 _ _=some (([[],[73,110,116],[110,97,116],[88]]:List Str).map AV.str)from rfl];simp only[go_sem];have hs2:SR bytes sid (B+310+2) (h2++[.row 1 (([[],[73,110,116],[110,97,116],[88]]:List Str).map AV.str) true]):=by
      obtain⟨p,q,e1,e2⟩:=k2.s;exact⟨p,q,e1,by rw[List.getElem?_append_left (lt_some e2)];exact e2⟩
    refine call_here (s716 (ns:=[[],[73,110,116],[110,97,116],[88]]) hb hs2 (by omega) List.getElem?_concat_length rfl (by decide) fun x h3 hx k3=> ?_);simp only[go_sem];refine lst_all rfl rfl ⟨_,rfl⟩ (by decide) ?_;simp only[go_sem];have hx3:x.length≤1000:=by
      simp only[List.mem_cons,List.not_mem_nil,or_false]at hx;rcases hx with rfl | rfl | rfl | rfl<;>decide
    exact⟨_,((q1'.up .push).up (k3.ks hsb)).kind,by rw[GType.bd_eq];exact⟨by simp only[GType.Name];omega,tb.2⟩,by rw[GType.nd_eq];exact Nat.le_trans tn (by decide)⟩
  simp only[decide_eq_false e1,go_sem];by_cases e2:r=2
  · simp only[decide_eq_true e2,go_sem];refine call_hereE rfl n328 ?_;simp only[go_sem];refine bsl_one (v:=.agg [.int .i64 1,.str [],.nils]) rfl rfl ?_;simp only[go_sem];rcases q1'.kids with⟨rfl,ek⟩ | ⟨j,el,rfl,hj,hju,ho,hlen,hc⟩
    · refine app_nil (ys:=[.agg [.int .i64 1,.str [],.nils]]) (Els.row List.getElem?_concat_length rfl) (by simp) ?_;simp only[go_sem];refine lst_all rfl rfl ⟨_,rfl⟩ (by decide) ?_;simp only[go_sem];exact⟨_,Tv.one (t:=intT) (by simp;omega) Tv.nil,by rw[GType.bd_eq];exact⟨tb.1,by simp[GType.Kids],fun y hy=>by simp[GType.Kids]at hy;subst hy;exact(sm0 (k:=1) (n:=[]) (by simp)).1⟩,by rw[GType.nd_eq];have:intT.nd=1:=rfl;simp[GType.Kids,sumN,this]⟩
    · have klen:t.Kids.length≤sumN GType.nd t.Kids:=by
        have:∀xs:List GType,xs.length≤sumN GType.nd xs:=fun xs=>by
          induction xs with
          | nil=>simp
          | cons y ys ihy=>have:=GType.nd_eq y;simp only[List.length_cons,sumN];omega
        exact this _
      refine app_one (el:=el) List.getElem?_concat_length (by rw[List.getElem?_append_left hju];exact ho) hlen (by omega) ?_;simp only[go_sem];refine lst_all rfl rfl ⟨_,rfl⟩ (by decide) ?_;simp only[go_sem];have kk:(t.Kids++[intT]).length=t.Kids.length+1:=by simp
      rw[←kk];refine⟨.mk t.Kind t.Name (t.Kids++[intT]),Tw.row (el:=el++[.agg [.int .i64 1,.str [],.nils]]) (by simp;omega) (by simp) (by simp) (by simp[hlen]) ?_, ?_, ?_⟩
      · intro p hp;rw[List.zip_append hlen]at hp;rcases List.mem_append.1 hp with hp | hp
        · refine(Tw.gen (hc p hp) fun i h1 h2 h3=> ?_).mono (by simp;omega);rw[List.getElem?_append_left (by simp;omega),List.getElem?_set_ne (by omega),List.getElem?_append_left h3]
        · simp only[List.zip_cons_cons,List.zip_nil_right,List.mem_singleton]at hp;subst hp;exact Tw.nil
      · rw[GType.bd_eq];refine⟨tb.1,by show (t.Kids++[intT]).length≤_;omega,fun y hy=> ?_⟩;have hy:y∈t.Kids++[intT]:=hy;rcases List.mem_append.1 hy with hy | hy
        · exact tb.2.2 y hy
        · simp only[List.mem_singleton]at hy;subst hy;exact(sm0 (k:=1) (n:=[]) (by simp)).1
      · rw[GType.nd_eq];have ha:∀xs ys:List GType,sumN GType.nd (xs++ys)=sumN GType.nd xs+sumN GType.nd ys:=fun xs ys=>by
          induction xs with
          | nil=>simp[sumN]
          | cons y xs ihy=>simp only[List.cons_append,sumN,ihy];omega
        have:intT.nd=1:=rfl;show 1+sumN GType.nd (t.Kids++[intT])≤200;simp only[ha,sumN,this];omega
  simp only[decide_eq_false e2,go_sem];have e34:r=3∨(r≠3∧r=4)∨(r≠3∧r≠4):=by omega
  rcases e34 with e3 | ⟨e3,e4⟩ | ⟨e3,e4⟩
  case' inl=>
    simp only[decide_eq_true e3,go_sem]
  case' inr.inl=>
    simp only[decide_eq_false e3,decide_eq_true e4,go_sem]
  case inr.inr=>
    simp only[decide_eq_false e3,decide_eq_false e4,go_sem];by_cases e5:r=5
    · simp only[decide_eq_true e5,go_sem];refine call_hereE rfl n328 ?_;simp only[go_sem];refine call_hereE rfl n327 ?_;simp only[go_sem];refine call_hereE rfl n327 ?_;simp only[go_sem];refine call_hereE rfl n327 ?_;simp only[go_sem];refine lst_all rfl rfl ⟨_,rfl⟩ (by decide) ?_;simp only[go_sem];refine lst_all rfl rfl ⟨_,rfl⟩ (by decide) ?_;simp only[go_sem];have z1:=Tv.two (k:=3) (n:=[]) hbl2 q1' (Tv.nil (k:=1) (n:=[]));have z2:=Tv.two (k:=3) (n:=[]) (by simp;omega) (q1'.up .push) z1;have z3:=Tv.two (k:=3) (n:=[]) (by simp;omega) ((q1'.up .push).up .push) z2;exact⟨_,z3,(sm2 (by simp) q2' (sm2 (by simp) q2' (sm2 (by simp) q2' (sm0 (by simp))))).up (by decide)⟩
    · simp only[decide_eq_false e5,go_sem];refine lst_all rfl rfl ⟨_,rfl⟩ (by decide) ?_;simp only[go_sem];exact⟨_,q1',q2'.up (by decide)⟩
  all_goals
    refine call_here (s396 hb k2.s (by omega) fun r' h3 r0' r1' k3=> ?_);have q1'':=q1'.up (k3.ks hsb);have hbl3:b≤h3.length:=by rw[k3.l];exact hbl2
    simp only[go_sem];obtain⟨m,rfl⟩:∃m:Nat,r'=m:=⟨r'.toNat,by omega⟩;refine Sem.loop (fun a:Nat×List AObj×AV×GType=>a.1≤5∧b≤a.2.1.length∧Tv b a.2.1 a.2.2.1 a.2.2.2∧Sm (100-10*a.1) a.2.2.2)
      (fun a=>(⟨[(4,.int .i64 ((a.1:Nat)-1:Int))],[(3,a.2.2.1),(2,.agg [.int .i64 0,.str [],.nils])],a.2.1⟩:VSt)) (fun a=>a.1) (m+1,h3,.agg [.int .i64 t.Kind,.str t.Name,v2],t) (by kernel_rfl)
      ⟨by simp only;omega,hbl3,q1'',q2'.up (by simp only;omega)⟩ (Can.sub (by simp[go_sem]) (by simp[go_sem])) ?_
    rintro⟨c,g,v,x⟩ ⟨i1,i2,i3,i4⟩;simp only at i1 i2 i3 i4;obtain⟨w2,rfl⟩:=i3.shape;simp only[go_sem];by_cases hc:c=0
    · have ec:decide ((0:Int)≤((c:Nat):Int)-1)=false:=decide_eq_false (by omega);simp only[ec,go_sem];refine lst_all rfl rfl ⟨_,rfl⟩ (by decide) ?_;simp only[go_sem];exact⟨_,i3,i4.up (by omega)⟩
    · have ec:decide ((0:Int)≤((c:Nat):Int)-1)=true:=decide_eq_true (by omega);simp only[ec,go_sem];refine call_hereE rfl n326 ?_;simp only[go_sem];refine lst_all rfl rfl ⟨_,rfl⟩ (by decide) ?_;have ew:IntKind.i64.wrap (((c:Nat):Int)-1-1)=((c-1:Nat):Int)-1:=by
        rw[wrap_small (by omega) (by omega)];omega
      simp only[go_sem,ew];refine loopQ_nrm (c-1,g++[.row 3 [.agg [.int .i64 x.Kind,.str x.Name,w2]] true],.agg [.int .i64 4,.str [],.slice 3 g.length 0 1 false],bangT x) ⟨by simp only;omega,by simp;omega,Tv.one i2 i3,(sm1 (by simp) i4).up (by simp only;omega)⟩ (by simp only;omega) (Can.sub (by simp[go_sem]) (by simp[go_sem]))
end
theorem r69{bytes:List Int}(hb:OkB bytes):PureR Gm 69 [.lst 1 (bytes.map encY) false] fun v=>∃t:GType,validT t=true∧Sm 200 t∧v=t.enc:=by
  refine PureR.intro [] [] g69 (by kernel_rfl) rfl (by simp[AV.trees,AV.tree,trees_map shY.tree]) (fun v hv=>by obtain⟨t,_,_,rfl⟩:=hv;exact GType.tr) ?_;simp only[F69,vparams,go_sem];refine call_here (SCall.run [] [] g316 (by kernel_rfl) rfl ?_);simp only[F316,vparams,go_sem];refine hbox_ok rfl ?_;simp only[go_sem];have hs:SR bytes 0 0 ([]++[.row 3 [srcV bytes 0 0] true]):=⟨0,0,Nat.le_refl _,rfl⟩;refine call_here ((s325 (b:=1) hb (by decide) hs (by omega) (by simp)).mono ?_);rintro v h1 ⟨t,q1,q2⟩;obtain⟨v2,rfl⟩:=q1.shape;simp only[go_sem];refine lst_all rfl rfl ⟨_,rfl⟩ (by decide) ?_;simp only[go_sem];refine call_lend (vs':=[t.enc]) (Cvs.cons q1.cv Cvs.nil) (c208 q2.1 (by have:=q2.2;omega)) rfl ?_;simp only[go_sem];cases hv:validT t
  · simp only[go_sem];refine call_hereE rfl n328 ?_;simp only[go_sem];refine call_hereE rfl n329 ?_;simp only[go_sem];refine call_hereE rfl n327 ?_;simp only[go_sem];refine call_hereE rfl n326 ?_;simp only[go_sem];refine lst_all rfl rfl ⟨_,rfl⟩ (by decide) ?_;simp only[go_sem];have z1:=Tv.two (k:=3) (n:=[]) (Nat.zero_le _) (Tv.nil (h:=h1) (k:=1) (n:=[])) (Tv.nil (k:=2) (n:=[78,97,116]));have z2:=Tv.one (k:=4) (n:=[]) (Nat.zero_le _) z1;exact finR_cv ⟨_,by decide+kernel,(sm1 (by simp) (sm2 (by simp) (sm0 (by simp)) (sm0 (by simp)))).up (by decide),rfl⟩ z2.cv
  · simp only[go_sem];refine lst_all rfl rfl ⟨_,rfl⟩ (by decide) ?_;simp only[go_sem];exact finR_cv ⟨t,hv,q2,rfl⟩ q1.cv
end Go.Ab
namespace Go.Ab
open Go
set_option maxRecDepth 10000
set_option maxHeartbeats 2000000
inductive Ty where
  | int
  | data (n:Str)
  | fn (a b:Ty)
  | bang (a:Ty)
namespace Ty
def g:Ty→GType
  |.int=>.mk 1 [] []
  |.data n=>.mk 2 n []
  |.fn a b=>.mk 3 [] [a.g,b.g]
  |.bang a=>.mk 4 [] [a.g]
def kind:Ty→Int
  |.int=>1
  |.data _=>2
  |.fn _ _=>3
  |.bang _=>4
def name:Ty→Str
  |.data n=>n
  | _=>[]
def kids:Ty→List Ty
  |.fn a b=>[a,b]
  |.bang a=>[a]
  | _=>[]
theorem g_eq(y:Ty):y.g=.mk y.kind y.name (y.kids.map Ty.g):=by cases y<;>rfl
def n:Ty→Nat
  |.int=>1
  |.data _=>1
  |.fn a b=>1+(a.n+b.n)
  |.bang a=>1+a.n
theorem n_eq(y:Ty):y.n=1+sumN Ty.n y.kids:=by cases y<;>simp[n,kids,sumN]
theorem n_kid{y z:Ty}(h:z∈y.kids):z.n<y.n:=by
  have:=le_sumN (f:=Ty.n) h;rw[y.n_eq];omega
def ok:Ty→Prop
  |.int=>True
  |.data m=>isUp m=true∧¬m=[73,110,116]
  |.fn a b=>a.ok∧b.ok
  |.bang a=>a.ok
def dep:Ty→Nat
  |.int=>1
  |.data _=>1
  |.fn a b=>max (max 1 (a.dep+1)) (b.dep+1)
  |.bang a=>max 1 (a.dep+1)
theorem shp_g:∀y:Ty,y.ok→y.g.shp=(y.dep,y.n,true)
  |.int,_=>by rw[GType.shp_eq];simp[g,GType.Kids,GType.Kind,GType.Name,GType.shps,okT,dep,n]
  |.data m,h=>by rw[GType.shp_eq];simp[g,GType.Kids,GType.Kind,GType.Name,GType.shps,okT,dep,n,h.1,h.2]
  |.fn a b,h=>by rw[GType.shp_eq];simp[g,GType.Kids,GType.Kind,GType.Name,GType.shps,okT,dep,n,shp_g a h.1,shp_g b h.2];omega
  |.bang a,h=>by rw[GType.shp_eq];simp[g,GType.Kids,GType.Kind,GType.Name,GType.shps,okT,dep,n,shp_g a h]
theorem of_shp:∀x:GType,x.shp.2.2=true→∃y:Ty,x=y.g∧y.ok:=GType.ind fun x ih h=>by
  rw[GType.shp_eq]at h;cases hs:GType.shps x.Kids 1 1 with
  | none=>rw[hs]at h;cases h
  | some p=>
    obtain⟨d,s⟩:=p;rw[hs]at h;simp only at h;have kid:∀(xs:List GType)(d s:Nat)(q:Nat×Nat),GType.shps xs d s=some q→∀z∈xs,z.shp.2.2=true:=by
      intro xs
      induction xs with
      | nil=>intro d s q _ z hz;cases hz
      | cons a xs ihx=>
        intro d s q hq z hz;simp only[GType.shps]at hq;split at hq
        · rename_i d' s' he;rcases List.mem_cons.1 hz with rfl | hz
          · rw[he]
          · exact ihx _ _ _ hq z hz
        · cases hq
    have hk:=kid _ _ _ _ hs;rw[←x.eta];unfold okT at h;split at h
    · rename_i k;simp at h;exact⟨.int,by rw[k,h.1,h.2];rfl,trivial⟩
    · split at h
      · rename_i k;simp at h;exact⟨.data x.Name,by rw[k,h.2.2];rfl,h.1,h.2.1⟩
      · split at h
        · rename_i k;simp at h;obtain⟨a,b,e⟩:∃a b,x.Kids=[a,b]:=by
            match he:x.Kids,h.2 with
            |[a,b],_=>exact⟨a,b,rfl⟩
          obtain⟨y1,e1,o1⟩:=ih a (by rw[e];simp) (hk a (by rw[e];simp));obtain⟨y2,e2,o2⟩:=ih b (by rw[e];simp) (hk b (by rw[e];simp));exact⟨.fn y1 y2,by rw[k,h.1,e,e1,e2];rfl,o1,o2⟩
        · split at h
          · rename_i k;simp at h;obtain⟨a,e⟩:∃a,x.Kids=[a]:=by
              match he:x.Kids,h.2 with
              |[a],_=>exact⟨a,rfl⟩
            obtain⟨y1,e1,o1⟩:=ih a (by rw[e];simp) (hk a (by rw[e];simp));exact⟨.bang y1,by rw[k,h.1,e,e1];rfl,o1⟩
          · cases h
theorem nd_g:∀y:Ty,y.g.nd=y.n
  |.int=>rfl
  |.data _=>rfl
  |.fn a b=>by rw[GType.nd_eq];simp[g,GType.Kids,sumN,n,nd_g a,nd_g b]
  |.bang a=>by rw[GType.nd_eq];simp[g,GType.Kids,sumN,n,nd_g a]
theorem bd_g:∀y:Ty,y.ok→y.g.bd
  |.int,_=>by rw[GType.bd_eq];simp[g,GType.Kids,GType.Name]
  |.data m,h=>by
    have h1:=h.1;have:m.length≤12:=by
      unfold isUp isName at h1;split at h1<;>simp_all
    rw[GType.bd_eq];simp[g,GType.Kids,GType.Name];omega
  |.fn a b,h=>by rw[GType.bd_eq];simp[g,GType.Kids,GType.Name,bd_g a h.1,bd_g b h.2]
  |.bang a,h=>by
    have:=bd_g a h;rw[GType.bd_eq];simp[g,GType.Kids,GType.Name,this]
theorem sind{P:Ty→Prop}(h:∀y,(∀z,z.n<y.n→P z)→P y)(y:Ty):P y:=by
  have:∀m (y:Ty),y.n<m→P y:=by
    intro m
    induction m with
    | zero=>intro y hy;exact absurd hy (by omega)
    | succ m ih=>intro y hy;exact h y fun z hz=>ih z (by omega)
  exact this (y.n+1) y (by omega)
def enc(y:Ty):AV:=y.g.enc
theorem isSh:Sh Ty.enc 3 (some 3):=⟨fun y=>GType.isSh.tree y.g,fun y=>GType.ln (x:=y.g),fun y=>GType.all (x:=y.g),by decide,fun y=>by rw[Ty.enc,GType.enc_eq];simp⟩
end Ty
section
variable {y:Ty}
@[go_sem] theorem Ty.tr:y.enc.tree=true:=GType.tr
@[go_sem] theorem Ty.ln:y.enc.cells.length=3:=GType.ln
@[go_sem] theorem Ty.all:y.enc.part 0 (some 3)=some y.enc:=GType.all
theorem Ty.enc_eq:y.enc=.agg [.int .i64 y.kind,.str y.name,.lst 3 (y.kids.map Ty.enc) false]:=by
  unfold Ty.enc;rw[Ty.g_eq,GType.enc_eq];simp only[GType.Kind,GType.Name,GType.Kids,List.map_map];rfl
@[go_sem] theorem Ty.p0:y.enc.part 0 none=some (.int .i64 y.kind):=by rw[Ty.enc_eq];rfl
@[go_sem] theorem Ty.p1:y.enc.part 1 none=some (.str y.name):=by rw[Ty.enc_eq];rfl
@[go_sem] theorem Ty.p2:y.enc.part 2 none=some (.lst 3 (y.kids.map Ty.enc) false):=by rw[Ty.enc_eq];rfl
end
def Ty.bangs:Ty→Nat
  |.fn a b=>a.bangs+b.bangs
  |.bang a=>1+a.bangs
  | _=>0
theorem Ty.bangs_eq(y:Ty):y.bangs=(if y.kind=4 then 1 else 0)+sumN Ty.bangs y.kids:=by cases y<;>simp[Ty.bangs,Ty.kids,Ty.kind,sumN]
theorem Ty.bangs_le:∀y:Ty,y.bangs≤y.n
  |.int=>Nat.zero_le _
  |.data _=>Nat.zero_le _
  |.fn a b=>by have:=bangs_le a;have:=bangs_le b;simp only[bangs,n];omega
  |.bang a=>by have:=bangs_le a;simp only[bangs,n];omega
theorem c72:∀y:Ty,y.n≤1048576→Pure Gm 72 [y.enc] (.int .i64 (y.bangs:Nat)):=Ty.sind fun y ih hn=>by
  refine Pure.intro [] [] g72 (by kernel_rfl) rfl (by simp[AV.trees,Ty.tr]) rfl ?_;simp only[F72,vparams,go_sem];refine lbox_ok Ty.ln ?_;simp only[go_sem];have hb:=y.bangs_eq;have hle:=y.bangs_le;have hkl:∀i,i≤y.kids.length→sumN Ty.bangs (y.kids.take i)≤sumN Ty.bangs y.kids:=fun i _=>sumN_le Ty.bangs y.kids i;have hkn:y.kids.length≤2:=by cases y<;>simp[Ty.kids]
  by_cases h4:y.kind=4
  · rw[if_pos h4]at hb;simp only[decide_eq_true h4,go_sem];refine Sem.loop (fun i:Nat=>i≤y.kids.length) (fun i=>(⟨[(3,.int .i64 ((1+sumN Ty.bangs (y.kids.take i):Nat):Int)),(4,.int .i64 (i:Nat))],[(1,y.enc)],[]⟩:VSt)) (fun i=>y.kids.length-i) 0 (by kernel_rfl) (Nat.zero_le _) (Can.sub (by simp[go_sem,sumN]) (by simp[go_sem])) ?_;intro i hi;simp only[go_sem,List.length_map];by_cases hlt:i<y.kids.length
    · have e:decide ((i:Int)<(y.kids.length:Nat))=true:=decide_eq_true (by omega);have hm:=List.getElem_mem hlt;have hs:=sumN_succ Ty.bangs hlt;have hk:=hkl (i+1) (by omega);have hz:=Ty.n_kid hm;simp only[e,go_sem,List.getElem?_map,List.getElem?_eq_getElem hlt,Option.map_some];refine call_pure (ih _ hz (by omega)) ?_;have ew:IntKind.i64.wrap (((1+sumN Ty.bangs (y.kids.take i):Nat):Int)+((Ty.bangs y.kids[i]:Nat):Int))=((1+sumN Ty.bangs (y.kids.take (i+1)):Nat):Int):=by
        rw[wrap_small (by omega) (by omega),hs];omega
      simp only[go_sem,ew,wrap_succ (show i<4611686018427387904 by omega)];exact loopQ_nrm (i+1) hlt (by omega) (Can.sub (by simp[go_sem]) (by simp[go_sem]))
    · have e:decide ((i:Int)<(y.kids.length:Nat))=false:=decide_eq_false (by omega);obtain rfl:i=y.kids.length:=by omega
      simp only[e,go_sem];exact fin_eq rfl (by rw[List.take_length,hb])
  · rw[if_neg h4]at hb;simp only[decide_eq_false h4,go_sem];refine Sem.loop (fun i:Nat=>i≤y.kids.length) (fun i=>(⟨[(3,.int .i64 ((0+sumN Ty.bangs (y.kids.take i):Nat):Int)),(4,.int .i64 (i:Nat))],[(1,y.enc)],[]⟩:VSt)) (fun i=>y.kids.length-i) 0 (by kernel_rfl) (Nat.zero_le _) (Can.sub (by simp[go_sem,sumN]) (by simp[go_sem])) ?_;intro i hi;simp only[go_sem,List.length_map];by_cases hlt:i<y.kids.length
    · have e:decide ((i:Int)<(y.kids.length:Nat))=true:=decide_eq_true (by omega);have hm:=List.getElem_mem hlt;have hs:=sumN_succ Ty.bangs hlt;have hk:=hkl (i+1) (by omega);have hz:=Ty.n_kid hm;simp only[e,go_sem,List.getElem?_map,List.getElem?_eq_getElem hlt,Option.map_some];refine call_pure (ih _ hz (by omega)) ?_;have ew:IntKind.i64.wrap (((0+sumN Ty.bangs (y.kids.take i):Nat):Int)+((Ty.bangs y.kids[i]:Nat):Int))=((0+sumN Ty.bangs (y.kids.take (i+1)):Nat):Int):=by
        rw[wrap_small (by omega) (by omega),hs];omega
      simp only[go_sem,ew,wrap_succ (show i<4611686018427387904 by omega)];exact loopQ_nrm (i+1) hlt (by omega) (Can.sub (by simp[go_sem]) (by simp[go_sem]))
    · have e:decide ((i:Int)<(y.kids.length:Nat))=false:=decide_eq_false (by omega);obtain rfl:i=y.kids.length:=by omega
      simp only[e,go_sem];exact fin_eq rfl (by rw[List.take_length,hb])
theorem c78:∀y:Ty,y.n≤1048576→Pure Gm 78 [y.enc,y.enc] (.bool true):=Ty.sind fun y ih hn=>by
  refine Pure.intro [] [] g78 (by kernel_rfl) rfl (by simp[AV.trees,Ty.tr]) rfl ?_;simp only[F78,vparams,go_sem];refine lbox_ok Ty.ln ?_;simp only[go_sem];refine lbox_ok Ty.ln ?_;have hkn:y.kids.length≤2:=by cases y<;>simp[Ty.kids]
  simp only[go_sem,decide_true,Bool.not_true,List.length_map,beq_self_eq_true];refine Sem.loop (fun i:Nat=>i≤y.kids.length) (fun i=>(⟨[(5,.int .i64 (i:Nat))],[(2,y.enc),(3,y.enc)],[]⟩:VSt)) (fun i=>y.kids.length-i) 0 (by kernel_rfl) (Nat.zero_le _) (Can.sub (by simp[go_sem]) (by simp[go_sem])) ?_;intro i hi;simp only[go_sem,List.length_map];by_cases hlt:i<y.kids.length
  · have e:decide ((i:Int)<(y.kids.length:Nat))=true:=decide_eq_true (by omega);have hm:=List.getElem_mem hlt;have hz:=Ty.n_kid hm;simp only[e,go_sem,List.getElem?_map,List.getElem?_eq_getElem hlt,Option.map_some];refine call_pure (ih _ hz (by omega)) ?_;simp only[go_sem,Bool.not_true,wrap_succ (show i<4611686018427387904 by omega)];exact loopQ_nrm (i+1) hlt (by omega) (Can.sub (by simp[go_sem]) (by simp[go_sem]))
  · have e:decide ((i:Int)<(y.kids.length:Nat))=false:=decide_eq_false (by omega);simp only[e,go_sem];exact fin_eq rfl rfl
theorem c332{xs:List Ty}(hl:xs.length≤1048576)(ih:∀z∈xs,Pure Gm 73 [z.enc,z.enc] (.bool true)):Pure Gm 332 [.lst 3 (xs.map Ty.enc) false,.lst 3 (xs.map Ty.enc) false,.fn 73 []] (.bool true):=by
  refine Pure.intro [] [] g332 (by kernel_rfl) rfl (by simp[AV.trees,AV.tree,trees_map Ty.isSh.tree]) rfl ?_;simp only[F332,vparams,go_sem,List.length_map,decide_true,Bool.not_true];refine Sem.loop (fun i:Nat=>i≤xs.length) (fun i=>(⟨[(1,.lst 3 (xs.map Ty.enc) false),(2,.fn 73 []),(15,.lst 3 (xs.map Ty.enc) false),(16,.int .i64 xs.length),(17,.int .i64 (i:Nat))],[],[]⟩:VSt)) (fun i=>xs.length-i) 0 (by kernel_rfl) (Nat.zero_le _) (Can.sub (by simp[go_sem]) (by simp[go_sem])) ?_;intro i hi;simp only[go_sem];by_cases hlt:i<xs.length
  · have e:decide ((i:Int)<(xs.length:Nat))=true:=decide_eq_true (by omega);have hm:=List.getElem_mem hlt;simp only[e,go_sem,List.getElem?_map,List.getElem?_eq_getElem hlt,Option.map_some];refine lst_all (k:=3) rfl Ty.ln ⟨_,Ty.enc_eq⟩ (by decide) ?_;simp only[go_sem,List.getElem?_map,List.getElem?_eq_getElem hlt,Option.map_some];refine lst_all (k:=3) rfl Ty.ln ⟨_,Ty.enc_eq⟩ (by decide) ?_;simp only[go_sem];refine call_pure (ih _ hm) ?_;simp only[go_sem,Bool.not_true,wrap_succ (show i<4611686018427387904 by omega)];exact loopQ_nrm (i+1) hlt (by omega) (Can.sub (by simp[go_sem]) (by simp[go_sem]))
  · have e:decide ((i:Int)<(xs.length:Nat))=false:=decide_eq_false (by omega);simp only[e,go_sem];exact fin_eq rfl rfl
theorem c73:∀y:Ty,y.n≤1048576→Pure Gm 73 [y.enc,y.enc] (.bool true):=Ty.sind fun y ih hn=>by
  refine Pure.intro [] [] g73 (by kernel_rfl) rfl (by simp[AV.trees,Ty.tr]) rfl ?_;simp only[F73,vparams,go_sem];refine lbox_ok Ty.ln ?_;simp only[go_sem];refine lbox_ok Ty.ln ?_;have hkn:y.kids.length≤2:=by cases y<;>simp[Ty.kids]
  simp only[go_sem,decide_true,beq_self_eq_true];refine call_pure (c332 (by omega) fun z hz=>ih z (Ty.n_kid hz) (by have:=Ty.n_kid hz;omega)) ?_;simp only[go_sem];exact fin_eq rfl rfl
end Go.Ab
namespace Go.Ab
open Go
set_option maxRecDepth 10000
set_option maxHeartbeats 2000000
theorem cv_ty{h:List AObj}{k:Int}{m:Str}{v2:AV}{ks:List Ty}{y:Ty}(hy:y.kind=k)(hm:y.name=m)(hk:y.kids=ks)(hc:Cv h v2 (.lst 3 (ks.map Ty.enc) false)):Cv h (.agg [.int .i64 k,.str m,v2]) y.enc:=by
  rw[Ty.enc_eq,hy,hm,hk];have:=Cvs.cons (h:=h) (.refl (v:=.int .i64 k) rfl) (Cvs.cons (.refl (v:=.str m) rfl) (Cvs.cons hc Cvs.nil));exact .agg this.1 this.2
theorem vr_ty{μ:List (Option Nat)}{v v':AV}{k:Int}{m:Str}(x:VR2 μ v v'):VR2 μ (.agg [.int .i64 k,.str m,v]) (.agg [.int .i64 k,.str m,v']):=
  .agg rfl (VR2s.cons (.tree rfl) (VR2s.cons (.tree rfl) (VR2s.cons x VR2s.nil))).2
theorem row_step{μ:List (Option Nat)}{xs:List Ty}{f:Ty→Ty}{i:Nat}(h:i<xs.length):VR2s μ ((xs.take i).map (fun z=>(f z).enc)++[(f xs[i]).enc]) ((xs.take (i+1)).map fun z=>(f z).enc):=by
  rw[List.take_succ_eq_append_getElem h,List.map_append];refine VR2s.trees ?_;have:=trees_map (enc:=fun z=>(f z).enc) (fun _=>Ty.tr) (xs.take i++[xs[i]]);rw[List.map_append]at this;exact this
theorem c333:∀y:Ty,y.n≤1048576→Pure Gm 333 [y.enc] y.enc:=Ty.sind fun y ih hn=>by
  refine Pure.intro [] [] g333 (by kernel_rfl) rfl (by simp[AV.trees,Ty.tr]) Ty.tr ?_;simp only[F333,vparams,go_sem];refine lbox_ok Ty.ln ?_;simp only[go_sem];refine lst_all rfl rfl ⟨_,rfl⟩ (by decide) ?_;have hkn:y.kids.length≤2:=by cases y<;>simp[Ty.kids]
  simp only[go_sem,List.length_map];refine Sem.loop (fun i:Nat=>i≤y.kids.length) (fun i=>(⟨[(12,.lst 3 (y.kids.map Ty.enc) false),(13,.int .i64 y.kids.length),(14,.int .i64 (i:Nat))],[(2,.agg [.int .i64 0,.str [],.nils]),(3,.agg [.int .i64 y.kind,.str y.name,.slice 3 0 0 i false])],[.row 3 ((y.kids.take i).map Ty.enc) true]⟩:VSt)) (fun i=>y.kids.length-i) 0 (by kernel_rfl) (Nat.zero_le _) ?_ ?_
  · exact Can.renum [none] rfl ⟨.ph,trivial⟩ ⟨⟨_,rfl,.tree (by simp[AV.tree,trees_map Ty.isSh.tree])⟩,⟨_,rfl,.tree rfl⟩,⟨_,rfl,.tree rfl⟩,trivial⟩ ⟨⟨_,rfl,.tree rfl⟩,⟨_,rfl,vr_ty (.ph rfl)⟩,trivial⟩
  intro i hi;simp only[go_sem];by_cases hlt:i<y.kids.length
  · have e:decide ((i:Int)<(y.kids.length:Nat))=true:=decide_eq_true (by omega);have hm:=List.getElem_mem hlt;have hz:=Ty.n_kid hm;simp only[e,go_sem,List.getElem?_map,List.getElem?_eq_getElem hlt,Option.map_some];refine lst_all (k:=3) rfl Ty.ln ⟨_,Ty.enc_eq⟩ (by decide) ?_;simp only[go_sem];refine call_pure (ih _ hz (by omega)) ?_;simp only[go_sem];refine bsl_one (v:=y.kids[i].enc) rfl Ty.ln ?_;simp only[go_sem];refine app_one (el:=(y.kids.take i).map Ty.enc) rfl rfl (by simp;omega) (by omega) ?_;simp only[go_sem,wrap_succ (show i<4611686018427387904 by omega)];refine loopQ_nrm (i+1) hlt (by omega) ?_;exact Can.renum [some 2] rfl ⟨.row rfl (row_step (f:=id) hlt),trivial⟩ ⟨⟨_,rfl,.tree (by simp[AV.tree,trees_map Ty.isSh.tree])⟩,⟨_,rfl,.tree rfl⟩,⟨_,rfl,.tree rfl⟩,trivial⟩ ⟨⟨_,rfl,.tree rfl⟩,⟨_,rfl,vr_ty (.slice rfl)⟩,trivial⟩
  · have e:decide ((i:Int)<(y.kids.length:Nat))=false:=decide_eq_false (by omega);obtain rfl:i=y.kids.length:=by omega
    simp only[e,go_sem];refine lst_all rfl rfl ⟨_,rfl⟩ (by decide) ?_;simp only[go_sem];refine fin_cv (cv_ty rfl rfl rfl ?_);rw[List.take_length];exact Cv.row rfl (by simp) (trees_map Ty.isSh.tree _) (by decide)
theorem Ty.put{x y:Ty}:x.enc.put 0 y.enc=some y.enc:=by
  rw[Ty.enc_eq (y:=x)];exact put_all (k:=3) rfl Ty.ln ⟨fun _=>⟨_,Ty.enc_eq⟩,fun _=>⟨_,rfl⟩⟩ (by decide)
theorem Ty.isBang{z:Ty}(h:z.kind=4):∃a,z=.bang a:=by cases z<;>first | exact⟨_,rfl⟩ | (simp[Ty.kind]at h)
def Ty.erase:Ty→Ty
  |.int=>.int
  |.data m=>.data m
  |.fn a b=>.fn a.erase b.erase
  |.bang a=>a.erase
def Ty.strip:Ty→Nat×Ty
  |.bang a=>(a.strip.1+1,a.strip.2)
  | y=>(0,y)
theorem Ty.erase_kids{z:Ty}(h:¬z.kind=4):z.erase.kind=z.kind∧z.erase.name=z.name∧z.erase.kids=z.kids.map Ty.erase:=by
  cases z
  · exact⟨rfl,rfl,rfl⟩
  · exact⟨rfl,rfl,rfl⟩
  · exact⟨rfl,rfl,rfl⟩
  · exact absurd rfl h
theorem c330:∀y:Ty,y.n≤1048576→Pure Gm 330 [y.enc] y.erase.enc:=Ty.sind fun y ih hn=>by
  refine Pure.intro [] [] g330 (by kernel_rfl) rfl (by simp[AV.trees,Ty.tr]) Ty.tr ?_;simp only[F330,vparams,go_sem];refine lbox_ok Ty.ln ?_;simp only[go_sem];refine Sem.loop (fun z:Ty=>z.erase=y.erase∧z.n≤y.n) (fun z=>(⟨[],[(1,z.enc),(2,.agg [.int .i64 0,.str [],.nils])],[]⟩:VSt)) (fun z=>z.n) y (by kernel_rfl) ⟨rfl,Nat.le_refl _⟩ (Can.sub (by simp[go_sem]) (by simp[go_sem])) ?_;rintro z ⟨he,hzn⟩;simp only[go_sem];by_cases h4:z.kind=4
  · obtain⟨a,rfl⟩:=Ty.isBang h4;simp only[decide_eq_true h4,go_sem];simp only[Ty.kids,List.map_cons,List.map_nil,List.getElem?_cons_zero,Option.map_some,go_sem];refine lst_ok (c':=a.enc) Ty.ln Ty.put ?_;simp only[go_sem];simp only[Ty.n]at hzn;exact loopQ_nrm a ⟨he,by omega⟩ (by simp only[Ty.n];omega) (Can.sub (by simp[go_sem]) (by simp[go_sem]))
  simp only[decide_eq_false h4,go_sem];refine lst_all rfl rfl ⟨_,rfl⟩ (by decide) ?_;have hkn:z.kids.length≤2:=by cases z<;>simp[Ty.kids]
  simp only[go_sem,List.length_map];refine Sem.loop (fun i:Nat=>i≤z.kids.length) (fun i=>(⟨[(19,.lst 3 (z.kids.map Ty.enc) false),(20,.int .i64 z.kids.length),(21,.int .i64 (i:Nat))],[(2,.agg [.int .i64 0,.str [],.nils]),(3,.agg [.int .i64 z.kind,.str z.name,.slice 3 0 0 i false])],[.row 3 ((z.kids.take i).map fun q=>q.erase.enc) true]⟩:VSt)) (fun i=>z.kids.length-i) 0 (by kernel_rfl) (Nat.zero_le _) ?_ ?_
  · exact Can.renum [none] rfl ⟨.ph,trivial⟩ ⟨⟨_,rfl,.tree (by simp[AV.tree,trees_map Ty.isSh.tree])⟩,⟨_,rfl,.tree rfl⟩,⟨_,rfl,.tree rfl⟩,trivial⟩ ⟨⟨_,rfl,.tree rfl⟩,⟨_,rfl,vr_ty (.ph rfl)⟩,trivial⟩
  intro i hi;simp only[go_sem];by_cases hlt:i<z.kids.length
  · have e:decide ((i:Int)<(z.kids.length:Nat))=true:=decide_eq_true (by omega);have hm:=List.getElem_mem hlt;have hz:=Ty.n_kid hm;simp only[e,go_sem,List.getElem?_map,List.getElem?_eq_getElem hlt,Option.map_some];refine lst_all (k:=3) rfl Ty.ln ⟨_,Ty.enc_eq⟩ (by decide) ?_;simp only[go_sem];refine call_pure (ih _ (by omega) (by omega)) ?_;simp only[go_sem];refine bsl_one (v:=z.kids[i].erase.enc) rfl Ty.ln ?_;simp only[go_sem];refine app_one (el:=(z.kids.take i).map fun q=>q.erase.enc) rfl rfl (by simp;omega) (by omega) ?_;simp only[go_sem,wrap_succ (show i<4611686018427387904 by omega)];refine loopQ_nrm (i+1) hlt (by omega) ?_;exact Can.renum [some 2] rfl ⟨.row rfl (row_step (f:=Ty.erase) hlt),trivial⟩ ⟨⟨_,rfl,.tree (by simp[AV.tree,trees_map Ty.isSh.tree])⟩,⟨_,rfl,.tree rfl⟩,⟨_,rfl,.tree rfl⟩,trivial⟩ ⟨⟨_,rfl,.tree rfl⟩,⟨_,rfl,vr_ty (.slice rfl)⟩,trivial⟩
  · have e:decide ((i:Int)<(z.kids.length:Nat))=false:=decide_eq_false (by omega);obtain rfl:i=z.kids.length:=by omega
    simp only[e,go_sem];refine lst_all rfl rfl ⟨_,rfl⟩ (by decide) ?_;simp only[go_sem];obtain⟨k1,k2,k3⟩:=Ty.erase_kids h4;rw[he]at k1 k2 k3;refine fin_cv (cv_ty k1 k2 k3 ?_);rw[List.take_length,List.map_map];exact Cv.row rfl (by simp) (trees_map (enc:=Ty.enc∘Ty.erase) (fun _=>Ty.tr) _) (by decide)
theorem Ty.valid(y:Ty)(hy:y.ok):validT y.g=(decide (y.dep≤6)&&decide (y.n≤16)):=by
  unfold validT;rw[Ty.shp_g y hy,Bool.true_and]
structure Ty.V(y:Ty):Prop where
  o:y.ok
  v:validT y.g=true
theorem Ty.V.n{y:Ty}(h:y.V):y.n≤16:=by
  have:=h.v;rw[Ty.valid y h.o,Bool.and_eq_true,decide_eq_true_eq,decide_eq_true_eq]at this;exact this.2
theorem Ty.V.c{y:Ty}(h:y.V):Pure Gm 74 [y.enc] (.bool true):=by
  have:=c74 (Ty.bd_g y h.o) (by rw[Ty.nd_g];have:=h.n;omega);rw[h.v]at this;exact this
theorem c70{y:Ty}(h:y.V):Pure Gm 70 [y.enc] y.erase.enc:=by
  refine Pure.intro [] [] g70 (by kernel_rfl) rfl (by simp[AV.trees,Ty.tr]) Ty.tr ?_;simp only[F70,vparams,go_sem];refine lbox_ok Ty.ln ?_;simp only[go_sem];refine call_pure h.c ?_;simp only[go_sem,Bool.not_true];refine call_pure (c330 y (by have:=h.n;omega)) ?_;simp only[go_sem];refine lst_all (k:=3) rfl Ty.ln ⟨_,Ty.enc_eq⟩ (by decide) ?_;simp only[go_sem];exact fin_eq Ty.tr rfl
theorem c71{y:Ty}(h:y.V):Pure Gm 71 [y.enc] (.int .i64 (y.n:Nat)):=by
  refine Pure.intro [] [] g71 (by kernel_rfl) rfl (by simp[AV.trees,Ty.tr]) rfl ?_;simp only[F71,vparams,go_sem];refine lbox_ok Ty.ln ?_;simp only[go_sem];refine call_pure h.c ?_;simp only[go_sem,Bool.not_true];have hc:=c331 y.g (Ty.bd_g y h.o) (by rw[Ty.nd_g];have:=h.n;omega);rw[Ty.shp_g y h.o]at hc;refine call_pure hc ?_;simp only[go_sem];exact fin_eq rfl rfl
theorem Ty.strip_eq{z:Ty}(h:¬z.kind=4):z.strip=(0,z):=by cases z<;>first | rfl | (exact absurd rfl h)
theorem c75{y:Ty}(h:y.V):Pure Gm 75 [y.enc] (.tup [.int .i64 (y.strip.1:Nat),y.strip.2.enc]):=by
  have hn:=h.n;refine Pure.intro [] [] g75 (by kernel_rfl) rfl (by simp[AV.trees,Ty.tr]) (by simp[AV.tree,AV.trees,Ty.tr]) ?_;simp only[F75,vparams,go_sem];refine lbox_ok Ty.ln ?_;simp only[go_sem];refine call_pure h.c ?_;simp only[go_sem,Bool.not_true];refine Sem.loop (fun a:Nat×Ty=>y.strip=(a.1+a.2.strip.1,a.2.strip.2)∧a.1+a.2.n≤y.n) (fun a=>(⟨[(4,.int .i64 (a.1:Nat))],[(1,a.2.enc),(3,.agg [.int .i64 0,.str [],.nils])],[]⟩:VSt)) (fun a=>a.2.n) (0,y) (by kernel_rfl) ⟨by simp,by simp⟩ (Can.sub (by simp[go_sem]) (by simp[go_sem])) ?_;rintro⟨c,z⟩ ⟨he,hzn⟩;simp only at he hzn;simp only[go_sem];by_cases h4:z.kind=4
  · obtain⟨a,rfl⟩:=Ty.isBang h4;simp only[decide_eq_true h4,go_sem];simp only[Ty.kids,List.map_cons,List.map_nil,List.getElem?_cons_zero,Option.map_some,go_sem];refine lst_ok (c':=a.enc) Ty.ln Ty.put ?_;simp only[Ty.n]at hzn;simp only[go_sem,wrap_succ (show c<4611686018427387904 by omega)];exact loopQ_nrm (c+1,a) ⟨by rw[he];simp only[Ty.strip];rw[Nat.add_assoc,Nat.add_comm 1],by simp only;omega⟩ (by simp only[Ty.n];omega) (Can.sub (by simp[go_sem]) (by simp[go_sem]))
  · simp only[decide_eq_false h4,go_sem];refine call_pure (c333 z (by omega)) ?_;simp only[go_sem];refine lst_all (k:=3) rfl Ty.ln ⟨_,Ty.enc_eq⟩ (by decide) ?_;simp only[go_sem];rw[Ty.strip_eq h4]at he;exact fin_eqs (by rw[he];simp[AV.tree,AV.trees,Ty.tr]) (by rw[he];simp)
end Go.Ab
namespace Go.Ab
open Go
set_option maxRecDepth 10000
set_option maxHeartbeats 2000000
namespace Ty
def text:Ty→Str
  |.int=>[73,110,116]
  |.data m=>m
  |.fn a b=>((if a.kind=3 then 40::(a.text++[41])else a.text)++[32,45,62,32])++b.text
  |.bang a=>33::(if a.kind=3 then 40::(a.text++[41])else a.text)
def encl(a:Ty):Str:=if a.kind=3 then 40::(a.text++[41])else a.text
theorem text_fn(a b:Ty):(Ty.fn a b).text=(a.encl++[32,45,62,32])++b.text:=rfl
theorem text_bang(a:Ty):(Ty.bang a).text=33::a.encl:=rfl
theorem name_len{m:Str}(h:isUp m=true):m.length≤12:=by
  unfold isUp isName at h;split at h<;>simp_all
theorem encl_len(a:Ty):a.encl.length≤a.text.length+2:=by
  unfold encl;split
  · simp
  · omega
theorem text_len:∀y:Ty,y.ok→y.text.length≤20*y.n
  |.int,_=>by simp[text,n]
  |.data m,h=>by have:=name_len h.1;simp only[text,n];omega
  |.fn a b,h=>by
    have:=text_len a h.1;have:=text_len b h.2;have:=encl_len a;rw[text_fn];simp only[List.length_append,List.length_cons,List.length_nil,n];omega
  |.bang a,h=>by
    have:=text_len a h;have:=encl_len a;rw[text_bang];simp only[List.length_cons,n];omega
end Ty
theorem c723{y:Ty}(hl:y.text.length≤1000000000)(h:Pure Gm 336 [y.enc] (.str y.text)):Pure Gm 723 [y.enc] (.str y.encl):=by
  refine Pure.intro [] [] g723 (by kernel_rfl) rfl (by simp[AV.trees,Ty.tr]) rfl ?_;simp only[F723,vparams,go_sem];refine lbox_ok Ty.ln ?_;simp only[go_sem];by_cases h3:y.kind=3
  · simp only[decide_eq_true h3,go_sem];refine call_pure h ?_;simp only[go_sem];rw[strOp_add (by simp only[List.length_cons,List.length_nil];omega)];simp only[go_sem];rw[strOp_add (by simp only[List.length_append,List.length_cons,List.length_nil];omega)];simp only[go_sem];exact fin_eq rfl (by unfold Ty.encl;rw[if_pos h3];rfl)
  · simp only[decide_eq_false h3,go_sem];refine call_pure h ?_;simp only[go_sem];exact fin_eq rfl (by unfold Ty.encl;rw[if_neg h3])
theorem c336:∀y:Ty,y.ok→y.n≤1048576→Pure Gm 336 [y.enc] (.str y.text):=Ty.sind fun y ih ho hn=>by
  refine Pure.intro [] [] g336 (by kernel_rfl) rfl (by simp[AV.trees,Ty.tr]) rfl ?_;simp only[F336,vparams,go_sem];refine lbox_ok Ty.ln ?_;simp only[go_sem];cases y with
  | int=>
    simp only[show decide (Ty.int.kind=1)=true from rfl,go_sem];exact fin_eq rfl rfl
  | data m=>
    simp only[show decide ((Ty.data m).kind=1)=false from rfl,show decide ((Ty.data m).kind=3)=false from rfl,show decide ((Ty.data m).kind=4)=false from rfl,go_sem];exact fin_eq rfl rfl
  | fn a b=>
    have la:=Ty.text_len a ho.1;have lb:=Ty.text_len b ho.2;have le:=a.encl_len;simp only[Ty.n]at hn ih;simp only[show decide ((Ty.fn a b).kind=1)=false from rfl,show decide ((Ty.fn a b).kind=3)=true from rfl,go_sem];simp only[Ty.kids,List.map_cons,List.map_nil,List.getElem?_cons_zero,List.getElem?_cons_succ,Option.map_some,go_sem];refine call_pure (c723 (by omega) (ih a (by omega) ho.1 (by omega))) ?_;simp only[go_sem];rw[strOp_add (by simp only[List.length_cons,List.length_nil];omega)];simp only[go_sem];refine call_pure (ih b (by omega) ho.2 (by omega)) ?_;simp only[go_sem];rw[strOp_add (by simp only[List.length_append,List.length_cons,List.length_nil];omega)];simp only[go_sem];exact fin_eq rfl (by rw[Ty.text_fn])
  | bang a=>
    have la:=Ty.text_len a ho;have le:=a.encl_len;simp only[Ty.n]at hn ih;simp only[show decide ((Ty.bang a).kind=1)=false from rfl,show decide ((Ty.bang a).kind=3)=false from rfl,show decide ((Ty.bang a).kind=4)=true from rfl,go_sem];simp only[Ty.kids,List.map_cons,List.map_nil,List.getElem?_cons_zero,List.getElem?_cons_succ,Option.map_some,go_sem];refine call_pure (c723 (by omega) (ih a (by omega) ho (by omega))) ?_;simp only[go_sem];rw[strOp_add (by simp only[List.length_cons,List.length_nil];omega)];simp only[go_sem];exact fin_eq rfl rfl
theorem c77{y:Ty}(h:y.V):Pure Gm 77 [y.enc] (.str y.text):=by
  refine Pure.intro [] [] g77 (by kernel_rfl) rfl (by simp[AV.trees,Ty.tr]) rfl ?_;simp only[F77,vparams,go_sem];refine lbox_ok Ty.ln ?_;simp only[go_sem];refine call_pure h.c ?_;simp only[go_sem,Bool.not_true];refine call_pure (c336 y h.o (by have:=h.n;omega)) ?_;simp only[go_sem];exact fin_eq rfl rfl
end Go.Ab
namespace Go.Ab
open Go
set_option maxRecDepth 10000
set_option maxHeartbeats 2000000
def Ty.tks:Ty→List (Int×Str)
  |.int=>[(2,[73,110,116])]
  |.data m=>[(2,m)]
  |.fn a b=>(if a.kind=3 then(5,[40])::(a.tks++[(5,[41])])else a.tks)++(5,[45,62])::b.tks
  |.bang a=>(5,[33])::(if a.kind=3 then(5,[40])::(a.tks++[(5,[41])])else a.tks)
def Ty.etk(a:Ty):List (Int×Str):=if a.kind=3 then(5,[40])::(a.tks++[(5,[41])])else a.tks
theorem Ty.tks_fn(a b:Ty):(Ty.fn a b).tks=a.etk++(5,[45,62])::b.tks:=rfl
theorem Ty.tks_bang(a:Ty):(Ty.bang a).tks=(5,[33])::a.etk:=rfl
def GTok.kt(x:GTok):Int×Str:=(x.Kind,x.Text)
def NW(rest:Str):Prop:=∀c r,rest=c::r→isWB c=false
theorem tw_app{p:UInt8→Bool}{m rest:Str}(hm:m.all p=true)(hr:∀c r,rest=c::r→p c=false):(m++rest).takeWhile p=m:=by
  induction m with
  | nil=>
    cases rest with
    | nil=>rfl
    | cons c r=>rw[List.nil_append,List.takeWhile_cons_of_neg (by rw[hr c r rfl];decide)]
  | cons a m ih=>
    rw[List.all_cons,Bool.and_eq_true]at hm;rw[List.cons_append,List.takeWhile_cons_of_pos hm.1,ih hm.2]
theorem drop_at{t:Str}{i:Nat}{c:UInt8}{r:Str}(h:t.drop i=c::r):i<t.length∧t.getD i 0=c∧t.drop (i+1)=r:=by
  have hlt:i<t.length:=by
    rcases Nat.lt_or_ge i t.length with q | q
    · exact q
    · rw[List.drop_eq_nil_of_le q]at h;cases h
  have e:t.drop i=t[i]::t.drop (i+1):=by simp
  rw[e]at h;cases h;exact⟨hlt,by simp[List.getD,List.getElem?_eq_getElem hlt],rfl⟩
theorem nblank{c:UInt8}(h:isWB c=true∨c=33∨c=40∨c=41∨c=45):¬0≤Lib.indexByte blanks c.toNat.toUInt8:=by
  have e:c.toNat.toUInt8=c:=by simp
  rw[e];have h1:c≠32∧c≠10∧c≠9:=by
    rcases h with h | rfl | rfl | rfl | rfl
    · refine⟨?_, ?_, ?_⟩<;>rintro rfl<;>revert h<;>decide
    · decide
    · decide
    · decide
    · decide
  obtain⟨a,b,d⟩:=h1;simp only[blanks,Lib.indexByte];simp[Ne.symm a,Ne.symm b,Ne.symm d]
theorem lx_word{t m rest:Str}{i:Nat}{acc:List GTok}(hm:isUp m=true)(h:t.drop i=m++rest)(hr:NW rest):toksG t i acc=toksG t (i+m.length) (acc++[⟨2,m,i⟩]):=by
  have hw:wordAt t i=m:=by
    unfold wordAt;rw[h];refine tw_app ?_ hr;unfold isUp isName at hm;split at hm<;>simp_all
  have hn:isName m=true∧isCap (m.headD 0)=true:=by unfold isUp at hm;rw[Bool.and_eq_true]at hm;exact hm
  have hne:0<m.length:=by
    cases m with
    | nil=>simp[isName]at hn
    | cons c r=>simp
  have hk:isKw m=false:=by
    have:=hn.1;cases m with
    | nil=>simp at hne
    | cons c r=>simp only[isName,Bool.and_eq_true,Bool.not_eq_true']at this;exact this.2.2.1
  have hlo:isLo m=false:=by
    have:=hn.2;unfold isLo;rw[Bool.and_eq_false_iff];right;simp[isCap,isSm]at this⊢;omega
  obtain⟨c,r,rfl⟩:∃c r,m=c::r:=by cases m with | nil=>simp at hne | cons c r=>exact⟨c,r,rfl⟩
  obtain⟨d1,d2,d3⟩:=drop_at (show t.drop i=c::(r++rest)from h);have hwb:isWB c=true:=by have:=hn.2;simp only[List.headD_cons]at this;simp[isWB,this]
  have te:tokEnd t i=(2,i+(c::r).length):=by
    unfold tokEnd;rw[hw,if_pos hne,hk,hlo,hm];simp
  rw[toksG_step d1,d2,if_neg (nblank (.inl hwb)),te,if_neg (by simp)];congr 2;unfold tokAt;rw[te];simp only[Nat.add_sub_cancel_left];rw[h,List.take_left'];rfl
theorem lx_end{t rest:Str}{i:Nat}{c:UInt8}(h:t.drop i=c::rest)(hc:isWB c=false):(wordAt t i).length=0:=by
  unfold wordAt;rw[h,List.takeWhile_cons_of_neg (by rw[hc];decide)];rfl
theorem lx_sym{t rest:Str}{i:Nat}{acc:List GTok}{c:UInt8}(h:t.drop i=c::rest)(hc:c=33∨c=40∨c=41):toksG t i acc=toksG t (i+1) (acc++[⟨5,[c],i⟩]):=by
  obtain⟨d1,d2,d3⟩:=drop_at h;have h0:=lx_end h (by rcases hc with rfl | rfl | rfl<;>decide);have te:tokEnd t i=(5,i+1):=by
    unfold tokEnd;rw[if_neg (by omega),h,d2];have hp:pfx [45,62] (c::rest)=false:=by
      unfold pfx;rcases hc with rfl | rfl | rfl<;>simp
    rw[hp,if_neg (by decide),if_pos (by rcases hc with rfl | rfl | rfl<;>decide)]
  rw[toksG_step d1,d2,if_neg (nblank (by rcases hc with rfl | rfl | rfl<;>simp)),te,if_neg (by simp)];congr 2;unfold tokAt;rw[te];simp only[Nat.add_sub_cancel_left];rw[h];rfl
theorem lx_arrow{t rest:Str}{i:Nat}{acc:List GTok}(h:t.drop i=45::62::rest):toksG t i acc=toksG t (i+2) (acc++[⟨5,[45,62],i⟩]):=by
  obtain⟨d1,d2,d3⟩:=drop_at h;have h0:=lx_end h (by decide);have te:tokEnd t i=(5,i+2):=by
    unfold tokEnd;rw[if_neg (by omega),h];have hp:pfx [45,62] (45::62::rest)=true:=by unfold pfx;simp
    rw[hp,if_pos rfl]
  rw[toksG_step d1,d2,if_neg (nblank (.inr (.inr (.inr (.inr rfl))))),te,if_neg (by simp)];congr 2;unfold tokAt;rw[te];simp only[Nat.add_sub_cancel_left];rw[h];rfl
theorem lx_blank{t rest:Str}{i:Nat}{acc:List GTok}(h:t.drop i=32::rest):toksG t i acc=toksG t (i+1) acc:=by
  obtain⟨d1,d2,d3⟩:=drop_at h;rw[toksG_step d1,d2,if_pos (by decide)]
theorem drop_app{t a b:Str}{i:Nat}(h:t.drop i=a++b):t.drop (i+a.length)=b:=by
  rw[←List.drop_drop,h,List.drop_left'];rfl
def LxOk(y:Ty)(s:Str)(T:List (Int×Str)):Prop:=∀(t rest:Str)(i:Nat)(acc:List GTok),t.drop i=s++rest→NW rest→∃l:List GTok,l.map GTok.kt=T∧toksG t i acc=toksG t (i+s.length) (acc++l)
theorem lx_encl{y:Ty}(h:LxOk y y.text y.tks):LxOk y y.encl y.etk:=by
  unfold Ty.encl Ty.etk;by_cases h3:y.kind=3
  · rw[if_pos h3,if_pos h3];intro t rest i acc hd hr;have hd:t.drop i=40::(y.text++(41::rest)):=by rw[hd];simp
    obtain⟨_,_,d3⟩:=drop_at hd;obtain⟨l,e1,e2⟩:=h t (41::rest) (i+1) (acc++[⟨5,[40],i⟩]) d3 (fun c r e=>by cases e;decide);have d4:=drop_app d3;refine⟨⟨5,[40],i⟩::(l++[⟨5,[41],((i+1+y.text.length:Nat):Int)⟩]),by simp[GTok.kt,←e1], ?_⟩;rw[lx_sym hd (.inr (.inl rfl)),e2,lx_sym d4 (.inr (.inr rfl))];congr 1
    · simp;omega
    · simp
  · rw[if_neg h3,if_neg h3];exact h
theorem lx:∀y:Ty,y.ok→LxOk y y.text y.tks
  |.int,_=>fun t rest i acc hd hr=>⟨[⟨2,[73,110,116],i⟩],rfl,lx_word (by decide) hd hr⟩
  |.data m,h=>fun t rest i acc hd hr=>⟨[⟨2,m,i⟩],rfl,lx_word h.1 hd hr⟩
  |.fn a b,h=>fun t rest i acc hd hr=>by
    rw[Ty.text_fn]at hd;have hd:t.drop i=a.encl++(32::(45::62::(32::(b.text++rest)))):=by rw[hd];simp
    obtain⟨l,e1,e2⟩:=lx_encl (lx a h.1) t _ i acc hd (fun c r e=>by cases e;decide);have d1:=drop_app hd;obtain⟨_,_,d2⟩:=drop_at d1;have d3:t.drop (i+a.encl.length+1+2)=32::(b.text++rest):=drop_app (a:=[45,62]) d2;obtain⟨_,_,d4⟩:=drop_at d3;obtain⟨l2,f1,f2⟩:=lx b h.2 t rest _ ((acc++l)++[⟨5,[45,62],((i+a.encl.length+1:Nat):Int)⟩]) d4 hr;refine⟨l++⟨5,[45,62],((i+a.encl.length+1:Nat):Int)⟩::l2,by rw[Ty.tks_fn];simp[GTok.kt,←e1,←f1], ?_⟩;rw[e2,lx_blank d1,lx_arrow d2,lx_blank d3,f2];congr 1
    · rw[Ty.text_fn];simp;omega
    · simp
  |.bang a,h=>fun t rest i acc hd hr=>by
    rw[Ty.text_bang]at hd;have hd:t.drop i=33::(a.encl++rest):=by rw[hd];simp
    obtain⟨_,_,d1⟩:=drop_at hd;obtain⟨l,e1,e2⟩:=lx_encl (lx a h) t rest (i+1) (acc++[⟨5,[33],i⟩]) d1 hr;refine⟨⟨5,[33],i⟩::l,by rw[Ty.tks_bang];simp[GTok.kt,←e1], ?_⟩;rw[lx_sym hd (.inl rfl),e2];congr 1
    · rw[Ty.text_bang];simp;omega
    · simp
theorem lx_all{y:Ty}(h:y.ok):∃l:List GTok,l.map GTok.kt=y.tks∧toksOf y.text=.ok l:=by
  obtain⟨l,e1,e2⟩:=lx y h y.text [] 0 [] (by simp) (fun c r e=>by cases e);refine⟨l,e1, ?_⟩;rw[toksOf_eq,e2,toksG_end (by omega)];simp
end Go.Ab
namespace Go.Ab
open Go
set_option maxRecDepth 10000
set_option maxHeartbeats 2000000
theorem at_kt{toks:List GTok}{a:Nat}{k:Int}{x:Str}{R:List (Int×Str)}(h:(toks.map GTok.kt).drop a=(k,x)::R):∃t,toks[a]?=some t∧t.Kind=k∧t.Text=x∧(toks.map GTok.kt).drop (a+1)=R:=by
  have hlt:a<(toks.map GTok.kt).length:=by
    rcases Nat.lt_or_ge a (toks.map GTok.kt).length with q | q
    · exact q
    · rw[List.drop_eq_nil_of_le q]at h;cases h
  have e:(toks.map GTok.kt).drop a=(toks.map GTok.kt)[a]::(toks.map GTok.kt).drop (a+1):=List.drop_eq_getElem_cons hlt;rw[e]at h;have hl:a<toks.length:=by simpa using hlt
  injection h with h1 h2;rw[List.getElem_map]at h1;refine⟨toks[a],List.getElem?_eq_getElem hl, ?_, ?_,h2⟩
  · exact congrArg Prod.fst h1
  · exact congrArg Prod.snd h1
theorem isP_kt{toks:List GTok}{a:Nat}{k:Int}{x s:Str}{R:List (Int×Str)}(h:(toks.map GTok.kt).drop a=(k,x)::R):isP toks a s=(decide (x=s)&&(decide (k=5) || decide (k=3))):=by
  obtain⟨t,e1,rfl,rfl,_⟩:=at_kt h;unfold isP;rw[e1]
def NA(R:List (Int×Str)):Prop:=∀k x r,R=(k,x)::r→(decide (x=[45,62])&&(decide (k=5) || decide (k=3)))=false
theorem isP_na{toks:List GTok}{a:Nat}(h:NA ((toks.map GTok.kt).drop a)):isP toks a [45,62]=false:=by
  cases e:(toks.map GTok.kt).drop a with
  | nil=>
    have:toks.length≤a:=by
      have:=congrArg List.length e;simp at this;omega
    unfold isP;rw[List.getElem?_eq_none this]
  | cons p R=>
    obtain⟨k,x⟩:=p;rw[isP_kt e];exact h k x R e
theorem drop_kt{T A R:List (Int×Str)}{a:Nat}(h:T.drop a=A++R):T.drop (a+A.length)=R:=by
  rw[←List.drop_drop,h,List.drop_left'];rfl
theorem name_g{y:Ty}(h:¬y.kind=3)(h4:¬y.kind=4)(ho:y.ok):y.etk=[(2,if y.kind=1 then [73,110,116]else y.name)]∧(if (if y.kind=1 then [73,110,116]else y.name)=[73,110,116]then intT else dataT (if y.kind=1 then [73,110,116]else y.name))=y.g:=by
  cases y with
  | int=>exact⟨rfl,rfl⟩
  | data m=>exact⟨rfl,by simp only[Ty.kind,Ty.name,Ty.g];simp[ho.2,dataT]⟩
  | fn a b=>exact absurd rfl h
  | bang a=>exact absurd rfl h4
theorem parse_ty(toks:List GTok):∀y:Ty,y.ok→
    (∀(f a:Nat)(R:List (Int×Str)),(toks.map GTok.kt).drop a=y.etk++R→2*y.etk.length≤f→pT toks f true a=.ok (y.g,a+y.etk.length))∧
    (∀(f a:Nat)(R:List (Int×Str)),(toks.map GTok.kt).drop a=y.tks++R→NA R→2*y.tks.length+1≤f→pT toks f false a=.ok (y.g,a+y.tks.length)):=Ty.sind fun y ih ho=>by
  --an atom that is no function
  have A:¬y.kind=3→∀(f a:Nat)(R:List (Int×Str)),(toks.map GTok.kt).drop a=y.etk++R→2*y.etk.length≤f→pT toks f true a=.ok (y.g,a+y.etk.length):=by
    intro h3 f a R h hf;by_cases h4:y.kind=4
    · obtain⟨z,rfl⟩:=Ty.isBang h4;have ez:(Ty.bang z).etk=(5,[33])::z.etk:=rfl;rw[ez]at h hf⊢;obtain⟨g,rfl⟩:∃g,f=g+1:=⟨f-1,by simp at hf;omega⟩;have h:(toks.map GTok.kt).drop a=(5,[33])::(z.etk++R):=h;have hp:=isP_kt (s:=[33]) h;obtain⟨_,_,_,_,d⟩:=at_kt h;have hi:=(ih z (by simp[Ty.n]) ho).1 g (a+1) R d (by simp at hf;omega);simp only[pT,hp,hi];simp[Ty.g,bangT];omega
    · obtain⟨e1,e2⟩:=name_g h3 h4 ho;rw[e1]at h hf⊢;obtain⟨g,rfl⟩:∃g,f=g+1:=⟨f-1,by simp at hf;omega⟩;have h:(toks.map GTok.kt).drop a=(2,_)::R:=h;have hp:=isP_kt (s:=[33]) h;have hq:=isP_kt (s:=[40]) h;obtain⟨t,t1,t2,t3,_⟩:=at_kt h;simp only[pT,hp,hq,t1,t2,t3,e2];simp
  have B:∀(f a:Nat)(R:List (Int×Str)),(toks.map GTok.kt).drop a=y.tks++R→NA R→2*y.tks.length+1≤f→pT toks f false a=.ok (y.g,a+y.tks.length):=by
    intro f a R h hR hf;obtain⟨g,rfl⟩:∃g,f=g+1:=⟨f-1,by omega⟩;by_cases h3:y.kind=3
    · obtain⟨p,q,rfl⟩:∃p q,y=.fn p q:=by cases y<;>first | exact⟨_,_,rfl⟩ | (simp[Ty.kind]at h3)
      rw[Ty.tks_fn]at h hf⊢;simp only[List.length_append,List.length_cons]at hf;have h:(toks.map GTok.kt).drop a=p.etk++((5,[45,62])::(q.tks++R)):=by rw[h];simp
      have i1:=(ih p (by simp only[Ty.n];omega) ho.1).1 g a _ h (by omega);have d1:=drop_kt h;have hp:=isP_kt (s:=[45,62]) d1;obtain⟨_,_,_,_,d2⟩:=at_kt d1;have i2:=(ih q (by simp only[Ty.n];omega) ho.2).2 g (a+p.etk.length+1) R d2 hR (by omega);simp only[pT,i1,hp,i2];simp[Ty.g,funT];omega
    · have et:y.etk=y.tks:=by unfold Ty.etk;rw[if_neg h3]
      have i1:=A h3 g a R (by rw[et];exact h) (by rw[et];omega);rw[et]at i1;have hp:isP toks (a+y.tks.length) [45,62]=false:=isP_na (by rw[drop_kt h];exact hR);simp only[pT,i1,hp];simp
  refine⟨fun f a R h hf=> ?_,B⟩;by_cases h3:y.kind=3
  · have et:y.etk=(5,[40])::(y.tks++[(5,[41])]):=by unfold Ty.etk;rw[if_pos h3]
    rw[et]at h hf⊢;simp only[List.length_append,List.length_cons,List.length_nil]at hf;obtain⟨g,rfl⟩:∃g,f=g+1:=⟨f-1,by omega⟩;have h:(toks.map GTok.kt).drop a=(5,[40])::(y.tks++((5,[41])::R)):=by rw[h];simp
    have hp:=isP_kt (s:=[33]) h;have hq:=isP_kt (s:=[40]) h;obtain⟨_,_,_,_,d1⟩:=at_kt h;have i1:=B g (a+1) _ d1 (fun k x r e=>by cases e;decide) (by omega);have d2:=drop_kt d1;have hr:=isP_kt (s:=[41]) d2;simp only[pT,hp,hq,i1,hr];simp;omega
  · exact A h3 f a R h hf
theorem parse_back{y:Ty}(h:y.V):parseT y.text=(y.g,0,0):=by
  have hl:=Ty.text_len y h.o;have hn:=h.n;obtain⟨l,e1,e2⟩:=lx_all h.o;have et:tokR y.text=(l,0,0):=by unfold tokR;rw[if_neg (by omega),e2]
  have hlen:l.length=y.tks.length:=by rw[←e1];simp
  have hp:=(parse_ty l y h.o).2 (fuelT l false 0) 0 [] (by rw[e1];simp) (fun k x r e=>by cases e) (by unfold fuelT;simp;omega);unfold parseT;rw[et];simp only[hp];rw[if_pos trivial,if_neg (by omega),h.v];rfl
end Go.Ab
namespace Go.Ab
open Go
set_option maxRecDepth 10000
set_option maxHeartbeats 2000000
theorem Cv.grow{h h':List AObj}{v t:AV}(x:Cv h v t)(hk:∀(j:Nat)(o:AObj),h[j]?=some o→h'[j]?=some o):Cv h' v t:=by
  induction x with
  | refl ht=>exact .refl ht
  | nils=>exact .nils
  | clip=>exact .clip
  | slc ho hl hw hs hc ih=>exact .slc (hk _ _ ho) hl hw hs ih
  | ptr ho hw he hc ih=>exact .ptr (hk _ _ ho) hw he ih
  | agg hl hc ih=>exact .agg hl ih
  | fn hl hc ih=>exact .fn hl ih
  | tup hl hc ih=>exact .tup hl ih
  | sub ht hp hy=>exact .sub ht hp hy
theorem Cv.push{h:List AObj}{v t:AV}{os:List AObj}(x:Cv h v t):Cv (h++os) v t:=x.grow fun j o hj=>by rw[List.getElem?_append_left (lt_some hj)];exact hj
namespace Ty
theorem erase_ok:∀y:Ty,y.ok→y.erase.ok
  |.int,_=>trivial
  |.data _,h=>h
  |.fn a b,h=>⟨erase_ok a h.1,erase_ok b h.2⟩
  |.bang a,h=>erase_ok a h
theorem erase_n:∀y:Ty,y.erase.n+y.bangs=y.n
  |.int=>rfl
  |.data _=>rfl
  |.fn a b=>by have:=erase_n a;have:=erase_n b;simp only[erase,n,bangs];omega
  |.bang a=>by have:=erase_n a;simp only[erase,n,bangs];omega
theorem erase_dep:∀y:Ty,y.erase.dep≤y.dep
  |.int=>Nat.le_refl _
  |.data _=>Nat.le_refl _
  |.fn a b=>by have:=erase_dep a;have:=erase_dep b;simp only[erase,dep];omega
  |.bang a=>by have:=erase_dep a;simp only[erase,dep];omega
theorem erase_bangs:∀y:Ty,y.erase.bangs=0
  |.int=>rfl
  |.data _=>rfl
  |.fn a b=>by have:=erase_bangs a;have:=erase_bangs b;simp only[erase,bangs];omega
  |.bang a=>erase_bangs a
theorem erase_erase:∀y:Ty,y.erase.erase=y.erase
  |.int=>rfl
  |.data _=>rfl
  |.fn a b=>by simp only[erase,erase_erase a,erase_erase b]
  |.bang a=>erase_erase a
theorem V.erase{y:Ty}(h:y.V):y.erase.V:=by
  refine⟨erase_ok y h.o, ?_⟩;have hv:=h.v;rw[valid y h.o,Bool.and_eq_true,decide_eq_true_eq,decide_eq_true_eq]at hv;rw[valid _ (erase_ok y h.o),Bool.and_eq_true,decide_eq_true_eq,decide_eq_true_eq];have:=erase_dep y;have:=erase_n y;omega
def wrap:Nat→Ty→Ty
  | 0,y=>y
  | k+1,y=>wrap k (.bang y)
theorem wrap_bang(k:Nat)(y:Ty):wrap k (.bang y)=.bang (wrap k y):=by
  induction k generalizing y with
  | zero=>rfl
  | succ k ih=>exact ih _
theorem strip_wrap:∀y:Ty,wrap y.strip.1 y.strip.2=y
  |.int=>rfl
  |.data _=>rfl
  |.fn _ _=>rfl
  |.bang a=>by
    show wrap (a.strip.1+1) a.strip.2=_;rw[wrap,wrap_bang,strip_wrap a]
theorem strip_kind:∀y:Ty,¬y.strip.2.kind=4
  |.int=>by decide
  |.data _=>by simp[strip,kind]
  |.fn _ _=>by simp[strip,kind]
  |.bang a=>strip_kind a
theorem strip_le:∀y:Ty,y.strip.1≤y.n
  |.int=>Nat.zero_le _
  |.data _=>Nat.zero_le _
  |.fn _ _=>Nat.zero_le _
  |.bang a=>by have:=strip_le a;simp only[strip,n];omega
end Ty
theorem c4{bs:List Int}(hb:OkB bs)(hlen:bs.length≤140737488355328):Pure Gm 4 [.lst 1 (bs.map encY) false] (.bool true):=by
  refine Pure.intro [] [] g4 (by kernel_rfl) rfl (by simp[AV.trees,AV.tree,trees_map shY.tree]) rfl ?_;simp only[F4,vparams,go_sem];refine call_pure (c60 hlen) ?_;simp only[go_sem];by_cases hl:3000<bs.length
  · simp only[decide_eq_true hl,go_sem];exact fin_eq rfl rfl
  simp only[decide_eq_false hl,go_sem];refine call_pureR (r69 hb) ?_;rintro v ⟨x,hv,hs,rfl⟩;obtain⟨y,rfl,ho⟩:=Ty.of_shp x (by unfold validT at hv;rw[Bool.and_eq_true]at hv;exact hv.1);have V:y.V:=⟨ho,hv⟩;have hn:=V.n;have V2:=V.erase;have hen:=Ty.erase_n y;have hpt:=parse_back V;show R _ _ ⟨(_,y.enc)::_,_,_⟩ _;simp only[go_sem];refine lst_all (k:=3) rfl Ty.ln ⟨_,Ty.enc_eq⟩ (by decide) ?_;simp only[go_sem];refine call_pure (c70 V) ?_;simp only[go_sem];refine lst_all (k:=3) rfl Ty.ln ⟨_,Ty.enc_eq⟩ (by decide) ?_;simp only[go_sem];refine call_pure (c71 V2) ?_;simp only[go_sem];refine call_pure (c71 V) ?_;simp only[go_sem];refine call_pure (c72 y (by omega)) ?_;have hbn:=Ty.bangs_le y;have e1:decide (((y.erase.n:Nat):Int)=((y.n:Nat):Int)-((y.bangs:Nat):Int))=true:=decide_eq_true (by omega);simp only[go_sem,wrap_small (n:=((y.n:Nat):Int)-((y.bangs:Nat):Int)) (by omega) (by omega),e1,Bool.not_true];refine call_pure (c72 y.erase (by omega)) ?_;rw[Ty.erase_bangs];have e2:decide (((0:Nat):Int)=0)=true:=rfl;simp only[go_sem,e2,Bool.not_true];refine call_pure (c70 V2) ?_;rw[Ty.erase_erase];simp only[go_sem];refine call_pure (c73 y.erase (by omega)) ?_;simp only[go_sem,Bool.not_true];refine call_pure V2.c ?_;simp only[go_sem,Bool.not_true];refine call_pure (c75 V) ?_;simp only[go_sem];refine lst_all (k:=3) rfl Ty.ln ⟨_,Ty.enc_eq⟩ (by decide) ?_;have e3:=decide_eq_false (Ty.strip_kind y);have e4:decide (((y.strip.1:Nat):Int)<0)=false:=decide_eq_false (by omega);simp only[go_sem,e3,e4];rw[Ty.enc_eq (y:=y.strip.2)];have hsl:=Ty.strip_le y;refine Sem.loop (fun a:Nat×Ty×(AV×AV×AV)×List AObj=>a.1≤16∧Ty.wrap a.1 a.2.1=y∧Cv a.2.2.2 (.agg [a.2.2.1.1,a.2.2.1.2.1,a.2.2.1.2.2]) a.2.1.enc)
    (fun a=>(⟨[(5,.int .i64 (a.1:Nat))],[(3,y.enc),(6,.agg [a.2.2.1.1,a.2.2.1.2.1,a.2.2.1.2.2])],a.2.2.2⟩:VSt)) (fun a=>a.1)
    (y.strip.1,y.strip.2,(.int .i64 y.strip.2.kind,.str y.strip.2.name,.lst 3 (y.strip.2.kids.map Ty.enc) false),[]) (by kernel_rfl)
    ⟨by simp only;omega,Ty.strip_wrap y,by simp only;rw[←Ty.enc_eq];exact .refl Ty.tr⟩ (Can.sub (by simp[go_sem]) (by simp[go_sem])) ?_
  rintro⟨c,z,⟨a0,a1,a2⟩,g⟩ ⟨i1,i2,i3⟩;simp only at i1 i2 i3;simp only[go_sem];by_cases hc:c=0
  case neg=>
    have e:decide (0<((c:Nat):Int))=true:=decide_eq_true (by omega);simp only[e,go_sem];refine bsl_one (v:=.agg [a0,a1,a2]) rfl rfl ?_;simp only[go_sem];refine lst_all rfl rfl ⟨_,rfl⟩ (by decide) ?_;have ew:IntKind.i64.wrap (((c:Nat):Int)-1)=((c-1:Nat):Int):=by rw[wrap_small (by omega) (by omega)];omega
    simp only[go_sem,ew];refine loopQ_nrm (c-1,.bang z,(.int .i64 4,.str [],.slice 3 g.length 0 1 false),g++[.row 3 [.agg [a0,a1,a2]] true]) ⟨by simp only;omega, ?_, ?_⟩ (by simp only;omega) (Can.sub (by simp[go_sem]) (by simp[go_sem]))
    · rw[←i2];obtain⟨d,rfl⟩:∃d,c=d+1:=⟨c-1,by omega⟩;rfl
    · refine cv_ty (y:=.bang z) (ks:=[z]) rfl rfl rfl ?_;refine .slc List.getElem?_concat_length (by simp) (by decide) rfl ?_;intro p hp;simp only[List.drop_zero,List.take_succ_cons,List.take_zero,List.map_cons,List.map_nil,List.zip_cons_cons,List.zip_nil_right,List.mem_cons,List.not_mem_nil,or_false]at hp;subst hp;exact i3.push
  subst hc;have i2:z=y:=i2;subst i2;have e:decide (0<((0:Nat):Int))=false:=rfl;simp only[e,go_sem];refine call_pure (c77 V) ?_;simp only[go_sem];refine call_fresh n76 ?_;have hp:∀n,lay (parseTV z.text) n=(.tup [(lay z.g.enc n).1,.int .i64 0,.int .i64 0],(lay z.g.enc n).2):=fun n=>by rw[layPT,hpt]
  simp only[go_sem,hp];refine lst_all (k:=3) rfl (layTl z.g _) (layTa z.g _) (by decide) ?_;simp only[go_sem,layTp];have cvb:Cv (g++(lay z.g.enc g.length).2) (lay z.g.enc g.length).1 z.enc:=lay_at (pre:=g) (post:=[]) (GType.plx z.g) (GType.cnx z.g) (by simp);refine call_lend (vs':=[z.enc,z.enc]) (Cvs.cons i3.push (Cvs.cons (.refl Ty.tr) Cvs.nil)) (c78 z (by omega)) rfl ?_;simp only[go_sem,decide_true];simp only[layTp,go_sem];refine call_lend (vs':=[z.enc,z.enc]) (Cvs.cons cvb (Cvs.cons (.refl Ty.tr) Cvs.nil)) (c78 z (by omega)) rfl ?_;simp only[go_sem];refine call_lend (vs':=[z.enc,z.enc]) (Cvs.cons (.refl Ty.tr) (Cvs.cons i3.push Cvs.nil)) (c73 z (by omega)) rfl ?_;simp only[go_sem];exact fin_eq rfl rfl
end Go.Ab
