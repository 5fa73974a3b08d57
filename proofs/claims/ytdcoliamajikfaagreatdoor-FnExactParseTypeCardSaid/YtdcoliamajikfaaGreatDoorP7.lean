/- Texts Par0 .. Par21: the abstract machine, its laws and contracts of functions: lemmas for the statement. No condition. -/
import Derived.Lib.Bytealg
import Derived.Lib.ItoaNum
import Derived.Lib.ParseIntB
import Derived.Test.YtdcoliamajikfaaGreatDoorP5
set_option linter.unusedSimpArgs false
set_option linter.unusedVariables false
namespace Go.Ab
open Go
inductive GType where
  | mk (Kind:Int) (Name:List UInt8) (Kids:List GType)
def GType.Kind:GType→Int |.mk a _ _=>a
def GType.Name:GType→List UInt8 |.mk _ a _=>a
def GType.Kids:GType→List GType |.mk _ _ a=>a
theorem GType.ext{x y:GType}(h1:x.Kind=y.Kind)(h2:x.Name=y.Name)(h4:x.Kids=y.Kids):x=y:=by
  cases x;cases y;simp_all[GType.Kind,GType.Name,GType.Kids]
theorem GType.lt_of_mem{x:GType}{y:GType}(h:y∈x.Kids):SizeOf.sizeOf y<SizeOf.sizeOf x:=by
  cases x with
  | mk a b c=>
    have:=List.sizeOf_lt_of_mem (show y∈c from h);simp only[GType.mk.sizeOf_spec];omega
theorem GType.ind{P:GType→Prop}(h:∀x,(∀y,y∈x.Kids→P y)→P x)(x:GType):P x:=
  h x fun y hy=>GType.ind h y
termination_by SizeOf.sizeOf x
decreasing_by exact GType.lt_of_mem hy
mutual
def GType.enc:GType→AV
  |.mk k v ks=>.agg [.int .i64 k,.str v,.lst 3 (GType.encs ks) false]
def GType.encs:List GType→List AV
  |[]=>[]
  | x::xs=>x.enc::GType.encs xs
end
theorem GType.encs_eq:∀xs,GType.encs xs=xs.map GType.enc
  |[]=>by simp[GType.encs]
  | x::xs=>by simp[GType.encs,GType.encs_eq xs]
theorem GType.enc_eq(x:GType):x.enc=.agg [.int .i64 x.Kind,.str x.Name,.lst 3 (x.Kids.map GType.enc) false]:=by
  cases x;simp[GType.enc,GType.encs_eq,GType.Kind,GType.Name,GType.Kids]
theorem GType.trx:∀x:GType,x.enc.tree=true:=GType.ind fun x ih=>by
  rw[GType.enc_eq];have h:∀xs:List GType,(∀y∈xs,y.enc.tree=true)→AV.trees (xs.map GType.enc)=true:=by
    intro xs
    induction xs with
    | nil=>intro _;rfl
    | cons a xs ihx=>intro h;simp only[List.map_cons,AV.trees,Bool.and_eq_true];exact⟨h a (by simp),ihx fun y hy=>h y (by simp[hy])⟩
  simp[AV.tree,AV.trees,h _ ih]
theorem GType.isSh:Sh GType.enc 3 (some 3):=⟨GType.trx,fun x=>by rw[GType.enc_eq];rfl,fun x=>by rw[GType.enc_eq];rfl,by decide,fun x=>by rw[GType.enc_eq];simp⟩
section
variable {x:GType}
@[go_sem] theorem GType.tr:x.enc.tree=true:=GType.trx x
@[go_sem] theorem GType.ln:x.enc.cells.length=3:=by rw[GType.enc_eq];rfl
@[go_sem] theorem GType.all:x.enc.part 0 (some 3)=some x.enc:=by rw[GType.enc_eq];rfl
@[go_sem] theorem GType.cs:x.enc.cells=[.int .i64 x.Kind,.str x.Name,.lst 3 (x.Kids.map GType.enc) false]:=by rw[GType.enc_eq];rfl
@[go_sem] theorem GType.p0:x.enc.part 0 none=some (.int .i64 x.Kind):=by rw[GType.enc_eq];rfl
@[go_sem] theorem GType.p1:x.enc.part 1 none=some (.str x.Name):=by rw[GType.enc_eq];rfl
@[go_sem] theorem GType.p2:x.enc.part 2 none=some (.lst 3 (x.Kids.map GType.enc) false):=by rw[GType.enc_eq];rfl
end
mutual
def GType.sz:GType→Nat
  |.mk _ d ks=>d.length+(ks.length+GType.szs ks)
def GType.szs:List GType→Nat
  |[]=>0
  | x::xs=>x.sz+GType.szs xs
end
mutual
def GType.bd:GType→Prop
  |.mk _ d ks=>d.length≤140737488355328∧ks.length≤140737488355328∧GType.bds ks
def GType.bds:List GType→Prop
  |[]=>True
  | x::xs=>x.bd∧GType.bds xs
end
theorem GType.bds_eq:∀xs,GType.bds xs↔∀y∈xs,GType.bd y
  |[]=>by simp[GType.bds]
  | x::xs=>by simp[GType.bds,GType.bds_eq xs]
theorem GType.bd_eq(x:GType):x.bd↔x.Name.length≤140737488355328∧x.Kids.length≤140737488355328∧∀y∈x.Kids,y.bd:=by
  cases x;simp[GType.bd,GType.bds_eq,GType.Name,GType.Kids]
abbrev TNE:Nat:=1000000
def P631:List AV→AV→Prop:=fun as v=>∃(s:List UInt8)(c:Int),as=[.str s,.int .u8 c]∧v=.int .i64 (Lib.indexByte s c.toNat.toUInt8)
def P957:List AV→AV→Prop:=fun as v=>∃n:Int,as=[.int .i64 n,.int .i64 10]∧-9223372036854775808≤n∧n≤9223372036854775807∧v=.str (Lib.itoa n)
def parseV(s:List UInt8):AV:=match Lib.parseIntB 64 s with
  |.ok n=>.tup [.int .i64 n,.nili]
  |.range=>.tup [.int .i64 (Lib.intSat 64 s),.iface TNE .any]
  | _=>.tup [.int .i64 0,.iface TNE .any]
def P1382:List AV→AV→Prop:=fun as v=>∃s:List UInt8,as=[.str s,.int .i64 10,.int .i64 64]∧s.length≤140737488355328∧v=parseV s
end Go.Ab
namespace Go.Ab
open Go
set_option maxRecDepth 10000
def F1100_r0:List AOper:=[oM 0 3 0,oP 1 4 (.bin .geq (.t 3) (.c (.int .u8 65))),oM 2 5 4,oG 3 6 5 true (.mov (.t 0)),oG 4 7 5 true (.bin .leq (.t 6) (.c (.int .u8 90))),oP 5 8 (.pick (.t 5) (.t 7) (.c (.bool false))),oM 6 2 8]
@[go_sem] theorem F1100_r0_r:OE F1100_r0.eq_1:=OEM F1100_r0.eq_1
def F1100:AFun:=⟨1,9,[.t 2],.seq (.reg true [oP 0 2 (.mov (.c (.bool false)))]) (.seq (.reg true F1100_r0) (.ret))⟩
def F1206_r0:List AOper:=[oM 0 3 0,oP 1 4 (.bin .geq (.t 3) (.c (.int .u8 97))),oM 2 5 4,oG 3 6 5 true (.mov (.t 0)),oG 4 7 5 true (.bin .leq (.t 6) (.c (.int .u8 122))),oP 5 8 (.pick (.t 5) (.t 7) (.c (.bool false))),oM 6 2 8]
@[go_sem] theorem F1206_r0_r:OE F1206_r0.eq_1:=OEM F1206_r0.eq_1
def F1206:AFun:=⟨1,9,[.t 2],.seq (.reg true [oP 0 2 (.mov (.c (.bool false)))]) (.seq (.reg true F1206_r0) (.ret))⟩
def F1330_r0:List AOper:=[oM 0 3 0,oP 1 4 (.bin .geq (.t 3) (.c (.int .u8 48))),oM 2 5 4,oG 3 6 5 true (.mov (.t 0)),oG 4 7 5 true (.bin .leq (.t 6) (.c (.int .u8 57))),oP 5 8 (.pick (.t 5) (.t 7) (.c (.bool false))),oM 6 2 8]
@[go_sem] theorem F1330_r0_r:OE F1330_r0.eq_1:=OEM F1330_r0.eq_1
def F1330:AFun:=⟨1,9,[.t 2],.seq (.reg true [oP 0 2 (.mov (.c (.bool false)))]) (.seq (.reg true F1330_r0) (.ret))⟩
def F1012_r0:List AOper:=[oM 0 3 0,oP 1 4 (.call 1206 [.t 3]),oM 2 5 4,oG 3 6 5 false (.mov (.t 0)),oG 4 7 5 false (.call 1100 [.t 6]),oP 5 8 (.pick (.t 5) (.c (.bool true)) (.t 7)),oM 6 9 8,oG 7 10 9 false (.mov (.t 0)),oG 8 11 9 false (.call 1330 [.t 10]),oP 9 12 (.pick (.t 9) (.c (.bool true)) (.t 11)),oM 10 2 12]
@[go_sem] theorem F1012_r0_r:OE F1012_r0.eq_1:=OEM F1012_r0.eq_1
def F1012:AFun:=⟨1,13,[.t 2],.seq (.reg true [oP 0 2 (.mov (.c (.bool false)))]) (.seq (.reg true F1012_r0) (.ret))⟩
def F1106_r0:List AOper:=[oM 0 11 1,oM 1 12 0,oM 2 13 5,oP 3 14 (.iaddr 1 (.t 12) (.t 13)),oP 4 15 (.load none (.t 14)),oP 5 16 (.sop .eql (.t 11) (.t 15))]
@[go_sem] theorem F1106_r0_r:OE F1106_r0.eq_1:=OEM F1106_r0.eq_1
def F1106_k1:ACode:=.seq (.blk 1 (.seq (.reg true [oM 0 10 8,oM 1 5 10]) (.seq (.reg true F1106_r0) (.cond (.t 16) (.seq (.reg true [oM 0 17 5,oM 1 4 17]) (.ret)) (.skip))))) (.reg true [oP 0 18 (.bin .add (.t 8) (.c (.int .i64 1))),oM 1 8 18])
@[go_sem] theorem F1106_k1_r:CE F1106_k1.eq_1:=CEM F1106_k1.eq_1
def F1106_k2:ACode:=.seq (.seq (.reg true [oM 0 6 0,oP 1 7 (.len (.t 6)),oP 2 8 (.mov (.c (.int .i64 0)))]) (.blk 0 (.loop (.seq (.reg true [oP 0 9 (.bin .lss (.t 8) (.t 7))]) (.seq (.cond (.t 9) (.skip) (.exit 0)) F1106_k1))))) (.seq (.reg true [oP 0 4 (.mov (.c (.int .i64 (-1))))]) (.ret))
@[go_sem] theorem F1106_k2_r:CE F1106_k2.eq_1:=CEM F1106_k2.eq_1
def F1106:AFun:=⟨2,19,[.t 4],.seq (.reg true [oP 0 4 (.mov (.c (.int .i64 0)))]) F1106_k2⟩
def F732:AFun:=ctnF 1106
def F1013_r0:List AOper:=[oP 0 3 (.bslice 1 (.str []) 8 [(0,.c (.str [100,97,116,97])),(1,.c (.str [100,101,102])),(2,.c (.str [108,101,116])),(3,.c (.str [105,110])),(4,.c (.str [109,97,116,99,104])),(5,.c (.str [105,102])),(6,.c (.str [116,104,101,110])),(7,.c (.str [101,108,115,101]))]),oM 1 4 0,oP 2 5 (.call 732 [.t 3,.t 4]),oM 3 2 5]
@[go_sem] theorem F1013_r0_r:OE F1013_r0.eq_1:=OEM F1013_r0.eq_1
def F1013:AFun:=⟨1,6,[.t 2],.seq (.reg true [oP 0 2 (.mov (.c (.bool false)))]) (.seq (.reg true F1013_r0) (.ret))⟩
def F1099_r0:List AOper:=[oM 0 4 0,oP 1 5 (.slen (.t 4)),oP 2 6 (.bin .lss (.t 5) (.c (.int .i64 1))),oM 3 7 6,oG 4 8 7 false (.mov (.t 0)),oG 5 9 7 false (.slen (.t 8)),oG 6 10 7 false (.bin .gtr (.t 9) (.c (.int .i64 12))),oP 7 11 (.pick (.t 7) (.c (.bool true)) (.t 10)),oM 8 12 11,oG 9 13 12 false (.mov (.t 0)),oG 10 14 12 false (.sidx (.t 13) (.c (.int .i64 0))),oG 11 15 12 false (.call 1330 [.t 14]),oP 12 16 (.pick (.t 12) (.c (.bool true)) (.t 15)),oM 13 17 16,oG 14 18 17 false (.mov (.t 0)),oG 15 19 17 false (.call 1013 [.t 18]),oP 16 20 (.pick (.t 17) (.c (.bool true)) (.t 19))]
@[go_sem] theorem F1099_r0_r:OE F1099_r0.eq_1:=OEM F1099_r0.eq_1
def F1099_r1:List AOper:=[oM 0 26 0,oM 1 27 3,oP 2 28 (.sidx (.t 26) (.t 27)),oP 3 29 (.call 1012 [.t 28]),oP 4 30 (.not (.t 29))]
@[go_sem] theorem F1099_r1_r:OE F1099_r1.eq_1:=OEM F1099_r1.eq_1
def F1099_k2:ACode:=.seq (.blk 1 (.seq (.reg true [oM 0 25 23,oM 1 3 25]) (.seq (.reg true F1099_r1) (.cond (.t 30) (.seq (.reg true [oP 0 2 (.mov (.c (.bool false)))]) (.ret)) (.skip))))) (.reg true [oP 0 31 (.bin .add (.t 23) (.c (.int .i64 1))),oM 1 23 31])
@[go_sem] theorem F1099_k2_r:CE F1099_k2.eq_1:=CEM F1099_k2.eq_1
def F1099_k3:ACode:=.seq (.seq (.reg true [oM 0 21 0,oP 1 22 (.slen (.t 21)),oP 2 23 (.mov (.c (.int .i64 0)))]) (.blk 0 (.loop (.seq (.reg true [oP 0 24 (.bin .lss (.t 23) (.t 22))]) (.seq (.cond (.t 24) (.skip) (.exit 0)) F1099_k2))))) (.seq (.reg true [oP 0 2 (.mov (.c (.bool true)))]) (.ret))
@[go_sem] theorem F1099_k3_r:CE F1099_k3.eq_1:=CEM F1099_k3.eq_1
def F1099:AFun:=⟨1,32,[.t 2],.seq (.reg true [oP 0 2 (.mov (.c (.bool false)))]) (.seq (.seq (.reg true F1099_r0) (.cond (.t 20) (.seq (.reg true [oP 0 2 (.mov (.c (.bool false)))]) (.ret)) (.skip))) F1099_k3)⟩
def F717_r0:List AOper:=[oM 0 3 0,oP 1 4 (.call 1099 [.t 3]),oM 2 5 4,oG 3 6 5 true (.mov (.t 0)),oG 4 7 5 true (.sidx (.t 6) (.c (.int .i64 0))),oG 5 8 5 true (.call 1100 [.t 7]),oP 6 9 (.pick (.t 5) (.t 8) (.c (.bool false))),oM 7 2 9]
@[go_sem] theorem F717_r0_r:OE F717_r0.eq_1:=OEM F717_r0.eq_1
def F717:AFun:=⟨1,10,[.t 2],.seq (.reg true [oP 0 2 (.mov (.c (.bool false)))]) (.seq (.reg true F717_r0) (.ret))⟩
def F331_r0:List AOper:=[oP 0 1 (.lbox 3 (.t 0)),oP 1 2 (.mov (.c (.int .i64 0))),oP 2 3 (.mov (.c (.int .i64 0))),oP 3 4 (.mov (.c (.bool false)))]
@[go_sem] theorem F331_r0_r:OE F331_r0.eq_1:=OEM F331_r0.eq_1
def F331_r1:List AOper:=[oP 0 10 (.nop 1),oP 1 11 (.lload 1 2 none),oP 2 12 (.len (.t 11)),oP 3 13 (.mov (.c (.int .i64 0)))]
@[go_sem] theorem F331_r1_r:OE F331_r1.eq_1:=OEM F331_r1.eq_1
def F331_r2:List AOper:=[oP 0 15 (.iaddr 3 (.t 11) (.t 13)),oP 1 16 (.load (some 3) (.t 15)),oP 2 6 (.lalloc (.agg [.int .i64 0,.str [],.nils])),oN 3 (.lstore 6 0 3 (.t 16))]
@[go_sem] theorem F331_r2_r:OE F331_r2.eq_1:=OEM F331_r2.eq_1
def F331_r3:List AOper:=[oP 0 18 (.lload 6 0 (some 3)),oP 1 19 (.call 331 [.t 18]),oM 2 17 19,oP 3 20 (.ext (.t 17) 0),oP 4 21 (.ext (.t 17) 1),oP 5 22 (.ext (.t 17) 2),oM 6 7 20,oM 7 8 21,oM 8 9 22]
@[go_sem] theorem F331_r3_r:OE F331_r3.eq_1:=OEM F331_r3.eq_1
def F331_r4:List AOper:=[oM 0 25 2,oM 1 26 7,oP 2 27 (.bin .add (.t 26) (.c (.int .i64 1))),oP 3 28 (.max (.t 25) (.t 27)),oM 4 29 3,oM 5 30 8,oP 6 31 (.bin .add (.t 29) (.t 30)),oM 7 2 28,oM 8 3 31]
@[go_sem] theorem F331_r4_r:OE F331_r4.eq_1:=OEM F331_r4.eq_1
def F331_k5:ACode:=.seq (.reg true F331_r3) (.seq (.seq (.reg true [oM 0 23 9,oP 1 24 (.not (.t 23))]) (.cond (.t 24) (.seq (.reg true [oP 0 2 (.mov (.c (.int .i64 0))),oP 1 3 (.mov (.c (.int .i64 0))),oP 2 4 (.mov (.c (.bool false)))]) (.ret)) (.skip))) (.reg true F331_r4))
@[go_sem] theorem F331_k5_r:CE F331_k5.eq_1:=CEM F331_k5.eq_1
def F331_k6:ACode:=.seq (.reg true F331_r1) (.blk 0 (.loop (.seq (.reg true [oP 0 14 (.bin .lss (.t 13) (.t 12))]) (.seq (.cond (.t 14) (.skip) (.exit 0)) (.seq (.blk 1 (.seq (.reg true F331_r2) F331_k5)) (.reg true [oP 0 32 (.bin .add (.t 13) (.c (.int .i64 1))),oM 1 13 32]))))))
@[go_sem] theorem F331_k6_r:CE F331_k6.eq_1:=CEM F331_k6.eq_1
def F331_r7:List AOper:=[oP 0 37 (.nop 1),oP 1 38 (.lload 1 1 none),oP 2 39 (.sop .eql (.t 38) (.c (.str []))),oM 3 40 39,oG 4 41 40 true (.nop 1),oG 5 42 40 true (.lload 1 2 none),oG 6 43 40 true (.len (.t 42)),oG 7 44 40 true (.bin .eql (.t 43) (.c (.int .i64 0))),oP 8 45 (.pick (.t 40) (.t 44) (.c (.bool false))),oM 9 4 45]
@[go_sem] theorem F331_r7_r:OE F331_r7.eq_1:=OEM F331_r7.eq_1
def F331_r8:List AOper:=[oP 0 48 (.nop 1),oP 1 49 (.lload 1 1 none),oP 2 50 (.call 717 [.t 49]),oM 3 51 50,oG 4 52 51 true (.nop 1),oG 5 53 51 true (.lload 1 1 none),oG 6 54 51 true (.sop .neq (.t 53) (.c (.str [73,110,116]))),oP 7 55 (.pick (.t 51) (.t 54) (.c (.bool false))),oM 8 56 55,oG 9 57 56 true (.nop 1),oG 10 58 56 true (.lload 1 2 none),oG 11 59 56 true (.len (.t 58)),oG 12 60 56 true (.bin .eql (.t 59) (.c (.int .i64 0))),oP 13 61 (.pick (.t 56) (.t 60) (.c (.bool false))),oM 14 4 61]
@[go_sem] theorem F331_r8_r:OE F331_r8.eq_1:=OEM F331_r8.eq_1
def F331_r9:List AOper:=[oP 0 64 (.nop 1),oP 1 65 (.lload 1 1 none),oP 2 66 (.sop .eql (.t 65) (.c (.str []))),oM 3 67 66,oG 4 68 67 true (.nop 1),oG 5 69 67 true (.lload 1 2 none),oG 6 70 67 true (.len (.t 69)),oG 7 71 67 true (.bin .eql (.t 70) (.c (.int .i64 2))),oP 8 72 (.pick (.t 67) (.t 71) (.c (.bool false))),oM 9 4 72]
@[go_sem] theorem F331_r9_r:OE F331_r9.eq_1:=OEM F331_r9.eq_1
def F331_r10:List AOper:=[oP 0 75 (.nop 1),oP 1 76 (.lload 1 1 none),oP 2 77 (.sop .eql (.t 76) (.c (.str []))),oM 3 78 77,oG 4 79 78 true (.nop 1),oG 5 80 78 true (.lload 1 2 none),oG 6 81 78 true (.len (.t 80)),oG 7 82 78 true (.bin .eql (.t 81) (.c (.int .i64 1))),oP 8 83 (.pick (.t 78) (.t 82) (.c (.bool false))),oM 9 4 83]
@[go_sem] theorem F331_r10_r:OE F331_r10.eq_1:=OEM F331_r10.eq_1
def F331_k11:ACode:=.cond (.t 46) (.reg true F331_r8) (.seq (.reg true [oP 0 63 (.bin .eql (.t 34) (.c (.int .i64 3))),oM 1 62 63]) (.cond (.t 62) (.reg true F331_r9) (.seq (.reg true [oP 0 74 (.bin .eql (.t 34) (.c (.int .i64 4))),oM 1 73 74]) (.cond (.t 73) (.reg true F331_r10) (.skip)))))
@[go_sem] theorem F331_k11_r:CE F331_k11.eq_1:=CEM F331_k11.eq_1
def F331_k12:ACode:=.seq (.reg true [oP 0 33 (.nop 1),oP 1 34 (.lload 1 0 none)]) (.blk 2 (.seq (.reg true [oP 0 36 (.bin .eql (.t 34) (.c (.int .i64 1))),oM 1 35 36]) (.cond (.t 35) (.reg true F331_r7) (.seq (.reg true [oP 0 47 (.bin .eql (.t 34) (.c (.int .i64 2))),oM 1 46 47]) F331_k11))))
@[go_sem] theorem F331_k12_r:CE F331_k12.eq_1:=CEM F331_k12.eq_1
def F331_r13:List AOper:=[oM 0 84 2,oM 1 85 3,oM 2 86 4,oM 3 2 84,oM 4 3 85,oM 5 4 86]
@[go_sem] theorem F331_r13_r:OE F331_r13.eq_1:=OEM F331_r13.eq_1
def F331:AFun:=⟨1,87,[.t 2,.t 3,.t 4],.seq (.reg true F331_r0) (.seq (.reg true [oP 0 2 (.mov (.c (.int .i64 1))),oP 1 3 (.mov (.c (.int .i64 1)))]) (.seq F331_k6 (.seq F331_k12 (.seq (.reg true F331_r13) (.ret)))))⟩
def F74_r0:List AOper:=[oP 0 7 (.lload 1 0 (some 3)),oP 1 8 (.call 331 [.t 7]),oM 2 6 8,oP 3 9 (.ext (.t 6) 0),oP 4 10 (.ext (.t 6) 1),oP 5 11 (.ext (.t 6) 2),oM 6 3 9,oM 7 4 10,oM 8 5 11]
@[go_sem] theorem F74_r0_r:OE F74_r0.eq_1:=OEM F74_r0.eq_1
def F74_r1:List AOper:=[oM 0 12 5,oM 1 13 12,oG 2 14 13 true (.mov (.t 3)),oG 3 15 13 true (.bin .leq (.t 14) (.c (.int .i64 6))),oP 4 16 (.pick (.t 13) (.t 15) (.c (.bool false))),oM 5 17 16,oG 6 18 17 true (.mov (.t 4)),oG 7 19 17 true (.bin .leq (.t 18) (.c (.int .i64 16))),oP 8 20 (.pick (.t 17) (.t 19) (.c (.bool false))),oM 9 2 20]
@[go_sem] theorem F74_r1_r:OE F74_r1.eq_1:=OEM F74_r1.eq_1
def F74:AFun:=⟨1,21,[.t 2],.seq (.reg true [oP 0 1 (.lbox 3 (.t 0)),oP 1 2 (.mov (.c (.bool false)))]) (.seq (.reg true F74_r0) (.seq (.reg true F74_r1) (.ret)))⟩
def F889_r0:List AOper:=[oM 0 3 0,oP 1 4 (.call 1099 [.t 3]),oM 2 5 4,oG 3 6 5 true (.mov (.t 0)),oG 4 7 5 true (.sidx (.t 6) (.c (.int .i64 0))),oG 5 8 5 true (.call 1206 [.t 7]),oP 6 9 (.pick (.t 5) (.t 8) (.c (.bool false))),oM 7 2 9]
@[go_sem] theorem F889_r0_r:OE F889_r0.eq_1:=OEM F889_r0.eq_1
def F889:AFun:=⟨1,10,[.t 2],.seq (.reg true [oP 0 2 (.mov (.c (.bool false)))]) (.seq (.reg true F889_r0) (.ret))⟩
def F577:AFun:=⟨1,5,[.t 2],.seq (.reg true [oP 0 2 (.mov (.c (.str [])))]) (.seq (.reg true [oM 0 3 0,oP 1 4 (.call 957 [.t 3,.c (.int .i64 10)]),oM 2 2 4]) (.ret))⟩
def F1051_r0:List AOper:=[oM 0 3 0,oP 1 4 (.bin .geq (.t 3) (.c (.int .i64 (-2147483648)))),oM 2 5 4,oG 3 6 5 true (.mov (.t 0)),oG 4 7 5 true (.bin .leq (.t 6) (.c (.int .i64 2147483647))),oP 5 8 (.pick (.t 5) (.t 7) (.c (.bool false))),oM 6 2 8]
@[go_sem] theorem F1051_r0_r:OE F1051_r0.eq_1:=OEM F1051_r0.eq_1
def F1051:AFun:=⟨1,9,[.t 2],.seq (.reg true [oP 0 2 (.mov (.c (.bool false)))]) (.seq (.reg true F1051_r0) (.ret))⟩
def F1091_r0:List AOper:=[oM 0 7 0,oP 1 8 (.call 1382 [.t 7,.c (.int .i64 10),.c (.int .i64 64)]),oM 2 6 8,oP 3 9 (.ext (.t 6) 0),oP 4 10 (.ext (.t 6) 1),oM 5 4 9,oM 6 5 10]
@[go_sem] theorem F1091_r0_r:OE F1091_r0.eq_1:=OEM F1091_r0.eq_1
def F1091_r1:List AOper:=[oM 0 11 5,oP 1 12 (.isnil 4 true (.t 11)),oM 2 13 12,oG 3 14 13 false (.mov (.t 4)),oG 4 15 13 false (.call 1051 [.t 14]),oG 5 16 13 false (.not (.t 15)),oP 6 17 (.pick (.t 13) (.c (.bool true)) (.t 16)),oM 7 18 17,oG 8 19 18 false (.mov (.t 4)),oG 9 20 18 false (.call 577 [.t 19]),oG 10 21 18 false (.mov (.t 0)),oG 11 22 18 false (.sop .neq (.t 20) (.t 21)),oP 12 23 (.pick (.t 18) (.c (.bool true)) (.t 22))]
@[go_sem] theorem F1091_r1_r:OE F1091_r1.eq_1:=OEM F1091_r1.eq_1
def F1091_k2:ACode:=.seq (.reg true F1091_r0) (.seq (.seq (.reg true F1091_r1) (.cond (.t 23) (.seq (.reg true [oP 0 2 (.mov (.c (.int .i64 0))),oP 1 3 (.mov (.c (.bool false)))]) (.ret)) (.skip))) (.seq (.reg true [oM 0 24 4,oM 1 2 24,oP 2 3 (.mov (.c (.bool true)))]) (.ret)))
@[go_sem] theorem F1091_k2_r:CE F1091_k2.eq_1:=CEM F1091_k2.eq_1
def F1091:AFun:=⟨1,25,[.t 2,.t 3],.seq (.reg true [oP 0 2 (.mov (.c (.int .i64 0))),oP 1 3 (.mov (.c (.bool false)))]) F1091_k2⟩
def F1014_r0:List AOper:=[oM 0 6 0,oP 1 7 (.call 1091 [.t 6]),oM 2 5 7,oP 3 8 (.ext (.t 5) 0),oP 4 9 (.ext (.t 5) 1),oM 5 3 8,oM 6 4 9]
@[go_sem] theorem F1014_r0_r:OE F1014_r0.eq_1:=OEM F1014_r0.eq_1
def F1014_r1:List AOper:=[oM 0 10 4,oM 1 11 10,oG 2 12 11 true (.mov (.t 3)),oG 3 13 11 true (.bin .geq (.t 12) (.c (.int .i64 0))),oP 4 14 (.pick (.t 11) (.t 13) (.c (.bool false))),oM 5 2 14]
@[go_sem] theorem F1014_r1_r:OE F1014_r1.eq_1:=OEM F1014_r1.eq_1
def F1014:AFun:=⟨1,15,[.t 2],.seq (.reg true [oP 0 2 (.mov (.c (.bool false)))]) (.seq (.reg true F1014_r0) (.seq (.reg true F1014_r1) (.ret)))⟩
def F1331_r0:List AOper:=[oM 0 5 0,oP 1 6 (.slen (.t 5)),oM 2 7 1,oP 3 8 (.slen (.t 7)),oP 4 9 (.bin .geq (.t 6) (.t 8)),oM 5 10 9,oG 6 11 10 true (.mov (.t 0)),oG 7 12 10 true (.mov (.t 1)),oG 8 13 10 true (.slen (.t 12)),oG 9 14 10 true (.sslc (.t 11) none (some (.t 13))),oG 10 15 10 true (.mov (.t 1)),oG 11 16 10 true (.sop .eql (.t 14) (.t 15)),oP 12 17 (.pick (.t 10) (.t 16) (.c (.bool false))),oM 13 4 17]
@[go_sem] theorem F1331_r0_r:OE F1331_r0.eq_1:=OEM F1331_r0.eq_1
def F1331:AFun:=⟨2,18,[.t 4],.seq (.reg true [oP 0 4 (.mov (.c (.bool false)))]) (.seq (.reg true F1331_r0) (.ret))⟩
def F1015_r0:List AOper:=[oM 0 5 0,oM 1 6 1,oP 2 7 (.call 1331 [.t 5,.t 6]),oM 3 4 7]
@[go_sem] theorem F1015_r0_r:OE F1015_r0.eq_1:=OEM F1015_r0.eq_1
def F1015:AFun:=⟨2,8,[.t 4],.seq (.reg true [oP 0 4 (.mov (.c (.bool false)))]) (.seq (.reg true F1015_r0) (.ret))⟩
def F632_r0:List AOper:=[oM 0 9 6,oM 1 10 0,oP 2 11 (.slen (.t 10)),oP 3 12 (.bin .lss (.t 9) (.t 11)),oM 4 13 12,oG 5 14 13 true (.mov (.t 0)),oG 6 15 13 true (.mov (.t 6)),oG 7 16 13 true (.sidx (.t 14) (.t 15)),oG 8 17 13 true (.call 1012 [.t 16]),oP 9 18 (.pick (.t 13) (.t 17) (.c (.bool false)))]
@[go_sem] theorem F632_r0_r:OE F632_r0.eq_1:=OEM F632_r0.eq_1
def F632_r1:List AOper:=[oM 0 24 0,oM 1 25 1,oM 2 26 6,oP 3 27 (.sslc (.t 24) (some (.t 25)) (some (.t 26))),oM 4 7 27]
@[go_sem] theorem F632_r1_r:OE F632_r1.eq_1:=OEM F632_r1.eq_1
def F632_r2:List AOper:=[oM 0 41 7,oP 1 42 (.sop .eql (.t 41) (.c (.str [50,49,52,55,52,56,51,54,52,56]))),oM 2 43 42,oG 3 44 43 false (.mov (.t 7)),oG 4 45 43 false (.call 1014 [.t 44]),oP 5 46 (.pick (.t 43) (.c (.bool true)) (.t 45)),oM 6 40 46]
@[go_sem] theorem F632_r2_r:OE F632_r2.eq_1:=OEM F632_r2.eq_1
def F632_k3:ACode:=.cond (.t 36) (.seq (.reg true [oM 0 39 6,oP 1 4 (.mov (.c (.int .i64 2))),oM 2 5 39]) (.ret)) (.seq (.reg true F632_r2) (.cond (.t 40) (.seq (.reg true [oM 0 47 6,oP 1 4 (.mov (.c (.int .i64 4))),oM 2 5 47]) (.ret)) (.skip)))
@[go_sem] theorem F632_k3_r:CE F632_k3.eq_1:=CEM F632_k3.eq_1
def F632_k4:ACode:=.seq (.reg true [oM 0 33 7,oP 1 34 (.call 889 [.t 33]),oM 2 32 34]) (.cond (.t 32) (.seq (.reg true [oM 0 35 6,oP 1 4 (.mov (.c (.int .i64 1))),oM 2 5 35]) (.ret)) (.seq (.reg true [oM 0 37 7,oP 1 38 (.call 717 [.t 37]),oM 2 36 38]) F632_k3))
@[go_sem] theorem F632_k4_r:CE F632_k4.eq_1:=CEM F632_k4.eq_1
def F632_k5:ACode:=.seq (.reg true F632_r1) (.blk 2 (.seq (.reg true [oM 0 29 7,oP 1 30 (.call 1013 [.t 29]),oM 2 28 30]) (.cond (.t 28) (.seq (.reg true [oM 0 31 6,oP 1 4 (.mov (.c (.int .i64 3))),oM 2 5 31]) (.ret)) F632_k4)))
@[go_sem] theorem F632_k5_r:CE F632_k5.eq_1:=CEM F632_k5.eq_1
def F632_r6:List AOper:=[oM 0 49 0,oM 1 50 1,oP 2 51 (.sslc (.t 49) (some (.t 50)) none),oP 3 52 (.call 1015 [.t 51,.c (.str [45,62])])]
@[go_sem] theorem F632_r6_r:OE F632_r6.eq_1:=OEM F632_r6.eq_1
def F632_r7:List AOper:=[oM 0 53 1,oP 1 54 (.bin .add (.t 53) (.c (.int .i64 2))),oP 2 4 (.mov (.c (.int .i64 5))),oM 3 5 54]
@[go_sem] theorem F632_r7_r:OE F632_r7.eq_1:=OEM F632_r7.eq_1
def F632_r8:List AOper:=[oM 0 55 0,oM 1 56 1,oP 2 57 (.sidx (.t 55) (.t 56)),oP 3 58 (.call 631 [.c (.str [43,45,42,47,60,61,40,41,91,93,123,125,44,59,58,46,124,33,92]),.t 57]),oP 4 59 (.bin .geq (.t 58) (.c (.int .i64 0)))]
@[go_sem] theorem F632_r8_r:OE F632_r8.eq_1:=OEM F632_r8.eq_1
def F632_r9:List AOper:=[oM 0 60 1,oP 1 61 (.bin .add (.t 60) (.c (.int .i64 1))),oP 2 4 (.mov (.c (.int .i64 5))),oM 3 5 61]
@[go_sem] theorem F632_r9_r:OE F632_r9.eq_1:=OEM F632_r9.eq_1
def F632_k10:ACode:=.seq (.seq (.reg true [oM 0 21 6,oM 1 22 1,oP 2 23 (.bin .gtr (.t 21) (.t 22))]) (.cond (.t 23) (.seq F632_k5 (.seq (.reg true [oM 0 48 1,oP 1 4 (.mov (.c (.int .i64 0))),oM 2 5 48]) (.ret))) (.skip))) (.seq (.seq (.reg true F632_r6) (.cond (.t 52) (.seq (.reg true F632_r7) (.ret)) (.skip))) (.seq (.seq (.reg true F632_r8) (.cond (.t 59) (.seq (.reg true F632_r9) (.ret)) (.skip))) (.seq (.reg true [oM 0 62 1,oP 1 4 (.mov (.c (.int .i64 0))),oM 2 5 62]) (.ret))))
@[go_sem] theorem F632_k10_r:CE F632_k10.eq_1:=CEM F632_k10.eq_1
def F632_k11:ACode:=.seq (.reg true [oM 0 8 1,oM 1 6 8]) (.seq (.blk 0 (.loop (.seq (.seq (.reg true F632_r0) (.cond (.t 18) (.skip) (.exit 0))) (.blk 1 (.reg true [oM 0 19 6,oP 1 20 (.bin .add (.t 19) (.c (.int .i64 1))),oM 2 6 20]))))) F632_k10)
@[go_sem] theorem F632_k11_r:CE F632_k11.eq_1:=CEM F632_k11.eq_1
def F632:AFun:=⟨2,63,[.t 4,.t 5],.seq (.reg true [oP 0 4 (.mov (.c (.int .i64 0))),oP 1 5 (.mov (.c (.int .i64 0)))]) F632_k11⟩
def F266_r0:List AOper:=[oM 0 12 6,oM 1 13 0,oP 2 14 (.slen (.t 13)),oP 3 15 (.bin .lss (.t 12) (.t 14))]
@[go_sem] theorem F266_r0_r:OE F266_r0.eq_1:=OEM F266_r0.eq_1
def F266_r1:List AOper:=[oM 0 16 0,oM 1 17 6,oP 2 18 (.sidx (.t 16) (.t 17)),oP 3 19 (.call 631 [.c (.str [32,10,9]),.t 18]),oP 4 20 (.bin .geq (.t 19) (.c (.int .i64 0)))]
@[go_sem] theorem F266_r1_r:OE F266_r1.eq_1:=OEM F266_r1.eq_1
def F266_r2:List AOper:=[oM 0 24 0,oM 1 25 6,oP 2 26 (.call 632 [.t 24,.t 25]),oM 3 23 26,oP 4 27 (.ext (.t 23) 0),oP 5 28 (.ext (.t 23) 1),oM 6 7 27,oM 7 8 28]
@[go_sem] theorem F266_r2_r:OE F266_r2.eq_1:=OEM F266_r2.eq_1
def F266_r3:List AOper:=[oM 0 31 6,oP 1 2 (.mov (.c (.nils))),oM 2 3 31,oP 3 4 (.mov (.c (.int .i64 6)))]
@[go_sem] theorem F266_r3_r:OE F266_r3.eq_1:=OEM F266_r3.eq_1
def F266_r4:List AOper:=[oM 0 32 5,oM 1 33 7,oM 2 34 0,oM 3 35 6,oM 4 36 8,oP 5 37 (.sslc (.t 34) (some (.t 35)) (some (.t 36))),oM 6 38 6,oP 7 39 (.build (.agg [.int .i64 0,.str [],.int .i64 0]) [(0,1,.t 33),(1,1,.t 37),(2,1,.t 38)]),oP 8 40 (.bslice 3 (.agg [.int .i64 0,.str [],.int .i64 0]) 1 [(0,.t 39)]),oP 9 41 (.app 3 (.t 32) (.t 40)),oM 10 5 41]
@[go_sem] theorem F266_r4_r:OE F266_r4.eq_1:=OEM F266_r4.eq_1
def F266_k5:ACode:=.seq (.reg true F266_r2) (.seq (.seq (.reg true [oM 0 29 7,oP 1 30 (.bin .eql (.t 29) (.c (.int .i64 0)))]) (.cond (.t 30) (.seq (.reg true F266_r3) (.ret)) (.skip))) (.seq (.reg true F266_r4) (.reg true [oM 0 42 8,oM 1 6 42])))
@[go_sem] theorem F266_k5_r:CE F266_k5.eq_1:=CEM F266_k5.eq_1
def F266_k6:ACode:=.seq (.reg true [oP 0 6 (.mov (.c (.int .i64 0)))]) (.blk 0 (.loop (.seq (.seq (.reg true F266_r0) (.cond (.t 15) (.skip) (.exit 0))) (.blk 1 (.seq (.seq (.reg true F266_r1) (.cond (.t 20) (.seq (.reg true [oM 0 21 6,oP 1 22 (.bin .add (.t 21) (.c (.int .i64 1))),oM 2 6 22]) (.exit 1)) (.skip))) F266_k5)))))
@[go_sem] theorem F266_k6_r:CE F266_k6.eq_1:=CEM F266_k6.eq_1
def F266_r7:List AOper:=[oM 0 43 5,oM 1 2 43,oP 2 3 (.mov (.c (.int .i64 0))),oP 3 4 (.mov (.c (.int .i64 0)))]
@[go_sem] theorem F266_r7_r:OE F266_r7.eq_1:=OEM F266_r7.eq_1
def F266_k8:ACode:=.seq (.seq (.reg true [oM 0 9 0,oP 1 10 (.slen (.t 9)),oP 2 11 (.bin .gtr (.t 10) (.c (.int .i64 20000)))]) (.cond (.t 11) (.seq (.reg true [oP 0 2 (.mov (.c (.nils))),oP 1 3 (.mov (.c (.int .i64 0))),oP 2 4 (.mov (.c (.int .i64 2)))]) (.ret)) (.skip))) (.seq (.reg true [oP 0 5 (.mov (.c (.nils)))]) (.seq F266_k6 (.seq (.reg true F266_r7) (.ret))))
@[go_sem] theorem F266_k8_r:CE F266_k8.eq_1:=CEM F266_k8.eq_1
def F266:AFun:=⟨1,44,[.t 2,.t 3,.t 4],.seq (.reg true [oP 0 2 (.mov (.c (.nils))),oP 1 3 (.mov (.c (.int .i64 0))),oP 2 4 (.mov (.c (.int .i64 0)))]) F266_k8⟩
def F1101_r0:List AOper:=[oM 0 3 0,oP 1 4 (.nilchk (.t 3)),oP 2 5 (.faddr 1 (.t 4)),oP 3 6 (.load none (.t 5)),oM 4 7 0,oP 5 8 (.nilchk (.t 7)),oP 6 9 (.faddr 0 (.t 8)),oP 7 10 (.load none (.t 9)),oP 8 11 (.len (.t 10)),oP 9 12 (.bin .lss (.t 6) (.t 11))]
@[go_sem] theorem F1101_r0_r:OE F1101_r0.eq_1:=OEM F1101_r0.eq_1
def F1101_r1:List AOper:=[oM 0 13 0,oP 1 14 (.nilchk (.t 13)),oP 2 15 (.faddr 0 (.t 14)),oP 3 16 (.load none (.t 15)),oM 4 17 0,oP 5 18 (.nilchk (.t 17)),oP 6 19 (.faddr 1 (.t 18)),oP 7 20 (.load none (.t 19)),oP 8 21 (.iaddr 3 (.t 16) (.t 20)),oP 9 22 (.load (some 3) (.t 21)),oN 10 (.lstore 2 0 3 (.t 22))]
@[go_sem] theorem F1101_r1_r:OE F1101_r1.eq_1:=OEM F1101_r1.eq_1
def F1101_r2:List AOper:=[oM 0 23 0,oP 1 24 (.nilchk (.t 23)),oP 2 25 (.faddr 2 (.t 24)),oP 3 26 (.load none (.t 25)),oP 4 27 (.build (.agg [.int .i64 0,.str [],.int .i64 0]) [(2,1,.t 26)]),oN 5 (.lstore 2 0 3 (.t 27))]
@[go_sem] theorem F1101_r2_r:OE F1101_r2.eq_1:=OEM F1101_r2.eq_1
def F1101:AFun:=⟨1,28,[.l 2 (some 3)],.seq (.reg true [oP 0 2 (.lalloc (.agg [.int .i64 0,.str [],.int .i64 0]))]) (.seq (.seq (.reg true F1101_r0) (.cond (.t 12) (.seq (.reg true F1101_r1) (.ret)) (.skip))) (.seq (.reg true F1101_r2) (.ret)))⟩
def F719_r0:List AOper:=[oM 0 2 0,oP 1 3 (.call 1101 [.t 2]),oP 2 4 (.fld 2 none (.t 3)),oP 3 5 (.build (.agg [.int .i64 0]) [(0,1,.t 4)]),oP 4 6 (.mkif 751 (.t 5)),oN 5 (.panic (.t 6))]
@[go_sem] theorem F719_r0_r:OE F719_r0.eq_1:=OEM F719_r0.eq_1
def F719:AFun:=⟨1,7,[],.reg true F719_r0⟩
def F1103_r0:List AOper:=[oM 0 6 0,oP 1 7 (.call 1101 [.t 6]),oP 2 5 (.lalloc (.agg [.int .i64 0,.str [],.int .i64 0])),oN 3 (.lstore 5 0 3 (.t 7))]
@[go_sem] theorem F1103_r0_r:OE F1103_r0.eq_1:=OEM F1103_r0.eq_1
def F1103_r1:List AOper:=[oP 0 8 (.nop 5),oP 1 9 (.lload 5 1 none),oM 2 10 1,oP 3 11 (.sop .eql (.t 9) (.t 10)),oM 4 12 11,oG 5 13 12 true (.nop 5),oG 6 14 12 true (.lload 5 0 none),oG 7 15 12 true (.bin .eql (.t 14) (.c (.int .i64 5))),oG 8 16 12 true (.mov (.t 15)),oG 9 17 16 false (.nop 5),oG 10 18 16 false (.lload 5 0 none),oG 11 19 16 false (.bin .eql (.t 18) (.c (.int .i64 3))),oG 12 20 12 true (.pick (.t 16) (.c (.bool true)) (.t 19)),oP 13 21 (.pick (.t 12) (.t 20) (.c (.bool false))),oM 14 4 21]
@[go_sem] theorem F1103_r1_r:OE F1103_r1.eq_1:=OEM F1103_r1.eq_1
def F1103:AFun:=⟨2,22,[.t 4],.seq (.reg true [oP 0 4 (.mov (.c (.bool false)))]) (.seq (.reg true F1103_r0) (.seq (.reg true F1103_r1) (.ret)))⟩
def F721_r0:List AOper:=[oM 0 5 0,oM 1 6 1,oP 2 7 (.call 1103 [.t 5,.t 6]),oP 3 8 (.not (.t 7))]
@[go_sem] theorem F721_r0_r:OE F721_r0.eq_1:=OEM F721_r0.eq_1
def F721_r1:List AOper:=[oM 0 9 0,oP 1 10 (.nilchk (.t 9)),oP 2 11 (.faddr 1 (.t 10)),oP 3 12 (.load none (.t 11)),oP 4 13 (.bin .add (.t 12) (.c (.int .i64 1))),oP 5 14 (.nilchk (.t 9)),oP 6 15 (.faddr 1 (.t 14)),oN 7 (.store 1 (.t 15) (.t 13))]
@[go_sem] theorem F721_r1_r:OE F721_r1.eq_1:=OEM F721_r1.eq_1
def F721:AFun:=⟨2,16,[.t 4],.seq (.reg true [oP 0 4 (.mov (.c (.bool false)))]) (.seq (.seq (.reg true F721_r0) (.cond (.t 8) (.seq (.reg true [oP 0 4 (.mov (.c (.bool false)))]) (.ret)) (.skip))) (.seq (.reg true F721_r1) (.seq (.reg true [oP 0 4 (.mov (.c (.bool true)))]) (.ret))))⟩
def F875_r0:List AOper:=[oM 0 6 0,oP 1 7 (.call 1101 [.t 6]),oP 2 5 (.lalloc (.agg [.int .i64 0,.str [],.int .i64 0])),oN 3 (.lstore 5 0 3 (.t 7))]
@[go_sem] theorem F875_r0_r:OE F875_r0.eq_1:=OEM F875_r0.eq_1
def F875_r1:List AOper:=[oP 0 8 (.nop 5),oP 1 9 (.lload 5 0 none),oM 2 10 1,oP 3 11 (.bin .neq (.t 9) (.t 10))]
@[go_sem] theorem F875_r1_r:OE F875_r1.eq_1:=OEM F875_r1.eq_1
def F875_r2:List AOper:=[oM 0 14 0,oP 1 15 (.nilchk (.t 14)),oP 2 16 (.faddr 1 (.t 15)),oP 3 17 (.load none (.t 16)),oP 4 18 (.bin .add (.t 17) (.c (.int .i64 1))),oP 5 19 (.nilchk (.t 14)),oP 6 20 (.faddr 1 (.t 19)),oN 7 (.store 1 (.t 20) (.t 18))]
@[go_sem] theorem F875_r2_r:OE F875_r2.eq_1:=OEM F875_r2.eq_1
def F875_k3:ACode:=.seq (.seq (.reg true F875_r1) (.cond (.t 11) (.reg true [oM 0 12 0,oP 1 13 (.call 719 [.t 12])]) (.skip))) (.seq (.reg true F875_r2) (.seq (.reg true [oP 0 21 (.nop 5),oP 1 22 (.lload 5 1 none),oM 2 4 22]) (.ret)))
@[go_sem] theorem F875_k3_r:CE F875_k3.eq_1:=CEM F875_k3.eq_1
def F875:AFun:=⟨2,23,[.t 4],.seq (.reg true [oP 0 4 (.mov (.c (.str [])))]) (.seq (.reg true F875_r0) F875_k3)⟩
def F876_r0:List AOper:=[oM 0 4 0,oM 1 5 1,oP 2 6 (.call 721 [.t 4,.t 5]),oP 3 7 (.not (.t 6))]
@[go_sem] theorem F876_r0_r:OE F876_r0.eq_1:=OEM F876_r0.eq_1
def F876:AFun:=⟨2,10,[],.seq (.reg true F876_r0) (.cond (.t 7) (.reg true [oM 0 8 0,oP 1 9 (.call 719 [.t 8])]) (.skip))⟩
def F908:AFun:=⟨0,2,[.l 0 (some 3)],.seq (.reg true [oP 0 0 (.lalloc (.agg [.int .i64 0,.str [],.nils]))]) (.seq (.reg true [oP 0 1 (.build (.agg [.int .i64 0,.str [],.nils]) [(0,1,.c (.int .i64 1))]),oN 1 (.lstore 0 0 3 (.t 1))]) (.ret))⟩
def F911_r0:List AOper:=[oP 0 3 (.lload 1 0 (some 3)),oP 1 4 (.bslice 3 (.agg [.int .i64 0,.str [],.nils]) 1 [(0,.t 3)]),oP 2 5 (.build (.agg [.int .i64 0,.str [],.nils]) [(0,1,.c (.int .i64 4)),(2,1,.t 4)]),oN 3 (.lstore 2 0 3 (.t 5))]
@[go_sem] theorem F911_r0_r:OE F911_r0.eq_1:=OEM F911_r0.eq_1
def F911:AFun:=⟨1,6,[.l 2 (some 3)],.seq (.reg true [oP 0 1 (.lbox 3 (.t 0)),oP 1 2 (.lalloc (.agg [.int .i64 0,.str [],.nils]))]) (.seq (.reg true F911_r0) (.ret))⟩
def F1102:AFun:=⟨1,5,[.l 2 (some 3)],.seq (.reg true [oP 0 2 (.lalloc (.agg [.int .i64 0,.str [],.nils]))]) (.seq (.reg true [oM 0 3 0,oP 1 4 (.build (.agg [.int .i64 0,.str [],.nils]) [(0,1,.c (.int .i64 2)),(1,1,.t 3)]),oN 2 (.lstore 2 0 3 (.t 4))]) (.ret))⟩
def F720_r0:List AOper:=[oM 0 8 0,oP 1 9 (.call 720 [.t 8]),oP 2 10 (.call 911 [.t 9]),oN 3 (.lstore 2 0 3 (.t 10))]
@[go_sem] theorem F720_r0_r:OE F720_r0.eq_1:=OEM F720_r0.eq_1
def F720_r1:List AOper:=[oM 0 14 0,oP 1 15 (.call 335 [.t 14]),oP 2 3 (.lalloc (.agg [.int .i64 0,.str [],.nils])),oN 3 (.lstore 3 0 3 (.t 15))]
@[go_sem] theorem F720_r1_r:OE F720_r1.eq_1:=OEM F720_r1.eq_1
def F720_k2:ACode:=.seq (.reg true [oM 0 12 0,oP 1 13 (.call 721 [.t 12,.c (.str [40])]),oM 2 11 13]) (.cond (.t 11) (.seq (.reg true F720_r1) (.seq (.reg true [oM 0 16 0,oP 1 17 (.call 876 [.t 16,.c (.str [41])])]) (.seq (.reg true [oP 0 18 (.lload 3 0 (some 3)),oN 1 (.lstore 2 0 3 (.t 18))]) (.ret)))) (.skip))
@[go_sem] theorem F720_k2_r:CE F720_k2.eq_1:=CEM F720_k2.eq_1
def F720_k3:ACode:=.seq (.reg true [oM 0 19 0,oP 1 20 (.call 875 [.t 19,.c (.int .i64 2)]),oM 2 4 20]) (.seq (.reg true [oM 0 21 4,oP 1 22 (.sop .neq (.t 21) (.c (.str [73,110,116])))]) (.cond (.t 22) (.seq (.reg true [oM 0 23 4,oP 1 24 (.call 1102 [.t 23]),oN 2 (.lstore 2 0 3 (.t 24))]) (.ret)) (.skip)))
@[go_sem] theorem F720_k3_r:CE F720_k3.eq_1:=CEM F720_k3.eq_1
def F720:AFun:=⟨1,26,[.l 2 (some 3)],.seq (.reg true [oP 0 2 (.lalloc (.agg [.int .i64 0,.str [],.nils]))]) (.seq (.blk 0 (.seq (.reg true [oM 0 6 0,oP 1 7 (.call 721 [.t 6,.c (.str [33])]),oM 2 5 7]) (.cond (.t 5) (.seq (.reg true F720_r0) (.ret)) F720_k2))) (.seq F720_k3 (.seq (.reg true [oP 0 25 (.call 908 []),oN 1 (.lstore 2 0 3 (.t 25))]) (.ret))))⟩
def F722_r0:List AOper:=[oP 0 5 (.lload 2 0 (some 3)),oP 1 6 (.lload 3 0 (some 3)),oP 2 7 (.bslice 3 (.agg [.int .i64 0,.str [],.nils]) 2 [(0,.t 5),(1,.t 6)]),oP 3 8 (.build (.agg [.int .i64 0,.str [],.nils]) [(0,1,.c (.int .i64 3)),(2,1,.t 7)]),oN 4 (.lstore 4 0 3 (.t 8))]
@[go_sem] theorem F722_r0_r:OE F722_r0.eq_1:=OEM F722_r0.eq_1
def F722:AFun:=⟨2,9,[.l 4 (some 3)],.seq (.reg true [oP 0 2 (.lbox 3 (.t 0)),oP 1 3 (.lbox 3 (.t 1)),oP 2 4 (.lalloc (.agg [.int .i64 0,.str [],.nils]))]) (.seq (.reg true F722_r0) (.ret))⟩
def F335_r0:List AOper:=[oM 0 4 0,oP 1 5 (.call 720 [.t 4]),oP 2 3 (.lalloc (.agg [.int .i64 0,.str [],.nils])),oN 3 (.lstore 3 0 3 (.t 5))]
@[go_sem] theorem F335_r0_r:OE F335_r0.eq_1:=OEM F335_r0.eq_1
def F335_r1:List AOper:=[oP 0 8 (.lload 3 0 (some 3)),oM 1 9 0,oP 2 10 (.call 335 [.t 9]),oP 3 11 (.call 722 [.t 8,.t 10]),oN 4 (.lstore 2 0 3 (.t 11))]
@[go_sem] theorem F335_r1_r:OE F335_r1.eq_1:=OEM F335_r1.eq_1
def F335:AFun:=⟨1,13,[.l 2 (some 3)],.seq (.reg true [oP 0 2 (.lalloc (.agg [.int .i64 0,.str [],.nils]))]) (.seq (.reg true F335_r0) (.seq (.seq (.reg true [oM 0 6 0,oP 1 7 (.call 721 [.t 6,.c (.str [45,62])])]) (.cond (.t 7) (.seq (.reg true F335_r1) (.ret)) (.skip))) (.seq (.reg true [oP 0 12 (.lload 3 0 (some 3)),oN 1 (.lstore 2 0 3 (.t 12))]) (.ret))))⟩
def F76_r0:List AOper:=[oM 0 5 0,oP 1 6 (.call 334 [.t 5,.f 335,.f 74]),oP 2 7 (.ext (.t 6) 0),oP 3 8 (.ext (.t 6) 1),oP 4 9 (.ext (.t 6) 2),oN 5 (.lstore 2 0 3 (.t 7)),oM 6 3 8,oM 7 4 9]
@[go_sem] theorem F76_r0_r:OE F76_r0.eq_1:=OEM F76_r0.eq_1
def F76:AFun:=⟨1,10,[.l 2 (some 3),.t 3,.t 4],.seq (.reg true [oP 0 2 (.lalloc (.agg [.int .i64 0,.str [],.nils])),oP 1 3 (.mov (.c (.int .i64 0))),oP 2 4 (.mov (.c (.int .i64 0)))]) (.seq (.reg true F76_r0) (.ret))⟩
def F340_r0:List AOper:=[oM 0 7 0,oM 1 8 1,oP 2 9 (.bin .geq (.t 7) (.t 8)),oM 3 10 9,oG 4 11 10 true (.mov (.t 0)),oG 5 12 10 true (.mov (.t 2)),oG 6 13 10 true (.bin .leq (.t 11) (.t 12)),oP 7 14 (.pick (.t 10) (.t 13) (.c (.bool false))),oM 8 6 14]
@[go_sem] theorem F340_r0_r:OE F340_r0.eq_1:=OEM F340_r0.eq_1
def F340:AFun:=⟨3,15,[.t 6],.seq (.reg true [oP 0 6 (.mov (.c (.bool false)))]) (.seq (.reg true F340_r0) (.ret))⟩
def F1440_r0:List AOper:=[oM 0 3 0,oP 1 4 (.bin .geq (.t 3) (.c (.int .u8 97))),oM 2 5 4,oG 3 6 5 true (.mov (.t 0)),oG 4 7 5 true (.bin .leq (.t 6) (.c (.int .u8 122))),oP 5 8 (.pick (.t 5) (.t 7) (.c (.bool false))),oM 6 9 8,oG 7 10 9 false (.mov (.t 0)),oG 8 11 9 false (.bin .geq (.t 10) (.c (.int .u8 65))),oG 9 12 9 false (.mov (.t 11)),oG 10 13 12 true (.mov (.t 0)),oG 11 14 12 true (.bin .leq (.t 13) (.c (.int .u8 90))),oG 12 15 9 false (.pick (.t 12) (.t 14) (.c (.bool false))),oP 13 16 (.pick (.t 9) (.c (.bool true)) (.t 15)),oM 14 2 16]
@[go_sem] theorem F1440_r0_r:OE F1440_r0.eq_1:=OEM F1440_r0.eq_1
def F1440:AFun:=⟨1,17,[.t 2],.seq (.reg true [oP 0 2 (.mov (.c (.bool false)))]) (.seq (.reg true F1440_r0) (.ret))⟩
def F1513:AFun:=⟨0,2,[.t 0],.seq (.reg true [oP 0 0 (.mov (.c (.nils)))]) (.seq (.reg true [oP 0 1 (.bslice 1 (.str []) 8 [(0,.c (.str [100,97,116,97])),(1,.c (.str [100,101,102])),(2,.c (.str [108,101,116])),(3,.c (.str [105,110])),(4,.c (.str [109,97,116,99,104])),(5,.c (.str [105,102])),(6,.c (.str [116,104,101,110])),(7,.c (.str [101,108,115,101]))]),oM 1 0 1]) (.ret))⟩
def F1441_r0:List AOper:=[oM 0 4 3,oP 1 5 (.call 1513 []),oP 2 6 (.len (.t 5)),oP 3 7 (.bin .lss (.t 4) (.t 6))]
@[go_sem] theorem F1441_r0_r:OE F1441_r0.eq_1:=OEM F1441_r0.eq_1
def F1441_r1:List AOper:=[oP 0 10 (.call 1513 []),oM 1 11 3,oP 2 12 (.iaddr 1 (.t 10) (.t 11)),oP 3 13 (.load none (.t 12)),oM 4 14 0,oP 5 15 (.sop .eql (.t 13) (.t 14))]
@[go_sem] theorem F1441_r1_r:OE F1441_r1.eq_1:=OEM F1441_r1.eq_1
def F1441_k2:ACode:=.loop (.seq (.seq (.reg true F1441_r0) (.cond (.t 7) (.skip) (.exit 0))) (.seq (.blk 1 (.seq (.reg true F1441_r1) (.cond (.t 15) (.seq (.reg true [oP 0 2 (.mov (.c (.bool true)))]) (.ret)) (.skip)))) (.reg true [oM 0 8 3,oP 1 9 (.bin .add (.t 8) (.c (.int .i64 1))),oM 2 3 9])))
@[go_sem] theorem F1441_k2_r:CE F1441_k2.eq_1:=CEM F1441_k2.eq_1
def F1441:AFun:=⟨1,16,[.t 2],.seq (.reg true [oP 0 2 (.mov (.c (.bool false)))]) (.seq (.seq (.reg true [oP 0 3 (.mov (.c (.int .i64 0)))]) (.blk 0 F1441_k2)) (.seq (.reg true [oP 0 2 (.mov (.c (.bool false)))]) (.ret)))⟩
def F1442_r0:List AOper:=[oM 0 3 0,oP 1 4 (.bin .geq (.t 3) (.c (.int .u8 48))),oM 2 5 4,oG 3 6 5 true (.mov (.t 0)),oG 4 7 5 true (.bin .leq (.t 6) (.c (.int .u8 57))),oP 5 8 (.pick (.t 5) (.t 7) (.c (.bool false))),oM 6 2 8]
@[go_sem] theorem F1442_r0_r:OE F1442_r0.eq_1:=OEM F1442_r0.eq_1
def F1442:AFun:=⟨1,9,[.t 2],.seq (.reg true [oP 0 2 (.mov (.c (.bool false)))]) (.seq (.reg true F1442_r0) (.ret))⟩
def F1241_r0:List AOper:=[oM 0 4 0,oP 1 5 (.slen (.t 4)),oP 2 6 (.bin .lss (.t 5) (.c (.int .i64 1))),oM 3 7 6,oG 4 8 7 false (.mov (.t 0)),oG 5 9 7 false (.slen (.t 8)),oG 6 10 7 false (.bin .gtr (.t 9) (.c (.int .i64 12))),oP 7 11 (.pick (.t 7) (.c (.bool true)) (.t 10)),oM 8 12 11,oG 9 13 12 false (.mov (.t 0)),oG 10 14 12 false (.sidx (.t 13) (.c (.int .i64 0))),oG 11 15 12 false (.call 1440 [.t 14]),oG 12 16 12 false (.not (.t 15)),oP 13 17 (.pick (.t 12) (.c (.bool true)) (.t 16)),oM 14 18 17,oG 15 19 18 false (.mov (.t 0)),oG 16 20 18 false (.call 1441 [.t 19]),oP 17 21 (.pick (.t 18) (.c (.bool true)) (.t 20))]
@[go_sem] theorem F1241_r0_r:OE F1241_r0.eq_1:=OEM F1241_r0.eq_1
def F1241_r1:List AOper:=[oM 0 22 3,oM 1 23 0,oP 2 24 (.slen (.t 23)),oP 3 25 (.bin .lss (.t 22) (.t 24))]
@[go_sem] theorem F1241_r1_r:OE F1241_r1.eq_1:=OEM F1241_r1.eq_1
def F1241_r2:List AOper:=[oM 0 28 0,oM 1 29 3,oP 2 30 (.sidx (.t 28) (.t 29)),oP 3 31 (.call 1440 [.t 30]),oP 4 32 (.not (.t 31)),oM 5 33 32,oG 6 34 33 true (.mov (.t 0)),oG 7 35 33 true (.mov (.t 3)),oG 8 36 33 true (.sidx (.t 34) (.t 35)),oG 9 37 33 true (.call 1442 [.t 36]),oG 10 38 33 true (.not (.t 37)),oP 11 39 (.pick (.t 33) (.t 38) (.c (.bool false)))]
@[go_sem] theorem F1241_r2_r:OE F1241_r2.eq_1:=OEM F1241_r2.eq_1
def F1241_k3:ACode:=.loop (.seq (.seq (.reg true F1241_r1) (.cond (.t 25) (.skip) (.exit 0))) (.seq (.blk 1 (.seq (.reg true F1241_r2) (.cond (.t 39) (.seq (.reg true [oP 0 2 (.mov (.c (.bool false)))]) (.ret)) (.skip)))) (.reg true [oM 0 26 3,oP 1 27 (.bin .add (.t 26) (.c (.int .i64 1))),oM 2 3 27])))
@[go_sem] theorem F1241_k3_r:CE F1241_k3.eq_1:=CEM F1241_k3.eq_1
def F1241:AFun:=⟨1,40,[.t 2],.seq (.reg true [oP 0 2 (.mov (.c (.bool false)))]) (.seq (.seq (.reg true F1241_r0) (.cond (.t 21) (.seq (.reg true [oP 0 2 (.mov (.c (.bool false)))]) (.ret)) (.skip))) (.seq (.seq (.reg true [oP 0 3 (.mov (.c (.int .i64 0)))]) (.blk 0 F1241_k3)) (.seq (.reg true [oP 0 2 (.mov (.c (.bool true)))]) (.ret))))⟩
def F921_r0:List AOper:=[oM 0 3 0,oP 1 4 (.call 1241 [.t 3]),oM 2 5 4,oG 3 6 5 true (.mov (.t 0)),oG 4 7 5 true (.sidx (.t 6) (.c (.int .i64 0))),oG 5 8 5 true (.bin .leq (.t 7) (.c (.int .u8 90))),oP 6 9 (.pick (.t 5) (.t 8) (.c (.bool false))),oM 7 2 9]
@[go_sem] theorem F921_r0_r:OE F921_r0.eq_1:=OEM F921_r0.eq_1
def F921:AFun:=⟨1,10,[.t 2],.seq (.reg true [oP 0 2 (.mov (.c (.bool false)))]) (.seq (.reg true F921_r0) (.ret))⟩
def F541_r0:List AOper:=[oP 0 17 (.nop 2),oP 1 18 (.lload 2 1 none),oP 2 19 (.call 921 [.t 18]),oP 3 20 (.not (.t 19)),oM 4 21 20,oG 5 22 21 false (.nop 2),oG 6 23 21 false (.lload 2 1 none),oG 7 24 21 false (.sop .eql (.t 23) (.c (.str [73,110,116]))),oP 8 25 (.pick (.t 21) (.c (.bool true)) (.t 24))]
@[go_sem] theorem F541_r0_r:OE F541_r0.eq_1:=OEM F541_r0.eq_1
def F541_k1:ACode:=.cond (.t 26) (.reg true [oP 0 5 (.mov (.c (.int .i64 2)))]) (.seq (.reg true [oP 0 29 (.bin .eql (.t 12) (.c (.int .i64 4))),oM 1 28 29]) (.cond (.t 28) (.reg true [oP 0 5 (.mov (.c (.int .i64 1)))]) (.seq (.reg true [oP 0 4 (.mov (.c (.int .i64 (-1))))]) (.ret))))
@[go_sem] theorem F541_k1_r:CE F541_k1.eq_1:=CEM F541_k1.eq_1
def F541_k2:ACode:=.seq (.reg true [oP 0 16 (.bin .eql (.t 12) (.c (.int .i64 2))),oM 1 15 16]) (.cond (.t 15) (.seq (.reg true F541_r0) (.cond (.t 25) (.seq (.reg true [oP 0 4 (.mov (.c (.int .i64 (-1))))]) (.ret)) (.skip))) (.seq (.reg true [oP 0 27 (.bin .eql (.t 12) (.c (.int .i64 3))),oM 1 26 27]) F541_k1))
@[go_sem] theorem F541_k2_r:CE F541_k2.eq_1:=CEM F541_k2.eq_1
def F541_r3:List AOper:=[oP 0 30 (.nop 2),oP 1 31 (.lload 2 2 none),oP 2 32 (.len (.t 31)),oM 3 33 5,oP 4 34 (.bin .neq (.t 32) (.t 33)),oM 5 35 34,oG 6 36 35 false (.nop 2),oG 7 37 35 false (.lload 2 0 none),oG 8 38 35 false (.bin .neq (.t 37) (.c (.int .i64 2))),oG 9 39 35 false (.mov (.t 38)),oG 10 40 39 true (.nop 2),oG 11 41 39 true (.lload 2 1 none),oG 12 42 39 true (.sop .neq (.t 41) (.c (.str []))),oG 13 43 35 false (.pick (.t 39) (.t 42) (.c (.bool false))),oP 14 44 (.pick (.t 35) (.c (.bool true)) (.t 43))]
@[go_sem] theorem F541_r3_r:OE F541_r3.eq_1:=OEM F541_r3.eq_1
def F541_r4:List AOper:=[oM 0 45 7,oP 1 46 (.nop 2),oP 2 47 (.lload 2 2 none),oP 3 48 (.len (.t 47)),oP 4 49 (.bin .lss (.t 45) (.t 48))]
@[go_sem] theorem F541_r4_r:OE F541_r4.eq_1:=OEM F541_r4.eq_1
def F541_r5:List AOper:=[oP 0 52 (.nop 2),oP 1 53 (.lload 2 2 none),oM 2 54 7,oP 3 55 (.iaddr 3 (.t 53) (.t 54)),oP 4 56 (.load (some 3) (.t 55)),oM 5 57 1,oP 6 58 (.bin .sub (.t 57) (.c (.int .i64 1))),oP 7 59 (.call 541 [.t 56,.t 58]),oM 8 8 59]
@[go_sem] theorem F541_r5_r:OE F541_r5.eq_1:=OEM F541_r5.eq_1
def F541_r6:List AOper:=[oM 0 62 6,oM 1 63 8,oP 2 64 (.bin .add (.t 62) (.t 63)),oM 3 6 64]
@[go_sem] theorem F541_r6_r:OE F541_r6.eq_1:=OEM F541_r6.eq_1
def F541_k7:ACode:=.seq (.blk 2 (.seq (.reg true F541_r5) (.seq (.seq (.reg true [oM 0 60 8,oP 1 61 (.bin .lss (.t 60) (.c (.int .i64 0)))]) (.cond (.t 61) (.seq (.reg true [oP 0 4 (.mov (.c (.int .i64 (-1))))]) (.ret)) (.skip))) (.reg true F541_r6)))) (.reg true [oM 0 50 7,oP 1 51 (.bin .add (.t 50) (.c (.int .i64 1))),oM 2 7 51])
@[go_sem] theorem F541_k7_r:CE F541_k7.eq_1:=CEM F541_k7.eq_1
def F541_k8:ACode:=.seq (.reg true [oP 0 6 (.mov (.c (.int .i64 1)))]) (.seq (.seq (.reg true [oP 0 7 (.mov (.c (.int .i64 0)))]) (.blk 1 (.loop (.seq (.seq (.reg true F541_r4) (.cond (.t 49) (.skip) (.exit 1))) F541_k7)))) (.seq (.reg true [oM 0 65 6,oM 1 4 65]) (.ret)))
@[go_sem] theorem F541_k8_r:CE F541_k8.eq_1:=CEM F541_k8.eq_1
def F541_k9:ACode:=.seq (.seq (.reg true [oP 0 11 (.nop 2),oP 1 12 (.lload 2 0 none)]) (.blk 0 (.seq (.reg true [oP 0 14 (.bin .eql (.t 12) (.c (.int .i64 1))),oM 1 13 14]) (.cond (.t 13) (.skip) F541_k2)))) (.seq (.seq (.reg true F541_r3) (.cond (.t 44) (.seq (.reg true [oP 0 4 (.mov (.c (.int .i64 (-1))))]) (.ret)) (.skip))) F541_k8)
@[go_sem] theorem F541_k9_r:CE F541_k9.eq_1:=CEM F541_k9.eq_1
def F541:AFun:=⟨2,66,[.t 4],.seq (.reg true [oP 0 2 (.lbox 3 (.t 0)),oP 1 4 (.mov (.c (.int .i64 0)))]) (.seq (.seq (.reg true [oM 0 9 1,oP 1 10 (.bin .lss (.t 9) (.c (.int .i64 1)))]) (.cond (.t 10) (.seq (.reg true [oP 0 4 (.mov (.c (.int .i64 (-1))))]) (.ret)) (.skip))) (.seq (.reg true [oP 0 5 (.mov (.c (.int .i64 0)))]) F541_k9))⟩
def F208_r0:List AOper:=[oP 0 3 (.lload 1 0 (some 3)),oP 1 4 (.call 541 [.t 3,.c (.int .i64 6)]),oP 2 5 (.call 340 [.t 4,.c (.int .i64 1),.c (.int .i64 16)]),oM 3 2 5]
@[go_sem] theorem F208_r0_r:OE F208_r0.eq_1:=OEM F208_r0.eq_1
def F208:AFun:=⟨1,6,[.t 2],.seq (.reg true [oP 0 1 (.lbox 3 (.t 0)),oP 1 2 (.mov (.c (.bool false)))]) (.seq (.reg true F208_r0) (.ret))⟩
def F1393_r0:List AOper:=[oM 0 3 0,oP 1 4 (.bin .eql (.t 3) (.c (.int .u8 32))),oM 2 5 4,oG 3 6 5 false (.mov (.t 0)),oG 4 7 5 false (.bin .eql (.t 6) (.c (.int .u8 10))),oP 5 8 (.pick (.t 5) (.c (.bool true)) (.t 7)),oM 6 9 8,oG 7 10 9 false (.mov (.t 0)),oG 8 11 9 false (.bin .eql (.t 10) (.c (.int .u8 9))),oP 9 12 (.pick (.t 9) (.c (.bool true)) (.t 11)),oM 10 2 12]
@[go_sem] theorem F1393_r0_r:OE F1393_r0.eq_1:=OEM F1393_r0.eq_1
def F1393:AFun:=⟨1,13,[.t 2],.seq (.reg true [oP 0 2 (.mov (.c (.bool false)))]) (.seq (.reg true F1393_r0) (.ret))⟩
def F1237_r0:List AOper:=[oM 0 3 0,oP 1 4 (.call 1241 [.t 3]),oM 2 5 4,oG 3 6 5 true (.mov (.t 0)),oG 4 7 5 true (.sidx (.t 6) (.c (.int .i64 0))),oG 5 8 5 true (.bin .geq (.t 7) (.c (.int .u8 97))),oP 6 9 (.pick (.t 5) (.t 8) (.c (.bool false))),oM 7 2 9]
@[go_sem] theorem F1237_r0_r:OE F1237_r0.eq_1:=OEM F1237_r0.eq_1
def F1237:AFun:=⟨1,10,[.t 2],.seq (.reg true [oP 0 2 (.mov (.c (.bool false)))]) (.seq (.reg true F1237_r0) (.ret))⟩
def F1496_r0:List AOper:=[oM 0 5 1,oM 1 6 0,oP 2 7 (.slen (.t 6)),oP 3 8 (.bin .lss (.t 5) (.t 7)),oM 4 9 8,oG 5 10 9 true (.mov (.t 0)),oG 6 11 9 true (.mov (.t 1)),oG 7 12 9 true (.sidx (.t 10) (.t 11)),oG 8 13 9 true (.call 1440 [.t 12]),oG 9 14 9 true (.mov (.t 13)),oG 10 15 14 false (.mov (.t 0)),oG 11 16 14 false (.mov (.t 1)),oG 12 17 14 false (.sidx (.t 15) (.t 16)),oG 13 18 14 false (.call 1442 [.t 17]),oG 14 19 9 true (.pick (.t 14) (.c (.bool true)) (.t 18)),oP 15 20 (.pick (.t 9) (.t 19) (.c (.bool false)))]
@[go_sem] theorem F1496_r0_r:OE F1496_r0.eq_1:=OEM F1496_r0.eq_1
def F1496_k1:ACode:=.seq (.blk 0 (.loop (.seq (.seq (.reg true F1496_r0) (.cond (.t 20) (.skip) (.exit 0))) (.blk 1 (.reg true [oM 0 21 1,oP 1 22 (.bin .add (.t 21) (.c (.int .i64 1))),oM 2 1 22]))))) (.seq (.reg true [oM 0 23 1,oM 1 4 23]) (.ret))
@[go_sem] theorem F1496_k1_r:CE F1496_k1.eq_1:=CEM F1496_k1.eq_1
def F1496:AFun:=⟨2,24,[.t 4],.seq (.reg true [oP 0 4 (.mov (.c (.int .i64 0)))]) F1496_k1⟩
def F1497_r0:List AOper:=[oM 0 5 0,oP 1 6 (.slen (.t 5)),oP 2 7 (.bin .gtr (.t 6) (.c (.int .i64 10))),oM 3 8 7,oG 4 9 8 false (.mov (.t 0)),oG 5 10 8 false (.slen (.t 9)),oG 6 11 8 false (.bin .gtr (.t 10) (.c (.int .i64 1))),oG 7 12 8 false (.mov (.t 11)),oG 8 13 12 true (.mov (.t 0)),oG 9 14 12 true (.sidx (.t 13) (.c (.int .i64 0))),oG 10 15 12 true (.bin .eql (.t 14) (.c (.int .u8 48))),oG 11 16 8 false (.pick (.t 12) (.t 15) (.c (.bool false))),oP 12 17 (.pick (.t 8) (.c (.bool true)) (.t 16))]
@[go_sem] theorem F1497_r0_r:OE F1497_r0.eq_1:=OEM F1497_r0.eq_1
def F1497_r1:List AOper:=[oM 0 18 4,oM 1 19 0,oP 2 20 (.slen (.t 19)),oP 3 21 (.bin .lss (.t 18) (.t 20))]
@[go_sem] theorem F1497_r1_r:OE F1497_r1.eq_1:=OEM F1497_r1.eq_1
def F1497_r2:List AOper:=[oM 0 24 0,oM 1 25 4,oP 2 26 (.sidx (.t 24) (.t 25)),oP 3 27 (.call 1442 [.t 26]),oP 4 28 (.not (.t 27))]
@[go_sem] theorem F1497_r2_r:OE F1497_r2.eq_1:=OEM F1497_r2.eq_1
def F1497_r3:List AOper:=[oM 0 29 3,oP 1 30 (.bin .mul (.c (.int .i64 10)) (.t 29)),oM 2 31 0,oM 3 32 4,oP 4 33 (.sidx (.t 31) (.t 32)),oP 5 34 (.bin .sub (.t 33) (.c (.int .u8 48))),oP 6 35 (.conv .i64 (.t 34)),oP 7 36 (.bin .add (.t 30) (.t 35)),oM 8 3 36]
@[go_sem] theorem F1497_r3_r:OE F1497_r3.eq_1:=OEM F1497_r3.eq_1
def F1497_k4:ACode:=.seq (.seq (.reg true F1497_r1) (.cond (.t 21) (.skip) (.exit 0))) (.seq (.blk 1 (.seq (.seq (.reg true F1497_r2) (.cond (.t 28) (.seq (.reg true [oP 0 2 (.mov (.c (.bool false)))]) (.ret)) (.skip))) (.reg true F1497_r3))) (.reg true [oM 0 22 4,oP 1 23 (.bin .add (.t 22) (.c (.int .i64 1))),oM 2 4 23]))
@[go_sem] theorem F1497_k4_r:CE F1497_k4.eq_1:=CEM F1497_k4.eq_1
def F1497_k5:ACode:=.seq (.reg true [oP 0 3 (.mov (.c (.int .i64 0)))]) (.seq (.seq (.reg true [oP 0 4 (.mov (.c (.int .i64 0)))]) (.blk 0 (.loop F1497_k4))) (.seq (.reg true [oM 0 37 3,oP 1 38 (.bin .leq (.t 37) (.c (.int .i64 2147483648))),oM 2 2 38]) (.ret)))
@[go_sem] theorem F1497_k5_r:CE F1497_k5.eq_1:=CEM F1497_k5.eq_1
def F1497:AFun:=⟨1,39,[.t 2],.seq (.reg true [oP 0 2 (.mov (.c (.bool false)))]) (.seq (.seq (.reg true F1497_r0) (.cond (.t 17) (.seq (.reg true [oP 0 2 (.mov (.c (.bool false)))]) (.ret)) (.skip))) F1497_k5)⟩
def F1498_r0:List AOper:=[oM 0 5 4,oM 1 6 3,oP 2 7 (.slen (.t 6)),oP 3 8 (.bin .lss (.t 5) (.t 7))]
@[go_sem] theorem F1498_r0_r:OE F1498_r0.eq_1:=OEM F1498_r0.eq_1
def F1498_r1:List AOper:=[oM 0 11 3,oM 1 12 4,oP 2 13 (.sidx (.t 11) (.t 12)),oM 3 14 0,oP 4 15 (.bin .eql (.t 13) (.t 14))]
@[go_sem] theorem F1498_r1_r:OE F1498_r1.eq_1:=OEM F1498_r1.eq_1
def F1498_k2:ACode:=.loop (.seq (.seq (.reg true F1498_r0) (.cond (.t 8) (.skip) (.exit 0))) (.seq (.blk 1 (.seq (.reg true F1498_r1) (.cond (.t 15) (.seq (.reg true [oP 0 2 (.mov (.c (.bool true)))]) (.ret)) (.skip)))) (.reg true [oM 0 9 4,oP 1 10 (.bin .add (.t 9) (.c (.int .i64 1))),oM 2 4 10])))
@[go_sem] theorem F1498_k2_r:CE F1498_k2.eq_1:=CEM F1498_k2.eq_1
def F1498:AFun:=⟨1,16,[.t 2],.seq (.reg true [oP 0 2 (.mov (.c (.bool false)))]) (.seq (.reg true [oP 0 3 (.mov (.c (.str [43,45,42,47,60,61,40,41,91,93,123,125,44,59,58,46,124,33,92])))]) (.seq (.seq (.reg true [oP 0 4 (.mov (.c (.int .i64 0)))]) (.blk 0 F1498_k2)) (.seq (.reg true [oP 0 2 (.mov (.c (.bool false)))]) (.ret))))⟩
def F1394_r0:List AOper:=[oM 0 8 0,oM 1 9 1,oP 2 10 (.sidx (.t 8) (.t 9)),oM 3 5 10]
@[go_sem] theorem F1394_r0_r:OE F1394_r0.eq_1:=OEM F1394_r0.eq_1
def F1394_r1:List AOper:=[oM 0 11 5,oP 1 12 (.call 1440 [.t 11]),oM 2 13 12,oG 3 14 13 false (.mov (.t 5)),oG 4 15 13 false (.call 1442 [.t 14]),oP 5 16 (.pick (.t 13) (.c (.bool true)) (.t 15))]
@[go_sem] theorem F1394_r1_r:OE F1394_r1.eq_1:=OEM F1394_r1.eq_1
def F1394_r2:List AOper:=[oM 0 17 0,oM 1 18 1,oM 2 19 0,oM 3 20 1,oP 4 21 (.call 1496 [.t 19,.t 20]),oP 5 22 (.sslc (.t 17) (some (.t 18)) (some (.t 21))),oM 6 6 22]
@[go_sem] theorem F1394_r2_r:OE F1394_r2.eq_1:=OEM F1394_r2.eq_1
def F1394_r3:List AOper:=[oM 0 23 6,oM 1 24 1,oP 2 25 (.build (.agg [.int .i64 0,.str [],.int .i64 0]) [(1,1,.t 23),(2,1,.t 24)]),oP 3 7 (.lalloc (.agg [.int .i64 0,.str [],.int .i64 0])),oN 4 (.lstore 7 0 3 (.t 25))]
@[go_sem] theorem F1394_r3_r:OE F1394_r3.eq_1:=OEM F1394_r3.eq_1
def F1394_k4:ACode:=.seq (.seq (.reg true [oM 0 35 6,oP 1 36 (.call 1497 [.t 35])]) (.cond (.t 36) (.reg true [oP 0 37 (.nop 7),oN 1 (.lstore 7 0 1 (.c (.int .i64 4)))]) (.skip))) (.seq (.reg true [oP 0 38 (.lload 7 0 (some 3)),oN 1 (.lstore 4 0 3 (.t 38))]) (.ret))
@[go_sem] theorem F1394_k4_r:CE F1394_k4.eq_1:=CEM F1394_k4.eq_1
def F1394_k5:ACode:=.seq (.seq (.reg true [oM 0 29 6,oP 1 30 (.call 1237 [.t 29])]) (.cond (.t 30) (.reg true [oP 0 31 (.nop 7),oN 1 (.lstore 7 0 1 (.c (.int .i64 1)))]) (.skip))) (.seq (.seq (.reg true [oM 0 32 6,oP 1 33 (.call 921 [.t 32])]) (.cond (.t 33) (.reg true [oP 0 34 (.nop 7),oN 1 (.lstore 7 0 1 (.c (.int .i64 2)))]) (.skip))) F1394_k4)
@[go_sem] theorem F1394_k5_r:CE F1394_k5.eq_1:=CEM F1394_k5.eq_1
def F1394_k6:ACode:=.seq (.reg true F1394_r1) (.cond (.t 16) (.seq (.reg true F1394_r2) (.seq (.reg true F1394_r3) (.seq (.seq (.reg true [oM 0 26 6,oP 1 27 (.call 1441 [.t 26])]) (.cond (.t 27) (.reg true [oP 0 28 (.nop 7),oN 1 (.lstore 7 0 1 (.c (.int .i64 3)))]) (.skip))) F1394_k5))) (.skip))
@[go_sem] theorem F1394_k6_r:CE F1394_k6.eq_1:=CEM F1394_k6.eq_1
def F1394_r7:List AOper:=[oM 0 39 5,oP 1 40 (.bin .eql (.t 39) (.c (.int .u8 45))),oM 2 41 40,oG 3 42 41 true (.mov (.t 1)),oG 4 43 41 true (.bin .add (.t 42) (.c (.int .i64 1))),oG 5 44 41 true (.mov (.t 0)),oG 6 45 41 true (.slen (.t 44)),oG 7 46 41 true (.bin .lss (.t 43) (.t 45)),oP 8 47 (.pick (.t 41) (.t 46) (.c (.bool false))),oM 9 48 47,oG 10 49 48 true (.mov (.t 0)),oG 11 50 48 true (.mov (.t 1)),oG 12 51 48 true (.bin .add (.t 50) (.c (.int .i64 1))),oG 13 52 48 true (.sidx (.t 49) (.t 51)),oG 14 53 48 true (.bin .eql (.t 52) (.c (.int .u8 62))),oP 15 54 (.pick (.t 48) (.t 53) (.c (.bool false)))]
@[go_sem] theorem F1394_r7_r:OE F1394_r7.eq_1:=OEM F1394_r7.eq_1
def F1394_r8:List AOper:=[oM 0 59 0,oM 1 60 1,oM 2 61 1,oP 3 62 (.bin .add (.t 61) (.c (.int .i64 1))),oP 4 63 (.sslc (.t 59) (some (.t 60)) (some (.t 62))),oM 5 64 1,oP 6 65 (.build (.agg [.int .i64 0,.str [],.int .i64 0]) [(0,1,.c (.int .i64 5)),(1,1,.t 63),(2,1,.t 64)]),oN 7 (.lstore 4 0 3 (.t 65))]
@[go_sem] theorem F1394_r8_r:OE F1394_r8.eq_1:=OEM F1394_r8.eq_1
def F1394_k9:ACode:=.seq (.seq (.reg true F1394_r7) (.cond (.t 54) (.seq (.reg true [oM 0 55 1,oP 1 56 (.build (.agg [.int .i64 0,.str [],.int .i64 0]) [(0,1,.c (.int .i64 5)),(1,1,.c (.str [45,62])),(2,1,.t 55)]),oN 2 (.lstore 4 0 3 (.t 56))]) (.ret)) (.skip))) (.seq (.seq (.reg true [oM 0 57 5,oP 1 58 (.call 1498 [.t 57])]) (.cond (.t 58) (.seq (.reg true F1394_r8) (.ret)) (.skip))) (.seq (.reg true [oP 0 66 (.build (.agg [.int .i64 0,.str [],.int .i64 0]) []),oN 1 (.lstore 4 0 3 (.t 66))]) (.ret)))
@[go_sem] theorem F1394_k9_r:CE F1394_k9.eq_1:=CEM F1394_k9.eq_1
def F1394:AFun:=⟨2,67,[.l 4 (some 3)],.seq (.reg true [oP 0 4 (.lalloc (.agg [.int .i64 0,.str [],.int .i64 0]))]) (.seq (.reg true F1394_r0) (.seq F1394_k6 F1394_k9))⟩
def F1107_r0:List AOper:=[oM 0 9 6,oM 1 10 0,oP 2 11 (.slen (.t 10)),oP 3 12 (.bin .lss (.t 9) (.t 11))]
@[go_sem] theorem F1107_r0_r:OE F1107_r0.eq_1:=OEM F1107_r0.eq_1
def F1107_r1:List AOper:=[oM 0 13 0,oM 1 14 6,oP 2 15 (.sidx (.t 13) (.t 14)),oP 3 16 (.call 1393 [.t 15])]
@[go_sem] theorem F1107_r1_r:OE F1107_r1.eq_1:=OEM F1107_r1.eq_1
def F1107_r2:List AOper:=[oM 0 19 0,oM 1 20 6,oP 2 21 (.call 1394 [.t 19,.t 20]),oP 3 7 (.lalloc (.agg [.int .i64 0,.str [],.int .i64 0])),oN 4 (.lstore 7 0 3 (.t 21))]
@[go_sem] theorem F1107_r2_r:OE F1107_r2.eq_1:=OEM F1107_r2.eq_1
def F1107_r3:List AOper:=[oM 0 25 6,oP 1 2 (.mov (.c (.nils))),oM 2 3 25,oP 3 4 (.mov (.c (.bool false)))]
@[go_sem] theorem F1107_r3_r:OE F1107_r3.eq_1:=OEM F1107_r3.eq_1
def F1107_r4:List AOper:=[oM 0 26 5,oP 1 27 (.lload 7 0 (some 3)),oP 2 28 (.bslice 3 (.agg [.int .i64 0,.str [],.int .i64 0]) 1 [(0,.t 27)]),oP 3 29 (.app 3 (.t 26) (.t 28)),oM 4 5 29]
@[go_sem] theorem F1107_r4_r:OE F1107_r4.eq_1:=OEM F1107_r4.eq_1
def F1107_r5:List AOper:=[oM 0 30 6,oP 1 31 (.nop 7),oP 2 32 (.lload 7 1 none),oP 3 33 (.slen (.t 32)),oP 4 34 (.bin .add (.t 30) (.t 33)),oM 5 6 34]
@[go_sem] theorem F1107_r5_r:OE F1107_r5.eq_1:=OEM F1107_r5.eq_1
def F1107_k6:ACode:=.seq (.seq (.reg true F1107_r1) (.cond (.t 16) (.seq (.reg true [oM 0 17 6,oP 1 18 (.bin .add (.t 17) (.c (.int .i64 1))),oM 2 6 18]) (.exit 1)) (.skip))) (.seq (.reg true F1107_r2) (.seq (.seq (.reg true [oP 0 22 (.nop 7),oP 1 23 (.lload 7 0 none),oP 2 24 (.bin .eql (.t 23) (.c (.int .i64 0)))]) (.cond (.t 24) (.seq (.reg true F1107_r3) (.ret)) (.skip))) (.seq (.reg true F1107_r4) (.reg true F1107_r5))))
@[go_sem] theorem F1107_k6_r:CE F1107_k6.eq_1:=CEM F1107_k6.eq_1
def F1107_r7:List AOper:=[oM 0 35 5,oM 1 2 35,oP 2 3 (.mov (.c (.int .i64 0))),oP 3 4 (.mov (.c (.bool true)))]
@[go_sem] theorem F1107_r7_r:OE F1107_r7.eq_1:=OEM F1107_r7.eq_1
def F1107_k8:ACode:=.seq (.reg true [oP 0 8 (.mov (.c (.lst 3 [] true))),oM 1 5 8]) (.seq (.reg true [oP 0 6 (.mov (.c (.int .i64 0)))]) (.seq (.blk 0 (.loop (.seq (.seq (.reg true F1107_r0) (.cond (.t 12) (.skip) (.exit 0))) (.blk 1 F1107_k6)))) (.seq (.reg true F1107_r7) (.ret))))
@[go_sem] theorem F1107_k8_r:CE F1107_k8.eq_1:=CEM F1107_k8.eq_1
def F1107:AFun:=⟨1,36,[.t 2,.t 3,.t 4],.seq (.reg true [oP 0 2 (.mov (.c (.nils))),oP 1 3 (.mov (.c (.int .i64 0))),oP 2 4 (.mov (.c (.bool false)))]) F1107_k8⟩
def F735_r0:List AOper:=[oM 0 12 0,oP 1 13 (.call 1107 [.t 12]),oM 2 11 13,oP 3 14 (.ext (.t 11) 0),oP 4 15 (.ext (.t 11) 1),oP 5 16 (.ext (.t 11) 2),oM 6 5 14,oM 7 6 15,oM 8 7 16]
@[go_sem] theorem F735_r0_r:OE F735_r0.eq_1:=OEM F735_r0.eq_1
def F735_r1:List AOper:=[oM 0 19 6,oP 1 2 (.mov (.c (.nils))),oM 2 3 19,oP 3 4 (.mov (.c (.int .i64 6)))]
@[go_sem] theorem F735_r1_r:OE F735_r1.eq_1:=OEM F735_r1.eq_1
def F735_r2:List AOper:=[oM 0 20 5,oM 1 2 20,oP 2 3 (.mov (.c (.int .i64 0))),oP 3 4 (.mov (.c (.int .i64 0)))]
@[go_sem] theorem F735_r2_r:OE F735_r2.eq_1:=OEM F735_r2.eq_1
def F735_k3:ACode:=.seq (.seq (.reg true [oM 0 8 0,oP 1 9 (.slen (.t 8)),oP 2 10 (.bin .gtr (.t 9) (.c (.int .i64 20000)))]) (.cond (.t 10) (.seq (.reg true [oP 0 2 (.mov (.c (.nils))),oP 1 3 (.mov (.c (.int .i64 0))),oP 2 4 (.mov (.c (.int .i64 2)))]) (.ret)) (.skip))) (.seq (.reg true F735_r0) (.seq (.seq (.reg true [oM 0 17 7,oP 1 18 (.not (.t 17))]) (.cond (.t 18) (.seq (.reg true F735_r1) (.ret)) (.skip))) (.seq (.reg true F735_r2) (.ret))))
@[go_sem] theorem F735_k3_r:CE F735_k3.eq_1:=CEM F735_k3.eq_1
def F735:AFun:=⟨1,21,[.t 2,.t 3,.t 4],.seq (.reg true [oP 0 2 (.mov (.c (.nils))),oP 1 3 (.mov (.c (.int .i64 0))),oP 2 4 (.mov (.c (.int .i64 0)))]) F735_k3⟩
def F358_r0:List AOper:=[oM 0 9 0,oP 1 10 (.call 735 [.t 9]),oM 2 8 10,oP 3 11 (.ext (.t 8) 0),oP 4 12 (.ext (.t 8) 1),oP 5 13 (.ext (.t 8) 2),oM 6 5 11,oM 7 6 12,oM 8 7 13]
@[go_sem] theorem F358_r0_r:OE F358_r0.eq_1:=OEM F358_r0.eq_1
def F358_r1:List AOper:=[oM 0 16 6,oM 1 17 7,oP 2 2 (.mov (.c (.nilp))),oM 3 3 16,oM 4 4 17]
@[go_sem] theorem F358_r1_r:OE F358_r1.eq_1:=OEM F358_r1.eq_1
def F358_r2:List AOper:=[oM 0 18 5,oP 1 19 (.build (.agg [.nils,.int .i64 0,.bool false]) [(0,1,.t 18)]),oP 2 20 (.hbox 3 (.t 19)),oM 3 2 20,oP 4 3 (.mov (.c (.int .i64 0))),oP 5 4 (.mov (.c (.int .i64 0)))]
@[go_sem] theorem F358_r2_r:OE F358_r2.eq_1:=OEM F358_r2.eq_1
def F358:AFun:=⟨1,21,[.t 2,.t 3,.t 4],.seq (.reg true [oP 0 2 (.mov (.c (.nilp))),oP 1 3 (.mov (.c (.int .i64 0))),oP 2 4 (.mov (.c (.int .i64 0)))]) (.seq (.reg true F358_r0) (.seq (.seq (.reg true [oM 0 14 7,oP 1 15 (.bin .neq (.t 14) (.c (.int .i64 0)))]) (.cond (.t 15) (.seq (.reg true F358_r1) (.ret)) (.skip))) (.seq (.reg true F358_r2) (.ret))))⟩
def F327_r0:List AOper:=[oP 0 5 (.lload 2 0 (some 3)),oP 1 6 (.lload 3 0 (some 3)),oP 2 7 (.bslice 3 (.agg [.int .i64 0,.str [],.nils]) 2 [(0,.t 5),(1,.t 6)]),oP 3 8 (.build (.agg [.int .i64 0,.str [],.nils]) [(0,1,.c (.int .i64 3)),(2,1,.t 7)]),oN 4 (.lstore 4 0 3 (.t 8))]
@[go_sem] theorem F327_r0_r:OE F327_r0.eq_1:=OEM F327_r0.eq_1
def F327:AFun:=⟨2,9,[.l 4 (some 3)],.seq (.reg true [oP 0 2 (.lbox 3 (.t 0)),oP 1 3 (.lbox 3 (.t 1)),oP 2 4 (.lalloc (.agg [.int .i64 0,.str [],.nils]))]) (.seq (.reg true F327_r0) (.ret))⟩
def F326_r0:List AOper:=[oP 0 3 (.lload 1 0 (some 3)),oP 1 4 (.bslice 3 (.agg [.int .i64 0,.str [],.nils]) 1 [(0,.t 3)]),oP 2 5 (.build (.agg [.int .i64 0,.str [],.nils]) [(0,1,.c (.int .i64 4)),(2,1,.t 4)]),oN 3 (.lstore 2 0 3 (.t 5))]
@[go_sem] theorem F326_r0_r:OE F326_r0.eq_1:=OEM F326_r0.eq_1
def F326:AFun:=⟨1,6,[.l 2 (some 3)],.seq (.reg true [oP 0 1 (.lbox 3 (.t 0)),oP 1 2 (.lalloc (.agg [.int .i64 0,.str [],.nils]))]) (.seq (.reg true F326_r0) (.ret))⟩
def F328:AFun:=⟨0,2,[.l 0 (some 3)],.seq (.reg true [oP 0 0 (.lalloc (.agg [.int .i64 0,.str [],.nils]))]) (.seq (.reg true [oP 0 1 (.build (.agg [.int .i64 0,.str [],.nils]) [(0,1,.c (.int .i64 1))]),oN 1 (.lstore 0 0 3 (.t 1))]) (.ret))⟩
def F329:AFun:=⟨1,5,[.l 2 (some 3)],.seq (.reg true [oP 0 2 (.lalloc (.agg [.int .i64 0,.str [],.nils]))]) (.seq (.reg true [oM 0 3 0,oP 1 4 (.build (.agg [.int .i64 0,.str [],.nils]) [(0,1,.c (.int .i64 2)),(1,1,.t 3)]),oN 2 (.lstore 2 0 3 (.t 4))]) (.ret))⟩
def F1108_r0:List AOper:=[oM 0 5 0,oP 1 6 (.nilchk (.t 5)),oP 2 7 (.faddr 2 (.t 6)),oP 3 8 (.load none (.t 7)),oP 4 9 (.not (.t 8)),oM 5 10 9,oG 6 11 10 true (.mov (.t 0)),oG 7 12 10 true (.nilchk (.t 11)),oG 8 13 10 true (.faddr 1 (.t 12)),oG 9 14 10 true (.load none (.t 13)),oG 10 15 10 true (.mov (.t 0)),oG 11 16 10 true (.nilchk (.t 15)),oG 12 17 10 true (.faddr 0 (.t 16)),oG 13 18 10 true (.load none (.t 17)),oG 14 19 10 true (.len (.t 18)),oG 15 20 10 true (.bin .lss (.t 14) (.t 19)),oP 16 21 (.pick (.t 10) (.t 20) (.c (.bool false))),oM 17 22 21,oG 18 23 22 true (.mov (.t 0)),oG 19 24 22 true (.nilchk (.t 23)),oG 20 25 22 true (.faddr 0 (.t 24)),oG 21 26 22 true (.load none (.t 25)),oG 22 27 22 true (.mov (.t 0)),oG 23 28 22 true (.nilchk (.t 27)),oG 24 29 22 true (.faddr 1 (.t 28)),oG 25 30 22 true (.load none (.t 29)),oG 26 31 22 true (.iaddr 3 (.t 26) (.t 30)),oG 27 32 22 true (.faddr 1 (.t 31)),oG 28 33 22 true (.load none (.t 32)),oG 29 34 22 true (.mov (.t 1)),oG 30 35 22 true (.sop .eql (.t 33) (.t 34)),oP 31 36 (.pick (.t 22) (.t 35) (.c (.bool false))),oM 32 4 36]
@[go_sem] theorem F1108_r0_r:OE F1108_r0.eq_1:=OEM F1108_r0.eq_1
def F1108:AFun:=⟨2,37,[.t 4],.seq (.reg true [oP 0 4 (.mov (.c (.bool false)))]) (.seq (.reg true F1108_r0) (.ret))⟩
def F737_r0:List AOper:=[oM 0 5 0,oM 1 6 1,oP 2 7 (.call 1108 [.t 5,.t 6]),oP 3 8 (.not (.t 7))]
@[go_sem] theorem F737_r0_r:OE F737_r0.eq_1:=OEM F737_r0.eq_1
def F737_r1:List AOper:=[oM 0 9 0,oP 1 10 (.nilchk (.t 9)),oP 2 11 (.faddr 1 (.t 10)),oP 3 12 (.load none (.t 11)),oP 4 13 (.bin .add (.t 12) (.c (.int .i64 1))),oP 5 14 (.nilchk (.t 9)),oP 6 15 (.faddr 1 (.t 14)),oN 7 (.store 1 (.t 15) (.t 13))]
@[go_sem] theorem F737_r1_r:OE F737_r1.eq_1:=OEM F737_r1.eq_1
def F737:AFun:=⟨2,16,[.t 4],.seq (.reg true [oP 0 4 (.mov (.c (.bool false)))]) (.seq (.seq (.reg true F737_r0) (.cond (.t 8) (.seq (.reg true [oP 0 4 (.mov (.c (.bool false)))]) (.ret)) (.skip))) (.seq (.reg true F737_r1) (.seq (.reg true [oP 0 4 (.mov (.c (.bool true)))]) (.ret))))⟩
def F1185_r0:List AOper:=[oM 0 5 0,oP 1 6 (.nilchk (.t 5)),oP 2 7 (.faddr 2 (.t 6)),oP 3 8 (.load none (.t 7)),oP 4 9 (.not (.t 8)),oM 5 10 9,oG 6 11 10 true (.mov (.t 0)),oG 7 12 10 true (.nilchk (.t 11)),oG 8 13 10 true (.faddr 1 (.t 12)),oG 9 14 10 true (.load none (.t 13)),oG 10 15 10 true (.mov (.t 0)),oG 11 16 10 true (.nilchk (.t 15)),oG 12 17 10 true (.faddr 0 (.t 16)),oG 13 18 10 true (.load none (.t 17)),oG 14 19 10 true (.len (.t 18)),oG 15 20 10 true (.bin .lss (.t 14) (.t 19)),oP 16 21 (.pick (.t 10) (.t 20) (.c (.bool false))),oM 17 22 21,oG 18 23 22 true (.mov (.t 0)),oG 19 24 22 true (.nilchk (.t 23)),oG 20 25 22 true (.faddr 0 (.t 24)),oG 21 26 22 true (.load none (.t 25)),oG 22 27 22 true (.mov (.t 0)),oG 23 28 22 true (.nilchk (.t 27)),oG 24 29 22 true (.faddr 1 (.t 28)),oG 25 30 22 true (.load none (.t 29)),oG 26 31 22 true (.iaddr 3 (.t 26) (.t 30)),oG 27 32 22 true (.faddr 0 (.t 31)),oG 28 33 22 true (.load none (.t 32)),oG 29 34 22 true (.mov (.t 1)),oG 30 35 22 true (.bin .eql (.t 33) (.t 34)),oP 31 36 (.pick (.t 22) (.t 35) (.c (.bool false))),oM 32 4 36]
@[go_sem] theorem F1185_r0_r:OE F1185_r0.eq_1:=OEM F1185_r0.eq_1
def F1185:AFun:=⟨2,37,[.t 4],.seq (.reg true [oP 0 4 (.mov (.c (.bool false)))]) (.seq (.reg true F1185_r0) (.ret))⟩
def F871_r0:List AOper:=[oM 0 5 0,oM 1 6 1,oP 2 7 (.call 1185 [.t 5,.t 6]),oP 3 8 (.not (.t 7))]
@[go_sem] theorem F871_r0_r:OE F871_r0.eq_1:=OEM F871_r0.eq_1
def F871_r1:List AOper:=[oM 0 9 0,oP 1 10 (.nilchk (.t 9)),oP 2 11 (.faddr 2 (.t 10)),oN 3 (.store 1 (.t 11) (.c (.bool true)))]
@[go_sem] theorem F871_r1_r:OE F871_r1.eq_1:=OEM F871_r1.eq_1
def F871_r2:List AOper:=[oM 0 12 0,oP 1 13 (.nilchk (.t 12)),oP 2 14 (.faddr 1 (.t 13)),oP 3 15 (.load none (.t 14)),oP 4 16 (.bin .add (.t 15) (.c (.int .i64 1))),oP 5 17 (.nilchk (.t 12)),oP 6 18 (.faddr 1 (.t 17)),oN 7 (.store 1 (.t 18) (.t 16))]
@[go_sem] theorem F871_r2_r:OE F871_r2.eq_1:=OEM F871_r2.eq_1
def F871_r3:List AOper:=[oM 0 19 0,oP 1 20 (.nilchk (.t 19)),oP 2 21 (.faddr 0 (.t 20)),oP 3 22 (.load none (.t 21)),oM 4 23 0,oP 5 24 (.nilchk (.t 23)),oP 6 25 (.faddr 1 (.t 24)),oP 7 26 (.load none (.t 25)),oP 8 27 (.bin .sub (.t 26) (.c (.int .i64 1))),oP 9 28 (.iaddr 3 (.t 22) (.t 27)),oP 10 29 (.faddr 1 (.t 28)),oP 11 30 (.load none (.t 29)),oM 12 4 30]
@[go_sem] theorem F871_r3_r:OE F871_r3.eq_1:=OEM F871_r3.eq_1
def F871:AFun:=⟨2,31,[.t 4],.seq (.reg true [oP 0 4 (.mov (.c (.str [])))]) (.seq (.seq (.reg true F871_r0) (.cond (.t 8) (.seq (.reg true F871_r1) (.seq (.reg true [oP 0 4 (.mov (.c (.str [])))]) (.ret))) (.skip))) (.seq (.reg true F871_r2) (.seq (.reg true F871_r3) (.ret))))⟩
def F872_r0:List AOper:=[oM 0 4 0,oM 1 5 1,oP 2 6 (.call 737 [.t 4,.t 5]),oP 3 7 (.not (.t 6))]
@[go_sem] theorem F872_r0_r:OE F872_r0.eq_1:=OEM F872_r0.eq_1
def F872_r1:List AOper:=[oM 0 8 0,oP 1 9 (.nilchk (.t 8)),oP 2 10 (.faddr 2 (.t 9)),oN 3 (.store 1 (.t 10) (.c (.bool true)))]
@[go_sem] theorem F872_r1_r:OE F872_r1.eq_1:=OEM F872_r1.eq_1
def F872:AFun:=⟨2,11,[],.seq (.reg true F872_r0) (.cond (.t 7) (.reg true F872_r1) (.skip))⟩
def F736_r0:List AOper:=[oM 0 7 0,oP 1 8 (.call 736 [.t 7]),oP 2 9 (.call 326 [.t 8]),oN 3 (.lstore 2 0 3 (.t 9))]
@[go_sem] theorem F736_r0_r:OE F736_r0.eq_1:=OEM F736_r0.eq_1
def F736_r1:List AOper:=[oM 0 12 0,oP 1 13 (.call 359 [.t 12]),oP 2 3 (.lalloc (.agg [.int .i64 0,.str [],.nils])),oN 3 (.lstore 3 0 3 (.t 13))]
@[go_sem] theorem F736_r1_r:OE F736_r1.eq_1:=OEM F736_r1.eq_1
def F736_k2:ACode:=.seq (.reg true [oM 0 10 0,oP 1 11 (.call 737 [.t 10,.c (.str [40])])]) (.cond (.t 11) (.seq (.reg true F736_r1) (.seq (.reg true [oM 0 14 0,oP 1 15 (.call 872 [.t 14,.c (.str [41])])]) (.seq (.reg true [oP 0 16 (.lload 3 0 (some 3)),oN 1 (.lstore 2 0 3 (.t 16))]) (.ret)))) (.skip))
@[go_sem] theorem F736_k2_r:CE F736_k2.eq_1:=CEM F736_k2.eq_1
def F736_k3:ACode:=.seq (.seq (.reg true [oM 0 19 4,oP 1 20 (.sop .eql (.t 19) (.c (.str [73,110,116])))]) (.cond (.t 20) (.seq (.reg true [oP 0 21 (.call 328 []),oN 1 (.lstore 2 0 3 (.t 21))]) (.ret)) (.skip))) (.seq (.reg true [oM 0 22 4,oP 1 23 (.call 329 [.t 22]),oN 2 (.lstore 2 0 3 (.t 23))]) (.ret))
@[go_sem] theorem F736_k3_r:CE F736_k3.eq_1:=CEM F736_k3.eq_1
def F736:AFun:=⟨1,24,[.l 2 (some 3)],.seq (.reg true [oP 0 2 (.lalloc (.agg [.int .i64 0,.str [],.nils]))]) (.seq (.seq (.reg true [oM 0 5 0,oP 1 6 (.call 737 [.t 5,.c (.str [33])])]) (.cond (.t 6) (.seq (.reg true F736_r0) (.ret)) (.skip))) (.seq F736_k2 (.seq (.reg true [oM 0 17 0,oP 1 18 (.call 871 [.t 17,.c (.int .i64 2)]),oM 2 4 18]) F736_k3)))⟩
def F359_r0:List AOper:=[oM 0 4 0,oP 1 5 (.call 736 [.t 4]),oP 2 3 (.lalloc (.agg [.int .i64 0,.str [],.nils])),oN 3 (.lstore 3 0 3 (.t 5))]
@[go_sem] theorem F359_r0_r:OE F359_r0.eq_1:=OEM F359_r0.eq_1
def F359_r1:List AOper:=[oP 0 8 (.lload 3 0 (some 3)),oM 1 9 0,oP 2 10 (.call 359 [.t 9]),oP 3 11 (.call 327 [.t 8,.t 10]),oN 4 (.lstore 2 0 3 (.t 11))]
@[go_sem] theorem F359_r1_r:OE F359_r1.eq_1:=OEM F359_r1.eq_1
def F359:AFun:=⟨1,13,[.l 2 (some 3)],.seq (.reg true [oP 0 2 (.lalloc (.agg [.int .i64 0,.str [],.nils]))]) (.seq (.reg true F359_r0) (.seq (.seq (.reg true [oM 0 6 0,oP 1 7 (.call 737 [.t 6,.c (.str [45,62])])]) (.cond (.t 7) (.seq (.reg true F359_r1) (.ret)) (.skip))) (.seq (.reg true [oP 0 12 (.lload 3 0 (some 3)),oN 1 (.lstore 2 0 3 (.t 12))]) (.ret))))⟩
def F738_r0:List AOper:=[oM 0 5 0,oP 1 6 (.nilchk (.t 5)),oP 2 7 (.faddr 1 (.t 6)),oP 3 8 (.load none (.t 7)),oM 4 9 0,oP 5 10 (.nilchk (.t 9)),oP 6 11 (.faddr 0 (.t 10)),oP 7 12 (.load none (.t 11)),oP 8 13 (.len (.t 12)),oP 9 14 (.bin .lss (.t 8) (.t 13))]
@[go_sem] theorem F738_r0_r:OE F738_r0.eq_1:=OEM F738_r0.eq_1
def F738_r1:List AOper:=[oM 0 15 0,oP 1 16 (.nilchk (.t 15)),oP 2 17 (.faddr 0 (.t 16)),oP 3 18 (.load none (.t 17)),oM 4 19 0,oP 5 20 (.nilchk (.t 19)),oP 6 21 (.faddr 1 (.t 20)),oP 7 22 (.load none (.t 21)),oP 8 23 (.iaddr 3 (.t 18) (.t 22)),oP 9 24 (.faddr 2 (.t 23)),oP 10 25 (.load none (.t 24)),oM 11 4 25]
@[go_sem] theorem F738_r1_r:OE F738_r1.eq_1:=OEM F738_r1.eq_1
def F738:AFun:=⟨2,28,[.t 4],.seq (.reg true [oP 0 4 (.mov (.c (.int .i64 0)))]) (.seq (.seq (.reg true F738_r0) (.cond (.t 14) (.seq (.reg true F738_r1) (.ret)) (.skip))) (.seq (.reg true [oM 0 26 1,oP 1 27 (.slen (.t 26)),oM 2 4 27]) (.ret)))⟩
def F360_r0:List AOper:=[oM 0 6 0,oP 1 7 (.nilchk (.t 6)),oP 2 8 (.faddr 2 (.t 7)),oP 3 9 (.load none (.t 8)),oM 4 10 9,oG 5 11 10 false (.mov (.t 0)),oG 6 12 10 false (.nilchk (.t 11)),oG 7 13 10 false (.faddr 1 (.t 12)),oG 8 14 10 false (.load none (.t 13)),oG 9 15 10 false (.mov (.t 0)),oG 10 16 10 false (.nilchk (.t 15)),oG 11 17 10 false (.faddr 0 (.t 16)),oG 12 18 10 false (.load none (.t 17)),oG 13 19 10 false (.len (.t 18)),oG 14 20 10 false (.bin .lss (.t 14) (.t 19)),oP 15 21 (.pick (.t 10) (.c (.bool true)) (.t 20))]
@[go_sem] theorem F360_r0_r:OE F360_r0.eq_1:=OEM F360_r0.eq_1
def F360_r1:List AOper:=[oM 0 22 0,oM 1 23 1,oP 2 24 (.call 738 [.t 22,.t 23]),oM 3 4 24,oP 4 5 (.mov (.c (.int .i64 6)))]
@[go_sem] theorem F360_r1_r:OE F360_r1.eq_1:=OEM F360_r1.eq_1
def F360:AFun:=⟨2,25,[.t 4,.t 5],.seq (.reg true [oP 0 4 (.mov (.c (.int .i64 0))),oP 1 5 (.mov (.c (.int .i64 0)))]) (.seq (.seq (.reg true F360_r0) (.cond (.t 21) (.seq (.reg true F360_r1) (.ret)) (.skip))) (.seq (.reg true [oP 0 4 (.mov (.c (.int .i64 0))),oP 1 5 (.mov (.c (.int .i64 0)))]) (.ret)))⟩
def F100_r0:List AOper:=[oM 0 10 0,oP 1 11 (.call 358 [.t 10]),oM 2 9 11,oP 3 12 (.ext (.t 9) 0),oP 4 13 (.ext (.t 9) 1),oP 5 14 (.ext (.t 9) 2),oM 6 5 12,oM 7 6 13,oM 8 7 14]
@[go_sem] theorem F100_r0_r:OE F100_r0.eq_1:=OEM F100_r0.eq_1
def F100_r1:List AOper:=[oP 0 17 (.build (.agg [.int .i64 0,.str [],.nils]) []),oM 1 18 6,oM 2 19 7,oN 3 (.lstore 2 0 3 (.t 17)),oM 4 3 18,oM 5 4 19]
@[go_sem] theorem F100_r1_r:OE F100_r1.eq_1:=OEM F100_r1.eq_1
def F100_r2:List AOper:=[oM 0 20 5,oP 1 21 (.call 359 [.t 20]),oP 2 8 (.lalloc (.agg [.int .i64 0,.str [],.nils])),oN 3 (.lstore 8 0 3 (.t 21))]
@[go_sem] theorem F100_r2_r:OE F100_r2.eq_1:=OEM F100_r2.eq_1
def F100_r3:List AOper:=[oM 0 23 5,oM 1 24 0,oP 2 25 (.call 360 [.t 23,.t 24]),oM 3 22 25,oP 4 26 (.ext (.t 22) 0),oP 5 27 (.ext (.t 22) 1),oM 6 6 26,oM 7 7 27]
@[go_sem] theorem F100_r3_r:OE F100_r3.eq_1:=OEM F100_r3.eq_1
def F100_r4:List AOper:=[oP 0 30 (.build (.agg [.int .i64 0,.str [],.nils]) []),oM 1 31 6,oM 2 32 7,oN 3 (.lstore 2 0 3 (.t 30)),oM 4 3 31,oM 5 4 32]
@[go_sem] theorem F100_r4_r:OE F100_r4.eq_1:=OEM F100_r4.eq_1
def F100_r5:List AOper:=[oP 0 36 (.build (.agg [.int .i64 0,.str [],.nils]) []),oN 1 (.lstore 2 0 3 (.t 36)),oP 2 3 (.mov (.c (.int .i64 0))),oP 3 4 (.mov (.c (.int .i64 1)))]
@[go_sem] theorem F100_r5_r:OE F100_r5.eq_1:=OEM F100_r5.eq_1
def F100_r6:List AOper:=[oP 0 37 (.lload 8 0 (some 3)),oN 1 (.lstore 2 0 3 (.t 37)),oP 2 3 (.mov (.c (.int .i64 0))),oP 3 4 (.mov (.c (.int .i64 0)))]
@[go_sem] theorem F100_r6_r:OE F100_r6.eq_1:=OEM F100_r6.eq_1
def F100_k7:ACode:=.seq (.seq (.reg true [oM 0 28 7,oP 1 29 (.bin .neq (.t 28) (.c (.int .i64 0)))]) (.cond (.t 29) (.seq (.reg true F100_r4) (.ret)) (.skip))) (.seq (.seq (.reg true [oP 0 33 (.lload 8 0 (some 3)),oP 1 34 (.call 208 [.t 33]),oP 2 35 (.not (.t 34))]) (.cond (.t 35) (.seq (.reg true F100_r5) (.ret)) (.skip))) (.seq (.reg true F100_r6) (.ret)))
@[go_sem] theorem F100_k7_r:CE F100_k7.eq_1:=CEM F100_k7.eq_1
def F100:AFun:=⟨1,38,[.l 2 (some 3),.t 3,.t 4],.seq (.reg true [oP 0 2 (.lalloc (.agg [.int .i64 0,.str [],.nils])),oP 1 3 (.mov (.c (.int .i64 0))),oP 2 4 (.mov (.c (.int .i64 0)))]) (.seq (.reg true F100_r0) (.seq (.seq (.reg true [oM 0 15 7,oP 1 16 (.bin .neq (.t 15) (.c (.int .i64 0)))]) (.cond (.t 16) (.seq (.reg true F100_r1) (.ret)) (.skip))) (.seq (.reg true F100_r2) (.seq (.reg true F100_r3) F100_k7))))⟩
def F361:AFun:=eqS 3 (some 3) 101
def F101_r0:List AOper:=[oP 0 5 (.nop 2),oP 1 6 (.lload 2 0 none),oP 2 7 (.nop 3),oP 3 8 (.lload 3 0 none),oP 4 9 (.bin .neq (.t 6) (.t 8))]
@[go_sem] theorem F101_r0_r:OE F101_r0.eq_1:=OEM F101_r0.eq_1
def F101_r1:List AOper:=[oP 0 10 (.nop 2),oP 1 11 (.lload 2 1 none),oP 2 12 (.nop 3),oP 3 13 (.lload 3 1 none),oP 4 14 (.sop .neq (.t 11) (.t 13))]
@[go_sem] theorem F101_r1_r:OE F101_r1.eq_1:=OEM F101_r1.eq_1
def F101_r2:List AOper:=[oP 0 15 (.nop 2),oP 1 16 (.lload 2 2 none),oP 2 17 (.nop 3),oP 3 18 (.lload 3 2 none),oP 4 19 (.call 361 [.t 16,.t 18]),oP 5 20 (.not (.t 19))]
@[go_sem] theorem F101_r2_r:OE F101_r2.eq_1:=OEM F101_r2.eq_1
def F101_k3:ACode:=.seq (.seq (.reg true F101_r0) (.cond (.t 9) (.seq (.reg true [oP 0 4 (.mov (.c (.bool false)))]) (.ret)) (.skip))) (.seq (.seq (.reg true F101_r1) (.cond (.t 14) (.seq (.reg true [oP 0 4 (.mov (.c (.bool false)))]) (.ret)) (.skip))) (.seq (.seq (.reg true F101_r2) (.cond (.t 20) (.seq (.reg true [oP 0 4 (.mov (.c (.bool false)))]) (.ret)) (.skip))) (.seq (.reg true [oP 0 4 (.mov (.c (.bool true)))]) (.ret))))
@[go_sem] theorem F101_k3_r:CE F101_k3.eq_1:=CEM F101_k3.eq_1
def F101:AFun:=⟨2,21,[.t 4],.seq (.reg true [oP 0 2 (.lbox 3 (.t 0)),oP 1 3 (.lbox 3 (.t 1)),oP 2 4 (.mov (.c (.bool false)))]) F101_k3⟩
def F739_r0:List AOper:=[oM 0 8 0,oP 1 9 (.bin .rem (.t 8) (.c (.int .i64 10))),oP 2 10 (.bin .add (.c (.int .i64 48)) (.t 9)),oP 3 11 (.conv .u8 (.t 10)),oP 4 12 (.bslice 1 (.int .u8 0) 1 [(0,.t 11)]),oP 5 13 (.b2s (.t 12)),oM 6 14 3,oP 7 15 (.sop .add (.t 13) (.t 14)),oM 8 3 15]
@[go_sem] theorem F739_r0_r:OE F739_r0.eq_1:=OEM F739_r0.eq_1
def F739_k1:ACode:=.loop (.seq (.seq (.reg true [oM 0 6 0,oP 1 7 (.bin .gtr (.t 6) (.c (.int .i64 0)))]) (.cond (.t 7) (.skip) (.exit 0))) (.blk 1 (.seq (.reg true F739_r0) (.reg true [oM 0 16 0,oP 1 17 (.bin .quo (.t 16) (.c (.int .i64 10))),oM 2 0 17]))))
@[go_sem] theorem F739_k1_r:CE F739_k1.eq_1:=CEM F739_k1.eq_1
def F739_k2:ACode:=.seq (.seq (.reg true [oM 0 4 0,oP 1 5 (.bin .leq (.t 4) (.c (.int .i64 0)))]) (.cond (.t 5) (.seq (.reg true [oP 0 2 (.mov (.c (.str [109,48])))]) (.ret)) (.skip))) (.seq (.reg true [oP 0 3 (.mov (.c (.str [])))]) (.seq (.blk 0 F739_k1) (.seq (.reg true [oM 0 18 3,oP 1 19 (.sop .add (.c (.str [109])) (.t 18)),oM 2 2 19]) (.ret))))
@[go_sem] theorem F739_k2_r:CE F739_k2.eq_1:=CEM F739_k2.eq_1
def F739:AFun:=⟨1,20,[.t 2],.seq (.reg true [oP 0 2 (.mov (.c (.str [])))]) F739_k2⟩
def F362_r0:List AOper:=[oM 0 6 5,oM 1 7 0,oP 2 8 (.len (.t 7)),oP 3 9 (.bin .lss (.t 6) (.t 8))]
@[go_sem] theorem F362_r0_r:OE F362_r0.eq_1:=OEM F362_r0.eq_1
def F362_r1:List AOper:=[oM 0 12 0,oM 1 13 5,oM 2 14 1,oP 3 15 (.iaddr 3 (.t 12) (.t 13)),oP 4 16 (.faddr 0 (.t 15)),oN 5 (.store 1 (.t 16) (.t 14))]
@[go_sem] theorem F362_r1_r:OE F362_r1.eq_1:=OEM F362_r1.eq_1
def F362_r2:List AOper:=[oM 0 19 0,oM 1 20 5,oM 2 21 1,oP 3 22 (.call 739 [.t 21]),oP 4 23 (.iaddr 3 (.t 19) (.t 20)),oP 5 24 (.faddr 1 (.t 23)),oN 6 (.store 1 (.t 24) (.t 22))]
@[go_sem] theorem F362_r2_r:OE F362_r2.eq_1:=OEM F362_r2.eq_1
def F362_r3:List AOper:=[oM 0 27 0,oM 1 28 5,oP 2 29 (.iaddr 3 (.t 27) (.t 28)),oP 3 30 (.faddr 2 (.t 29)),oP 4 31 (.load none (.t 30)),oM 5 32 1,oP 6 33 (.call 362 [.t 31,.t 32]),oM 7 1 33]
@[go_sem] theorem F362_r3_r:OE F362_r3.eq_1:=OEM F362_r3.eq_1
def F362_k4:ACode:=.seq (.reg true [oM 0 17 1,oP 1 18 (.bin .add (.t 17) (.c (.int .i64 1))),oM 2 1 18]) (.seq (.reg true F362_r2) (.seq (.reg true [oM 0 25 1,oP 1 26 (.bin .add (.t 25) (.c (.int .i64 1))),oM 2 1 26]) (.reg true F362_r3)))
@[go_sem] theorem F362_k4_r:CE F362_k4.eq_1:=CEM F362_k4.eq_1
def F362_k5:ACode:=.seq (.reg true [oP 0 5 (.mov (.c (.int .i64 0)))]) (.blk 0 (.loop (.seq (.seq (.reg true F362_r0) (.cond (.t 9) (.skip) (.exit 0))) (.seq (.blk 1 (.seq (.reg true F362_r1) F362_k4)) (.reg true [oM 0 10 5,oP 1 11 (.bin .add (.t 10) (.c (.int .i64 1))),oM 2 5 11])))))
@[go_sem] theorem F362_k5_r:CE F362_k5.eq_1:=CEM F362_k5.eq_1
def F362:AFun:=⟨2,35,[.t 4],.seq (.reg true [oP 0 4 (.mov (.c (.int .i64 0)))]) (.seq F362_k5 (.seq (.reg true [oM 0 34 1,oM 1 4 34]) (.ret)))⟩
def F102_r0:List AOper:=[oP 0 5 (.nop 2),oP 1 6 (.lload 2 2 none),oM 2 7 1,oP 3 8 (.call 362 [.t 6,.t 7]),oM 4 1 8]
@[go_sem] theorem F102_r0_r:OE F102_r0.eq_1:=OEM F102_r0.eq_1
def F102:AFun:=⟨2,10,[.t 4],.seq (.reg true [oP 0 2 (.lbox 3 (.t 0)),oP 1 4 (.mov (.c (.int .i64 0)))]) (.seq (.reg true F102_r0) (.seq (.reg true [oM 0 9 1,oM 1 4 9]) (.ret)))⟩
def F363_r0:List AOper:=[oM 0 6 5,oM 1 7 0,oP 2 8 (.len (.t 7)),oP 3 9 (.bin .lss (.t 6) (.t 8))]
@[go_sem] theorem F363_r0_r:OE F363_r0.eq_1:=OEM F363_r0.eq_1
def F363_r1:List AOper:=[oM 0 12 0,oM 1 13 5,oP 2 14 (.iaddr 3 (.t 12) (.t 13)),oP 3 15 (.faddr 0 (.t 14)),oP 4 16 (.load none (.t 15)),oM 5 17 1,oP 6 18 (.bin .neq (.t 16) (.t 17))]
@[go_sem] theorem F363_r1_r:OE F363_r1.eq_1:=OEM F363_r1.eq_1
def F363_r2:List AOper:=[oM 0 21 0,oM 1 22 5,oP 2 23 (.iaddr 3 (.t 21) (.t 22)),oP 3 24 (.faddr 1 (.t 23)),oP 4 25 (.load none (.t 24)),oM 5 26 1,⟨6,some 27,none,.call 739 [.t 26],[⟨4,some 25,none,.load none (.t 24),[]⟩]⟩,oP 7 28 (.sop .neq (.t 25) (.t 27))]
@[go_sem] theorem F363_r2_r:OE F363_r2.eq_1:=OEM F363_r2.eq_1
def F363_r3:List AOper:=[oM 0 31 0,oM 1 32 5,oP 2 33 (.iaddr 3 (.t 31) (.t 32)),oP 3 34 (.faddr 2 (.t 33)),oP 4 35 (.load none (.t 34)),oM 5 36 1,oP 6 37 (.call 363 [.t 35,.t 36]),oM 7 1 37]
@[go_sem] theorem F363_r3_r:OE F363_r3.eq_1:=OEM F363_r3.eq_1
def F363_k4:ACode:=.seq (.reg true [oM 0 29 1,oP 1 30 (.bin .add (.t 29) (.c (.int .i64 1))),oM 2 1 30]) (.seq (.reg true F363_r3) (.seq (.reg true [oM 0 38 1,oP 1 39 (.bin .lss (.t 38) (.c (.int .i64 0)))]) (.cond (.t 39) (.seq (.reg true [oP 0 4 (.mov (.c (.int .i64 (-1))))]) (.ret)) (.skip))))
@[go_sem] theorem F363_k4_r:CE F363_k4.eq_1:=CEM F363_k4.eq_1
def F363_k5:ACode:=.seq (.seq (.reg true F363_r1) (.cond (.t 18) (.seq (.reg true [oP 0 4 (.mov (.c (.int .i64 (-1))))]) (.ret)) (.skip))) (.seq (.reg true [oM 0 19 1,oP 1 20 (.bin .add (.t 19) (.c (.int .i64 1))),oM 2 1 20]) (.seq (.seq (.reg true F363_r2) (.cond (.t 28) (.seq (.reg true [oP 0 4 (.mov (.c (.int .i64 (-1))))]) (.ret)) (.skip))) F363_k4))
@[go_sem] theorem F363_k5_r:CE F363_k5.eq_1:=CEM F363_k5.eq_1
def F363_k6:ACode:=.seq (.reg true [oP 0 5 (.mov (.c (.int .i64 0)))]) (.blk 0 (.loop (.seq (.seq (.reg true F363_r0) (.cond (.t 9) (.skip) (.exit 0))) (.seq (.blk 1 F363_k5) (.reg true [oM 0 10 5,oP 1 11 (.bin .add (.t 10) (.c (.int .i64 1))),oM 2 5 11])))))
@[go_sem] theorem F363_k6_r:CE F363_k6.eq_1:=CEM F363_k6.eq_1
def F363:AFun:=⟨2,41,[.t 4],.seq (.reg true [oP 0 4 (.mov (.c (.int .i64 0)))]) (.seq F363_k6 (.seq (.reg true [oM 0 40 1,oM 1 4 40]) (.ret)))⟩
def F103_r0:List AOper:=[oP 0 5 (.nop 2),oP 1 6 (.lload 2 2 none),oM 2 7 1,oP 3 8 (.call 363 [.t 6,.t 7]),oM 4 1 8]
@[go_sem] theorem F103_r0_r:OE F103_r0.eq_1:=OEM F103_r0.eq_1
def F103_k1:ACode:=.seq (.reg true F103_r0) (.seq (.seq (.reg true [oM 0 9 1,oP 1 10 (.bin .lss (.t 9) (.c (.int .i64 0)))]) (.cond (.t 10) (.seq (.reg true [oP 0 4 (.mov (.c (.int .i64 (-1))))]) (.ret)) (.skip))) (.seq (.reg true [oM 0 11 1,oM 1 4 11]) (.ret)))
@[go_sem] theorem F103_k1_r:CE F103_k1.eq_1:=CEM F103_k1.eq_1
def F103:AFun:=⟨2,12,[.t 4],.seq (.reg true [oP 0 2 (.lbox 3 (.t 0)),oP 1 4 (.mov (.c (.int .i64 0)))]) F103_k1⟩
def F7_r0:List AOper:=[oM 0 18 0,oP 1 19 (.call 100 [.t 18]),oM 2 17 19,oP 3 20 (.ext (.t 17) 0),oP 4 21 (.ext (.t 17) 1),oP 5 22 (.ext (.t 17) 2),oP 6 3 (.lalloc (.agg [.int .i64 0,.str [],.nils])),oN 7 (.lstore 3 0 3 (.t 20)),oM 8 4 21,oM 9 5 22]
@[go_sem] theorem F7_r0_r:OE F7_r0.eq_1:=OEM F7_r0.eq_1
def F7_r1:List AOper:=[oM 0 24 0,oP 1 25 (.call 76 [.t 24]),oM 2 23 25,oP 3 26 (.ext (.t 23) 0),oP 4 27 (.ext (.t 23) 1),oP 5 28 (.ext (.t 23) 2),oP 6 6 (.lalloc (.agg [.int .i64 0,.str [],.nils])),oN 7 (.lstore 6 0 3 (.t 26)),oM 8 7 27,oM 9 8 28]
@[go_sem] theorem F7_r1_r:OE F7_r1.eq_1:=OEM F7_r1.eq_1
def F7_r2:List AOper:=[oP 0 29 (.lload 6 0 (some 3)),oP 1 30 (.lload 3 0 (some 3)),oP 2 31 (.call 101 [.t 29,.t 30]),oP 3 32 (.not (.t 31)),oM 4 33 32,oG 5 34 33 false (.mov (.t 7)),oG 6 35 33 false (.mov (.t 4)),oG 7 36 33 false (.bin .neq (.t 34) (.t 35)),oP 8 37 (.pick (.t 33) (.c (.bool true)) (.t 36)),oM 9 38 37,oG 10 39 38 false (.mov (.t 8)),oG 11 40 38 false (.mov (.t 5)),oG 12 41 38 false (.bin .neq (.t 39) (.t 40)),oP 13 42 (.pick (.t 38) (.c (.bool true)) (.t 41))]
@[go_sem] theorem F7_r2_r:OE F7_r2.eq_1:=OEM F7_r2.eq_1
def F7_r3:List AOper:=[oP 0 43 (.lload 6 0 (some 3)),oM 1 44 9,oP 2 45 (.call 102 [.t 43,.t 44]),oM 3 9 45]
@[go_sem] theorem F7_r3_r:OE F7_r3.eq_1:=OEM F7_r3.eq_1
def F7_r4:List AOper:=[oP 0 46 (.lload 6 0 (some 3)),oM 1 47 10,oP 2 48 (.call 103 [.t 46,.t 47]),oM 3 10 48]
@[go_sem] theorem F7_r4_r:OE F7_r4.eq_1:=OEM F7_r4.eq_1
def F7_r5:List AOper:=[oM 0 55 0,oP 1 56 (.call 76 [.t 55]),oM 2 54 56,oP 3 57 (.ext (.t 54) 0),oP 4 58 (.ext (.t 54) 1),oP 5 59 (.ext (.t 54) 2),oP 6 11 (.lalloc (.agg [.int .i64 0,.str [],.nils])),oN 7 (.lstore 11 0 3 (.t 57)),oM 8 12 58,oM 9 13 59]
@[go_sem] theorem F7_r5_r:OE F7_r5.eq_1:=OEM F7_r5.eq_1
def F7_r6:List AOper:=[oP 0 60 (.lload 11 0 (some 3)),oP 1 61 (.lload 3 0 (some 3)),oP 2 62 (.call 101 [.t 60,.t 61]),oP 3 63 (.not (.t 62)),oM 4 64 63,oG 5 65 64 false (.mov (.t 12)),oG 6 66 64 false (.mov (.t 4)),oG 7 67 64 false (.bin .neq (.t 65) (.t 66)),oP 8 68 (.pick (.t 64) (.c (.bool true)) (.t 67)),oM 9 69 68,oG 10 70 69 false (.mov (.t 13)),oG 11 71 69 false (.mov (.t 5)),oG 12 72 69 false (.bin .neq (.t 70) (.t 71)),oP 13 73 (.pick (.t 69) (.c (.bool true)) (.t 72))]
@[go_sem] theorem F7_r6_r:OE F7_r6.eq_1:=OEM F7_r6.eq_1
def F7_r7:List AOper:=[oP 0 74 (.lload 6 0 (some 3)),oM 1 75 10,oP 2 76 (.call 103 [.t 74,.t 75]),oM 3 10 76]
@[go_sem] theorem F7_r7_r:OE F7_r7.eq_1:=OEM F7_r7.eq_1
def F7_k8:ACode:=.seq (.seq (.reg true [oM 0 77 10,oP 1 78 (.bin .lss (.t 77) (.c (.int .i64 0)))]) (.cond (.t 78) (.seq (.reg true [oP 0 2 (.mov (.c (.bool false)))]) (.ret)) (.skip))) (.seq (.seq (.reg true [oM 0 79 10,oM 1 80 9,oP 2 81 (.bin .neq (.t 79) (.t 80))]) (.cond (.t 81) (.seq (.reg true [oP 0 2 (.mov (.c (.bool false)))]) (.ret)) (.skip))) (.seq (.reg true [oP 0 2 (.mov (.c (.bool true)))]) (.ret)))
@[go_sem] theorem F7_k8_r:CE F7_k8.eq_1:=CEM F7_k8.eq_1
def F7_k9:ACode:=.seq (.seq (.reg true [oM 0 51 10,oM 1 52 9,oP 2 53 (.bin .neq (.t 51) (.t 52))]) (.cond (.t 53) (.seq (.reg true [oP 0 2 (.mov (.c (.bool false)))]) (.ret)) (.skip))) (.seq (.reg true F7_r5) (.seq (.seq (.reg true F7_r6) (.cond (.t 73) (.seq (.reg true [oP 0 2 (.mov (.c (.bool false)))]) (.ret)) (.skip))) (.seq (.reg true [oP 0 10 (.mov (.c (.int .i64 1)))]) (.seq (.reg true F7_r7) F7_k8))))
@[go_sem] theorem F7_k9_r:CE F7_k9.eq_1:=CEM F7_k9.eq_1
def F7_k10:ACode:=.seq (.reg true F7_r3) (.seq (.reg true [oP 0 10 (.mov (.c (.int .i64 1)))]) (.seq (.reg true F7_r4) (.seq (.seq (.reg true [oM 0 49 10,oP 1 50 (.bin .lss (.t 49) (.c (.int .i64 0)))]) (.cond (.t 50) (.seq (.reg true [oP 0 2 (.mov (.c (.bool false)))]) (.ret)) (.skip))) F7_k9)))
@[go_sem] theorem F7_k10_r:CE F7_k10.eq_1:=CEM F7_k10.eq_1
def F7_k11:ACode:=.seq (.seq (.reg true [oM 0 14 0,oP 1 15 (.slen (.t 14)),oP 2 16 (.bin .gtr (.t 15) (.c (.int .i64 1048576)))]) (.cond (.t 16) (.seq (.reg true [oP 0 2 (.mov (.c (.bool true)))]) (.ret)) (.skip))) (.seq (.reg true F7_r0) (.seq (.reg true F7_r1) (.seq (.seq (.reg true F7_r2) (.cond (.t 42) (.seq (.reg true [oP 0 2 (.mov (.c (.bool false)))]) (.ret)) (.skip))) (.seq (.reg true [oP 0 9 (.mov (.c (.int .i64 1)))]) F7_k10))))
@[go_sem] theorem F7_k11_r:CE F7_k11.eq_1:=CEM F7_k11.eq_1
def F7:AFun:=⟨1,82,[.t 2],.seq (.reg true [oP 0 2 (.mov (.c (.bool false)))]) F7_k11⟩
def T334:ATry:=⟨3,47,
 .reg true [⟨0,some 6,none,.lalloc (.agg [.int .i64 0,.str [],.nils]),[]⟩,
⟨1,some 7,none,.lalloc (.int .i64 0),[]⟩,
⟨2,some 8,none,.lalloc (.int .i64 0),[]⟩],
 .reg true [⟨0,some 9,none,.lalloc (.agg [.int .i64 0,.str [],.nils]),[]⟩],
 .reg true [⟨0,some 13,none,.mov (.t 0),[]⟩,
⟨1,some 14,none,.call 266 [.t 13],[]⟩,
⟨2,some 12,none,.mov (.t 14),[]⟩,
⟨3,some 15,none,.ext (.t 12) 0,[]⟩,
⟨4,some 16,none,.ext (.t 12) 1,[]⟩,
⟨5,some 17,none,.ext (.t 12) 2,[]⟩,
⟨6,some 10,none,.mov (.t 15),[]⟩,
⟨7,none,none,.lstore 7 0 1 (.t 16),[]⟩,
⟨8,none,none,.lstore 8 0 1 (.t 17),[]⟩],
 .seq (.reg true [⟨0,some 18,none,.lload 8 0 none,[]⟩,
⟨1,some 19,none,.bin .neq (.t 18) (.c (.int .i64 0)),[]⟩]) (.cond (.t 19) (.seq (.reg true [⟨0,some 20,none,.lload 9 0 (some 3),[]⟩,
⟨1,some 21,none,.lload 7 0 none,[]⟩,
⟨2,some 22,none,.lload 8 0 none,[]⟩,
⟨3,none,none,.lstore 6 0 3 (.t 20),[]⟩,
⟨4,none,none,.lstore 7 0 1 (.t 21),[]⟩,
⟨5,none,none,.lstore 8 0 1 (.t 22),[]⟩]) (.ret)) (.skip)),
 .reg true [⟨0,some 24,none,.mov (.t 10),[]⟩,
⟨1,some 25,none,.mov (.t 0),[]⟩,
⟨2,some 26,none,.slen (.t 25),[]⟩,
⟨3,some 27,none,.build (.agg [.nils,.int .i64 0,.int .i64 0]) [(0,1,.t 24),(2,1,.t 26)],[]⟩,
⟨4,some 28,none,.hbox 3 (.t 27),[]⟩,
⟨5,some 11,none,.mov (.t 28),[]⟩],
 [⟨0,some 29,none,.mov (.t 1),[]⟩,
⟨1,some 30,none,.mov (.t 11),[]⟩,
⟨2,some 31,none,.callv (.t 29) [.t 30],[]⟩,
⟨3,none,none,.lstore 6 0 3 (.t 31),[]⟩],
 .reg true [⟨0,some 32,none,.mov (.t 11),[]⟩,
⟨1,some 33,none,.nilchk (.t 32),[]⟩,
⟨2,some 34,none,.faddr 1 (.t 33),[]⟩,
⟨3,some 35,none,.load none (.t 34),[]⟩,
⟨4,some 36,none,.mov (.t 10),[]⟩,
⟨5,some 37,none,.len (.t 36),[]⟩,
⟨6,some 38,none,.bin .lss (.t 35) (.t 37),[]⟩],.t 38,
 [⟨0,some 39,none,.mov (.t 11),[]⟩,
⟨1,some 40,none,.call 719 [.t 39],[]⟩],
 .seq (.seq (.reg true [⟨0,some 41,none,.mov (.t 2),[]⟩,
⟨1,some 42,none,.lload 6 0 (some 3),[]⟩,
⟨2,some 43,none,.callv (.t 41) [.t 42],[]⟩,
⟨3,some 44,none,.not (.t 43),[]⟩]) (.cond (.t 44) (.seq (.reg true [⟨0,some 45,none,.lload 9 0 (some 3),[]⟩,
⟨1,none,none,.lstore 6 0 3 (.t 45),[]⟩,
⟨2,none,none,.lstore 7 0 1 (.c (.int .i64 0)),[]⟩,
⟨3,none,none,.lstore 8 0 1 (.c (.int .i64 1)),[]⟩]) (.ret)) (.skip))) (.seq (.reg true [⟨0,some 46,none,.lload 6 0 (some 3),[]⟩,
⟨1,none,none,.lstore 6 0 3 (.t 46),[]⟩,
⟨2,none,none,.lstore 7 0 1 (.c (.int .i64 0)),[]⟩,
⟨3,none,none,.lstore 8 0 1 (.c (.int .i64 0)),[]⟩]) (.ret)),
 .seq (.reg true [⟨0,some 5,none,.lalloc (.agg [.int .i64 0]),[]⟩,
⟨1,none,none,.lstore 5 0 1 (.t 12),[]⟩]) (.reg true [⟨0,some 13,none,.lload 0 0 (some 3),[]⟩,
⟨1,some 14,none,.nop 5,[]⟩,
⟨2,some 15,none,.lload 5 0 none,[]⟩,
⟨3,none,none,.lstore 1 0 3 (.t 13),[]⟩,
⟨4,none,none,.lstore 2 0 1 (.t 15),[]⟩,
⟨5,none,none,.lstore 3 0 1 (.c (.int .i64 6)),[]⟩]),
 751,23,12,[9,6,7,8],[.l 6 (some 3),.l 7 none,.l 8 none],[.l 1 (some 3),.l 2 none,.l 3 none]⟩
def tabm:List (Nat×AFun):=[(1100,F1100),(1206,F1206),(1330,F1330),(1012,F1012),(1106,F1106),(732,F732),(1013,F1013),(1099,F1099),(717,F717),(331,F331),(74,F74),(889,F889),(577,F577),(1051,F1051),(1091,F1091),(1014,F1014),(1331,F1331),(1015,F1015),(632,F632),(266,F266),(1101,F1101),(719,F719),(1103,F1103),(721,F721),(875,F875),(876,F876),(908,F908),(911,F911),(1102,F1102),(720,F720),(722,F722),(335,F335),(76,F76),(340,F340),(1440,F1440),(1513,F1513),(1441,F1441),(1442,F1442),(1241,F1241),(921,F921),(541,F541),(208,F208),(1393,F1393),(1237,F1237),(1496,F1496),(1497,F1497),(1498,F1498),(1394,F1394),(1107,F1107),(735,F735),(358,F358),(327,F327),(326,F326),(328,F328),(329,F329),(1108,F1108),(737,F737),(1185,F1185),(871,F871),(872,F872),(736,F736),(359,F359),(738,F738),(360,F360),(100,F100),(361,F361),(101,F101),(739,F739),(362,F362),(102,F102),(363,F363),(103,F103),(7,F7)]
def tabt:List (Nat×AFn):=[(334,.try T334),(631,.ext (told1 P631)),(957,.ext (told1 P957)),(1382,.ext (told1 P1382))]
def Gm(g:Nat):Option AFn:=lookY g tabt tabm
theorem g334:Gm 334=some (.try T334):=by kernel_rfl
theorem g631:Gm 631=some (.ext (told1 P631)):=by kernel_rfl
theorem g957:Gm 957=some (.ext (told1 P957)):=by kernel_rfl
theorem g1382:Gm 1382=some (.ext (told1 P1382)):=by kernel_rfl
theorem g1100:Gm 1100=some (.fn F1100):=by kernel_rfl
theorem g1206:Gm 1206=some (.fn F1206):=by kernel_rfl
theorem g1330:Gm 1330=some (.fn F1330):=by kernel_rfl
theorem g1012:Gm 1012=some (.fn F1012):=by kernel_rfl
theorem g1106:Gm 1106=some (.fn F1106):=by kernel_rfl
theorem g732:Gm 732=some (.fn F732):=by kernel_rfl
theorem g1013:Gm 1013=some (.fn F1013):=by kernel_rfl
theorem g1099:Gm 1099=some (.fn F1099):=by kernel_rfl
theorem g717:Gm 717=some (.fn F717):=by kernel_rfl
theorem g331:Gm 331=some (.fn F331):=by kernel_rfl
theorem g74:Gm 74=some (.fn F74):=by kernel_rfl
theorem g889:Gm 889=some (.fn F889):=by kernel_rfl
theorem g577:Gm 577=some (.fn F577):=by kernel_rfl
theorem g1051:Gm 1051=some (.fn F1051):=by kernel_rfl
theorem g1091:Gm 1091=some (.fn F1091):=by kernel_rfl
theorem g1014:Gm 1014=some (.fn F1014):=by kernel_rfl
theorem g1331:Gm 1331=some (.fn F1331):=by kernel_rfl
theorem g1015:Gm 1015=some (.fn F1015):=by kernel_rfl
theorem g632:Gm 632=some (.fn F632):=by kernel_rfl
theorem g266:Gm 266=some (.fn F266):=by kernel_rfl
theorem g1101:Gm 1101=some (.fn F1101):=by kernel_rfl
theorem g719:Gm 719=some (.fn F719):=by kernel_rfl
theorem g1103:Gm 1103=some (.fn F1103):=by kernel_rfl
theorem g721:Gm 721=some (.fn F721):=by kernel_rfl
theorem g875:Gm 875=some (.fn F875):=by kernel_rfl
theorem g876:Gm 876=some (.fn F876):=by kernel_rfl
theorem g908:Gm 908=some (.fn F908):=by kernel_rfl
theorem g911:Gm 911=some (.fn F911):=by kernel_rfl
theorem g1102:Gm 1102=some (.fn F1102):=by kernel_rfl
theorem g720:Gm 720=some (.fn F720):=by kernel_rfl
theorem g722:Gm 722=some (.fn F722):=by kernel_rfl
theorem g335:Gm 335=some (.fn F335):=by kernel_rfl
theorem g76:Gm 76=some (.fn F76):=by kernel_rfl
theorem g340:Gm 340=some (.fn F340):=by kernel_rfl
theorem g1440:Gm 1440=some (.fn F1440):=by kernel_rfl
theorem g1513:Gm 1513=some (.fn F1513):=by kernel_rfl
theorem g1441:Gm 1441=some (.fn F1441):=by kernel_rfl
theorem g1442:Gm 1442=some (.fn F1442):=by kernel_rfl
theorem g1241:Gm 1241=some (.fn F1241):=by kernel_rfl
theorem g921:Gm 921=some (.fn F921):=by kernel_rfl
theorem g541:Gm 541=some (.fn F541):=by kernel_rfl
theorem g208:Gm 208=some (.fn F208):=by kernel_rfl
theorem g1393:Gm 1393=some (.fn F1393):=by kernel_rfl
theorem g1237:Gm 1237=some (.fn F1237):=by kernel_rfl
theorem g1496:Gm 1496=some (.fn F1496):=by kernel_rfl
theorem g1497:Gm 1497=some (.fn F1497):=by kernel_rfl
theorem g1498:Gm 1498=some (.fn F1498):=by kernel_rfl
theorem g1394:Gm 1394=some (.fn F1394):=by kernel_rfl
theorem g1107:Gm 1107=some (.fn F1107):=by kernel_rfl
theorem g735:Gm 735=some (.fn F735):=by kernel_rfl
theorem g358:Gm 358=some (.fn F358):=by kernel_rfl
theorem g327:Gm 327=some (.fn F327):=by kernel_rfl
theorem g326:Gm 326=some (.fn F326):=by kernel_rfl
theorem g328:Gm 328=some (.fn F328):=by kernel_rfl
theorem g329:Gm 329=some (.fn F329):=by kernel_rfl
theorem g1108:Gm 1108=some (.fn F1108):=by kernel_rfl
theorem g737:Gm 737=some (.fn F737):=by kernel_rfl
theorem g1185:Gm 1185=some (.fn F1185):=by kernel_rfl
theorem g871:Gm 871=some (.fn F871):=by kernel_rfl
theorem g872:Gm 872=some (.fn F872):=by kernel_rfl
theorem g736:Gm 736=some (.fn F736):=by kernel_rfl
theorem g359:Gm 359=some (.fn F359):=by kernel_rfl
theorem g738:Gm 738=some (.fn F738):=by kernel_rfl
theorem g360:Gm 360=some (.fn F360):=by kernel_rfl
theorem g100:Gm 100=some (.fn F100):=by kernel_rfl
theorem g361:Gm 361=some (.fn F361):=by kernel_rfl
theorem g101:Gm 101=some (.fn F101):=by kernel_rfl
theorem g739:Gm 739=some (.fn F739):=by kernel_rfl
theorem g362:Gm 362=some (.fn F362):=by kernel_rfl
theorem g102:Gm 102=some (.fn F102):=by kernel_rfl
theorem g363:Gm 363=some (.fn F363):=by kernel_rfl
theorem g103:Gm 103=some (.fn F103):=by kernel_rfl
theorem g7:Gm 7=some (.fn F7):=by kernel_rfl
end Go.Ab
namespace Go.Ab
open Go
section
variable {E:Ev} {ks:List Fr1} {s m:LEnv} {h:List AObj} {Q:AExit→VSt→Prop} {l:List AOper} {a b:List UInt8}
def mkif1(t:Nat):Option AV→Option AV
  | some v=>some (.iface t v)
  | none=>none
@[go_sem] theorem mkif1_s{t:Nat}{v:AV}:mkif1 t (some v)=some (.iface t v):=rfl
@[go_sem] theorem go_mkif{i t:Nat}{d:Option Nat}{g:Option (Nat×Bool)}{x:Ao}{ck:List AOper}:Go1 E (.mk i d g (.mkif t x) ck) l ks ⟨s,m,h⟩ Q=Put E (mkif1 t (ev (toE s) x)) d l ks ⟨s,m,h⟩ Q:=by
  rw[go1_val rfl fun _=>rfl];congr 1;show (ev (toE s) x).map (AV.iface t)=_;cases ev (toE s) x<;>rfl
def isn4:Bool→Option AV→Option AV
  | n,some (.iface _ _)=>some (.bool n)
  | n,some .nili=>some (.bool !n)
  | _,_=>none
@[go_sem] theorem isn4_i{n:Bool}{t:Nat}{v:AV}:isn4 n (some (.iface t v))=some (.bool n):=rfl
@[go_sem] theorem isn4_n{n:Bool}:isn4 n (some .nili)=some (.bool !n):=rfl
@[go_sem] theorem go_isnil4{i:Nat}{d:Option Nat}{g:Option (Nat×Bool)}{n:Bool}{x:Ao}{ck:List AOper}:Go1 E (.mk i d g (.isnil 4 n x) ck) l ks ⟨s,m,h⟩ Q=Put E (isn4 n (ev (toE s) x)) d l ks ⟨s,m,h⟩ Q:=by
  rw[go1_val rfl fun _=>rfl];congr 1;show ((ev (toE s) x).bind (AV.isNil 4)).map (fun b=>AV.bool (if n then !b else b))=_;generalize ev (toE s) x=o;rcases o with _ | v
  · rfl
  · cases v<;>cases n<;>rfl
@[go_sem] theorem strOp_eq:strOp .eql a b=some (.bool (a==b)):=rfl
@[go_sem] theorem strOp_ne:strOp .neq a b=some (.bool (!(a==b))):=rfl
@[go_sem] theorem sidx1_0{k:IntKind}:sidx1 (some (.str a)) (some (.int k 0))=(a[0]?).map fun b=>.int .u8 b.toNat:=sidx1_i (n:=0)
theorem strOp_add(h:a.length+b.length≤9223372036854775807):strOp .add a b=some (.str (a++b)):=if_pos h
theorem sslc_lh{x lo hi:Ao}{k1 k2:IntKind}{n e:Nat}{hh:AH}{mm:Env}(h1:ev (toE s) x=some (.str a))(h2:ev (toE s) lo=some (.int k1 (n:Int)))(h3:ev (toE s) hi=some (.int k2 (e:Int)))(he:e≤a.length)(hb:n≤e):
    val (.sslc x (some lo) (some hi)) (toE s) mm hh=some (.str ((a.drop n).take (e-n))):=by
  simp only[val,h1,bnd,h3];rw[if_pos ⟨by omega,by omega⟩];simp only[h2];rw[if_pos ⟨by omega,by simpa using hb⟩];simp
theorem sslc_l{x lo:Ao}{k1:IntKind}{n:Nat}{hh:AH}{mm:Env}(h1:ev (toE s) x=some (.str a))(h2:ev (toE s) lo=some (.int k1 (n:Int)))(hb:n≤a.length):
    val (.sslc x (some lo) none) (toE s) mm hh=some (.str (a.drop n)):=by
  simp only[val,h1,bnd,h2];rw[if_pos ⟨by omega,by simpa using hb⟩];show some (AV.str (List.take (a.length-((n:Int)).toNat) (List.drop ((n:Int)).toNat a)))=_;rw[Int.toNat_natCast,List.take_of_length_le (by simp)]
end
abbrev Str:=List UInt8
def isSm(b:UInt8):Bool:=decide (97≤b.toNat)&&decide (b.toNat≤122)
def isCap(b:UInt8):Bool:=decide (65≤b.toNat)&&decide (b.toNat≤90)
def isDig(b:UInt8):Bool:=decide (48≤b.toNat)&&decide (b.toNat≤57)
def isWB(b:UInt8):Bool:=isSm b || (isCap b || isDig b)
def kws:List Str:=[[100,97,116,97],[100,101,102],[108,101,116],[105,110],[109,97,116,99,104],[105,102],[116,104,101,110],[101,108,115,101]]
def isKw(s:Str):Bool:=kws.contains s
def isName(s:Str):Bool:=match s with
  |[]=>false
  | c::_=>decide (s.length≤12)&&(!isDig c&&(!isKw s&&s.all isWB))
def isUp(s:Str):Bool:=isName s&&isCap (s.headD 0)
def isLo(s:Str):Bool:=isName s&&isSm (s.headD 0)
def wordAt(t:Str)(i:Nat):Str:=(t.drop i).takeWhile isWB
end Go.Ab
namespace Go.Ab
open Go
set_option maxRecDepth 10000
end Go.Ab
namespace Go.Ab
open Go
set_option maxRecDepth 10000
set_option maxHeartbeats 2000000
theorem c1100{b:UInt8}:Pure Gm 1100 [.int .u8 (b.toNat:Nat)] (.bool (isCap b)):=by
  refine Pure.intro [] [] g1100 (by kernel_rfl) rfl (by simp[AV.trees,AV.tree,go_sem]) rfl ?_;simp only[F1100,vparams,go_sem]
  first | (refine grd_split ?_ ?_<;>intro hc<;>simp only[hc,go_sem]) | (refine cnd_split ?_ ?_<;>intro hc<;>simp only[hc,go_sem])
  · exact fin_eq rfl (by first | (simp[isCap]at hc⊢;omega) | (simp only[decide_eq_true_eq,decide_eq_false_iff_not]at hc;congr 1;rw[Bool.eq_iff_iff];simp[isCap];omega))
  · exact fin_eq rfl (by first | (simp[isCap]at hc⊢;omega) | (simp only[decide_eq_true_eq,decide_eq_false_iff_not]at hc;congr 1;rw[Bool.eq_iff_iff];simp[isCap];omega))
theorem c1206{b:UInt8}:Pure Gm 1206 [.int .u8 (b.toNat:Nat)] (.bool (isSm b)):=by
  refine Pure.intro [] [] g1206 (by kernel_rfl) rfl (by simp[AV.trees,AV.tree,go_sem]) rfl ?_;simp only[F1206,vparams,go_sem]
  first | (refine grd_split ?_ ?_<;>intro hc<;>simp only[hc,go_sem]) | (refine cnd_split ?_ ?_<;>intro hc<;>simp only[hc,go_sem])
  · exact fin_eq rfl (by first | (simp[isSm]at hc⊢;omega) | (simp only[decide_eq_true_eq,decide_eq_false_iff_not]at hc;congr 1;rw[Bool.eq_iff_iff];simp[isSm];omega))
  · exact fin_eq rfl (by first | (simp[isSm]at hc⊢;omega) | (simp only[decide_eq_true_eq,decide_eq_false_iff_not]at hc;congr 1;rw[Bool.eq_iff_iff];simp[isSm];omega))
theorem c1330{b:UInt8}:Pure Gm 1330 [.int .u8 (b.toNat:Nat)] (.bool (isDig b)):=by
  refine Pure.intro [] [] g1330 (by kernel_rfl) rfl (by simp[AV.trees,AV.tree,go_sem]) rfl ?_;simp only[F1330,vparams,go_sem]
  first | (refine grd_split ?_ ?_<;>intro hc<;>simp only[hc,go_sem]) | (refine cnd_split ?_ ?_<;>intro hc<;>simp only[hc,go_sem])
  · exact fin_eq rfl (by first | (simp[isDig]at hc⊢;omega) | (simp only[decide_eq_true_eq,decide_eq_false_iff_not]at hc;congr 1;rw[Bool.eq_iff_iff];simp[isDig];omega))
  · exact fin_eq rfl (by first | (simp[isDig]at hc⊢;omega) | (simp only[decide_eq_true_eq,decide_eq_false_iff_not]at hc;congr 1;rw[Bool.eq_iff_iff];simp[isDig];omega))
theorem c1012{b:UInt8}:Pure Gm 1012 [.int .u8 (b.toNat:Nat)] (.bool (isWB b)):=by
  refine Pure.intro [] [] g1012 (by kernel_rfl) rfl (by simp[AV.trees,AV.tree,go_sem]) rfl ?_;simp only[F1012,vparams,go_sem];refine call_pure c1206 ?_;simp only[go_sem];cases h1:isSm b<;>simp only[go_sem]
  · refine call_pure c1100 ?_;simp only[go_sem];cases h2:isCap b<;>simp only[go_sem]
    · refine call_pure c1330 ?_;simp only[go_sem];exact fin_eq rfl (by simp[isWB,h1,h2])
    · exact fin_eq rfl (by simp[isWB,h1,h2])
  · exact fin_eq rfl (by simp[isWB,h1])
end Go.Ab
namespace Go.Ab
open Go
set_option maxRecDepth 10000
set_option maxHeartbeats 2000000
theorem c1106{xs:List Str}{v:Str}(hl:xs.length≤1048576):Pure Gm 1106 [.lst 1 (xs.map encS) false,.str v] (.int .i64 (idxFrom (fun x=>v==x) xs 0)):=by
  refine Pure.intro [] [] g1106 (by kernel_rfl) rfl (by simp[AV.trees,AV.tree,trees_map shS.tree]) rfl ?_;simp only[F1106,vparams,go_sem];refine Sem.loop (fun i:Nat=>i≤xs.length∧idxFrom (fun x=>v==x) xs 0=idxFrom (fun x=>v==x) (xs.drop i) i) (fun i=>(⟨[(0,.lst 1 (xs.map encS) false),(1,.str v),(7,.int .i64 xs.length),(8,.int .i64 (i:Nat))],[],[]⟩:VSt)) (fun i=>xs.length-i) 0 (by kernel_rfl) ⟨Nat.zero_le _,by simp⟩ (Can.sub (by simp[go_sem]) (by simp[go_sem])) ?_;rintro i ⟨hi,hI⟩;simp only[go_sem];refine cnd_split ?_ ?_<;>intro hc<;>simp only[hc,go_sem]
  · have hlt:i<xs.length:=by have:=of_decide_eq_true hc;omega
    simp only[List.getElem?_map,List.getElem?_eq_getElem hlt,Option.map_some,shS.part,encS,go_sem];have hd:xs.drop i=xs[i]::xs.drop (i+1):=by simp
    refine cnd_split ?_ ?_<;>intro hc<;>simp only[hc,go_sem]
    · refine fin_eq rfl ?_;have hq:=of_decide_eq_true hc;rw[hI,hd];simp[idxFrom,←hq]
    · simp only[wrap_succ (show i<4611686018427387904 by omega)];refine loopQ_nrm (i+1) ⟨by omega, ?_⟩ (by omega) (Can.sub (by simp[go_sem]) (by simp[go_sem]));have hq:=of_decide_eq_false hc;rw[hI,hd];simp only[idxFrom];rw[if_neg (by simpa using hq)]
  · obtain rfl:i=xs.length:=by have:=of_decide_eq_false hc;omega
    refine fin_eq rfl ?_;rw[hI];simp[idxFrom]
theorem c732{xs:List Str}{v:Str}(hl:xs.length≤1048576):Pure Gm 732 [.lst 1 (xs.map encS) false,.str v] (.bool (xs.any fun x=>v==x)):=by
  refine Pure.intro [] [] g732 (by kernel_rfl) rfl (by simp[AV.trees,AV.tree,trees_map shS.tree]) rfl ?_;simp only[F732,vparams,go_sem];simp only[ctnF,vparams];simp only[go_sem];refine call_pure (c1106 hl) ?_;simp only[go_sem];exact fin_eq rfl (by rw[←idxFrom_any _ xs 0])
theorem c1013{v:Str}:Pure Gm 1013 [.str v] (.bool (isKw v)):=by
  refine Pure.intro [] [] g1013 (by kernel_rfl) rfl (by simp[AV.trees,AV.tree,go_sem]) rfl ?_;simp only[F1013,vparams,go_sem];rw[show fillAV _ _ _ _=some (kws.map encS)from rfl];simp only[go_sem];refine call_lend (vs':=[.lst 1 (kws.map encS) false,.str v]) (Cvs.cons (Cv.row rfl rfl rfl (by decide)) (Cvs.cons (.refl rfl) Cvs.nil)) (c732 (by decide)) rfl ?_;simp only[go_sem];exact fin_eq rfl (by simp only[isKw,List.contains_eq_any_beq])
theorem c1099{v:Str}(hl:v.length≤4611686018427387904):Pure Gm 1099 [.str v] (.bool (isName v)):=by
  refine Pure.intro [] [] g1099 (by kernel_rfl) rfl (by simp[AV.trees,AV.tree,go_sem]) rfl ?_;simp only[F1099,vparams,go_sem];by_cases h0:v.length<1
  · have e0:decide ((v.length:Int)<1)=true:=decide_eq_true (by omega);simp only[e0,go_sem];exact fin_eq rfl (by have:v=[]:=List.length_eq_zero_iff.1 (by omega);subst this;rfl)
  have e0:decide ((v.length:Int)<1)=false:=decide_eq_false (by omega);simp only[e0,go_sem];obtain⟨c,r,hv⟩:∃c r,v=c::r:=by cases v with
    | nil=>simp at h0
    | cons c r=>exact⟨c,r,rfl⟩
  by_cases h12:v.length≤12
  case neg=>
    have e1:decide ((v.length:Int)>12)=true:=decide_eq_true (by omega);simp only[gt_iff_lt]at e1;simp only[e1,go_sem];exact fin_eq rfl (by subst hv;simp only[isName,decide_eq_false h12,Bool.false_and])
  have e1:decide ((v.length:Int)>12)=false:=decide_eq_false (by omega);simp only[gt_iff_lt]at e1;have eh:v[0]?=some c:=by rw[hv];rfl
  simp only[e1,go_sem,eh,Option.map_some];refine call_pure c1330 ?_;simp only[go_sem];cases hd:isDig c
  case true=>
    simp only[go_sem];exact fin_eq rfl (by subst hv;simp[isName,hd])
  simp only[go_sem];refine call_pure c1013 ?_;simp only[go_sem];cases hk:isKw v
  case true=>
    simp only[go_sem];exact fin_eq rfl (by subst hv;simp[isName,hk])
  simp only[go_sem];have hn:isName v=v.all isWB:=by subst hv;simp only[isName,hd,hk,decide_eq_true h12,Bool.not_false,Bool.true_and]
  refine Sem.loop (fun i:Nat=>i≤v.length∧v.all isWB=(v.drop i).all isWB) (fun i=>(⟨[(0,.str v),(22,.int .i64 v.length),(23,.int .i64 (i:Nat))],[],[]⟩:VSt)) (fun i=>v.length-i) 0 (by kernel_rfl) ⟨Nat.zero_le _,by simp⟩ (Can.sub (by simp[go_sem]) (by simp[go_sem])) ?_;rintro i ⟨hi,hI⟩;simp only[go_sem];refine cnd_split ?_ ?_<;>intro hc<;>simp only[hc,go_sem]
  · have hlt:i<v.length:=by have:=of_decide_eq_true hc;omega
    have hq:v.drop i=v[i]::v.drop (i+1):=by simp
    simp only[List.getElem?_eq_getElem hlt,Option.map_some,go_sem];refine call_pure c1012 ?_;simp only[go_sem];cases hw:isWB v[i]
    · simp only[Bool.not_false];simp only[go_sem];refine fin_eq rfl ?_;rw[hn,hI,hq,List.all_cons,hw,Bool.false_and]
    · simp only[Bool.not_true];simp only[go_sem];simp only[wrap_succ (show i<4611686018427387904 by omega)];refine loopQ_nrm (i+1) ⟨by omega, ?_⟩ (by omega) (Can.sub (by simp[go_sem]) (by simp[go_sem]));rw[hI,hq,List.all_cons,hw,Bool.true_and]
  · obtain rfl:i=v.length:=by have:=of_decide_eq_false hc;omega
    refine fin_eq rfl ?_;rw[hn,hI];simp
theorem c717{v:Str}(hl:v.length≤4611686018427387904):Pure Gm 717 [.str v] (.bool (isUp v)):=by
  refine Pure.intro [] [] g717 (by kernel_rfl) rfl (by simp[AV.trees,AV.tree,go_sem]) rfl ?_;simp only[F717,vparams,go_sem];refine call_pure (c1099 hl) ?_;simp only[go_sem];cases hn:isName v
  · simp only[go_sem];exact fin_eq rfl (by simp[isUp,hn])
  · cases v with
    | nil=>cases hn
    | cons c r=>
    simp only[List.getElem?_cons_zero,Option.map_some,go_sem];refine call_pure c1100 ?_;simp only[go_sem];exact fin_eq rfl (by simp[isUp,hn])
theorem c889{v:Str}(hl:v.length≤4611686018427387904):Pure Gm 889 [.str v] (.bool (isLo v)):=by
  refine Pure.intro [] [] g889 (by kernel_rfl) rfl (by simp[AV.trees,AV.tree,go_sem]) rfl ?_;simp only[F889,vparams,go_sem];refine call_pure (c1099 hl) ?_;simp only[go_sem];cases hn:isName v
  · simp only[go_sem];exact fin_eq rfl (by simp[isLo,hn])
  · cases v with
    | nil=>cases hn
    | cons c r=>
    simp only[List.getElem?_cons_zero,Option.map_some,go_sem];refine call_pure c1206 ?_;simp only[go_sem];exact fin_eq rfl (by simp[isLo,hn])
end Go.Ab
namespace Go.Ab
open Go
structure GTok where
  Kind:Int
  Text:List UInt8
  At:Int
def GTok.enc(x:GTok):AV:=.agg [.int .i64 x.Kind,.str x.Text,.int .i64 x.At]
theorem GTok.isSh:Sh GTok.enc 3 (some 3):=⟨fun x=>by simp[GTok.enc,AV.tree,AV.trees],fun _=>rfl,fun _=>rfl,by decide,fun x=>by simp[GTok.enc]⟩
section
variable {x:GTok}
@[go_sem] theorem GTok.tr:x.enc.tree=true:=GTok.isSh.tree x
@[go_sem] theorem GTok.ln:x.enc.cells.length=3:=nr rfl
@[go_sem] theorem GTok.all:x.enc.part 0 (some 3)=some x.enc:=nr rfl
@[go_sem] theorem GTok.cs:x.enc.cells=[.int .i64 x.Kind,.str x.Text,.int .i64 x.At]:=nr rfl
@[go_sem] theorem GTok.p0:x.enc.part 0 none=some (.int .i64 x.Kind):=nr rfl
@[go_sem] theorem GTok.p1:x.enc.part 1 none=some (.str x.Text):=nr rfl
@[go_sem] theorem GTok.p2:x.enc.part 2 none=some (.int .i64 x.At):=nr rfl
end
def GTok.sz(x:GTok):Nat:=x.Text.length
def GTok.bd(x:GTok):Prop:=x.Text.length≤140737488355328
def pfx(p s:Str):Bool:=decide (p.length≤s.length)&&decide (s.take p.length=p)
def syms:Str:=[43,45,42,47,60,61,40,41,91,93,123,125,44,59,58,46,124,33,92]
def blanks:Str:=[32,10,9]
def max31:Str:=[50,49,52,55,52,56,51,54,52,56]
def readD(s:Str):Option Int:=match Lib.parseIntB 64 s with
  |.ok n=>if (-2147483648≤n∧n≤2147483647)∧Lib.itoa n=s then some n else none
  | _=>none
def plainN(s:Str):Bool:=match readD s with
  | some n=>decide (0≤n)
  | none=>false
def tokEnd(t:Str)(i:Nat):Int×Nat:=
  if 0<(wordAt t i).length then
    if isKw (wordAt t i)then(3,i+(wordAt t i).length)else if isLo (wordAt t i)then(1,i+(wordAt t i).length)else if isUp (wordAt t i)then(2,i+(wordAt t i).length)
    else if decide (wordAt t i=max31) || plainN (wordAt t i)then(4,i+(wordAt t i).length)else(0,i)
  else if pfx [45,62] (t.drop i)then(5,i+2)else if 0≤Lib.indexByte syms (t.getD i 0).toNat.toUInt8 then(5,i+1)else(0,i)
def toksF(t:Str):Nat→Nat→List GTok→Except Nat (List GTok)
  | 0,_,acc=>.ok acc
  | f+1,i,acc=>if i<t.length then
      if 0≤Lib.indexByte blanks (t.getD i 0).toNat.toUInt8 then toksF t f (i+1) acc
      else if (tokEnd t i).1=0 then .error i
      else toksF t f (tokEnd t i).2 (acc++[⟨(tokEnd t i).1,(t.drop i).take ((tokEnd t i).2-i),i⟩])
    else .ok acc
def toksOf(t:Str):Except Nat (List GTok):=toksF t t.length 0 []
theorem tw_step{p:UInt8→Bool}:∀{l:Str}{k:Nat},k≤(l.takeWhile p).length→((∃c,l[k]?=some c∧p c=true)↔k<(l.takeWhile p).length)
  |[],k,h=>by simp
  | x::l,k,h=>by
    by_cases hx:p x=true
    · rw[List.takeWhile_cons_of_pos hx]at h⊢;cases k with
      | zero=>simp[hx]
      | succ k=>
        simp only[List.length_cons,Nat.add_le_add_iff_right]at h;have:=tw_step (p:=p) h;simpa using this
    · rw[List.takeWhile_cons_of_neg hx]at h⊢;have:k=0:=by simpa using h
      subst this;simp[hx]
theorem tw_take{p:UInt8→Bool}:∀{l:Str},l.take (l.takeWhile p).length=l.takeWhile p
  |[]=>rfl
  | x::l=>by
    by_cases hx:p x=true
    · rw[List.takeWhile_cons_of_pos hx];simp[tw_take]
    · rw[List.takeWhile_cons_of_neg hx];rfl
theorem tw_le{p:UInt8→Bool}{l:Str}:(l.takeWhile p).length≤l.length:=by
  rw[←tw_take (p:=p) (l:=l),List.length_take];omega
theorem word_step{t:Str}{i k:Nat}(h:k≤(wordAt t i).length):(∃c,t[i+k]?=some c∧isWB c=true)↔k<(wordAt t i).length:=by
  have:=tw_step (p:=isWB) (l:=t.drop i) (k:=k) h;rw[List.getElem?_drop]at this;exact this
theorem word_take{t:Str}{i:Nat}:(t.drop i).take (wordAt t i).length=wordAt t i:=tw_take
theorem word_le{t:Str}{i:Nat}:i≤t.length→i+(wordAt t i).length≤t.length:=fun h=>by
  have:=tw_le (p:=isWB) (l:=t.drop i);rw[List.length_drop]at this;unfold wordAt;omega
theorem tokEnd_le{t:Str}{i:Nat}(h:i<t.length):i≤(tokEnd t i).2∧(tokEnd t i).2≤t.length∧((tokEnd t i).1≠0→i<(tokEnd t i).2):=by
  have hw:=word_le (t:=t) (i:=i) (by omega);have hp:pfx [45,62] (t.drop i)=true→i+2≤t.length:=fun q=>by
    simp only[pfx,Bool.and_eq_true,decide_eq_true_eq,List.length_drop,List.length_cons,List.length_nil]at q;omega
  unfold tokEnd
  repeat' split
  all_goals first
    | (rename_i q;have:=hp q;refine⟨?_, ?_,fun _=> ?_⟩<;>simp only<;>omega)
    | (refine⟨?_, ?_,fun q=> ?_⟩<;>simp only at* <;>first | omega | exact absurd rfl q)
end Go.Ab
namespace Go.Ab
open Go
set_option maxRecDepth 10000
set_option maxHeartbeats 2000000
theorem sslc_h{E:Ev}{s:LEnv}{a:Str}{x hi:Ao}{k1:IntKind}{n:Nat}{hh:AH}{mm:Env}(h1:ev (toE s) x=some (.str a))(h2:ev (toE s) hi=some (.int k1 (n:Int)))(hb:n≤a.length):
    val (.sslc x none (some hi)) (toE s) mm hh=some (.str (a.take n)):=by
  simp only[val,h1,bnd,h2];rw[if_pos ⟨by omega,by omega⟩];simp
theorem idx_told{s:Str}{c:UInt8}:Pure Gm 631 [.str s,.int .u8 (c.toNat:Nat)] (.int .i64 (Lib.indexByte s (c.toNat:Nat).toUInt8)):=
  Pure.told g631 rfl ⟨s,_,rfl,by simp⟩ rfl rfl
theorem fmt_told{n:Int}(h0: -9223372036854775808≤n)(h1:n≤9223372036854775807):Pure Gm 957 [.int .i64 n,.int .i64 10] (.str (Lib.itoa n)):=
  Pure.told g957 rfl ⟨n,rfl,h0,h1,rfl⟩ rfl rfl
theorem parse_told{s:Str}{h:List AObj}(hl:s.length≤140737488355328):SCallP Gm 1382 [.str s,.int .i64 10,.int .i64 64] h fun v=>v=parseV s:=
  SCallP.told g1382 rfl ⟨s,rfl,hl,rfl⟩ (fun ρ=>by unfold parseV;split<;>simp only[RelV,RelVs]<;>simp)
theorem c1331{p s:Str}(hl:p.length≤1000000):Pure Gm 1331 [.str s,.str p] (.bool (pfx p s)):=by
  refine Pure.intro [] [] g1331 (by kernel_rfl) rfl (by simp[AV.trees,AV.tree,go_sem]) rfl ?_;simp only[F1331,vparams,go_sem];by_cases hp:p.length≤s.length
  · have e:decide ((s.length:Int)≥p.length)=true:=decide_eq_true (by omega);simp only[ge_iff_le]at e;simp only[e,go_sem];refine put_v (sslc_h (E:=⟨Gm,0,[],[]⟩) rfl rfl hp) ?_;simp only[go_sem];exact fin_eq rfl (by simp[pfx,hp])
  · have e:decide ((s.length:Int)≥p.length)=false:=decide_eq_false (by omega);simp only[ge_iff_le]at e;simp only[e,go_sem];exact fin_eq rfl (by simp[pfx,hp])
theorem c1015{p s:Str}(hl:p.length≤1000000):Pure Gm 1015 [.str s,.str p] (.bool (pfx p s)):=by
  refine Pure.intro [] [] g1015 (by kernel_rfl) rfl (by simp[AV.trees,AV.tree,go_sem]) rfl ?_;simp only[F1015,vparams,go_sem]
  repeat' (first | (refine lbox_ok rfl ?_;simp only[go_sem]) | (first | (refine grd_split ?_ ?_<;>intro hc<;>simp only[hc,go_sem]) | (refine cnd_split ?_ ?_<;>intro hc<;>simp only[hc,go_sem])) | (refine call_pure (c1331 hl) ?_;simp only[go_sem]) | refine fin_eq rfl ?_ | refine fin_eqs (by rfl) ?_)
  all_goals (simp_all<;>omega)
theorem c1051{n:Int}:Pure Gm 1051 [.int .i64 n] (.bool (decide (-2147483648≤n)&&decide (n≤2147483647))):=by
  refine Pure.intro [] [] g1051 (by kernel_rfl) rfl (by simp[AV.trees,AV.tree,go_sem]) rfl ?_;simp only[F1051,vparams,go_sem]
  first | (refine grd_split ?_ ?_<;>intro hc<;>simp only[hc,go_sem]) | (refine cnd_split ?_ ?_<;>intro hc<;>simp only[hc,go_sem])
  · exact fin_eq rfl (by have hq:=of_decide_eq_true hc;simp<;>omega)
  · exact fin_eq rfl (by have hq:=of_decide_eq_false hc;simp<;>omega)
theorem c577{n:Int}(h0: -9223372036854775808≤n)(h1:n≤9223372036854775807):Pure Gm 577 [.int .i64 n] (.str (Lib.itoa n)):=by
  refine Pure.intro [] [] g577 (by kernel_rfl) rfl (by simp[AV.trees,AV.tree,go_sem]) rfl ?_;simp only[F577,vparams,go_sem]
  repeat' (first | (refine lbox_ok rfl ?_;simp only[go_sem]) | (first | (refine grd_split ?_ ?_<;>intro hc<;>simp only[hc,go_sem]) | (refine cnd_split ?_ ?_<;>intro hc<;>simp only[hc,go_sem])) | (refine call_pure (fmt_told h0 h1) ?_;simp only[go_sem]) | refine fin_eq rfl ?_ | refine fin_eqs (by rfl) ?_)
  all_goals (simp_all<;>omega)
theorem c1091{s:Str}(hl:s.length≤140737488355328):Pure Gm 1091 [.str s] (.tup [.int .i64 ((readD s).getD 0),.bool (readD s).isSome]):=by
  refine Pure.intro [] [] g1091 (by kernel_rfl) rfl (by simp[AV.trees,AV.tree,go_sem]) rfl ?_;simp only[F1091,vparams,go_sem];refine call_look (parse_told hl) ?_;unfold parseV;cases hp:Lib.parseIntB 64 s with
  | range=>
    simp only[go_sem];exact fin_eqs rfl (by simp[readD,hp])
  | ok n=>
    simp only[go_sem];refine call_pure c1051 ?_;simp only[go_sem];cases hb:(decide (-2147483648≤n)&&decide (n≤2147483647))
    · simp only[Bool.not_false,Bool.not_true];simp only[go_sem];have hn:¬(-2147483648≤n∧n≤2147483647):=by intro q;rw[decide_eq_true q.1,decide_eq_true q.2]at hb;cases hb
      exact fin_eqs rfl (by simp[readD,hp,hn])
    · simp only[Bool.not_false,Bool.not_true];simp only[go_sem];simp only[Bool.and_eq_true,decide_eq_true_eq]at hb;refine call_pure (c577 (by omega) (by omega)) ?_;simp only[go_sem];by_cases he:Lib.itoa n=s
      · simp only[he,decide_true,Bool.not_true];simp only[go_sem];exact fin_eqs rfl (by simp[readD,hp,hb,he])
      · simp only[he,decide_false,Bool.not_false];simp only[go_sem];exact fin_eqs rfl (by simp[readD,hp,he])
  | _=>
    simp only[go_sem];exact fin_eqs rfl (by simp[readD,hp])
theorem c1014{s:Str}(hl:s.length≤140737488355328):Pure Gm 1014 [.str s] (.bool (plainN s)):=by
  refine Pure.intro [] [] g1014 (by kernel_rfl) rfl (by simp[AV.trees,AV.tree,go_sem]) rfl ?_;simp only[F1014,vparams,go_sem];refine call_pure (c1091 hl) ?_;simp only[go_sem];cases hr:readD s with
  | none=>
    simp only[Option.isSome_none];simp only[go_sem];exact fin_eq rfl (by simp[plainN,hr])
  | some n=>
    simp only[Option.isSome_some,Option.getD_some];simp only[go_sem];exact fin_eq rfl (by simp[plainN,hr])
end Go.Ab
namespace Go.Ab
open Go
set_option maxRecDepth 10000
set_option maxHeartbeats 2000000
theorem c632{t:Str}{i:Nat}(hi:i<t.length)(hl:t.length≤20000):Pure Gm 632 [.str t,.int .i64 (i:Nat)] (.tup [.int .i64 (tokEnd t i).1,.int .i64 ((tokEnd t i).2:Nat)]):=by
  refine Pure.intro [] [] g632 (by kernel_rfl) rfl (by simp[AV.trees,AV.tree,go_sem]) rfl ?_;simp only[F632,vparams,go_sem];refine Sem.loop (fun k:Nat=>k≤(wordAt t i).length) (fun k=>(⟨[(0,.str t),(1,.int .i64 (i:Nat)),(6,.int .i64 ((i+k:Nat):Int))],[],[]⟩:VSt)) (fun k=>(wordAt t i).length-k) 0 (by kernel_rfl) (Nat.zero_le _) (Can.sub (by simp[go_sem]) (by simp[go_sem])) ?_;intro k hk;have ws:=word_step hk;have wl:=word_le (t:=t) (i:=i) (by omega);simp only[go_sem];have hcase:(k<(wordAt t i).length∧∃h:i+k<t.length,isWB t[i+k]=true)∨(k=(wordAt t i).length∧(¬i+k<t.length∨∃h:i+k<t.length,isWB t[i+k]=false)):=by
    by_cases h1:i+k<t.length
    · rcases hb:isWB t[i+k]with _ | _
      · have h2:=hb;right;refine⟨?_,.inr ⟨h1,h2⟩⟩;have:¬k<(wordAt t i).length:=fun q=>by
          obtain⟨c,e1,e2⟩:=ws.2 q;rw[List.getElem?_eq_getElem h1]at e1;cases e1;rw[h2]at e2;cases e2
        omega
      · exact .inl ⟨ws.1 ⟨_,List.getElem?_eq_getElem h1,hb⟩,h1,hb⟩
    · right;exact⟨by omega,.inl h1⟩
  rcases hcase with⟨h1,hlt,hw⟩ | ⟨rfl,hx⟩
  · have e:decide (((i+k:Nat):Int)<t.length)=true:=decide_eq_true (by omega);simp only[e,List.getElem?_eq_getElem hlt,Option.map_some,go_sem];refine call_pure c1012 ?_;simp only[go_sem];simp only[hw];simp only[go_sem];simp only[wrap_succ (show i+k<4611686018427387904 by omega)];exact loopQ_nrm (k+1) h1 (by omega) (Can.sub (by simp[go_sem,Nat.add_assoc]) (by simp[go_sem]))
  rcases hx with hx | ⟨hlt,hw⟩
  case' inl=>
    have e:decide (((i+(wordAt t i).length:Nat):Int)<t.length)=false:=decide_eq_false (by omega);simp only[e,go_sem]
  case' inr=>
    have e:decide (((i+(wordAt t i).length:Nat):Int)<t.length)=true:=decide_eq_true (by omega);simp only[e,List.getElem?_eq_getElem hlt,Option.map_some,go_sem];refine call_pure c1012 ?_;simp only[go_sem];simp only[hw];simp only[go_sem]
  all_goals
    by_cases hp:0<(wordAt t i).length
    · have e:decide ((i:Int)<((i+(wordAt t i).length:Nat):Int))=true:=decide_eq_true (by omega);simp only[e,go_sem];refine put_v (sslc_lh rfl rfl rfl (by omega) (by omega)) ?_;rw[Nat.add_sub_cancel_left,word_take];have hwl:(wordAt t i).length≤20000:=by omega
      generalize hW:wordAt t i=W at*;have r1:tokEnd t i=if isKw W then(3,i+W.length)else if isLo W then(1,i+W.length)else if isUp W then(2,i+W.length)else if decide (W=max31) || plainN W then(4,i+W.length)else(0,i):=by
        unfold tokEnd;rw[hW,if_pos hp]
      simp only[go_sem];refine call_pure c1013 ?_;simp only[go_sem];cases k1:isKw W
      case true=>simp only[go_sem];exact fin_eqs rfl (by simp[r1,k1])
      simp only[go_sem];refine call_pure (c889 (by omega)) ?_;simp only[go_sem];cases k2:isLo W
      case true=>simp only[go_sem];exact fin_eqs rfl (by simp[r1,k1,k2])
      simp only[go_sem];refine call_pure (c717 (by omega)) ?_;simp only[go_sem];cases k3:isUp W
      case true=>simp only[go_sem];exact fin_eqs rfl (by simp[r1,k1,k2,k3])
      simp only[go_sem];by_cases k4:W=max31
      · have e4:decide (W=[50,49,52,55,52,56,51,54,52,56])=true:=decide_eq_true k4;simp only[e4,go_sem];exact fin_eqs rfl (by rw[r1];simp only[k1,k2,k3,decide_eq_true k4,Bool.true_or,Bool.false_eq_true,if_false,if_true])
      · have e4:decide (W=[50,49,52,55,52,56,51,54,52,56])=false:=decide_eq_false k4;simp only[e4,go_sem];refine call_pure (c1014 (by omega)) ?_;simp only[go_sem];cases k5:plainN W
        · simp only[go_sem];exact fin_eqs rfl (by simp[r1,k1,k2,k3,k4,k5])
        · simp only[go_sem];exact fin_eqs rfl (by simp[r1,k1,k2,k3,k4,k5])
    · have e:decide ((i:Int)<((i+(wordAt t i).length:Nat):Int))=false:=decide_eq_false (by omega);have r1:tokEnd t i=if pfx [45,62] (t.drop i)then(5,i+2)else if 0≤Lib.indexByte syms (t.getD i 0).toNat.toUInt8 then(5,i+1)else(0,i):=by
        unfold tokEnd;rw[if_neg hp]
      simp only[e,go_sem];refine put_v (sslc_l rfl rfl (by omega)) ?_;simp only[go_sem];refine call_pure (c1015 (by simp)) ?_;simp only[go_sem];cases k1:pfx [45,62] (t.drop i)
      case true=>
        simp only[go_sem];simp only[wrap_small (n:=(i:Int)+2) (by omega) (by omega)];exact fin_eqs rfl (by simp[r1,k1])
      simp only[List.getElem?_eq_getElem hi,Option.map_some,go_sem];refine call_pure idx_told ?_;simp only[go_sem];have eg:t.getD i 0=t[i]:=by simp[List.getD,List.getElem?_eq_getElem hi]
      by_cases k2:0≤Lib.indexByte syms t[i].toNat.toUInt8
      · have e2:decide (0≤Lib.indexByte [43,45,42,47,60,61,40,41,91,93,123,125,44,59,58,46,124,33,92] t[i].toNat.toUInt8)=true:=decide_eq_true k2;simp only[e2,go_sem];simp only[wrap_small (n:=(i:Int)+1) (by omega) (by omega)];exact fin_eqs rfl (by simp only[r1,k1,eg,if_pos k2];simp)
      · have e2:decide (0≤Lib.indexByte [43,45,42,47,60,61,40,41,91,93,123,125,44,59,58,46,124,33,92] t[i].toNat.toUInt8)=false:=decide_eq_false k2;simp only[e2,go_sem];exact fin_eqs rfl (by simp only[r1,k1,eg,if_neg k2];simp)
end Go.Ab
namespace Go.Ab
open Go
set_option maxRecDepth 10000
set_option maxHeartbeats 2000000
theorem bsl_one{E:Ev}{d:Option Nat}{w:Nat}{z v:AV}{x:Ao}{l:List AOper}{ks:List Fr1}{s m:LEnv}{h:List AObj}{Q:AExit→VSt→Prop}(hx:ev (toE s) x=some v)(hl:v.cells.length=w)
    (hr:New1 E d (.row w [v] true) (.slice w h.length 0 1 false) l ks ⟨s,m,h⟩ Q):Bsl E d w 1 (fillAV (toE s) w (List.replicate 1 z) [(0,x)]) l ks ⟨s,m,h⟩ Q:=by
  have e:fillAV (toE s) w (List.replicate 1 z) [(0,x)]=some [v]:=by simp[fillAV,hx,hl,List.replicate]
  rw[e,bsl_s];exact hr
theorem fin_tup{h:List AObj}{a b v:AV}{vs:List AV}(hc:Cv h (.tup (a::b::vs)) v):Fin (some (a::b::vs)) h v:=by unfold Fin;exact hc
theorem Cvs.tup{h:List AObj}{as bs:List AV}(x:Cvs h as bs):Cv h (.tup as) (.tup bs):=.tup x.1 x.2
def tokAt(t:Str)(i:Nat):GTok:=⟨(tokEnd t i).1,(t.drop i).take ((tokEnd t i).2-i),i⟩
theorem toksF_fuel{t:Str}:∀(f:Nat){i:Nat}{acc:List GTok},t.length-i≤f→toksF t f i acc=toksF t (t.length-i) i acc:=by
  intro f
  induction f using Nat.strongRecOn with
  | _ f ih=>
  intro i acc hf;cases f with
  | zero=>rw[show t.length-i=0 by omega]
  | succ f=>
    by_cases hi:i<t.length
    · obtain⟨g,hg⟩:∃g,t.length-i=g+1:=⟨t.length-i-1,by omega⟩;rw[hg];obtain⟨h1,h2,h3⟩:=tokEnd_le hi;simp only[toksF,if_pos hi];split
      · rw[ih f (by omega) (by omega),ih g (by omega) (by omega)]
      · split
        · rfl
        · rename_i hk;have:=h3 hk;rw[ih f (by omega) (by omega),ih g (by omega) (by omega)]
    · rw[show t.length-i=0 by omega];simp only[toksF,if_neg hi]
def toksG(t:Str)(i:Nat)(acc:List GTok):Except Nat (List GTok):=toksF t (t.length-i) i acc
theorem toksG_end{t:Str}{i:Nat}{acc:List GTok}(hi:¬i<t.length):toksG t i acc=.ok acc:=by
  unfold toksG;rw[show t.length-i=0 by omega];rfl
theorem toksG_step{t:Str}{i:Nat}{acc:List GTok}(hi:i<t.length):toksG t i acc=if 0≤Lib.indexByte blanks (t.getD i 0).toNat.toUInt8 then toksG t (i+1) acc else if (tokEnd t i).1=0 then .error i else toksG t (tokEnd t i).2 (acc++[tokAt t i]):=by
  obtain⟨g,hg⟩:∃g,t.length-i=g+1:=⟨t.length-i-1,by omega⟩;obtain⟨h1,h2,h3⟩:=tokEnd_le hi;unfold toksG;rw[hg];simp only[toksF,if_pos hi];split
  · rw[toksF_fuel g (by omega)]
  · split
    · rfl
    · rename_i hk;have:=h3 hk;rw[toksF_fuel g (by omega)];rfl
def tokR(t:Str):List GTok×Int×Int:=if 20000<t.length then([],0,2)else match toksOf t with
  |.error i=>([],i,6)
  |.ok l=>(l,0,0)
theorem c266{t:Str}:Pure Gm 266 [.str t] (.tup [.lst 3 ((tokR t).1.map GTok.enc) false,.int .i64 (tokR t).2.1,.int .i64 (tokR t).2.2]):=by
  refine Pure.intro [] [] g266 (by kernel_rfl) rfl (by simp[AV.trees,AV.tree,go_sem]) (by simp[AV.tree,AV.trees,trees_map GTok.isSh.tree]) ?_;simp only[F266,vparams,go_sem];by_cases hl:20000<t.length
  · have e:decide ((20000:Int)<t.length)=true:=decide_eq_true (by omega);simp only[e,go_sem];have er:tokR t=([],0,2):=by rw[tokR,if_pos hl]
    rw[er];refine fin_tup (Cvs.tup (Cvs.cons .nils (Cvs.cons (.refl rfl) (Cvs.cons (.refl rfl) Cvs.nil))))
  have e:decide ((20000:Int)<t.length)=false:=decide_eq_false (by omega);simp only[e,go_sem];have er:tokR t=match toksOf t with
    |.error i=>([],i,6)
    |.ok l=>(l,0,0):=by rw[tokR,if_neg hl]
  refine Sem.loop (fun a:Nat×List GTok=>a.1≤t.length∧a.2.length≤a.1∧toksOf t=toksG t a.1 a.2) (fun a=>(⟨[(0,.str t),(5,.slice 3 0 0 a.2.length false),(6,.int .i64 (a.1:Nat))],[],[.row 3 (a.2.map GTok.enc) true]⟩:VSt)) (fun a=>t.length-a.1) (0,[]) (by kernel_rfl) ⟨Nat.zero_le _,Nat.zero_le _,rfl⟩ (Can.renum [none] rfl ⟨.ph,trivial⟩ ⟨⟨_,rfl,.tree rfl⟩,⟨_,rfl,.ph rfl⟩,⟨_,rfl,.tree rfl⟩,trivial⟩ trivial) ?_;rintro⟨i,acc⟩ ⟨hi,ha,hI⟩;simp only at hi ha hI;simp only[go_sem];by_cases hlt:i<t.length
  case neg=>
    have e:decide ((i:Int)<t.length)=false:=decide_eq_false (by omega);simp only[e,go_sem];rw[hI,toksG_end hlt]at er;rw[er];refine fin_tup (Cvs.tup (Cvs.cons (Cv.row rfl (by simp) (trees_map GTok.isSh.tree _) (by decide)) (Cvs.cons (.refl rfl) (Cvs.cons (.refl rfl) Cvs.nil))))
  have e:decide ((i:Int)<t.length)=true:=decide_eq_true (by omega);simp only[e,List.getElem?_eq_getElem hlt,Option.map_some,go_sem];refine call_pure idx_told ?_;simp only[go_sem];rw[toksG_step hlt]at hI;have eg:t.getD i 0=t[i]:=by simp[List.getD,List.getElem?_eq_getElem hlt]
  rw[eg]at hI;by_cases hb:0≤Lib.indexByte blanks t[i].toNat.toUInt8
  · have e:decide (0≤Lib.indexByte [32,10,9] t[i].toNat.toUInt8)=true:=decide_eq_true hb;simp only[e,go_sem];simp only[wrap_succ (show i<4611686018427387904 by omega)];rw[if_pos hb]at hI;exact loopQ_nrm (i+1,acc) ⟨by simp only;omega,by simp only;omega,hI⟩ (by simp only;omega) (Can.sub (by simp[go_sem]) (by simp[go_sem]))
  have e:decide (0≤Lib.indexByte [32,10,9] t[i].toNat.toUInt8)=false:=decide_eq_false hb;simp only[e,go_sem];rw[if_neg hb]at hI;refine call_pure (c632 hlt (by omega)) ?_;simp only[go_sem];obtain⟨t1,t2,t3⟩:=tokEnd_le hlt;by_cases hk:(tokEnd t i).1=0
  · simp only[hk,decide_true,go_sem];rw[if_pos hk]at hI;rw[hI]at er;rw[er];refine fin_tup (Cvs.tup (Cvs.cons .nils (Cvs.cons (.refl rfl) (Cvs.cons (.refl rfl) Cvs.nil))))
  have t4:=t3 hk;rw[if_neg hk]at hI;simp only[decide_eq_false hk,go_sem];refine put_v (sslc_lh rfl rfl rfl (by omega) (by omega)) ?_;simp only[go_sem];refine bsl_one (v:=(tokAt t i).enc) rfl rfl ?_;simp only[go_sem];refine app_one (el:=acc.map GTok.enc) rfl rfl (by simp) (by omega) ?_;simp only[go_sem];refine loopQ_nrm ((tokEnd t i).2,acc++[tokAt t i]) ⟨by simp only;omega,by simp only[List.length_append,List.length_cons,List.length_nil];omega,hI⟩ (by simp only;omega) ?_;simp only[List.length_append,List.length_cons,List.length_nil,Nat.zero_add];refine Can.renum [some 2] rfl ⟨.row rfl ?_,trivial⟩ ⟨⟨_,rfl,.tree rfl⟩,⟨_,rfl,.slice rfl⟩,⟨_,rfl,.tree rfl⟩,trivial⟩ trivial;rw[List.map_append];have tt:=trees_map GTok.isSh.tree (acc++[tokAt t i]);rw[List.map_append]at tt;exact VR2s.trees tt
end Go.Ab
namespace Go.Ab
open Go
set_option maxRecDepth 10000
set_option maxHeartbeats 2000000
section
variable {E:Ev} {l:List AOper} {ks:List Fr1} {s m:LEnv} {h h0:List AObj} {Q:AExit→VSt→Prop} {k e:Nat} {vs:List AV} {v0:AV}
theorem call_hereE{ck:List AOper}(hck:ck=[])(hp:SCall E.Γ k vs h fun v h'=>v=v0∧h'=h0)(hr:R E (.ops l::ks) ⟨(e,v0)::s,m,h0⟩ Q):Call1 E (some (k,vs)) ck (some e) l ks ⟨s,m,h⟩ Q:=by
  subst hck;exact call_here (hp.mono fun v h' ⟨h1,h2⟩=>by subst h1;subst h2;exact hr)
end
@[go_sem] theorem fld1_tok{off:Nat}{sh:Option Nat}{x:GTok}:fld1 off sh (some x.enc)=x.enc.part off sh:=rfl
def prI(toks:List GTok)(a:Nat)(e:Int):AObj:=.row 3 [.agg [.lst 3 (toks.map GTok.enc) false,.int .i64 (a:Nat),.int .i64 e]] true
def nxt(toks:List GTok)(a:Nat)(e:Int):GTok:=(toks[a]?).getD ⟨0,[],e⟩
def isI(toks:List GTok)(a:Nat)(e:Int)(s:Str):Bool:=decide ((nxt toks a e).Text=s)&&(decide ((nxt toks a e).Kind=5) || decide ((nxt toks a e).Kind=3))
def synE(i:Int):AV:=.iface 751 (.agg [.int .i64 i])
section
variable {h:List AObj} {id a:Nat} {toks:List GTok} {e:Int}
theorem n1101(ho:h[id]?=some (prI toks a e)):SCall Gm 1101 [.ptr id 0 0] h fun v h'=>v=(nxt toks a e).enc∧h'=h:=by
  refine SCall.run [] [] g1101 (by kernel_rfl) rfl ?_;unfold prI at ho;simp only[F1101,vparams,go_sem,ho,Option.map_some,List.length_map];by_cases hlt:a<toks.length
  · have e1:decide ((a:Int)<toks.length)=true:=decide_eq_true (by omega);simp only[e1,go_sem,ho,List.getElem?_map,List.getElem?_eq_getElem hlt,Option.map_some];refine lst_all rfl rfl ⟨_,rfl⟩ (by decide) ?_;simp only[go_sem];exact⟨by simp[nxt,List.getElem?_eq_getElem hlt],trivial⟩
  · have e1:decide ((a:Int)<toks.length)=false:=decide_eq_false (by omega);simp only[e1,go_sem,ho];refine lst_all rfl rfl ⟨_,rfl⟩ (by decide) ?_;simp only[go_sem];exact⟨by simp[nxt,List.getElem?_eq_none (show toks.length≤a by omega),GTok.enc],trivial⟩
theorem n719(ho:h[id]?=some (prI toks a e)):SCallX Gm 719 [.ptr id 0 0] h (fun _ _=>False) fun v h'=>v=synE (nxt toks a e).At∧h'=h:=by
  refine SCallX.run [] [] g719 (by kernel_rfl) rfl ?_;simp only[F719,vparams,go_sem];refine call_hereE rfl (n1101 ho) ?_;simp only[go_sem];exact⟨rfl,rfl,rfl,trivial⟩
theorem n1103{s:Str}(ho:h[id]?=some (prI toks a e)):SCall Gm 1103 [.ptr id 0 0,.str s] h fun v h'=>v=.bool (isI toks a e s)∧h'=h:=by
  refine SCall.run [] [] g1103 (by kernel_rfl) rfl ?_;simp only[F1103,vparams,go_sem];refine call_hereE rfl (n1101 ho) ?_;simp only[go_sem];refine lst_all rfl rfl ⟨_,rfl⟩ (by decide) ?_;simp only[go_sem];by_cases h1:(nxt toks a e).Text=s
  case neg=>
    simp only[decide_eq_false h1,go_sem];exact⟨by simp[isI,h1],trivial⟩
  simp only[decide_eq_true h1,go_sem];by_cases h2:(nxt toks a e).Kind=5
  · simp only[decide_eq_true h2,go_sem];exact⟨by simp[isI,h1,h2],trivial⟩
  · simp only[decide_eq_false h2,go_sem];exact⟨by simp[isI,h1,h2],trivial⟩
theorem isI_lt{s:Str}(hs:s≠[])(q:isI toks a e s=true):a<toks.length:=by
  rcases Nat.lt_or_ge a toks.length with h1 | h1
  · exact h1
  · exfalso;simp only[isI,nxt,List.getElem?_eq_none h1,Option.getD_none,Bool.and_eq_true,decide_eq_true_eq]at q;exact hs q.1.symm
theorem nxtK_lt{k:Int}(hk:k≠0)(q:(nxt toks a e).Kind=k):a<toks.length:=by
  rcases Nat.lt_or_ge a toks.length with h1 | h1
  · exact h1
  · exfalso;simp only[nxt,List.getElem?_eq_none h1,Option.getD_none]at q;exact hk q.symm
theorem n721{s:Str}(ho:h[id]?=some (prI toks a e))(hl:toks.length≤1048576)(hs:s≠[]):SCall Gm 721 [.ptr id 0 0,.str s] h fun v h'=>v=.bool (isI toks a e s)∧h'=if isI toks a e s then h.set id (prI toks (a+1) e)else h:=by
  refine SCall.run [] [] g721 (by kernel_rfl) rfl ?_;simp only[F721,vparams,go_sem];refine call_hereE rfl (n1103 ho) ?_;simp only[go_sem];cases hi:isI toks a e s
  · simp only[Bool.not_false,go_sem];exact⟨trivial,by simp⟩
  · have hlt:=isI_lt hs hi;have ho':=ho;unfold prI at ho';simp only[Bool.not_true,go_sem,ho',Option.map_some];simp only[wrap_succ (show a<4611686018427387904 by omega)];refine sto_ok rfl ho' rfl rfl ?_;simp only[go_sem];exact⟨trivial,rfl⟩
theorem n876{s:Str}(ho:h[id]?=some (prI toks a e))(hl:toks.length≤1048576)(hs:s≠[]):SCallX Gm 876 [.ptr id 0 0,.str s] h (fun _ h'=>isI toks a e s=true∧h'=h.set id (prI toks (a+1) e)) fun v h'=>isI toks a e s=false∧v=synE (nxt toks a e).At∧h'=h:=by
  refine SCallX.run [] [] g876 (by kernel_rfl) rfl ?_;simp only[F876,vparams,go_sem];refine call_hereE rfl (n721 ho hl hs) ?_;simp only[go_sem];cases hi:isI toks a e s
  · simp only[Bool.not_false,Bool.false_eq_true,if_false,go_sem];refine call_hereX ((n719 ho).mono (fun _ _ q=>q.elim) ?_);rintro v h' ⟨rfl,rfl⟩;exact⟨rfl,trivial,rfl,rfl⟩
  · simp only[Bool.not_true,if_true,go_sem];exact⟨trivial,trivial⟩
theorem n875{k:Int}(ho:h[id]?=some (prI toks a e))(hl:toks.length≤1048576)(hk:k≠0):SCallX Gm 875 [.ptr id 0 0,.int .i64 k] h (fun v h'=>(nxt toks a e).Kind=k∧v=.str (nxt toks a e).Text∧h'=h.set id (prI toks (a+1) e)) fun v h'=>(nxt toks a e).Kind≠k∧v=synE (nxt toks a e).At∧h'=h:=by
  refine SCallX.run [] [] g875 (by kernel_rfl) rfl ?_;simp only[F875,vparams,go_sem];refine call_hereE rfl (n1101 ho) ?_;simp only[go_sem];refine lst_all rfl rfl ⟨_,rfl⟩ (by decide) ?_;simp only[go_sem];by_cases hi:(nxt toks a e).Kind=k
  · have hlt:=nxtK_lt hk hi;have ho':=ho;unfold prI at ho';simp only[hi,decide_true,Bool.not_true,go_sem,ho',Option.map_some];simp only[wrap_succ (show a<4611686018427387904 by omega)];refine sto_ok rfl ho' rfl rfl ?_;simp only[go_sem];exact⟨trivial,trivial,rfl⟩
  · simp only[decide_eq_false hi,Bool.not_false,go_sem];refine call_hereX ((n719 ho).mono (fun _ _ q=>q.elim) ?_);rintro v h' ⟨rfl,rfl⟩;exact⟨rfl,hi,rfl,rfl⟩
end
end Go.Ab
namespace Go.Ab
open Go
set_option maxRecDepth 10000
set_option maxHeartbeats 2000000
structure PS(h:List AObj)(id:Nat)(o:AObj)(h':List AObj):Prop where
  at':h'[id]?=some o
  len:h.length≤h'.length
  old:∀j,j≠id→j<h.length→h'[j]?=h[j]?
theorem PS.set{h:List AObj}{id:Nat}{o0 o:AObj}(ho:h[id]?=some o0):PS h id o (h.set id o) where
  at':=by rw[List.getElem?_set_self (List.getElem?_eq_some_iff.1 ho).1]
  len:=by simp
  old:=fun j hj _=>List.getElem?_set_ne (Ne.symm hj)
theorem PS.refl{h:List AObj}{id:Nat}{o:AObj}(ho:h[id]?=some o):PS h id o h:=⟨ho,Nat.le_refl _,fun _ _ _=>rfl⟩
theorem PS.trans{h h1 h2:List AObj}{id:Nat}{o1 o2:AObj}(a:PS h id o1 h1)(b:PS h1 id o2 h2):PS h id o2 h2:=
  ⟨b.at',Nat.le_trans a.len b.len,fun j hj hl=>(b.old j hj (Nat.lt_of_lt_of_le hl a.len)).trans (a.old j hj hl)⟩
theorem PS.push{h h1:List AObj}{id:Nat}{o x:AObj}(a:PS h id o h1):PS h id o (h1++[x]):=
  ⟨by rw[List.getElem?_append_left (List.getElem?_eq_some_iff.1 a.at').1];exact a.at',by have:=a.len;simp;omega,fun j hj hl=>by rw[List.getElem?_append_left (Nat.lt_of_lt_of_le hl a.len)];exact a.old j hj hl⟩
def Bh(b:Nat)(S:List (Option Nat))(h:List AObj):Prop:=∀j,some j∈S→b≤j∧j<h.length
theorem OwnT.ps{S:List (Option Nat)}{h1 h2:List AObj}{id b:Nat}{o:AObj}{v t:AV}(x:OwnT S h1 v t)(hb:Bh b S h1)(hid:id<b)(a:PS h1 id o h2):OwnT S h2 v t∧Bh b S h2:=
  ⟨x.heap fun j hj=>a.old j (by have:=(hb j hj).1;omega) (hb j hj).2,fun j hj=>⟨(hb j hj).1,Nat.lt_of_lt_of_le (hb j hj).2 a.len⟩⟩
theorem OwnT.push{S:List (Option Nat)}{h1:List AObj}{b:Nat}{v t:AV}{y:AObj}(x:OwnT S h1 v t)(hb:Bh b S h1):OwnT S (h1++[y]) v t∧Bh b S (h1++[y]):=
  ⟨x.heap fun j hj=>List.getElem?_append_left (hb j hj).2,fun j hj=>⟨(hb j hj).1,by have:=(hb j hj).2;simp;omega⟩⟩
theorem own_ty{S:List (Option Nat)}{h:List AObj}{k:Int}{n:Str}{v2:AV}{ks:List GType}(x:OwnT S h v2 (.lst 3 (ks.map GType.enc) false)):OwnT S h (.agg [.int .i64 k,.str n,v2]) (GType.mk k n ks).enc:=by
  have h1:=(OwnTs.nil (h:=h)).scal (a:=.int .i64 k) (fun _=>rfl) rfl rfl;have h2:=h1.scal (a:=.str n) (fun _=>rfl) rfl rfl;have h3:=(h2.snoc x (fun j hj=>by cases hj)).agg;rw[GType.enc_eq];exact h3
theorem own_ty0{h:List AObj}{k:Int}{n:Str}:OwnT [none] h (.agg [.int .i64 k,.str n,.nils]) (GType.mk k n []).enc:=own_ty (ks:=[]) (OwnT.nils (c:=false))
theorem own_agg{S:List (Option Nat)}{h:List AObj}{v:AV}{t:GType}(x:OwnT S h v t.enc):∃a b c,v=.agg [a,b,c]:=by
  rw[GType.enc_eq]at x;obtain⟨vs,rfl,y⟩:=x.aggs;have:=y.cnt
  match vs,this with
  |[a,b,c],_=>exact⟨a,b,c,rfl⟩
theorem own_row1{S:List (Option Nat)}{h:List AObj}{b:Nat}{v:AV}{t:GType}(x:OwnT S h v t.enc)(hb:Bh b S h)(hl:b≤h.length):
    OwnT (some h.length::S) (h++[.row 3 [v] true]) (.slice 3 h.length 0 1 false) (.lst 3 ([t].map GType.enc) false)∧Bh b (some h.length::S) (h++[.row 3 [v] true]):=by
  obtain⟨x1,b1⟩:=x.push (y:=.row 3 [v] true) hb;refine⟨x1.one.row (by simp) (fun hj=>by have:=(hb _ hj).2;omega),fun j hj=> ?_⟩;rcases List.mem_cons.1 hj with e | hj
  · cases e;exact⟨hl,by simp⟩
  · exact b1 j hj
theorem own_row2{S S':List (Option Nat)}{h:List AObj}{b c:Nat}{v u:AV}{t r:GType}(x:OwnT S h v t.enc)(y:OwnT S' h u r.enc)(hb:Bh b S h)(hc:Bh c S' h)(hl:b≤h.length)(hl':b≤c)(hbc:∀j,some j∈S→j<c):
    OwnT (some h.length::(S++S')) (h++[.row 3 [v,u] true]) (.slice 3 h.length 0 2 false) (.lst 3 ([t,r].map GType.enc) false)∧Bh b (some h.length::(S++S')) (h++[.row 3 [v,u] true]):=by
  obtain⟨x1,b1⟩:=x.push (y:=.row 3 [v,u] true) hb;obtain⟨y1,c1⟩:=y.push (y:=.row 3 [v,u] true) hc;have z:=x1.one.app y1.one (fun j hj hk=>by have:=hbc j hj;have:=(hc j hk).1;omega);refine⟨z.row (by simp) (fun hj=> ?_),fun j hj=> ?_⟩
  · rcases List.mem_append.1 hj with hj | hj
    · have:=(hb _ hj).2;omega
    · have:=(hc _ hj).2;omega
  · rcases List.mem_cons.1 hj with e | hj
    · cases e;exact⟨hl,by simp⟩
    · rcases List.mem_append.1 hj with hj | hj
      · exact b1 j hj
      · have:=c1 j hj;exact⟨by omega,this.2⟩
def intT:GType:=.mk 1 [] []
def dataT(s:Str):GType:=.mk 2 s []
def funT(a b:GType):GType:=.mk 3 [] [a,b]
def bangT(a:GType):GType:=.mk 4 [] [a]
section
variable {h:List AObj} {a0 a1 a2 b0 b1 b2:AV} {s:Str}
theorem n908:SCall Gm 908 [] h fun v h'=>v=.agg [.int .i64 1,.str [],.nils]∧h'=h:=by
  refine SCall.run [] [] g908 (by kernel_rfl) rfl ?_;simp only[F908,vparams,go_sem];refine lst_all rfl rfl ⟨_,rfl⟩ (by decide) ?_;simp only[go_sem];exact⟨trivial,trivial⟩
theorem n1102:SCall Gm 1102 [.str s] h fun v h'=>v=.agg [.int .i64 2,.str s,.nils]∧h'=h:=by
  refine SCall.run [] [] g1102 (by kernel_rfl) rfl ?_;simp only[F1102,vparams,go_sem];refine lst_all rfl rfl ⟨_,rfl⟩ (by decide) ?_;simp only[go_sem];exact⟨trivial,trivial⟩
theorem n911:SCall Gm 911 [.agg [a0,a1,a2]] h fun v h'=>v=.agg [.int .i64 4,.str [],.slice 3 h.length 0 1 false]∧h'=h++[.row 3 [.agg [a0,a1,a2]] true]:=by
  refine SCall.run [] [] g911 (by kernel_rfl) rfl ?_;simp only[F911,vparams,go_sem];refine lbox_ok rfl ?_;simp only[go_sem];refine bsl_one (v:=.agg [a0,a1,a2]) rfl rfl ?_;simp only[go_sem];refine lst_all rfl rfl ⟨_,rfl⟩ (by decide) ?_;simp only[go_sem];exact⟨trivial,trivial⟩
theorem n722:SCall Gm 722 [.agg [a0,a1,a2],.agg [b0,b1,b2]] h fun v h'=>v=.agg [.int .i64 3,.str [],.slice 3 h.length 0 2 false]∧h'=h++[.row 3 [.agg [a0,a1,a2],.agg [b0,b1,b2]] true]:=by
  refine SCall.run [] [] g722 (by kernel_rfl) rfl ?_;simp only[F722,vparams,go_sem];refine lbox_ok rfl ?_;simp only[go_sem];refine lbox_ok rfl ?_;simp only[go_sem];rw[show fillAV _ 3 _ _=some [.agg [a0,a1,a2],.agg [b0,b1,b2]]from rfl];simp only[go_sem];refine lst_all rfl rfl ⟨_,rfl⟩ (by decide) ?_;simp only[go_sem];exact⟨trivial,trivial⟩
end
end Go.Ab
namespace Go.Ab
open Go
set_option maxRecDepth 10000
set_option maxHeartbeats 2000000
def isP(toks:List GTok)(a:Nat)(s:Str):Bool:=match toks[a]? with
  | some t=>decide (t.Text=s)&&(decide (t.Kind=5) || decide (t.Kind=3))
  | none=>false
theorem isI_isP{toks:List GTok}{a:Nat}{e:Int}{s:Str}(hs:s≠[]):isI toks a e s=isP toks a s:=by
  unfold isI isP nxt;cases h:toks[a]? with
  | none=>
    have:¬([]:Str)=s:=fun q=>hs q.symm;simp[this]
  | some t=>simp
theorem isP_lt{toks:List GTok}{a:Nat}{s:Str}(q:isP toks a s=true):a<toks.length:=by
  rcases Nat.lt_or_ge a toks.length with h1 | h1
  · exact h1
  · rw[isP,List.getElem?_eq_none h1]at q;cases q
def pT(toks:List GTok):Nat→Bool→Nat→Except Nat (GType×Nat)
  | 0,_,a=>.error a
  | f+1,true,a=>if isP toks a [33]then(match pT toks f true (a+1)with
      |.ok (t,b)=>.ok (bangT t,b)
      |.error b=>.error b)
    else if isP toks a [40]then(match pT toks f false (a+1)with
      |.ok (t,b)=>if isP toks b [41]then .ok (t,b+1)else .error b
      |.error b=>.error b)
    else(match toks[a]? with
      | some t=>if t.Kind=2 then .ok (if t.Text=[73,110,116]then intT else dataT t.Text,a+1)else .error a
      | none=>.error a)
  | f+1,false,a=>(match pT toks f true a with
      |.ok (t,b)=>if isP toks b [45,62]then(match pT toks f false (b+1)with
          |.ok (u,c)=>.ok (funT t u,c)
          |.error c=>.error c)
        else .ok (t,b)
      |.error b=>.error b)
def fuelT(toks:List GTok)(flag:Bool)(a:Nat):Nat:=2*(toks.length-a)+(if flag then 1 else 2)
theorem pT_prog{toks:List GTok}:∀(f:Nat)(flag:Bool)(a:Nat){t:GType}{b:Nat},pT toks f flag a=.ok (t,b)→a<b∧b≤toks.length:=by
  intro f
  induction f with
  | zero=>intro flag a t b h;simp[pT]at h
  | succ f ih=>
    intro flag a t b h;cases flag with
    | true=>
      simp only[pT]at h;split at h
      · rename_i h1;have:=isP_lt h1;split at h
        · rename_i h2;have:=ih _ _ h2;cases h;omega
        · cases h
      · split at h
        · rename_i h1;have:=isP_lt h1;split at h
          · rename_i h2;have:=ih _ _ h2;split at h
            · rename_i h3;have:=isP_lt h3;cases h;omega
            · cases h
          · cases h
        · split at h
          · rename_i h1;have:=(List.getElem?_eq_some_iff.1 h1).1;split at h
            · cases h;omega
            · cases h
          · cases h
    | false=>
      simp only[pT]at h;split at h
      · rename_i h2;have:=ih _ _ h2;split at h
        · rename_i h1;have:=isP_lt h1;split at h
          · rename_i h3;have:=ih _ _ h3;cases h;omega
          · cases h
        · cases h;omega
      · cases h
section
variable {id:Nat} {toks:List GTok} {e:Int}
theorem n_typ(hl:toks.length≤1048576):∀(f:Nat)(flag:Bool)(a:Nat)(h:List AObj),fuelT toks flag a≤f→a≤toks.length→h[id]?=some (prI toks a e)→
    SCallX Gm (if flag then 720 else 335) [.ptr id 0 0] h (fun v h'=>∃t b S,pT toks f flag a=.ok (t,b)∧PS h id (prI toks b e) h'∧OwnT S h' v t.enc∧Bh h.length S h') (fun v h'=>∃b,pT toks f flag a=.error b∧v=synE (nxt toks b e).At):=by
  intro f
  induction f with
  | zero=>intro flag a h hf;exfalso;unfold fuelT at hf;cases flag<;>simp at hf
  | succ f ih=>
  intro flag a h hf ha ho;have hid:id<h.length:=(List.getElem?_eq_some_iff.1 ho).1;cases flag with
  | true=>
    refine SCallX.run [] [] g720 (by kernel_rfl) rfl ?_;simp only[F720,vparams,go_sem];refine call_hereE rfl (n721 ho hl (by decide)) ?_;rw[isI_isP (by decide)];simp only[go_sem];cases hb:isP toks a [33]
    case true=>
      have hlt:=isP_lt hb;simp only[if_true,go_sem];refine call_hereX ((ih true (a+1) (h.set id (prI toks (a+1) e)) (by unfold fuelT at hf⊢;simp at hf⊢;omega) (by omega) (by rw[List.getElem?_set_self hid])).mono ?_ ?_)
      · rintro v h1 ⟨t,b,S,q1,q2,q3,q4⟩;obtain⟨x0,x1,x2,rfl⟩:=own_agg q3;simp only[go_sem];refine call_hereE rfl n911 ?_;simp only[go_sem];refine lst_all rfl rfl ⟨_,rfl⟩ (by decide) ?_;simp only[go_sem];rw[List.length_set]at q4;obtain⟨r1,r2⟩:=own_row1 q3 q4 (by have:=q2.len;rw[List.length_set]at this;exact this);refine⟨bangT t,b,_,by simp only[pT,hb,if_true,q1],((PS.set ho).trans q2).push,own_ty r1,r2⟩
      · rintro v h1 ⟨b,q1,rfl⟩;exact⟨rfl,b,by simp only[pT,hb,if_true,q1],rfl⟩
    simp only[Bool.false_eq_true,if_false,go_sem];refine call_hereE rfl (n721 ho hl (by decide)) ?_;rw[isI_isP (by decide)];simp only[go_sem];cases hc:isP toks a [40]
    case true=>
      have hlt:=isP_lt hc;simp only[if_true,go_sem];refine call_hereX ((ih false (a+1) (h.set id (prI toks (a+1) e)) (by unfold fuelT at hf⊢;simp at hf⊢;omega) (by omega) (by rw[List.getElem?_set_self hid])).mono ?_ ?_)
      · rintro v h1 ⟨t,b,S,q1,q2,q3,q4⟩;have hb2:=pT_prog _ _ _ q1;obtain⟨x0,x1,x2,rfl⟩:=own_agg q3;simp only[go_sem];refine lst_all rfl rfl ⟨_,rfl⟩ (by decide) ?_;simp only[go_sem];refine call_hereX ((n876 q2.at' hl (by decide)).mono ?_ ?_)
        · rintro v2 h2 ⟨e1,rfl⟩;rw[isI_isP (by decide)]at e1;simp only[go_sem];refine lst_all rfl rfl ⟨_,rfl⟩ (by decide) ?_;simp only[go_sem];rw[List.length_set]at q4;obtain⟨r1,r2⟩:=q3.ps q4 hid (PS.set q2.at' (o:=prI toks (b+1) e));exact⟨t,b+1,S,by simp only[pT,hb,hc,Bool.false_eq_true,if_false,if_true,q1,e1],((PS.set ho).trans q2).trans (PS.set q2.at'),r1,r2⟩
        · rintro v2 h2 ⟨e1,rfl,rfl⟩;rw[isI_isP (by decide)]at e1;exact⟨rfl,b,by simp only[pT,hb,hc,Bool.false_eq_true,if_false,if_true,q1,e1],rfl⟩
      · rintro v h1 ⟨b,q1,rfl⟩;exact⟨rfl,b,by simp only[pT,hb,hc,Bool.false_eq_true,if_false,if_true,q1],rfl⟩
    simp only[Bool.false_eq_true,if_false,go_sem];refine call_hereX ((n875 ho hl (by decide)).mono ?_ ?_)
    · rintro v h1 ⟨e1,rfl,rfl⟩;have hlt:=nxtK_lt (by decide) e1;have en:nxt toks a e=toks[a]:=by simp[nxt,List.getElem?_eq_getElem hlt]
      rw[en]at e1⊢;simp only[go_sem];by_cases hn:toks[a].Text=[73,110,116]
      · simp only[decide_eq_true hn,Bool.not_true,go_sem];refine call_hereE rfl n908 ?_;simp only[go_sem];refine lst_all rfl rfl ⟨_,rfl⟩ (by decide) ?_;simp only[go_sem];exact⟨intT,a+1,[none],by simp[pT,hb,hc,List.getElem?_eq_getElem hlt,e1,hn],PS.set ho,own_ty0,fun j hj=>by simp at hj⟩
      · simp only[decide_eq_false hn,Bool.not_false,go_sem];refine call_hereE rfl n1102 ?_;simp only[go_sem];refine lst_all rfl rfl ⟨_,rfl⟩ (by decide) ?_;simp only[go_sem];exact⟨dataT toks[a].Text,a+1,[none],by simp[pT,hb,hc,List.getElem?_eq_getElem hlt,e1,hn],PS.set ho,own_ty0,fun j hj=>by simp at hj⟩
    · rintro v h1 ⟨e1,rfl,rfl⟩;refine⟨rfl,a, ?_,rfl⟩;simp only[pT,hb,hc,Bool.false_eq_true,if_false];unfold nxt at e1;split
      · rename_i t ht;rw[ht]at e1;rw[if_neg (by simpa using e1)]
      · rfl
  | false=>
    refine SCallX.run [] [] g335 (by kernel_rfl) rfl ?_;simp only[F335,vparams,go_sem];refine call_hereX ((ih true a h (by unfold fuelT at hf⊢;simp at hf⊢;omega) ha ho).mono ?_ ?_)
    · rintro v h1 ⟨t,b,S,q1,q2,q3,q4⟩;obtain⟨b1,b2⟩:=pT_prog _ _ _ q1;obtain⟨x0,x1,x2,rfl⟩:=own_agg q3;simp only[go_sem];refine lst_all rfl rfl ⟨_,rfl⟩ (by decide) ?_;simp only[go_sem];refine call_hereE rfl (n721 q2.at' hl (by decide)) ?_;rw[isI_isP (by decide)];simp only[go_sem];cases hb:isP toks b [45,62]
      · simp only[Bool.false_eq_true,if_false,go_sem];refine lst_all rfl rfl ⟨_,rfl⟩ (by decide) ?_;simp only[go_sem];exact⟨t,b,S,by simp only[pT,q1,hb,Bool.false_eq_true,if_false],q2,q3,q4⟩
      · have hlt:=isP_lt hb;simp only[if_true,go_sem];have hid1:id<h1.length:=Nat.lt_of_lt_of_le hid q2.len;have q2':=q2.trans (PS.set q2.at' (o:=prI toks (b+1) e));obtain⟨q3',q4'⟩:=q3.ps q4 hid (PS.set q2.at' (o:=prI toks (b+1) e));refine call_hereX ((ih false (b+1) (h1.set id (prI toks (b+1) e)) (by unfold fuelT at hf⊢;simp at hf⊢;omega) (by omega) (by rw[List.getElem?_set_self hid1])).mono ?_ ?_)
        · rintro v2 h2 ⟨u,c,S2,p1,p2,p3,p4⟩;obtain⟨y0,y1,y2,rfl⟩:=own_agg p3;simp only[go_sem];refine call_hereE rfl n722 ?_;simp only[go_sem];refine lst_all rfl rfl ⟨_,rfl⟩ (by decide) ?_;simp only[go_sem];obtain⟨z3,z4⟩:=q3'.ps q4' hid p2;obtain⟨r1,r2⟩:=own_row2 z3 p3 z4 p4 (by have:=q2.len;have:=p2.len;rw[List.length_set]at this;omega) (by have:=q2.len;rw[List.length_set];omega) (fun j hj=>(q4' j hj).2);exact⟨funT t u,c,_,by simp only[pT,q1,hb,if_true,p1],(q2'.trans p2).push,own_ty r1,r2⟩
        · rintro v2 h2 ⟨c,p1,rfl⟩;exact⟨rfl,c,by simp only[pT,q1,hb,if_true,p1],rfl⟩
    · rintro v h1 ⟨b,q1,rfl⟩;exact⟨rfl,b,by simp only[pT,q1],rfl⟩
end
end Go.Ab
namespace Go.Ab
open Go
set_option maxRecDepth 10000
set_option maxHeartbeats 2000000
def okT(k:Int)(n:Str)(l:Nat):Bool:=if k=1 then decide (n=[])&&decide (l=0)else if k=2 then isUp n&&(!decide (n=[73,110,116])&&decide (l=0))else if k=3 then decide (n=[])&&decide (l=2)else if k=4 then decide (n=[])&&decide (l=1)else false
mutual
def GType.shp:GType→Nat×Nat×Bool
  |.mk k n ks=>match GType.shps ks 1 1 with
    | none=>(0,0,false)
    | some (d,s)=>(d,s,okT k n ks.length)
def GType.shps:List GType→Nat→Nat→Option (Nat×Nat)
  |[],d,s=>some (d,s)
  | x::xs,d,s=>match x.shp with
    | (d',s',true)=>GType.shps xs (max d (d'+1)) (s+s')
    | (_,_,false)=>none
end
mutual
def GType.nd:GType→Nat
  |.mk _ _ ks=>1+GType.nds ks
def GType.nds:List GType→Nat
  |[]=>0
  | x::xs=>x.nd+GType.nds xs
end
theorem GType.nds_eq:∀xs,GType.nds xs=sumN GType.nd xs
  |[]=>by simp[GType.nds,sumN]
  | x::xs=>by simp[GType.nds,sumN,GType.nds_eq xs]
theorem GType.nd_eq(x:GType):x.nd=1+sumN GType.nd x.Kids:=by cases x;simp[GType.nd,GType.nds_eq,GType.Kids]
theorem GType.shp_eq(x:GType):x.shp=match GType.shps x.Kids 1 1 with
    | none=>(0,0,false)
    | some (d,s)=>(d,s,okT x.Kind x.Name x.Kids.length):=by cases x;rfl
theorem GType.shps_le{xs:List GType}(ih:∀y∈xs,y.shp.1≤y.shp.2.1∧y.shp.2.1≤y.nd):∀{d s d1 s1:Nat},d≤s→1≤s→GType.shps xs d s=some (d1,s1)→d1≤s1∧s1≤s+sumN GType.nd xs:=by
  induction xs with
  | nil=>intro d s d1 s1 h1 h2 h;simp only[GType.shps,Option.some.injEq,Prod.mk.injEq]at h;obtain⟨rfl,rfl⟩:=h;simp[sumN];exact h1
  | cons x xs ihx=>
    intro d s d1 s1 h1 h2 h;have hx:=ih x (by simp);simp only[GType.shps]at h;split at h
    · rename_i d' s' he;rw[he]at hx;simp only at hx;have:=ihx (fun y hy=>ih y (by simp[hy])) (by omega) (by omega) h;simp only[sumN];omega
    · cases h
theorem GType.shp_le:∀x:GType,x.shp.1≤x.shp.2.1∧x.shp.2.1≤x.nd:=GType.ind fun x ih=>by
  rw[GType.shp_eq,GType.nd_eq];split
  · simp
  · rename_i d s h;have:=GType.shps_le ih (Nat.le_refl _) (Nat.le_refl _) h;simp only;omega
def validT(x:GType):Bool:=x.shp.2.2&&(decide (x.shp.1≤6)&&decide (x.shp.2.1≤16))
theorem c331(x:GType):∀(hb:x.bd)(hn:x.nd≤1048576),Pure Gm 331 [x.enc] (.tup [.int .i64 (x.shp.1:Nat),.int .i64 (x.shp.2.1:Nat),.bool x.shp.2.2]):=by
  induction x using GType.ind with
  | _ x ih=>
  intro hb hn;refine Pure.intro [] [] g331 (by kernel_rfl) rfl (by simp[AV.trees,AV.tree,go_sem]) rfl ?_;simp only[F331,vparams,go_sem];refine lbox_ok GType.ln ?_;simp only[go_sem];rw[GType.nd_eq]at hn;rw[GType.bd_eq]at hb;obtain⟨b1,b2,b3⟩:=hb;have hs:=GType.shp_eq x;have e0:x.Kids.length≤1048576:=by
    have:∀xs:List GType,xs.length≤sumN GType.nd xs:=fun xs=>by
      induction xs with
      | nil=>simp
      | cons y ys ihy=>have:=GType.nd_eq y;simp only[List.length_cons,sumN];omega
    have:=this x.Kids;omega
  refine Sem.loop (fun a:Nat×Nat×Nat=>a.1≤x.Kids.length∧a.2.1≤a.2.2∧1≤a.2.2∧a.2.2+sumN GType.nd (x.Kids.drop a.1)≤1048576∧GType.shps x.Kids 1 1=GType.shps (x.Kids.drop a.1) a.2.1 a.2.2)
    (fun a=>(⟨[(2,.int .i64 (a.2.1:Nat)),(3,.int .i64 (a.2.2:Nat)),(4,.bool false),(11,.lst 3 (x.Kids.map GType.enc) false),(12,.int .i64 x.Kids.length),(13,.int .i64 (a.1:Nat))],[(1,x.enc)],[]⟩:VSt)) (fun a=>x.Kids.length-a.1) (0,1,1) (by kernel_rfl) ⟨Nat.zero_le _,Nat.le_refl _,Nat.le_refl _,by simpa using hn,rfl⟩ (Can.sub (by simp[go_sem]) (by simp[go_sem])) ?_
  rintro⟨i,d,s⟩ ⟨hi,h1,h2,h3,hI⟩;simp only at hi h1 h2 h3 hI;simp only[go_sem];refine cnd_split ?_ ?_<;>intro hc<;>simp only[hc,go_sem]
  · have hlt:i<x.Kids.length:=by have:=of_decide_eq_true hc;omega
    simp only[List.getElem?_map,List.getElem?_eq_getElem hlt,Option.map_some,go_sem];refine lst_all rfl GType.ln (by exact⟨_,GType.enc_eq _⟩) (by decide) ?_;simp only[go_sem];have hm:=List.getElem_mem hlt;have hd:x.Kids.drop i=x.Kids[i]::x.Kids.drop (i+1):=by simp
    rw[hd]at h3;simp only[sumN]at h3;refine call_pure (ih _ hm (b3 _ hm) (by omega)) ?_;simp only[go_sem];have hle:=GType.shp_le x.Kids[i];cases hg:x.Kids[i].shp.2.2
    · simp only[Bool.not_false];simp only[go_sem];refine fin_eqs rfl ?_;have:GType.shps x.Kids 1 1=none:=by
        rw[hI,hd,GType.shps];split
        · rename_i he;rw[he]at hg;cases hg
        · rfl
      rw[hs,this];rfl
    · simp only[Bool.not_true];simp only[go_sem];simp only[wrap_small (n:=((x.Kids[i].shp.1:Nat):Int)+1) (by omega) (by omega),wrap_small (n:=(s:Int)+((x.Kids[i].shp.2.1:Nat):Int)) (by omega) (by omega)];have em:max ((d:Nat):Int) (((x.Kids[i].shp.1:Nat):Int)+1)=((max d (x.Kids[i].shp.1+1):Nat):Int):=by omega
      have es:(s:Int)+((x.Kids[i].shp.2.1:Nat):Int)=((s+x.Kids[i].shp.2.1:Nat):Int):=by omega
      rw[em,es];simp only[wrap_succ (show i<4611686018427387904 by omega)];refine loopQ_nrm (i+1,max d (x.Kids[i].shp.1+1),s+x.Kids[i].shp.2.1) ⟨by simp only;omega,by simp only;omega,by simp only;omega,by simp only;omega, ?_⟩ (by simp only;omega) ?_
      · simp only;rw[hI,hd,GType.shps];split
        · rename_i he;rw[he]
        · rename_i he;rw[he]at hg;cases hg
      · exact Can.sub (by simp[go_sem]) (by simp[go_sem])
  · obtain rfl:i=x.Kids.length:=by have:=of_decide_eq_false hc;omega
    have hk:GType.shps x.Kids 1 1=some (d,s):=by rw[hI];simp[GType.shps]
    rw[hk]at hs;simp only at hs;rw[hs];clear hs hk;have ek:decide (((x.Kids.length:Nat):Int)=0)=decide (x.Kids.length=0):=by rw[decide_eq_decide];omega
    have ek2:decide (((x.Kids.length:Nat):Int)=2)=decide (x.Kids.length=2):=by rw[decide_eq_decide];omega
    have ek1:decide (((x.Kids.length:Nat):Int)=1)=decide (x.Kids.length=1):=by rw[decide_eq_decide];omega
    by_cases k1:x.Kind=1
    · simp only[decide_eq_true k1,go_sem];by_cases q:x.Name=[]
      · simp only[decide_eq_true q,go_sem];exact fin_eqs rfl (by rw[ek];simp[okT,k1,q])
      · simp only[decide_eq_false q,go_sem];exact fin_eqs rfl (by simp[okT,k1,q])
    simp only[decide_eq_false k1,go_sem];by_cases k2:x.Kind=2
    · simp only[decide_eq_true k2,go_sem];refine call_pure (c717 (by omega)) ?_;simp only[go_sem];cases q:isUp x.Name
      · simp only[go_sem];exact fin_eqs rfl (by simp[okT,k2,q])
      · simp only[go_sem];by_cases q2:x.Name=[73,110,116]
        · simp only[decide_eq_true q2,Bool.not_true,go_sem];exact fin_eqs rfl (by simp[okT,k2,q2])
        · simp only[decide_eq_false q2,Bool.not_false,go_sem];exact fin_eqs rfl (by rw[ek];simp[okT,k2,q,q2])
    simp only[decide_eq_false k2,go_sem];by_cases k3:x.Kind=3
    · simp only[decide_eq_true k3,go_sem];by_cases q:x.Name=[]
      · simp only[decide_eq_true q,go_sem];exact fin_eqs rfl (by rw[ek2];simp[okT,k3,q])
      · simp only[decide_eq_false q,go_sem];exact fin_eqs rfl (by simp[okT,k3,q])
    simp only[decide_eq_false k3,go_sem];by_cases k4:x.Kind=4
    · simp only[decide_eq_true k4,go_sem];by_cases q:x.Name=[]
      · simp only[decide_eq_true q,go_sem];exact fin_eqs rfl (by rw[ek1];simp[okT,k4,q])
      · simp only[decide_eq_false q,go_sem];exact fin_eqs rfl (by simp[okT,k4,q])
    simp only[decide_eq_false k4,go_sem];exact fin_eqs rfl (by simp[okT,k1,k2,k3,k4])
theorem c74{x:GType}(hb:x.bd)(hn:x.nd≤1048576):Pure Gm 74 [x.enc] (.bool (validT x)):=by
  refine Pure.intro [] [] g74 (by kernel_rfl) rfl (by simp[AV.trees,AV.tree,go_sem]) rfl ?_;simp only[F74,vparams,go_sem];refine lbox_ok GType.ln ?_;simp only[go_sem];refine call_pure (c331 x hb hn) ?_;simp only[go_sem];have e1:decide (((x.shp.1:Nat):Int)≤6)=decide (x.shp.1≤6):=by rw[decide_eq_decide];omega
  have e2:decide (((x.shp.2.1:Nat):Int)≤16)=decide (x.shp.2.1≤16):=by rw[decide_eq_decide];omega
  cases h1:x.shp.2.2
  · simp only[go_sem];exact fin_eq rfl (by simp[validT,h1])
  · simp only[go_sem,e1];by_cases h2:x.shp.1≤6
    · simp only[decide_eq_true h2,go_sem,e2];exact fin_eq rfl (by simp[validT,h1,h2])
    · simp only[decide_eq_false h2,go_sem];exact fin_eq rfl (by simp[validT,h1,h2])
end Go.Ab
namespace Go.Ab
open Go
set_option maxRecDepth 10000
set_option maxHeartbeats 2000000
theorem Fresh.ofS{Γ:Nat→Option AFn}{g:Nat}{as:List AV}{t:AV}(ht:AV.trees as=true)(hp:t.pl=true)(hs:SCall Γ g as [] fun v h'=>∃S,OwnT S h' v t):Fresh Γ g as t:=by
  unfold Fresh;refine⟨ht,hp,fun hr ar har=> ?_⟩;obtain⟨k,r,hr',ρ',v,h',hx,⟨S,own⟩,g1,g2,g3,_⟩:=hs ρ0 hr ar ⟨(fun i o h=>by simp at h),(fun i j a o o' h=>by cases h),(fun _ _=>rfl),(fun i a h=>by cases h)⟩ har;obtain⟨r1,r2⟩:=renum_ok own.d own.o g1;exact⟨k,r,hr',_,hx,r1,own.v.rel g2,g3.trans r2⟩
def zeroT:GType:=.mk 0 [] []
def parseT(t:Str):GType×Int×Int:=if (tokR t).2.2=0 then
    (match pT (tokR t).1 (fuelT (tokR t).1 false 0) false 0 with
    |.error b=>(zeroT,(nxt (tokR t).1 b t.length).At,6)
    |.ok (ty,b)=>if b<(tokR t).1.length then(zeroT,(nxt (tokR t).1 b t.length).At,6)else if validT ty then(ty,0,0)else(zeroT,0,1))
  else(zeroT,(tokR t).2.1,(tokR t).2.2)
def parseTV(t:Str):AV:=.tup [(parseT t).1.enc,.int .i64 (parseT t).2.1,.int .i64 (parseT t).2.2]
theorem own_res{S:List (Option Nat)}{h:List AObj}{v:AV}{ty:GType}{a c:Int}(x:OwnT S h v ty.enc):OwnT S h (.tup [v,.int .i64 a,.int .i64 c]) (.tup [ty.enc,.int .i64 a,.int .i64 c]):=by
  have h1:=x.one.scal (a:=.int .i64 a) (fun _=>rfl) rfl rfl;have h2:=h1.scal (a:=.int .i64 c) (fun _=>rfl) rfl rfl;exact h2.tup
@[go_sem] theorem lst_ii{E:Ev}{l:List AOper}{ks:List Fr1}{s m:LEnv}{h:List AObj}{Q:AExit→VSt→Prop}{t:Nat}{k k':IntKind}{a b:Int}:Lst E t 0 1 (some (.int k a)) (some (.int k' b)) l ks ⟨s,m,h⟩ Q=R E (.ops l::ks) ⟨s,(t,.int k' b)::m,h⟩ Q:=by
  unfold Lst;simp[AV.put,AV.cells]
@[go_sem] theorem tryQ3_r{E:Ev}{t:ATry}{K:AV→List AObj→Prop}{st:VSt}:tryQ3 E t K .ret st=FinI (resAll (toSt st) t.res) st.h K:=rfl
@[go_sem] theorem tryQ3_n{E:Ev}{t:ATry}{K:AV→List AObj→Prop}{st:VSt}:tryQ3 E t K .nrm st=((∀i∈t.cap,get st.l i≠none)∧get st.s t.d5=none∧R E [.code t.mid] st (nrmQ fun st=>R E [.ops t.l7] st (tryQ5 E t K))):=rfl
@[go_sem] theorem tryQ5_n{E:Ev}{t:ATry}{K:AV→List AObj→Prop}{st:VSt}:tryQ5 E t K .nrm st=R E [.code t.r8] st (nrmQ (tryQ6 E t K)):=rfl
@[go_sem] theorem tryQ5_p{E:Ev}{t:ATry}{K:AV→List AObj→Prop}{st:VSt}{v:AV}:tryQ5 E t K (.pan v) st=tryH E t K v st:=rfl
theorem tryQ6_f{E:Ev}{t:ATry}{K:AV→List AObj→Prop}{st:VSt}(h:ev (toE st.s) t.x=some (.bool false))(hr:R E [.code t.tail] st (finI t.res K)):tryQ6 E t K st:=by
  unfold tryQ6;rw[h];exact hr
theorem tryQ6_t{E:Ev}{t:ATry}{K:AV→List AObj→Prop}{st:VSt}(h:ev (toE st.s) t.x=some (.bool true))(hr:R E [.ops t.l9] st (panQ (tryH E t K))):tryQ6 E t K st:=by
  unfold tryQ6;rw[h];exact hr
theorem tryH_i{E:Ev}{t:ATry}{K:AV→List AObj→Prop}{st:VSt}{T:Nat}{x:AV}(hT:T=t.T)(hl:x.leaf=true)(hr:R E [.code t.hnd] ⟨[(t.nh,x)],capV st.l 0 t.cap,st.h⟩ (nrmQ fun s=>FinI (resAll (toSt s) t.resH) s.h K)):tryH E t K (.iface T x) st:=⟨hT,hl,hr⟩
@[go_sem] theorem capV_nil{l:LEnv}{n:Nat}:capV l n []=[]:=rfl
def capV1(v:Option AV)(n:Nat)(r:LEnv):LEnv:=match v with
  | some v=>(n,v)::r
  | none=>r
@[go_sem] theorem capV1_s{v:AV}{n:Nat}{r:LEnv}:capV1 (some v) n r=(n,v)::r:=rfl
@[go_sem] theorem capV_cons{l:LEnv}{n c:Nat}{r:List Nat}:capV l n (c::r)=capV1 (get l c) n (capV l (n+1) r):=by
  rw[capV];cases get l c<;>rfl
theorem toksF_len{t:Str}:∀(f:Nat){i:Nat}{acc l:List GTok},toksF t f i acc=.ok l→i≤t.length→acc.length≤i→(∀x∈acc,x.Text.length≤t.length)→l.length≤t.length∧∀x∈l,x.Text.length≤t.length
  | 0,i,acc,l,h,hi,ha,hx=>by simp only[toksF,Except.ok.injEq]at h;subst h;exact⟨by omega,hx⟩
  | f+1,i,acc,l,h,hi,ha,hx=>by
    simp only[toksF]at h;split at h
    · rename_i hlt;obtain⟨t1,t2,t3⟩:=tokEnd_le hlt;split at h
      · exact toksF_len f h (by omega) (by omega) hx
      · split at h
        · cases h
        · rename_i hk;have:=t3 hk;refine toksF_len f h (by omega) (by simp;omega) fun x hm=> ?_;rcases List.mem_append.1 hm with hm | hm
          · exact hx x hm
          · simp only[List.mem_singleton]at hm;subst hm;simp only[List.length_take,List.length_drop];omega
    · simp only[Except.ok.injEq]at h;subst h;exact⟨by omega,hx⟩
theorem tokR_both{t:Str}:(tokR t).1.length≤20000∧∀x∈(tokR t).1,x.Text.length≤20000:=by
  unfold tokR;split
  · exact⟨by simp,fun x hx=>by simp at hx⟩
  · rename_i hl;split
    · exact⟨by simp,fun x hx=>by simp at hx⟩
    · rename_i l h;obtain⟨h1,h2⟩:=toksF_len _ h (Nat.zero_le _) (Nat.le_refl _) (fun x hx=>by simp at hx);exact⟨by simp only;omega,fun x hx=>by have:=h2 x hx;omega⟩
theorem tokR_len{t:Str}:(tokR t).1.length≤20000:=tokR_both.1
theorem tokR_txt{t:Str}:∀x∈(tokR t).1,x.Text.length≤20000:=tokR_both.2
theorem pT_bd{toks:List GTok}(hx:∀x∈toks,x.Text.length≤20000):∀(f:Nat)(flag:Bool)(a:Nat){t:GType}{b:Nat},pT toks f flag a=.ok (t,b)→t.bd∧t.nd≤b-a:=by
  intro f
  induction f with
  | zero=>intro flag a t b h;simp[pT]at h
  | succ f ih=>
    intro flag a t b h;have hp:=pT_prog _ _ _ h;cases flag with
    | true=>
      simp only[pT]at h;split at h
      · split at h
        · rename_i t1 b1 h2;obtain⟨i1,i2⟩:=ih _ _ h2;have:=pT_prog _ _ _ h2;cases h;refine⟨by rw[GType.bd_eq];exact⟨by simp[bangT,GType.Name],by simp[bangT,GType.Kids],fun y hy=>by simp[bangT,GType.Kids]at hy;subst hy;exact i1⟩, ?_⟩;rw[GType.nd_eq];simp only[bangT,GType.Kids,sumN];omega
        · cases h
      · split at h
        · split at h
          · rename_i t1 b1 h2;obtain⟨i1,i2⟩:=ih _ _ h2;have:=pT_prog _ _ _ h2;split at h
            · cases h;exact⟨i1,by omega⟩
            · cases h
          · cases h
        · split at h
          · rename_i tk h1;split at h
            · cases h;split
              · exact⟨by rw[GType.bd_eq];exact⟨by simp[intT,GType.Name],by simp[intT,GType.Kids],fun y hy=>by simp[intT,GType.Kids]at hy⟩,by rw[GType.nd_eq];simp only[intT,GType.Kids,sumN];omega⟩
              · exact⟨by rw[GType.bd_eq];exact⟨by have:=hx _ (List.mem_of_getElem? h1);simp only[dataT,GType.Name];omega,by simp[dataT,GType.Kids],fun y hy=>by simp[dataT,GType.Kids]at hy⟩,by rw[GType.nd_eq];simp only[dataT,GType.Kids,sumN];omega⟩
            · cases h
          · cases h
    | false=>
      simp only[pT]at h;split at h
      · rename_i t1 b1 h2;obtain⟨i1,i2⟩:=ih _ _ h2;have:=pT_prog _ _ _ h2;split at h
        · split at h
          · rename_i u c h3;obtain⟨j1,j2⟩:=ih _ _ h3;have:=pT_prog _ _ _ h3;cases h;refine⟨by rw[GType.bd_eq];exact⟨by simp[funT,GType.Name],by simp[funT,GType.Kids],fun y hy=>by simp[funT,GType.Kids]at hy;rcases hy with rfl | rfl;exact i1;exact j1⟩, ?_⟩;rw[GType.nd_eq];simp only[funT,GType.Kids,sumN];omega
          · cases h
        · cases h;exact⟨i1,i2⟩
      · cases h
theorem pls_memT{α:Type}{enc:α→AV}:∀{xs:List α},(∀x∈xs,(enc x).pl=true)→AV.pls (xs.map enc)=true
  |[],_=>rfl
  | x::xs,h=>by simp only[List.map_cons,AV.pls,h x (by simp),pls_memT (xs:=xs) (fun y hy=>h y (by simp[hy])),Bool.and_self]
theorem cns_memT{α:Type}{enc:α→AV}:∀{xs:List α},(∀x∈xs,(enc x).cn=true)→AV.cns (xs.map enc)=true
  |[],_=>rfl
  | x::xs,h=>by simp only[List.map_cons,AV.cns,h x (by simp),cns_memT (xs:=xs) (fun y hy=>h y (by simp[hy])),Bool.and_self]
theorem GType.plx:∀x:GType,x.enc.pl=true:=GType.ind fun x ih=>by
  rw[GType.enc_eq];simp[AV.pl,AV.pls,pls_memT ih]
theorem GType.cnx:∀x:GType,x.enc.cn=true:=GType.ind fun x ih=>by
  rw[GType.enc_eq];simp[AV.cn,AV.cns,cns_memT ih]
theorem c334S{t:Str}:SCall Gm 334 [.str t,.fn 335 [],.fn 74 []] [] fun v h'=>∃S,OwnT S h' v (parseTV t):=by
  refine SCall.try g334 rfl (by kernel_rfl) ?_;simp only[T334,vparams,go_sem];refine call_pure c266 ?_;simp only[go_sem];by_cases hc:(tokR t).2.2=0
  case neg=>
    simp only[decide_eq_false hc,Bool.not_false,go_sem];refine lst_all rfl rfl ⟨_,rfl⟩ (by decide) ?_;simp only[go_sem];have er:parseT t=(zeroT,(tokR t).2.1,(tokR t).2.2):=by rw[parseT,if_neg hc]
    exact⟨[none],by unfold parseTV;rw[er];exact own_res own_ty0⟩
  simp only[decide_eq_true hc,Bool.not_true,go_sem];refine⟨by simp[get],rfl, ?_⟩;refine hbox_ok rfl ?_;simp only[go_sem];have hl:=tokR_len (t:=t);have htx:=tokR_txt (t:=t);have er:parseT t=match pT (tokR t).1 (fuelT (tokR t).1 false 0) false 0 with
    |.error b=>(zeroT,(nxt (tokR t).1 b t.length).At,6)
    |.ok (ty,b)=>if b<(tokR t).1.length then(zeroT,(nxt (tokR t).1 b t.length).At,6)else if validT ty then(ty,0,0)else(zeroT,0,1):=by rw[parseT,if_pos hc]
  generalize (tokR t).1=toks at*;refine call_hereX ((n_typ (toks:=toks) (id:=0) (e:=t.length) (by omega) _ false 0 _ (Nat.le_refl _) (Nat.zero_le _) rfl).mono ?_ ?_)
  · rintro v h1 ⟨ty,b,S,q1,q2,q3,q4⟩;rw[q1]at er;simp only at er;obtain⟨x0,x1,x2,rfl⟩:=own_agg q3;have ho:=q2.at';unfold prI at ho;simp only[go_sem];refine lst_all rfl rfl ⟨_,rfl⟩ (by decide) ?_;simp only[go_sem,ho,Option.map_some,List.length_map];by_cases hlt:b<toks.length
    · rw[if_pos hlt]at er;refine tryQ6_t (congrArg (fun q=>some (AV.bool q)) (decide_eq_true (by omega))) ?_;simp only[go_sem];refine call_hereX ((n719 q2.at').mono (fun _ _ q=>q.elim) ?_);rintro v2 h2 ⟨rfl,rfl⟩;rw[panQ_p];refine tryH_i rfl rfl ?_;simp only[go_sem];refine lst_all rfl rfl ⟨_,rfl⟩ (by decide) ?_;simp only[go_sem];exact⟨[none],by unfold parseTV;rw[er];exact own_res own_ty0⟩
    · rw[if_neg hlt]at er;refine tryQ6_f (congrArg (fun q=>some (AV.bool q)) (decide_eq_false (by omega))) ?_;simp only[go_sem];obtain⟨g1,g2⟩:=pT_bd htx _ _ _ q1;have g3:=(pT_prog _ _ _ q1).2;refine call_lend (vs':=[ty.enc]) (Cvs.cons (q3.cv (GType.cnx ty)) Cvs.nil) (c74 g1 (by omega)) rfl ?_;simp only[go_sem];cases hv:validT ty
      · rw[hv]at er;simp only[Bool.not_false,go_sem];refine lst_all rfl rfl ⟨_,rfl⟩ (by decide) ?_;simp only[go_sem];exact⟨[none],by unfold parseTV;rw[er];exact own_res own_ty0⟩
      · rw[hv]at er;simp only[Bool.not_true,go_sem];refine lst_all rfl rfl ⟨_,rfl⟩ (by decide) ?_;simp only[go_sem];exact⟨S,by unfold parseTV;rw[er];exact own_res q3⟩
  · rintro v h1 ⟨b,q1,rfl⟩;rw[q1]at er;simp only at er;rw[tryQ5_p];refine tryH_i rfl rfl ?_;simp only[go_sem];refine lst_all rfl rfl ⟨_,rfl⟩ (by decide) ?_;simp only[go_sem];exact⟨[none],by unfold parseTV;rw[er];exact own_res own_ty0⟩
theorem parseTV_pl{t:Str}:(parseTV t).pl=true:=by simp[parseTV,AV.pl,AV.pls,GType.plx]
theorem n334{t:Str}:Fresh Gm 334 [.str t,.fn 335 [],.fn 74 []] (parseTV t):=Fresh.ofS rfl parseTV_pl c334S
theorem own_res_shape{S:List (Option Nat)}{h:List AObj}{v:AV}{ty:GType}{a c:Int}(x:OwnT S h v (.tup [ty.enc,.int .i64 a,.int .i64 c])):∃x0 x1 x2,v=.tup [.agg [x0,x1,x2],.int .i64 a,.int .i64 c]:=by
  have q:=x.v;simp only[lay]at q;obtain⟨cs,hcs,p⟩:=q.tups;clear q;rw[GType.enc_eq]at p;simp only[lays,lay]at p;have hl:=p.1
  match cs,hl,p,hcs with
  |[u0,u1,u2],_,p,hcs=>
    obtain⟨p0,p'⟩:=p.hd;obtain⟨p1,p''⟩:=p'.hd;obtain⟨p2,_⟩:=p''.hd;obtain⟨ds,hds,r0⟩:=p0.aggs;have hl:=r0.1;have e1:=p1.int;have e2:=p2.int;subst e1;subst e2;subst hds;subst hcs
    match ds,hl with
    |[y0,y1,y2],_=>exact⟨y0,y1,y2,rfl⟩
theorem n76{t:Str}:Fresh Gm 76 [.str t] (parseTV t):=by
  refine Fresh.ofS rfl parseTV_pl ?_;refine SCall.run [] [] g76 (by kernel_rfl) rfl ?_;simp only[F76,vparams,go_sem];refine call_here (c334S.mono ?_);rintro v h' ⟨S,q⟩;obtain⟨x0,x1,x2,rfl⟩:=own_res_shape (by unfold parseTV at q;exact q);simp only[go_sem];refine lst_all rfl rfl ⟨_,rfl⟩ (by decide) ?_;simp only[go_sem];exact⟨S,q⟩
end Go.Ab
namespace Go.Ab
open Go
set_option maxRecDepth 10000
set_option maxHeartbeats 2000000
theorem c340{n lo hi:Int}:Pure Gm 340 [.int .i64 n,.int .i64 lo,.int .i64 hi] (.bool (decide (lo≤n)&&decide (n≤hi))):=by
  refine Pure.intro [] [] g340 (by kernel_rfl) rfl (by simp[AV.trees,AV.tree,go_sem]) rfl ?_;simp only[F340,vparams,go_sem]
  first | (refine grd_split ?_ ?_<;>intro hc<;>simp only[hc,go_sem]) | (refine cnd_split ?_ ?_<;>intro hc<;>simp only[hc,go_sem])
  · exact fin_eq rfl (by have hq:=of_decide_eq_true hc;simp<;>omega)
  · exact fin_eq rfl (by have hq:=of_decide_eq_false hc;simp<;>omega)
theorem c1440{b:UInt8}:Pure Gm 1440 [.int .u8 (b.toNat:Nat)] (.bool (isSm b || isCap b)):=by
  refine Pure.intro [] [] g1440 (by kernel_rfl) rfl (by simp[AV.trees,AV.tree,go_sem]) rfl ?_;simp only[F1440,vparams,go_sem];by_cases h1:97≤b.toNat
  · have e1:decide ((97:Int)≤(b.toNat:Nat))=true:=decide_eq_true (by omega);simp only[ge_iff_le,e1,go_sem];by_cases h2:b.toNat≤122
    · have e2:decide (((b.toNat:Nat):Int)≤122)=true:=decide_eq_true (by omega);simp only[e2,go_sem];exact fin_eq rfl (by simp[isSm,h1,h2])
    · have e2:decide (((b.toNat:Nat):Int)≤122)=false:=decide_eq_false (by omega);have e3:decide ((65:Int)≤(b.toNat:Nat))=true:=decide_eq_true (by omega);have e4:decide (((b.toNat:Nat):Int)≤90)=false:=decide_eq_false (by omega);simp only[e2,e3,e4,go_sem];exact fin_eq rfl (by simp[isSm,isCap,h2];omega)
  · have e1:decide ((97:Int)≤(b.toNat:Nat))=false:=decide_eq_false (by omega);simp only[ge_iff_le,e1,go_sem];by_cases h2:65≤b.toNat
    · have e2:decide ((65:Int)≤(b.toNat:Nat))=true:=decide_eq_true (by omega);simp only[e2,go_sem];exact fin_eq rfl (by congr 1;rw[Bool.eq_iff_iff];simp[isSm,isCap];omega)
    · have e2:decide ((65:Int)≤(b.toNat:Nat))=false:=decide_eq_false (by omega);simp only[e2,go_sem];exact fin_eq rfl (by simp[isSm,isCap,h1,h2])
theorem c1442{b:UInt8}:Pure Gm 1442 [.int .u8 (b.toNat:Nat)] (.bool (isDig b)):=by
  refine Pure.intro [] [] g1442 (by kernel_rfl) rfl (by simp[AV.trees,AV.tree,go_sem]) rfl ?_;simp only[F1442,vparams,go_sem]
  first | (refine grd_split ?_ ?_<;>intro hc<;>simp only[hc,go_sem]) | (refine cnd_split ?_ ?_<;>intro hc<;>simp only[hc,go_sem])
  · exact fin_eq rfl (by first | (simp[isDig]at hc⊢;omega) | (simp only[decide_eq_true_eq,decide_eq_false_iff_not]at hc;congr 1;rw[Bool.eq_iff_iff];simp[isDig];omega))
  · exact fin_eq rfl (by first | (simp[isDig]at hc⊢;omega) | (simp only[decide_eq_true_eq,decide_eq_false_iff_not]at hc;congr 1;rw[Bool.eq_iff_iff];simp[isDig];omega))
theorem c1513:Pure Gm 1513 [] (.lst 1 (kws.map encS) false):=by
  refine Pure.intro [] [] g1513 (by kernel_rfl) rfl (by simp[AV.trees,AV.tree,go_sem]) rfl ?_;simp only[F1513,vparams,go_sem];rw[show fillAV _ _ _ _=some (kws.map encS)from rfl];simp only[go_sem];exact fin_cv (Cv.row rfl rfl rfl (by decide))
theorem c1441{v:Str}:Pure Gm 1441 [.str v] (.bool (isKw v)):=by
  refine Pure.intro [] [] g1441 (by kernel_rfl) rfl (by simp[AV.trees,AV.tree,go_sem]) rfl ?_;simp only[F1441,vparams,go_sem];have hk:isKw v=kws.any fun x=>v==x:=by simp only[isKw,List.contains_eq_any_beq]
  have h8:kws.length=8:=rfl;refine Sem.loop (fun i:Nat=>i≤kws.length∧(kws.any fun x=>v==x)=((kws.drop i).any fun x=>v==x)) (fun i=>(⟨[(0,.str v),(3,.int .i64 (i:Nat))],[],[]⟩:VSt)) (fun i=>kws.length-i) 0 (by kernel_rfl) ⟨Nat.zero_le _,rfl⟩ (Can.sub (by simp[go_sem]) (by simp[go_sem])) ?_;rintro i ⟨hi,hI⟩;simp only[go_sem];refine call_pure c1513 ?_;simp only[go_sem];by_cases hlt:i<kws.length
  · have e1:decide ((i:Int)<kws.length)=true:=decide_eq_true (by omega);simp only[e1,go_sem];refine call_pure c1513 ?_;simp only[go_sem];simp only[List.getElem?_map,List.getElem?_eq_getElem hlt,Option.map_some,shS.part,encS,go_sem];have hd:kws.drop i=kws[i]::kws.drop (i+1):=by simp
    rw[hd,List.any_cons]at hI;by_cases he:kws[i]=v
    · simp only[decide_eq_true he,go_sem];refine fin_eq rfl ?_;rw[hk,hI,he];simp
    · simp only[decide_eq_false he,go_sem];simp only[wrap_succ (show i<4611686018427387904 by omega)];refine loopQ_nrm (i+1) ⟨by omega, ?_⟩ (by omega) (Can.sub (by simp[go_sem]) (by simp[go_sem]));rw[hI,show (v==kws[i])=false from by simpa using fun q=>he q.symm,Bool.false_or]
  · have e1:decide ((i:Int)<kws.length)=false:=decide_eq_false (by omega);obtain rfl:i=kws.length:=by omega
    simp only[e1,go_sem];refine fin_eq rfl ?_;rw[hk,hI];simp
theorem c1241{v:Str}(hl:v.length≤4611686018427387904):Pure Gm 1241 [.str v] (.bool (isName v)):=by
  refine Pure.intro [] [] g1241 (by kernel_rfl) rfl (by simp[AV.trees,AV.tree,go_sem]) rfl ?_;simp only[F1241,vparams,go_sem];by_cases h0:v.length<1
  · have e0:decide ((v.length:Int)<1)=true:=decide_eq_true (by omega);simp only[e0,go_sem];exact fin_eq rfl (by have:v=[]:=List.length_eq_zero_iff.1 (by omega);subst this;rfl)
  have e0:decide ((v.length:Int)<1)=false:=decide_eq_false (by omega);simp only[e0,go_sem];obtain⟨c,r,hv⟩:∃c r,v=c::r:=by cases v with
    | nil=>simp at h0
    | cons c r=>exact⟨c,r,rfl⟩
  by_cases h12:v.length≤12
  case neg=>
    have e1:decide ((v.length:Int)>12)=true:=decide_eq_true (by omega);simp only[gt_iff_lt]at e1;simp only[e1,go_sem];exact fin_eq rfl (by subst hv;simp only[isName,decide_eq_false h12,Bool.false_and])
  have e1:decide ((v.length:Int)>12)=false:=decide_eq_false (by omega);simp only[gt_iff_lt]at e1;have eh:v[0]?=some c:=by rw[hv];rfl
  simp only[e1,go_sem,eh,Option.map_some];refine call_pure c1440 ?_;simp only[go_sem];cases hd:(isSm c || isCap c)
  case false=>
    simp only[Bool.not_false];simp only[go_sem];refine fin_eq rfl ?_;subst hv;have:isName (c::r)=false:=by
      simp only[isName,List.all_cons,isWB];rw[Bool.or_eq_false_iff]at hd;simp only[hd.1,hd.2,Bool.false_or];cases isDig c<;>simp
    rw[this]
  simp only[Bool.not_true];simp only[go_sem];have hdd:isDig c=false:=by
    rw[Bool.or_eq_true]at hd;rcases hd with hd | hd<;>simp[isSm,isCap,isDig]at hd⊢<;>omega
  refine call_pure c1441 ?_;simp only[go_sem];cases hk:isKw v
  case true=>
    simp only[go_sem];exact fin_eq rfl (by subst hv;simp[isName,hk])
  simp only[go_sem];have hn:isName v=v.all isWB:=by subst hv;simp only[isName,hdd,hk,decide_eq_true h12,Bool.not_false,Bool.true_and]
  refine Sem.loop (fun i:Nat=>i≤v.length∧v.all isWB=(v.drop i).all isWB) (fun i=>(⟨[(0,.str v),(3,.int .i64 (i:Nat))],[],[]⟩:VSt)) (fun i=>v.length-i) 0 (by kernel_rfl) ⟨Nat.zero_le _,rfl⟩ (Can.sub (by simp[go_sem]) (by simp[go_sem])) ?_;rintro i ⟨hi,hI⟩;simp only[go_sem];refine cnd_split ?_ ?_<;>intro hc<;>simp only[hc,go_sem]
  · have hlt:i<v.length:=by have:=of_decide_eq_true hc;omega
    have hq:v.drop i=v[i]::v.drop (i+1):=by simp
    rw[hq,List.all_cons]at hI;simp only[List.getElem?_eq_getElem hlt,Option.map_some];simp only[go_sem];refine call_pure c1440 ?_;simp only[go_sem];cases hw:(isSm v[i] || isCap v[i])
    · simp only[Bool.not_false];simp only[go_sem];simp only[List.getElem?_eq_getElem hlt,Option.map_some];simp only[go_sem];refine call_pure c1442 ?_;simp only[go_sem];have hw2:isWB v[i]=isDig v[i]:=by rw[Bool.or_eq_false_iff]at hw;simp[isWB,hw.1,hw.2]
      cases hw3:isDig v[i]
      · simp only[Bool.not_false];simp only[go_sem];refine fin_eq rfl ?_;rw[hn,hI,hw2,hw3,Bool.false_and]
      · simp only[Bool.not_true];simp only[go_sem];simp only[wrap_succ (show i<4611686018427387904 by omega)];refine loopQ_nrm (i+1) ⟨by omega, ?_⟩ (by omega) (Can.sub (by simp[go_sem]) (by simp[go_sem]));rw[hI,hw2,hw3,Bool.true_and]
    · simp only[Bool.not_true];simp only[go_sem];have hw2:isWB v[i]=true:=by rw[Bool.or_eq_true]at hw;simp only[isWB];rcases hw with hw | hw<;>simp[hw]
      simp only[wrap_succ (show i<4611686018427387904 by omega)];refine loopQ_nrm (i+1) ⟨by omega, ?_⟩ (by omega) (Can.sub (by simp[go_sem]) (by simp[go_sem]));rw[hI,hw2,Bool.true_and]
  · obtain rfl:i=v.length:=by have:=of_decide_eq_false hc;omega
    refine fin_eq rfl ?_;rw[hn,hI];simp
theorem isName_head{c:UInt8}{r:Str}(h:isName (c::r)=true):isSm c=true∨isCap c=true:=by
  simp only[isName,List.all_cons,isWB,Bool.and_eq_true,Bool.or_eq_true,Bool.not_eq_true']at h;obtain⟨_,h1,_,h2,_⟩:=h;rcases h2 with h2 | h2 | h2
  · exact .inl h2
  · exact .inr h2
  · rw[h1]at h2;cases h2
theorem c921{v:Str}(hl:v.length≤4611686018427387904):Pure Gm 921 [.str v] (.bool (isUp v)):=by
  refine Pure.intro [] [] g921 (by kernel_rfl) rfl (by simp[AV.trees,AV.tree,go_sem]) rfl ?_;simp only[F921,vparams,go_sem];refine call_pure (c1241 hl) ?_;simp only[go_sem];cases hn:isName v
  · simp only[go_sem];exact fin_eq rfl (by simp[isUp,hn])
  · cases v with
    | nil=>cases hn
    | cons c r=>
    have hh:=isName_head hn;simp only[List.getElem?_cons_zero,Option.map_some,go_sem];exact fin_eq rfl (by simp only[isUp,hn,List.headD_cons,Bool.true_and];congr 1;rw[Bool.eq_iff_iff];simp[isSm,isCap]at hh⊢;omega)
theorem c1237{v:Str}(hl:v.length≤4611686018427387904):Pure Gm 1237 [.str v] (.bool (isLo v)):=by
  refine Pure.intro [] [] g1237 (by kernel_rfl) rfl (by simp[AV.trees,AV.tree,go_sem]) rfl ?_;simp only[F1237,vparams,go_sem];refine call_pure (c1241 hl) ?_;simp only[go_sem];cases hn:isName v
  · simp only[go_sem];exact fin_eq rfl (by simp[isLo,hn])
  · cases v with
    | nil=>cases hn
    | cons c r=>
    have hh:=isName_head hn;simp only[List.getElem?_cons_zero,Option.map_some,go_sem];exact fin_eq rfl (by simp only[isLo,hn,List.headD_cons,Bool.true_and];congr 1;rw[Bool.eq_iff_iff];simp[isSm,isCap]at hh⊢;omega)
theorem c1393{b:UInt8}:Pure Gm 1393 [.int .u8 (b.toNat:Nat)] (.bool (decide (0≤Lib.indexByte blanks (b.toNat:Nat).toUInt8))):=by
  refine Pure.intro [] [] g1393 (by kernel_rfl) rfl (by simp[AV.trees,AV.tree,go_sem]) rfl ?_;simp only[F1393,vparams,go_sem];have hb:(b.toNat:Nat).toUInt8=b:=by simp
  rw[hb];by_cases h1:b=32
  · subst h1;have e1:decide ((((32:UInt8).toNat:Nat):Int)=32)=true:=rfl;simp only[e1,go_sem];exact fin_eq rfl rfl
  by_cases h2:b=10
  · subst h2;have e1:decide ((((10:UInt8).toNat:Nat):Int)=32)=false:=rfl;have e2:decide ((((10:UInt8).toNat:Nat):Int)=10)=true:=rfl;simp only[e1,e2,go_sem];exact fin_eq rfl rfl
  by_cases h3:b=9
  · subst h3;have e1:decide ((((9:UInt8).toNat:Nat):Int)=32)=false:=rfl;have e2:decide ((((9:UInt8).toNat:Nat):Int)=10)=false:=rfl;have e3:decide ((((9:UInt8).toNat:Nat):Int)=9)=true:=rfl;simp only[e1,e2,e3,go_sem];exact fin_eq rfl rfl
  have hne:∀c:UInt8,¬b=c→decide (((b.toNat:Nat):Int)=(c.toNat:Nat))=false:=fun c hc=>decide_eq_false fun q=>hc (UInt8.toNat_inj.1 (by omega));have e1:decide (((b.toNat:Nat):Int)=32)=false:=hne 32 h1;have e2:decide (((b.toNat:Nat):Int)=10)=false:=hne 10 h2;have e3:decide (((b.toNat:Nat):Int)=9)=false:=hne 9 h3;simp only[e1,e2,e3,go_sem];exact fin_eq rfl (by simp[Lib.indexByte,blanks,Ne.symm h1,Ne.symm h2,Ne.symm h3])
theorem c1496{t:Str}{i:Nat}(hi:i≤t.length)(hl:t.length≤20000):Pure Gm 1496 [.str t,.int .i64 (i:Nat)] (.int .i64 ((i+(wordAt t i).length:Nat):Int)):=by
  refine Pure.intro [] [] g1496 (by kernel_rfl) rfl (by simp[AV.trees,AV.tree,go_sem]) rfl ?_;simp only[F1496,vparams,go_sem];refine Sem.loop (fun k:Nat=>k≤(wordAt t i).length) (fun k=>(⟨[(0,.str t),(1,.int .i64 ((i+k:Nat):Int))],[],[]⟩:VSt)) (fun k=>(wordAt t i).length-k) 0 (by kernel_rfl) (Nat.zero_le _) (Can.sub (by simp[go_sem]) (by simp[go_sem])) ?_;intro k hk;have ws:=word_step hk;simp only[go_sem];by_cases hlt:i+k<t.length
  case neg=>
    have e:decide (((i+k:Nat):Int)<t.length)=false:=decide_eq_false (by omega);simp only[e,go_sem];have:k=(wordAt t i).length:=by have:=word_le (t:=t) (i:=i) hi;omega
    exact fin_eq rfl (by rw[this])
  have e:decide (((i+k:Nat):Int)<t.length)=true:=decide_eq_true (by omega);simp only[e,List.getElem?_eq_getElem hlt,Option.map_some,go_sem];refine call_pure c1440 ?_;simp only[go_sem];have go:isWB t[i+k]=true→k<(wordAt t i).length:=fun q=>ws.1 ⟨_,List.getElem?_eq_getElem hlt,q⟩;have no:isWB t[i+k]=false→k=(wordAt t i).length:=fun q=>by
    have:¬k<(wordAt t i).length:=fun q2=>by
      obtain⟨c,e1,e2⟩:=ws.2 q2;rw[List.getElem?_eq_getElem hlt]at e1;cases e1;rw[q]at e2;cases e2
    omega
  cases hw:(isSm t[i+k] || isCap t[i+k])
  · simp only[List.getElem?_eq_getElem hlt,Option.map_some,go_sem];refine call_pure c1442 ?_;simp only[go_sem];have hw2:isWB t[i+k]=isDig t[i+k]:=by rw[Bool.or_eq_false_iff]at hw;simp[isWB,hw.1,hw.2]
    cases hw3:isDig t[i+k]
    · simp only[go_sem];exact fin_eq rfl (by rw[←no (by rw[hw2,hw3])])
    · simp only[go_sem];have h1:=go (by rw[hw2,hw3]);simp only[wrap_succ (show i+k<4611686018427387904 by omega)];exact loopQ_nrm (k+1) h1 (by omega) (Can.sub (by simp[go_sem,Nat.add_assoc]) (by simp[go_sem]))
  · simp only[go_sem];have h1:=go (by rw[Bool.or_eq_true]at hw;simp only[isWB];rcases hw with hw | hw<;>simp[hw]);simp only[wrap_succ (show i+k<4611686018427387904 by omega)];exact loopQ_nrm (k+1) h1 (by omega) (Can.sub (by simp[go_sem,Nat.add_assoc]) (by simp[go_sem]))
end Go.Ab
namespace Go.Ab
open Go
def numF(a:Nat)(s:Str):Nat:=s.foldl (fun a c=>10*a+(c.toNat-48)) a
def numV(s:Str):Nat:=numF 0 s
def numS(s:Str):Bool:=decide (s.length≤10)&&(!(decide (1<s.length)&&decide (s.headD 0=48))&&(s.all isDig&&decide (numV s≤2147483648)))
theorem numF_nil{a:Nat}:numF a []=a:=by unfold numF;rw[List.foldl_nil]
theorem numF_cons{a:Nat}{c:UInt8}{s:Str}:numF a (c::s)=numF (10*a+(c.toNat-48)) s:=by unfold numF;rw[List.foldl_cons]
theorem numF_app{s r:Str}{a:Nat}:numF a (s++r)=numF (numF a s) r:=List.foldl_append ..
theorem numF_le{s:Str}:∀{a:Nat},a≤numF a s:=by
  induction s with
  | nil=>intro a;exact Nat.le_refl _
  | cons c s ih=>intro a;rw[numF_cons];exact Nat.le_trans (by omega) ih
theorem dig_iff{c:UInt8}:isDig c=true↔48≤c.toNat∧c.toNat≤57:=by simp[isDig]
theorem numF_lt:∀{s:Str}{a k:Nat},s.all isDig=true→a<10^k→numF a s<10^(k+s.length)
  |[],a,k,_,h=>by rw[numF_nil];exact h
  | c::s,a,k,hd,h=>by
    simp only[List.all_cons,Bool.and_eq_true]at hd;rw[numF_cons,show k+(c::s).length=(k+1)+s.length by simp;omega];have:=dig_iff.1 hd.1;exact numF_lt hd.2 (by rw[Nat.pow_succ];omega)
theorem numV_lt{s:Str}(hd:s.all isDig=true):numV s<10^s.length:=by
  have:=numF_lt (k:=0) (a:=0) hd (by decide);rwa[Nat.zero_add]at this
theorem parseU{M:Nat}(hM:M=2^64-1):∀{s:Str}{a:Nat},s.all isDig=true→numF a s≤9000000000000000000→Lib.parseUintM M a s=.ok (numF a s)
  |[],a,_,_=>by rw[numF_nil];rfl
  | c::s,a,hd,h=>by
    simp only[List.all_cons,Bool.and_eq_true]at hd;have h1:=dig_iff.1 hd.1;rw[numF_cons]at h⊢;have h2:=numF_le (s:=s) (a:=10*a+(c.toNat-48));rw[Lib.parseUintM,if_pos h1,if_neg (by omega),if_neg (by subst hM;omega),show a*10+(c.toNat-48)=10*a+(c.toNat-48) by omega];exact parseU hM hd.2 h
theorem parseI{s:Str}(hn:s≠[])(hd:s.all isDig=true)(h:numV s≤9000000000000000000):Lib.parseIntB 64 s=.ok (numV s:Int):=by
  cases s with
  | nil=>exact absurd rfl hn
  | cons c r=>
    have h1:=dig_iff.1 (by simp only[List.all_cons,Bool.and_eq_true]at hd;exact hd.1);unfold Lib.parseIntB;simp only;rw[if_neg (by omega),Lib.parseUintB,if_neg (by simp),parseU rfl hd h];simp only;rw[if_neg (by intro q;have:=q.2;change numV (c::r)≤_ at h;unfold numV at h;omega),if_neg (by omega),if_neg (by omega)];rfl
theorem dec_small{u:Nat}(h:u<10):Lib.decDigits u=[UInt8.ofNat (48+u)]:=by rw[Lib.decDigits,dif_pos h]
theorem dec_big{u:Nat}(h:¬u<10):Lib.decDigits u=Lib.decDigits (u/10)++[UInt8.ofNat (48+u%10)]:=by rw[Lib.decDigits,dif_neg h]
theorem ofN{d:Nat}(h:d<10):(UInt8.ofNat (48+d)).toNat=48+d:=by
  rw[UInt8.toNat_ofNat'];omega
theorem dec_facts:∀u:Nat,(Lib.decDigits u).all isDig=true∧numV (Lib.decDigits u)=u∧Lib.decDigits u≠[]∧(1<(Lib.decDigits u).length→(Lib.decDigits u).headD 0≠48)∧(0<u→(Lib.decDigits u).headD 0≠48):=by
  intro u
  induction u using Nat.strongRecOn with
  | _ u ih=>
  by_cases h:u<10
  · rw[dec_small h];have hu:=ofN h;refine⟨by simp only[List.all_cons,List.all_nil,Bool.and_true];rw[dig_iff,hu];omega,by simp only[numV,numF_cons,numF_nil,hu];omega,by simp,by simp,fun h0 q=> ?_⟩;simp only[List.headD_cons]at q;rw[q]at hu;have:(48:UInt8).toNat=48:=rfl;omega
  · rw[dec_big h];obtain⟨i1,i2,i3,i4,i5⟩:=ih (u/10) (by omega);have hu:=ofN (d:=u%10) (by omega);obtain⟨c,r,e⟩:∃c r,Lib.decDigits (u/10)=c::r:=by
      cases hq:Lib.decDigits (u/10)with
      | nil=>exact absurd hq i3
      | cons c r=>exact⟨c,r,rfl⟩
    have h5:=i5 (by omega);refine⟨?_, ?_,by simp,fun _=> ?_,fun _=> ?_⟩
    · rw[List.all_append,i1];simp only[List.all_cons,List.all_nil,Bool.and_true,Bool.true_and];rw[dig_iff,hu];omega
    · unfold numV at i2⊢;rw[numF_app,i2,numF_cons,numF_nil,hu];omega
    · rw[e]at h5⊢;exact h5
    · rw[e]at h5⊢;exact h5
theorem dec_uniq:∀(n:Nat){s:Str},s.length=n→s≠[]→s.all isDig=true→(1<s.length→s.headD 0≠48)→Lib.decDigits (numV s)=s:=by
  intro n
  induction n using Nat.strongRecOn with
  | _ n ih=>
  intro s hl hn hd h0;obtain⟨l,c,rfl⟩:∃l c,s=l++[c]:=⟨s.dropLast,s.getLast hn,(List.dropLast_concat_getLast hn).symm⟩;rw[List.all_append,Bool.and_eq_true]at hd;have hc:=dig_iff.1 (by simpa using hd.2);have e:numV (l++[c])=10*numV l+(c.toNat-48):=by unfold numV;rw[numF_app,numF_cons,numF_nil]
  have ec:UInt8.ofNat (48+(c.toNat-48))=c:=by
    apply UInt8.toNat_inj.1;rw[ofN (by omega)];omega
  rw[e];cases l with
  | nil=>
    simp only[numV,numF_nil,List.nil_append];rw[dec_small (by omega),show 48+(10*0+(c.toNat-48))=48+(c.toNat-48) by omega,ec]
  | cons x r=>
    have hx:=h0 (by simp);simp only[List.cons_append,List.headD_cons]at hx;have hxd:=dig_iff.1 (by have:=hd.1;simp only[List.all_cons,Bool.and_eq_true]at this;exact this.1);have hpos:1≤numV (x::r):=by
      unfold numV;rw[numF_cons];refine Nat.le_trans ?_ (numF_le (s:=r));have:x.toNat≠48:=fun q=>hx (UInt8.toNat_inj.1 q);omega
    have hi:=ih (x::r).length (by rw[←hl];simp) rfl (by simp) hd.1 (fun _=>by simpa using hx);rw[dec_big (by omega),show (10*numV (x::r)+(c.toNat-48))/10=numV (x::r) by omega,hi,show (10*numV (x::r)+(c.toNat-48))%10=c.toNat-48 by omega,ec]
theorem dec_len{u:Nat}(h:u≤2147483648):(Lib.decDigits u).length≤10:=by
  rcases Nat.lt_or_ge 10 (Lib.decDigits u).length with q | q
  · exfalso;obtain⟨h1,h2,h3,h4,_⟩:=dec_facts u;obtain⟨c,r,e⟩:∃c r,Lib.decDigits u=c::r:=by
      cases hq:Lib.decDigits u with
      | nil=>exact absurd hq h3
      | cons c r=>exact⟨c,r,rfl⟩
    have h5:=h4 (by omega);rw[e]at h1 h2 h5 q;simp only[List.headD_cons]at h5;have hd:=h1;simp only[List.all_cons,Bool.and_eq_true]at hd;have hxd:=dig_iff.1 hd.1;have:c.toNat≠48:=fun q=>h5 (UInt8.toNat_inj.1 q);have low:∀(s:Str)(a:Nat),a*10^s.length≤numF a s:=fun s=>by
      induction s with
      | nil=>intro a;simp[numF_nil]
      | cons y s ihs=>
        intro a;rw[numF_cons];refine Nat.le_trans ?_ (ihs _);rw[List.length_cons,Nat.pow_succ,Nat.mul_comm (10^s.length) 10,←Nat.mul_assoc];exact Nat.mul_le_mul_right _ (by omega)
    have hb:=low r (10*0+(c.toNat-48));have hb2:10^10≤10^r.length:=Nat.pow_le_pow_right (by decide) (by simp at q;omega);have hb3:1*10^r.length≤(10*0+(c.toNat-48))*10^r.length:=Nat.mul_le_mul_right _ (by omega);have e2:numV (c::r)=numF (10*0+(c.toNat-48)) r:=by unfold numV;rw[numF_cons]
    rw[e2]at h2;have:(10:Nat)^10=10000000000:=by decide
    omega
  · exact q
theorem numS_eq{s:Str}(hn:s≠[]):numS s=(decide (s=max31) || plainN s):=by
  rw[Bool.eq_iff_iff];constructor
  · intro h;simp only[numS,Bool.and_eq_true,decide_eq_true_eq,Bool.not_eq_true',Bool.and_eq_false_iff,decide_eq_false_iff_not]at h;obtain⟨h1,h2,h3,h4⟩:=h;have hu:=dec_uniq _ rfl hn h3 (fun q=>by rcases h2 with h2 | h2;exact absurd q h2;exact h2);by_cases e:numV s=2147483648
    · rw[e]at hu;have:Lib.decDigits 2147483648=max31:=by
        repeat rw[dec_big (by decide)]
        rw[dec_small (by decide)];rfl
      rw[this]at hu;simp[←hu]
    · have hp:=parseI hn h3 (by omega);have hi:Lib.itoa (numV s:Int)=s:=by
        unfold Lib.itoa;rw[if_neg (by omega),Int.toNat_natCast];exact hu
      have hr:readD s=some (numV s:Int):=by
        unfold readD;rw[hp];simp only;rw[if_pos ⟨⟨by omega,by omega⟩,hi⟩]
      simp[plainN,hr]
  · intro h;have key:∀u:Nat,u≤2147483648→numS (Lib.decDigits u)=true:=fun u hu=>by
      obtain⟨d1,d2,d3,d4,_⟩:=dec_facts u;have d5:=dec_len hu;simp only[numS,Bool.and_eq_true,decide_eq_true_eq,Bool.not_eq_true',Bool.and_eq_false_iff,decide_eq_false_iff_not];refine⟨d5, ?_,d1,by omega⟩;by_cases q:1<(Lib.decDigits u).length
      · exact .inr (d4 q)
      · exact .inl q
    rw[Bool.or_eq_true]at h;rcases h with h | h
    · have e:=of_decide_eq_true h;subst e;decide
    · unfold plainN at h;split at h
      · rename_i n hr;have h0:=of_decide_eq_true h;unfold readD at hr;split at hr
        · split at hr
          · rename_i hq;cases hr;obtain⟨⟨q1,q2⟩,q3⟩:=hq;unfold Lib.itoa at q3;rw[if_neg (by omega)]at q3;rw[←q3];exact key _ (by omega)
          · cases hr
        · cases hr
      · cases h
end Go.Ab
namespace Go.Ab
open Go
set_option maxRecDepth 10000
set_option maxHeartbeats 2000000
theorem idx_any:∀{l:Str}{c:UInt8},decide (0≤Lib.indexByte l c)=l.any fun x=>x==c
  |[],c=>by simp[Lib.indexByte]
  | b::l,c=>by
    have ih:=idx_any (l:=l) (c:=c);have hg:=Lib.indexByte_ge l c;unfold Lib.indexByte;rw[List.any_cons,←ih];by_cases h:(b==c)=true
    · rw[if_pos h,h];simp
    · rw[if_neg h];have h':(b==c)=false:=by simpa using h
      rw[h',Bool.false_or];split
      · rename_i q;have q':Lib.indexByte l c= -1:=by simpa using q
        simp[q']
      · rename_i q;have q':Lib.indexByte l c≠-1:=by simpa using q
        rw[decide_eq_decide];omega
theorem numS_letter{s:Str}(h:numS s=true):s.all isDig=true:=by
  simp only[numS,Bool.and_eq_true]at h;exact h.2.2.1
theorem isName_notdig{s:Str}(h:isName s=true):numS s=false:=by
  cases s with
  | nil=>cases h
  | cons c r=>
    rw[←Bool.not_eq_true];intro q;have:=numS_letter q;simp only[List.all_cons,Bool.and_eq_true]at this;simp only[isName,Bool.and_eq_true,Bool.not_eq_true']at h;rw[h.2.1]at this;cases this.1
theorem isKw_facts{s:Str}(h:isKw s=true):isLo s=false∧isUp s=false∧numS s=false:=by
  have hn:isName s=false:=by
    cases s with
    | nil=>rfl
    | cons c r=>simp only[isName,h,Bool.not_true,Bool.false_and,Bool.and_false]
  refine⟨by simp[isLo,hn],by simp[isUp,hn], ?_⟩;have:s∈kws:=by simpa[isKw]using h
  simp only[kws,List.mem_cons,List.not_mem_nil,or_false]at this;rcases this with rfl | rfl | rfl | rfl | rfl | rfl | rfl | rfl<;>decide
theorem isLo_facts{s:Str}(h:isLo s=true):isUp s=false∧numS s=false:=by
  simp only[isLo,Bool.and_eq_true]at h;refine⟨?_,isName_notdig h.1⟩;simp only[isUp,Bool.and_eq_false_iff];right;have:=h.2;simp[isSm]at this;simp[isCap];omega
theorem isUp_facts{s:Str}(h:isUp s=true):numS s=false:=by
  simp only[isUp,Bool.and_eq_true]at h;exact isName_notdig h.1
def tokS(t:Str)(i:Nat):GTok:=if (tokEnd t i).1=0 then(if 0<(wordAt t i).length then⟨0,wordAt t i,i⟩else⟨0,[],0⟩)else tokAt t i
theorem c1497{s:Str}(hs:s≠[])(hl:s.length≤20000):Pure Gm 1497 [.str s] (.bool (numS s)):=by
  refine Pure.intro [] [] g1497 (by kernel_rfl) rfl (by simp[AV.trees,AV.tree,go_sem]) rfl ?_;simp only[F1497,vparams,go_sem];obtain⟨c,r,hv⟩:∃c r,s=c::r:=by cases s with
    | nil=>exact absurd rfl hs
    | cons c r=>exact⟨c,r,rfl⟩
  have eh:s[0]?=some c:=by rw[hv];rfl
  have ehd:s.headD 0=c:=by rw[hv];rfl
  have h1:1≤s.length:=by rw[hv];simp
  by_cases h10:s.length≤10
  case neg=>
    have e0:decide ((10:Int)<(s.length:Nat))=true:=decide_eq_true (by omega);simp only[e0,go_sem];exact fin_eq rfl (by simp[numS,h10])
  have e0:decide ((10:Int)<(s.length:Nat))=false:=decide_eq_false (by omega);simp only[e0,go_sem];have hz:(!(decide (1<s.length)&&decide (s.headD 0=48)))=true∨(1<s.length∧c=48):=by
    rw[ehd];by_cases q1:1<s.length
    · by_cases q2:c=48
      · exact .inr ⟨q1,q2⟩
      · left;simp[q2]
    · left;simp[q1]
  have fin0:(1<s.length∧c=48)→numS s=false:=fun q=>by
    rw[numS,ehd,decide_eq_true q.1,decide_eq_true q.2];simp
  by_cases q1:1<s.length
  case' pos=>
    have e1:decide ((1:Int)<(s.length:Nat))=true:=decide_eq_true (by omega);simp only[e1,eh,Option.map_some,go_sem];by_cases q2:c=48
    case pos=>
      have e2:decide (((c.toNat:Nat):Int)=48)=true:=by subst q2;rfl
      simp only[e2,go_sem];exact fin_eq rfl (by rw[fin0 ⟨q1,q2⟩])
    case' neg=>
      have e2:decide (((c.toNat:Nat):Int)=48)=false:=decide_eq_false fun q=>q2 (UInt8.toNat_inj.1 (by have:(48:UInt8).toNat=48:=rfl;omega));simp only[e2,go_sem]
  case' neg=>
    have e1:decide ((1:Int)<(s.length:Nat))=false:=decide_eq_false (by omega);simp only[e1,go_sem]
  all_goals
    have hz':(!(decide (1<s.length)&&decide (s.headD 0=48)))=true:=by
      rcases hz with q | q
      · exact q
      · first | exact absurd q.1 q1 | exact absurd q.2 q2
    have hn:numS s=(s.all isDig&&decide (numV s≤2147483648)):=by rw[numS,decide_eq_true h10,hz',Bool.true_and,Bool.true_and]
    refine Sem.loop (fun i:Nat=>i≤s.length∧(s.take i).all isDig=true) (fun i=>(⟨[(0,.str s),(3,.int .i64 (numV (s.take i):Nat)),(4,.int .i64 (i:Nat))],[],[]⟩:VSt)) (fun i=>s.length-i) 0 (by kernel_rfl) ⟨Nat.zero_le _,by simp⟩ (Can.sub (by simp[go_sem,numV,numF_nil]) (by simp[go_sem])) ?_;rintro i ⟨hi,hI⟩;simp only[go_sem];by_cases hlt:i<s.length
    · have e1:decide ((i:Int)<(s.length:Nat))=true:=decide_eq_true (by omega);simp only[e1,List.getElem?_eq_getElem hlt,Option.map_some,go_sem];refine call_pure c1442 ?_;simp only[go_sem];have et:s.take (i+1)=s.take i++[s[i]]:=by rw[List.take_add_one,List.getElem?_eq_getElem hlt];rfl
      cases hd:isDig s[i]
      · simp only[Bool.not_false,go_sem];refine fin_eq rfl ?_;have:s.all isDig=false:=by
          rw[←Bool.not_eq_true];intro q;rw[List.all_eq_true]at q;rw[q _ (List.getElem_mem hlt)]at hd;cases hd
        rw[hn,this,Bool.false_and]
      · simp only[Bool.not_true,List.getElem?_eq_getElem hlt,Option.map_some,go_sem];have hb:=dig_iff.1 hd;have hv:=numV_lt hI;have hp:10^(s.take i).length≤10^10:=Nat.pow_le_pow_right (by decide) (by simp;omega);have h10':(10:Nat)^10=10000000000:=by decide
        have w1:IntKind.u8.wrap (((s[i].toNat:Nat):Int)-48)=((s[i].toNat-48:Nat):Int):=by rw[IntWalk.u8_in _ ⟨by omega,by omega⟩];omega
        simp only[w1,wrap_small (n:=((s[i].toNat-48:Nat):Int)) (by omega) (by omega),wrap_small (n:=10*((numV (s.take i):Nat):Int)) (by omega) (by omega),wrap_small (n:=10*((numV (s.take i):Nat):Int)+((s[i].toNat-48:Nat):Int)) (by omega) (by omega),wrap_succ (show i<4611686018427387904 by omega)];have en:numV (s.take (i+1))=10*numV (s.take i)+(s[i].toNat-48):=by rw[et];unfold numV;rw[numF_app,numF_cons,numF_nil]
        have ee:10*((numV (s.take i):Nat):Int)+((s[i].toNat-48:Nat):Int)=((numV (s.take (i+1)):Nat):Int):=by rw[en];omega
        rw[ee];refine loopQ_nrm (i+1) ⟨by omega,by rw[et,List.all_append,hI];simp[hd]⟩ (by omega) ?_;exact Can.sub (by simp[go_sem]) (by simp[go_sem])
    · have e1:decide ((i:Int)<(s.length:Nat))=false:=decide_eq_false (by omega);obtain rfl:i=s.length:=by omega
      simp only[e1,go_sem];rw[List.take_length]at hI⊢;refine fin_eq rfl ?_;rw[hn,hI,Bool.true_and];congr 1;rw[decide_eq_decide];omega
theorem c1498{b:UInt8}:Pure Gm 1498 [.int .u8 (b.toNat:Nat)] (.bool (decide (0≤Lib.indexByte syms b))):=by
  refine Pure.intro [] [] g1498 (by kernel_rfl) rfl (by simp[AV.trees,AV.tree,go_sem]) rfl ?_;simp only[F1498,vparams,go_sem];have hk:decide (0≤Lib.indexByte syms b)=syms.any fun x=>x==b:=idx_any;have h8:syms.length=19:=rfl;have es:([43,45,42,47,60,61,40,41,91,93,123,125,44,59,58,46,124,33,92]:Str)=syms:=rfl;rw[es];refine Sem.loop (fun i:Nat=>i≤syms.length∧(syms.any fun x=>x==b)=((syms.drop i).any fun x=>x==b)) (fun i=>(⟨[(0,.int .u8 (b.toNat:Nat)),(3,.str syms),(4,.int .i64 (i:Nat))],[],[]⟩:VSt)) (fun i=>syms.length-i) 0 (by kernel_rfl) ⟨Nat.zero_le _,rfl⟩ (Can.sub (by simp[go_sem]) (by simp[go_sem])) ?_;rintro i ⟨hi,hI⟩;simp only[go_sem];by_cases hlt:i<syms.length
  · have e1:decide ((i:Int)<(syms.length:Nat))=true:=decide_eq_true (by omega);simp only[e1,List.getElem?_eq_getElem hlt,Option.map_some,go_sem];have hd:syms.drop i=syms[i]::syms.drop (i+1):=by simp
    rw[hd,List.any_cons]at hI;by_cases he:syms[i]=b
    · have e2:decide (((syms[i].toNat:Nat):Int)=(b.toNat:Nat))=true:=decide_eq_true (by rw[he]);simp only[e2,go_sem];refine fin_eq rfl ?_;rw[hk,hI,he];simp
    · have e2:decide (((syms[i].toNat:Nat):Int)=(b.toNat:Nat))=false:=decide_eq_false fun q=>he (UInt8.toNat_inj.1 (by omega));simp only[e2,go_sem];simp only[wrap_succ (show i<4611686018427387904 by omega)];refine loopQ_nrm (i+1) ⟨by omega, ?_⟩ (by omega) (Can.sub (by simp[go_sem]) (by simp[go_sem]));rw[hI,show (syms[i]==b)=false from by simpa using he,Bool.false_or]
  · have e1:decide ((i:Int)<(syms.length:Nat))=false:=decide_eq_false (by omega);obtain rfl:i=syms.length:=by omega
    simp only[e1,go_sem];refine fin_eq rfl ?_;rw[hk,hI];simp
end Go.Ab
namespace Go.Ab
open Go
set_option maxRecDepth 10000
set_option maxHeartbeats 2000000
theorem word_pos{t:Str}{i:Nat}(hi:i<t.length):isWB t[i]=decide (0<(wordAt t i).length):=by
  have:=word_step (t:=t) (i:=i) (k:=0) (Nat.zero_le _);rw[Nat.add_zero]at this;rw[Bool.eq_iff_iff,decide_eq_true_eq,←this];constructor
  · intro q;exact⟨_,List.getElem?_eq_getElem hi,q⟩
  · rintro⟨c,e1,e2⟩;rw[List.getElem?_eq_getElem hi]at e1;cases e1;exact e2
theorem tokEnd_word{t:Str}{i:Nat}(h:0<(wordAt t i).length):tokEnd t i=if isKw (wordAt t i)then(3,i+(wordAt t i).length)else if isLo (wordAt t i)then(1,i+(wordAt t i).length)else if isUp (wordAt t i)then(2,i+(wordAt t i).length)else if numS (wordAt t i)then(4,i+(wordAt t i).length)else(0,i):=by
  rw[numS_eq (fun q=>by rw[q]at h;simp at h)];unfold tokEnd;rw[if_pos h]
theorem tokS_word{t:Str}{i:Nat}(h:0<(wordAt t i).length):tokS t i=⟨(tokEnd t i).1,wordAt t i,i⟩:=by
  unfold tokS tokAt;rw[if_pos h];have e:=tokEnd_word h;split
  · rename_i q;rw[q]
  · rename_i q;have:(tokEnd t i).2=i+(wordAt t i).length:=by
      rw[e]at q⊢
      repeat' split
      all_goals first | rfl | (simp_all;done)
    rw[this,Nat.add_sub_cancel_left,word_take]
theorem tokEnd_sym{t:Str}{i:Nat}(hi:i<t.length)(h:¬0<(wordAt t i).length):tokEnd t i=if pfx [45,62] (t.drop i)then(5,i+2)else if 0≤Lib.indexByte syms t[i]then(5,i+1)else(0,i):=by
  have eg:t.getD i 0=t[i]:=by simp[List.getD,List.getElem?_eq_getElem hi]
  unfold tokEnd;rw[if_neg h,eg];simp
theorem pfx_two{t:Str}{i:Nat}(hi:i<t.length):pfx [45,62] (t.drop i)=(decide (t[i]=45)&&(match t[i+1]? with | some c=>decide (c=62) | none=>false)):=by
  have e:t.drop i=t[i]::t.drop (i+1):=by simp
  unfold pfx;rw[e];by_cases h1:i+1<t.length
  · have e1:t.drop (i+1)=t[i+1]::t.drop (i+2):=by simp
    rw[e1,List.getElem?_eq_getElem h1];generalize t.drop (i+2)=r;simp
  · have e1:t.drop (i+1)=[]:=List.drop_eq_nil_of_le (by omega);rw[e1,List.getElem?_eq_none (by omega)];simp
theorem c1394{t:Str}{i:Nat}(hi:i<t.length)(hl:t.length≤20000):Pure Gm 1394 [.str t,.int .i64 (i:Nat)] ((tokS t i).enc):=by
  refine Pure.intro [] [] g1394 (by kernel_rfl) rfl (by simp[AV.trees,AV.tree,go_sem]) (by simp[go_sem]) ?_;simp only[F1394,vparams,go_sem];have wl:=word_le (t:=t) (i:=i) (by omega);have wp:=word_pos hi;simp only[List.getElem?_eq_getElem hi,Option.map_some,go_sem];refine call_pure c1440 ?_;simp only[go_sem];have hw:isWB t[i]=((isSm t[i] || isCap t[i]) || isDig t[i]):=by simp[isWB,Bool.or_assoc]
  by_cases hp:0<(wordAt t i).length
  · rw[decide_eq_true hp]at wp;rw[wp]at hw;have er:=tokS_word hp;have ee:=tokEnd_word hp;have hne:wordAt t i≠[]:=fun q=>by rw[q]at hp;simp at hp
    cases hq:(isSm t[i] || isCap t[i])
    case' false=>
      rw[hq,Bool.false_or]at hw;simp only[go_sem];refine call_pure c1442 ?_;simp only[go_sem];simp only[←hw,go_sem]
    case' true=>
      simp only[go_sem]
    all_goals
      refine call_pure (c1496 (by omega) hl) ?_;simp only[go_sem];refine put_v (sslc_lh rfl rfl rfl (by omega) (by omega)) ?_;rw[Nat.add_sub_cancel_left,word_take];simp only[go_sem];refine lst_all rfl rfl ⟨_,rfl⟩ (by decide) ?_;simp only[go_sem];refine call_pure c1441 ?_;simp only[go_sem];cases k1:isKw (wordAt t i)
      case' true=>
        obtain⟨f1,f2,f3⟩:=isKw_facts k1;simp only[go_sem];refine call_pure (c1237 (by omega)) ?_;simp only[f1,go_sem];refine call_pure (c921 (by omega)) ?_;simp only[f2,go_sem];refine call_pure (c1497 hne (by omega)) ?_;simp only[f3,go_sem];refine lst_all rfl rfl ⟨_,rfl⟩ (by decide) ?_;simp only[go_sem];exact fin_eq rfl (by rw[er,ee,k1];rfl)
      case' false=>
        simp only[go_sem];refine call_pure (c1237 (by omega)) ?_;simp only[go_sem];cases k2:isLo (wordAt t i)
        case' true=>
          obtain⟨f2,f3⟩:=isLo_facts k2;simp only[go_sem];refine call_pure (c921 (by omega)) ?_;simp only[f2,go_sem];refine call_pure (c1497 hne (by omega)) ?_;simp only[f3,go_sem];refine lst_all rfl rfl ⟨_,rfl⟩ (by decide) ?_;simp only[go_sem];exact fin_eq rfl (by rw[er,ee,k1,k2];rfl)
        case' false=>
          simp only[go_sem];refine call_pure (c921 (by omega)) ?_;simp only[go_sem];cases k3:isUp (wordAt t i)
          case' true=>
            have f3:=isUp_facts k3;simp only[go_sem];refine call_pure (c1497 hne (by omega)) ?_;simp only[f3,go_sem];refine lst_all rfl rfl ⟨_,rfl⟩ (by decide) ?_;simp only[go_sem];exact fin_eq rfl (by rw[er,ee,k1,k2,k3];rfl)
          case' false=>
            simp only[go_sem];refine call_pure (c1497 hne (by omega)) ?_;simp only[go_sem];cases k4:numS (wordAt t i)
            case' true=>
              simp only[go_sem];refine lst_all rfl rfl ⟨_,rfl⟩ (by decide) ?_;simp only[go_sem];exact fin_eq rfl (by rw[er,ee,k1,k2,k3,k4];rfl)
            case' false=>
              simp only[go_sem];refine lst_all rfl rfl ⟨_,rfl⟩ (by decide) ?_;simp only[go_sem];exact fin_eq rfl (by rw[er,ee,k1,k2,k3,k4];rfl)
  · rw[decide_eq_false hp]at wp;rw[wp]at hw;have hw1:(isSm t[i] || isCap t[i])=false∧isDig t[i]=false:=by rw[←Bool.or_eq_false_iff];exact hw.symm
    simp only[hw1.1,go_sem];refine call_pure c1442 ?_;simp only[go_sem];simp only[hw1.2,go_sem];have ee:=tokEnd_sym hi hp;have p2:=pfx_two hi;have e3:((i:Nat):Int)+1=((i+1:Nat):Int):=by omega
    have hcc:(t[i]=45∧∃h:i+1<t.length,t[i+1]=62)∨(t[i]=45∧∃h:i+1<t.length,¬t[i+1]=62)∨(t[i]=45∧¬i+1<t.length)∨¬t[i]=45:=by
      by_cases q1:t[i]=45
      · by_cases q2:i+1<t.length
        · by_cases q3:t[i+1]=62
          · exact .inl ⟨q1,q2,q3⟩
          · exact .inr (.inl ⟨q1,q2,q3⟩)
        · exact .inr (.inr (.inl ⟨q1,q2⟩))
      · exact .inr (.inr (.inr q1))
    have n45:t[i]=45→decide (((t[i].toNat:Nat):Int)=45)=true:=fun q=>by rw[q];rfl
    rcases hcc with⟨q1,q2,q3⟩ | ⟨q1,q2,q3⟩ | ⟨q1,q2⟩ | q1
    case inl=>
      have e2:decide ((i:Int)+1<(t.length:Nat))=true:=decide_eq_true (by omega);simp only[n45 q1,go_sem,wrap_small (n:=(i:Int)+1) (by omega) (by omega)];simp only[e2,go_sem,wrap_small (n:=(i:Int)+1) (by omega) (by omega)];simp only[e3,List.getElem?_eq_getElem q2,Option.map_some,go_sem];have e4:decide (((t[i+1].toNat:Nat):Int)=62)=true:=by rw[q3];rfl
      simp only[e4,go_sem];refine lst_all rfl rfl ⟨_,rfl⟩ (by decide) ?_;simp only[go_sem];have hpf:pfx [45,62] (t.drop i)=true:=by rw[p2,List.getElem?_eq_getElem q2];simp[q1,q3]
      rw[hpf,if_pos rfl]at ee;have et:(t.drop i).take 2=[45,62]:=by
        unfold pfx at hpf;simp only[Bool.and_eq_true,decide_eq_true_eq]at hpf;exact hpf.2
      refine fin_eq rfl ?_;unfold tokS tokAt;rw[ee,if_neg (by simp)];simp only[Nat.add_sub_cancel_left,et];rfl
    case' inr.inl=>
      have e2:decide ((i:Int)+1<(t.length:Nat))=true:=decide_eq_true (by omega);simp only[n45 q1,go_sem,wrap_small (n:=(i:Int)+1) (by omega) (by omega)];simp only[e2,go_sem,wrap_small (n:=(i:Int)+1) (by omega) (by omega)];simp only[e3,List.getElem?_eq_getElem q2,Option.map_some,go_sem];have e4:decide (((t[i+1].toNat:Nat):Int)=62)=false:=decide_eq_false fun q=>q3 (UInt8.toNat_inj.1 (by have:(62:UInt8).toNat=62:=rfl;omega));simp only[e4,go_sem];have hpf:pfx [45,62] (t.drop i)=false:=by rw[p2,List.getElem?_eq_getElem q2];simp[q3]
    case' inr.inr.inl=>
      have e2:decide ((i:Int)+1<(t.length:Nat))=false:=decide_eq_false (by omega);simp only[n45 q1,go_sem,wrap_small (n:=(i:Int)+1) (by omega) (by omega)];simp only[e2,go_sem];have hpf:pfx [45,62] (t.drop i)=false:=by rw[p2,List.getElem?_eq_none (by omega)];simp
    case' inr.inr.inr=>
      have e1:decide (((t[i].toNat:Nat):Int)=45)=false:=decide_eq_false fun q=>q1 (UInt8.toNat_inj.1 (by have:(45:UInt8).toNat=45:=rfl;omega));simp only[e1,go_sem];have hpf:pfx [45,62] (t.drop i)=false:=by rw[p2];simp[q1]
    all_goals
      rw[hpf,if_neg (by decide)]at ee;refine call_pure c1498 ?_;simp only[go_sem];by_cases q5:0≤Lib.indexByte syms t[i]
      · rw[if_pos q5]at ee;simp only[decide_eq_true q5,go_sem,wrap_small (n:=(i:Int)+1) (by omega) (by omega)];refine put_v (sslc_lh (e:=i+1) rfl rfl (by simp only[go_sem];rfl) (by omega) (by omega)) ?_;simp only[go_sem];refine lst_all rfl rfl ⟨_,rfl⟩ (by decide) ?_;simp only[go_sem];refine fin_eq rfl ?_;unfold tokS tokAt;rw[ee,if_neg (by simp)];rfl
      · rw[if_neg q5]at ee;simp only[decide_eq_false q5,go_sem];refine lst_all rfl rfl ⟨_,rfl⟩ (by decide) ?_;simp only[go_sem];refine fin_eq rfl ?_;unfold tokS;rw[ee,if_pos rfl,if_neg hp];rfl
theorem tokS_kind{t:Str}{i:Nat}:(tokS t i).Kind=(tokEnd t i).1:=by
  unfold tokS;split
  · rename_i h;split<;>exact h.symm
  · rfl
def tokQ(t:Str):List GTok×Int×Bool:=match toksOf t with
  |.error i=>([],i,false)
  |.ok l=>(l,0,true)
theorem c1107{t:Str}(hl:t.length≤20000):Pure Gm 1107 [.str t] (.tup [.lst 3 ((tokQ t).1.map GTok.enc) false,.int .i64 (tokQ t).2.1,.bool (tokQ t).2.2]):=by
  refine Pure.intro [] [] g1107 (by kernel_rfl) rfl (by simp[AV.trees,AV.tree,go_sem]) (by simp[AV.tree,AV.trees,trees_map GTok.isSh.tree]) ?_;simp only[F1107,vparams,go_sem];have er:tokQ t=match toksOf t with
    |.error i=>([],i,false)
    |.ok l=>(l,0,true):=rfl
  refine Sem.loop (fun a:Nat×List GTok=>a.1≤t.length∧a.2.length≤a.1∧toksOf t=toksG t a.1 a.2) (fun a=>(⟨[(0,.str t),(5,.slice 3 0 0 a.2.length false),(6,.int .i64 (a.1:Nat))],[],[.row 3 (a.2.map GTok.enc) true]⟩:VSt)) (fun a=>t.length-a.1) (0,[]) (by kernel_rfl) ⟨Nat.zero_le _,Nat.zero_le _,rfl⟩ (Can.renum [none] rfl ⟨.ph,trivial⟩ ⟨⟨_,rfl,.tree rfl⟩,⟨_,rfl,.ph2 rfl⟩,⟨_,rfl,.tree rfl⟩,trivial⟩ trivial) ?_;rintro⟨i,acc⟩ ⟨hi,ha,hI⟩;simp only at hi ha hI;simp only[go_sem];by_cases hlt:i<t.length
  case neg=>
    have e:decide ((i:Int)<t.length)=false:=decide_eq_false (by omega);simp only[e,go_sem];rw[hI,toksG_end hlt]at er;rw[er];refine fin_tup (Cvs.tup (Cvs.cons (Cv.row rfl (by simp) (trees_map GTok.isSh.tree _) (by decide)) (Cvs.cons (.refl rfl) (Cvs.cons (.refl rfl) Cvs.nil))))
  have e:decide ((i:Int)<t.length)=true:=decide_eq_true (by omega);simp only[e,List.getElem?_eq_getElem hlt,Option.map_some,go_sem];refine call_pure c1393 ?_;simp only[go_sem];rw[toksG_step hlt]at hI;have eg:t.getD i 0=t[i]:=by simp[List.getD,List.getElem?_eq_getElem hlt]
  rw[eg]at hI;by_cases hb:0≤Lib.indexByte blanks t[i].toNat.toUInt8
  · simp only[decide_eq_true hb,go_sem];simp only[wrap_succ (show i<4611686018427387904 by omega)];rw[if_pos hb]at hI;exact loopQ_nrm (i+1,acc) ⟨by simp only;omega,by simp only;omega,hI⟩ (by simp only;omega) (Can.sub (by simp[go_sem]) (by simp[go_sem]))
  simp only[decide_eq_false hb,go_sem];rw[if_neg hb]at hI;refine call_pure (c1394 hlt (by omega)) ?_;simp only[go_sem];refine lst_all rfl rfl ⟨_,rfl⟩ (by decide) ?_;simp only[go_sem];obtain⟨t1,t2,t3⟩:=tokEnd_le hlt;have tk:=tokS_kind (t:=t) (i:=i);by_cases hk:(tokEnd t i).1=0
  · rw[hk]at tk;simp only[decide_eq_true tk,go_sem];rw[if_pos hk]at hI;rw[hI]at er;rw[er];refine fin_tup (Cvs.tup (Cvs.cons .nils (Cvs.cons (.refl rfl) (Cvs.cons (.refl rfl) Cvs.nil))))
  have t4:=t3 hk;rw[if_neg hk]at hI;have hk':¬(tokS t i).Kind=0:=by rw[tk];exact hk
  simp only[decide_eq_false hk',go_sem];have ets:tokS t i=tokAt t i:=by unfold tokS;rw[if_neg hk]
  rw[ets];refine bsl_one (v:=(tokAt t i).enc) rfl rfl ?_;simp only[go_sem];refine app_one (el:=acc.map GTok.enc) rfl rfl (by simp) (by omega) ?_;simp only[go_sem];have elen:(tokAt t i).Text.length=(tokEnd t i).2-i:=by simp only[tokAt,List.length_take,List.length_drop];omega
  simp only[elen,wrap_small (n:=(i:Int)+(((tokEnd t i).2-i:Nat):Int)) (by omega) (by omega)];have ee:(i:Int)+(((tokEnd t i).2-i:Nat):Int)=(((tokEnd t i).2:Nat):Int):=by omega
  rw[ee];refine loopQ_nrm ((tokEnd t i).2,acc++[tokAt t i]) ⟨by simp only;omega,by simp only[List.length_append,List.length_cons,List.length_nil];omega,hI⟩ (by simp only;omega) ?_;simp only[List.length_append,List.length_cons,List.length_nil,Nat.zero_add];refine Can.renum [some 2] rfl ⟨.row rfl ?_,trivial⟩ ⟨⟨_,rfl,.tree rfl⟩,⟨_,rfl,.slice rfl⟩,⟨_,rfl,.tree rfl⟩,trivial⟩ trivial;rw[List.map_append];have tt:=trees_map GTok.isSh.tree (acc++[tokAt t i]);rw[List.map_append]at tt;exact VR2s.trees tt
theorem c735{t:Str}:Pure Gm 735 [.str t] (.tup [.lst 3 ((tokR t).1.map GTok.enc) false,.int .i64 (tokR t).2.1,.int .i64 (tokR t).2.2]):=by
  refine Pure.intro [] [] g735 (by kernel_rfl) rfl (by simp[AV.trees,AV.tree,go_sem]) (by simp[AV.tree,AV.trees,trees_map GTok.isSh.tree]) ?_;simp only[F735,vparams,go_sem];by_cases hl:20000<t.length
  · have e:decide ((20000:Int)<t.length)=true:=decide_eq_true (by omega);simp only[e,go_sem];have er:tokR t=([],0,2):=by rw[tokR,if_pos hl]
    rw[er];exact fin_tup (Cvs.tup (Cvs.cons .nils (Cvs.cons (.refl rfl) (Cvs.cons (.refl rfl) Cvs.nil))))
  have e:decide ((20000:Int)<t.length)=false:=decide_eq_false (by omega);simp only[e,go_sem];refine call_pure (c1107 (by omega)) ?_;simp only[go_sem];have er:tokR t=match toksOf t with
    |.error i=>([],i,6)
    |.ok l=>(l,0,0):=by unfold tokR;rw[if_neg hl]<;>(cases toksOf t<;>rfl)
  have eq:tokQ t=match toksOf t with
    |.error i=>([],i,false)
    |.ok l=>(l,0,true):=rfl
  cases ho:toksOf t with
  | error i=>
    rw[ho]at er eq;simp only[eq,Bool.not_false,go_sem];rw[er];exact fin_tup (Cvs.tup (Cvs.cons .nils (Cvs.cons (.refl rfl) (Cvs.cons (.refl rfl) Cvs.nil))))
  | ok l=>
    rw[ho]at er eq;simp only[eq,Bool.not_true,go_sem];rw[er];exact fin_eqs (by simp[AV.tree,AV.trees,trees_map GTok.isSh.tree]) rfl
end Go.Ab
namespace Go.Ab
open Go
set_option maxRecDepth 10000
set_option maxHeartbeats 2000000
def prS(toks:List GTok)(a:Nat)(bad:Bool):AObj:=.row 3 [.agg [.lst 3 (toks.map GTok.enc) false,.int .i64 (a:Nat),.bool bad]] true
def isS(toks:List GTok)(a:Nat)(bad:Bool)(s:Str):Bool:= !bad&&(match toks[a]? with
  | some t=>decide (t.Text=s)
  | none=>false)
def kdS(toks:List GTok)(a:Nat)(bad:Bool)(k:Int):Bool:= !bad&&(match toks[a]? with
  | some t=>decide (t.Kind=k)
  | none=>false)
def TokOK(x:GTok):Prop:=x.Kind≠5→x.Kind≠3→x.Text.all isWB=true∧isKw x.Text=false
theorem isS_isP{toks:List GTok}{a:Nat}{s:Str}(hw:∀x∈toks,TokOK x)(hs:s.all isWB=false∨isKw s=true):isS toks a false s=isP toks a s:=by
  unfold isS isP;cases h:toks[a]? with
  | none=>rfl
  | some t=>
    simp only[Bool.not_false,Bool.true_and];by_cases h1:t.Text=s
    · rw[decide_eq_true h1,Bool.true_and];by_cases h5:t.Kind=5
      · simp[h5]
      · by_cases h3:t.Kind=3
        · simp[h3]
        · exfalso;obtain⟨q1,q2⟩:=hw t (List.mem_of_getElem? h) h5 h3;rw[h1]at q1 q2;rcases hs with hs | hs
          · rw[q1]at hs;cases hs
          · rw[q2]at hs;cases hs
    · rw[decide_eq_false h1,Bool.false_and]
theorem isS_lt{toks:List GTok}{a:Nat}{b:Bool}{s:Str}(q:isS toks a b s=true):a<toks.length∧b=false:=by
  unfold isS at q;rw[Bool.and_eq_true]at q;refine⟨?_,by simpa using q.1⟩;rcases Nat.lt_or_ge a toks.length with h1 | h1
  · exact h1
  · rw[List.getElem?_eq_none h1]at q;cases q.2
theorem kdS_lt{toks:List GTok}{a:Nat}{b:Bool}{k:Int}(q:kdS toks a b k=true):∃h:a<toks.length,b=false∧toks[a].Kind=k:=by
  unfold kdS at q;rw[Bool.and_eq_true]at q;rcases Nat.lt_or_ge a toks.length with h1 | h1
  · rw[List.getElem?_eq_getElem h1]at q;exact⟨h1,by simpa using q.1,by simpa using q.2⟩
  · rw[List.getElem?_eq_none h1]at q;cases q.2
section
variable {h:List AObj} {id a:Nat} {toks:List GTok} {bad:Bool}
theorem n1108{s:Str}(ho:h[id]?=some (prS toks a bad)):SCall Gm 1108 [.ptr id 0 0,.str s] h fun v h'=>v=.bool (isS toks a bad s)∧h'=h:=by
  refine SCall.run [] [] g1108 (by kernel_rfl) rfl ?_;unfold prS at ho;simp only[F1108,vparams,go_sem,ho,Option.map_some,List.length_map];cases bad
  · simp only[Bool.not_false,go_sem,ho];by_cases hlt:a<toks.length
    · have e1:decide ((a:Int)<toks.length)=true:=decide_eq_true (by omega);simp only[e1,go_sem,ho,List.getElem?_map,List.getElem?_eq_getElem hlt,Option.map_some];exact⟨by simp[isS,List.getElem?_eq_getElem hlt],trivial⟩
    · have e1:decide ((a:Int)<toks.length)=false:=decide_eq_false (by omega);simp only[e1,go_sem];exact⟨by simp[isS,List.getElem?_eq_none (show toks.length≤a by omega)],trivial⟩
  · simp only[Bool.not_true,go_sem];exact⟨by simp[isS],trivial⟩
theorem n1185{k:Int}(ho:h[id]?=some (prS toks a bad)):SCall Gm 1185 [.ptr id 0 0,.int .i64 k] h fun v h'=>v=.bool (kdS toks a bad k)∧h'=h:=by
  refine SCall.run [] [] g1185 (by kernel_rfl) rfl ?_;unfold prS at ho;simp only[F1185,vparams,go_sem,ho,Option.map_some,List.length_map];cases bad
  · simp only[Bool.not_false,go_sem,ho];by_cases hlt:a<toks.length
    · have e1:decide ((a:Int)<toks.length)=true:=decide_eq_true (by omega);simp only[e1,go_sem,ho,List.getElem?_map,List.getElem?_eq_getElem hlt,Option.map_some];exact⟨by simp[kdS,List.getElem?_eq_getElem hlt],trivial⟩
    · have e1:decide ((a:Int)<toks.length)=false:=decide_eq_false (by omega);simp only[e1,go_sem];exact⟨by simp[kdS,List.getElem?_eq_none (show toks.length≤a by omega)],trivial⟩
  · simp only[Bool.not_true,go_sem];exact⟨by simp[kdS],trivial⟩
theorem n737{s:Str}(ho:h[id]?=some (prS toks a bad))(hl:toks.length≤1048576):SCall Gm 737 [.ptr id 0 0,.str s] h fun v h'=>v=.bool (isS toks a bad s)∧h'=if isS toks a bad s then h.set id (prS toks (a+1) bad)else h:=by
  refine SCall.run [] [] g737 (by kernel_rfl) rfl ?_;simp only[F737,vparams,go_sem];refine call_hereE rfl (n1108 ho) ?_;simp only[go_sem];cases hi:isS toks a bad s
  · simp only[Bool.not_false,go_sem];exact⟨trivial,by simp⟩
  · obtain⟨hlt,rfl⟩:=isS_lt hi;have ho':=ho;unfold prS at ho';simp only[Bool.not_true,go_sem,ho',Option.map_some];simp only[wrap_succ (show a<4611686018427387904 by omega)];refine sto_ok rfl ho' rfl rfl ?_;simp only[go_sem];exact⟨trivial,rfl⟩
theorem n872{s:Str}(ho:h[id]?=some (prS toks a bad))(hl:toks.length≤1048576):SCall Gm 872 [.ptr id 0 0,.str s] h fun _ h'=>h'=if isS toks a bad s then h.set id (prS toks (a+1) bad)else h.set id (prS toks a true):=by
  refine SCall.run [] [] g872 (by kernel_rfl) rfl ?_;simp only[F872,vparams,go_sem];refine call_hereE rfl (n737 ho hl) ?_;simp only[go_sem];cases hi:isS toks a bad s
  · simp only[Bool.not_false,Bool.false_eq_true,if_false,go_sem];have ho':=ho;unfold prS at ho';refine sto_ok rfl ho' rfl rfl ?_;simp only[go_sem];rfl
  · simp only[Bool.not_true,if_true,go_sem]
theorem n871{k:Int}(ho:h[id]?=some (prS toks a bad))(hl:toks.length≤1048576):SCall Gm 871 [.ptr id 0 0,.int .i64 k] h fun v h'=>if kdS toks a bad k then v=.str ((toks[a]?).getD ⟨0,[],0⟩).Text∧h'=h.set id (prS toks (a+1) bad)else v=.str []∧h'=h.set id (prS toks a true):=by
  refine SCall.run [] [] g871 (by kernel_rfl) rfl ?_;simp only[F871,vparams,go_sem];refine call_hereE rfl (n1185 ho) ?_;simp only[go_sem];have ho':=ho;unfold prS at ho';have hid:id<h.length:=(List.getElem?_eq_some_iff.1 ho).1;cases hi:kdS toks a bad k
  · simp only[Bool.not_false,Bool.false_eq_true,if_false,go_sem];refine sto_ok rfl ho' rfl rfl ?_;simp only[go_sem];exact⟨trivial,rfl⟩
  · obtain⟨hlt,rfl,hk⟩:=kdS_lt hi;simp only[Bool.not_true,if_true,go_sem,ho',Option.map_some];simp only[wrap_succ (show a<4611686018427387904 by omega)];refine sto_ok (e':=.agg [.lst 3 (toks.map GTok.enc) false,.int .i64 ((a+1:Nat):Int),.bool false]) rfl ho' rfl rfl ?_;rw[List.set_cons_zero];generalize hg:h.set id _=G;have hG:G[id]?=some (.row 3 [.agg [.lst 3 (toks.map GTok.enc) false,.int .i64 ((a+1:Nat):Int),.bool false]] true):=by rw[←hg];exact List.getElem?_set_self hid
    have e1:((a+1:Nat):Int)-1=((a:Nat):Int):=by omega
    simp only[go_sem,hG,wrap_small (n:=((a+1:Nat):Int)-1) (by omega) (by omega)];simp only[e1,List.getElem?_map,List.getElem?_eq_getElem hlt,Option.map_some,go_sem];exact⟨by simp,by rw[←hg];rfl⟩
end
section
variable {h:List AObj} {a0 a1 a2 b0 b1 b2:AV} {s:Str}
theorem n328:SCall Gm 328 [] h fun v h'=>v=.agg [.int .i64 1,.str [],.nils]∧h'=h:=by
  refine SCall.run [] [] g328 (by kernel_rfl) rfl ?_;simp only[F328,vparams,go_sem];refine lst_all rfl rfl ⟨_,rfl⟩ (by decide) ?_;simp only[go_sem];exact⟨trivial,trivial⟩
theorem n329:SCall Gm 329 [.str s] h fun v h'=>v=.agg [.int .i64 2,.str s,.nils]∧h'=h:=by
  refine SCall.run [] [] g329 (by kernel_rfl) rfl ?_;simp only[F329,vparams,go_sem];refine lst_all rfl rfl ⟨_,rfl⟩ (by decide) ?_;simp only[go_sem];exact⟨trivial,trivial⟩
theorem n326:SCall Gm 326 [.agg [a0,a1,a2]] h fun v h'=>v=.agg [.int .i64 4,.str [],.slice 3 h.length 0 1 false]∧h'=h++[.row 3 [.agg [a0,a1,a2]] true]:=by
  refine SCall.run [] [] g326 (by kernel_rfl) rfl ?_;simp only[F326,vparams,go_sem];refine lbox_ok rfl ?_;simp only[go_sem];refine bsl_one (v:=.agg [a0,a1,a2]) rfl rfl ?_;simp only[go_sem];refine lst_all rfl rfl ⟨_,rfl⟩ (by decide) ?_;simp only[go_sem];exact⟨trivial,trivial⟩
theorem n327:SCall Gm 327 [.agg [a0,a1,a2],.agg [b0,b1,b2]] h fun v h'=>v=.agg [.int .i64 3,.str [],.slice 3 h.length 0 2 false]∧h'=h++[.row 3 [.agg [a0,a1,a2],.agg [b0,b1,b2]] true]:=by
  refine SCall.run [] [] g327 (by kernel_rfl) rfl ?_;simp only[F327,vparams,go_sem];refine lbox_ok rfl ?_;simp only[go_sem];refine lbox_ok rfl ?_;simp only[go_sem];rw[show fillAV _ 3 _ _=some [.agg [a0,a1,a2],.agg [b0,b1,b2]]from rfl];simp only[go_sem];refine lst_all rfl rfl ⟨_,rfl⟩ (by decide) ?_;simp only[go_sem];exact⟨trivial,trivial⟩
end
def PRes(r:Except Nat (GType×Nat))(t:GType)(b:Nat)(bad:Bool):Prop:=match r with
  |.ok (t',b')=>t=t'∧b=b'∧bad=false
  |.error b'=>b=b'∧bad=true
theorem isS_bad{toks:List GTok}{a:Nat}{s:Str}:isS toks a true s=false:=rfl
section
variable {id:Nat} {toks:List GTok}
theorem s_typ(hl:toks.length≤1048576)(hw:∀x∈toks,TokOK x):∀(f:Nat)(flag:Bool)(a:Nat)(h:List AObj),fuelT toks flag a≤f→a≤toks.length→h[id]?=some (prS toks a false)→
    SCall Gm (if flag then 736 else 359) [.ptr id 0 0] h (fun v h'=>∃t b bad S,PRes (pT toks f flag a) t b bad∧PS h id (prS toks b bad) h'∧OwnT S h' v t.enc∧Bh h.length S h'):=by
  intro f
  induction f with
  | zero=>intro flag a h hf;exfalso;unfold fuelT at hf;cases flag<;>simp at hf
  | succ f ih=>
  intro flag a h hf ha ho;have hid:id<h.length:=(List.getElem?_eq_some_iff.1 ho).1;cases flag with
  | true=>
    refine SCall.run [] [] g736 (by kernel_rfl) rfl ?_;simp only[F736,vparams,go_sem];refine call_hereE rfl (n737 ho hl) ?_;rw[isS_isP hw (.inl rfl)];simp only[go_sem];cases hb:isP toks a [33]
    case true=>
      have hlt:=isP_lt hb;simp only[if_true,go_sem];refine call_here ((ih true (a+1) (h.set id (prS toks (a+1) false)) (by unfold fuelT at hf⊢;simp at hf⊢;omega) (by omega) (by rw[List.getElem?_set_self hid])).mono ?_);rintro v h1 ⟨t,b,bad,S,q1,q2,q3,q4⟩;obtain⟨x0,x1,x2,rfl⟩:=own_agg q3;simp only[go_sem];refine call_hereE rfl n326 ?_;simp only[go_sem];refine lst_all rfl rfl ⟨_,rfl⟩ (by decide) ?_;simp only[go_sem];rw[List.length_set]at q4;obtain⟨r1,r2⟩:=own_row1 q3 q4 (by have:=q2.len;rw[List.length_set]at this;exact this);refine⟨bangT t,b,bad,_, ?_,((PS.set ho).trans q2).push,own_ty r1,r2⟩;simp only[pT,hb,if_true];generalize pT toks f true (a+1)=r at q1
      match r,q1 with
      |.ok (t',b'),⟨e1,e2,e3⟩=>exact⟨by rw[e1],e2,e3⟩
      |.error b',⟨e1,e2⟩=>exact⟨e1,e2⟩
    simp only[Bool.false_eq_true,if_false,go_sem];refine call_hereE rfl (n737 ho hl) ?_;rw[isS_isP hw (.inl rfl)];simp only[go_sem];cases hc:isP toks a [40]
    case true=>
      have hlt:=isP_lt hc;simp only[if_true,go_sem];refine call_here ((ih false (a+1) (h.set id (prS toks (a+1) false)) (by unfold fuelT at hf⊢;simp at hf⊢;omega) (by omega) (by rw[List.getElem?_set_self hid])).mono ?_);rintro v h1 ⟨t,b,bad,S,q1,q2,q3,q4⟩;obtain⟨x0,x1,x2,rfl⟩:=own_agg q3;simp only[go_sem];refine lst_all rfl rfl ⟨_,rfl⟩ (by decide) ?_;simp only[go_sem];refine call_here ((n872 q2.at' hl).mono ?_);rintro v2 h2 rfl;simp only[go_sem];refine lst_all rfl rfl ⟨_,rfl⟩ (by decide) ?_;simp only[go_sem];rw[List.length_set]at q4;have hr:pT toks (f+1) true a=(match pT toks f false (a+1)with
        |.ok (t,b)=>if isP toks b [41]then .ok (t,b+1)else .error b
        |.error b=>.error b):=by simp only[pT,hb,hc,Bool.false_eq_true,if_false,if_true]<;>(cases pT toks f false (a+1)<;>rfl)
      rw[hr];generalize pT toks f false (a+1)=r at q1
      match r,q1 with
      |.ok (t',b'),⟨e1,e2,e3⟩=>
        subst e1 e2 e3;rw[isS_isP hw (.inl rfl)];cases e1:isP toks b [41]
        · simp only[Bool.false_eq_true,if_false];obtain⟨r1,r2⟩:=q3.ps q4 hid (PS.set q2.at' (o:=prS toks b true));exact⟨t,b,true,S,by simp[PRes,e1],((PS.set ho).trans q2).trans (PS.set q2.at'),r1,r2⟩
        · simp only[if_true];obtain⟨r1,r2⟩:=q3.ps q4 hid (PS.set q2.at' (o:=prS toks (b+1) false));exact⟨t,b+1,false,S,by simp[PRes,e1],((PS.set ho).trans q2).trans (PS.set q2.at'),r1,r2⟩
      |.error b',⟨e1,e2⟩=>
        subst e1 e2;rw[isS_bad];simp only[Bool.false_eq_true,if_false];obtain⟨r1,r2⟩:=q3.ps q4 hid (PS.set q2.at' (o:=prS toks b true));exact⟨t,b,true,S,⟨rfl,rfl⟩,((PS.set ho).trans q2).trans (PS.set q2.at'),r1,r2⟩
    simp only[Bool.false_eq_true,if_false,go_sem];refine call_here ((n871 ho hl).mono ?_);rintro v h1 hv;cases hk:kdS toks a false 2
    · rw[hk]at hv;obtain⟨rfl,rfl⟩:=hv;have en:decide (([]:Str)=[73,110,116])=false:=rfl;simp only[go_sem,en];refine call_hereE rfl n329 ?_;simp only[go_sem];refine lst_all rfl rfl ⟨_,rfl⟩ (by decide) ?_;simp only[go_sem];refine⟨dataT [],a,true,[none], ?_,PS.set ho,own_ty0,fun j hj=>by simp at hj⟩;simp only[pT,hb,hc,Bool.false_eq_true,if_false];unfold kdS at hk;cases ht:toks[a]? with
      | none=>exact⟨rfl,rfl⟩
      | some t=>
        rw[ht]at hk;simp only[Bool.not_false,Bool.true_and,decide_eq_false_iff_not]at hk;simp only[if_neg hk];exact⟨rfl,rfl⟩
    · rw[hk]at hv;obtain⟨rfl,rfl⟩:=hv;obtain⟨hlt,_,hk2⟩:=kdS_lt hk;simp only[List.getElem?_eq_getElem hlt,Option.getD_some,go_sem];by_cases hn:toks[a].Text=[73,110,116]
      · simp only[decide_eq_true hn,go_sem];refine call_hereE rfl n328 ?_;simp only[go_sem];refine lst_all rfl rfl ⟨_,rfl⟩ (by decide) ?_;simp only[go_sem];exact⟨intT,a+1,false,[none],by simp[PRes,pT,hb,hc,List.getElem?_eq_getElem hlt,hk2,hn],PS.set ho,own_ty0,fun j hj=>by simp at hj⟩
      · simp only[decide_eq_false hn,go_sem];refine call_hereE rfl n329 ?_;simp only[go_sem];refine lst_all rfl rfl ⟨_,rfl⟩ (by decide) ?_;simp only[go_sem];exact⟨dataT toks[a].Text,a+1,false,[none],by simp[PRes,pT,hb,hc,List.getElem?_eq_getElem hlt,hk2,hn],PS.set ho,own_ty0,fun j hj=>by simp at hj⟩
  | false=>
    refine SCall.run [] [] g359 (by kernel_rfl) rfl ?_;simp only[F359,vparams,go_sem];refine call_here ((ih true a h (by unfold fuelT at hf⊢;simp at hf⊢;omega) ha ho).mono ?_);rintro v h1 ⟨t,b,bad,S,q1,q2,q3,q4⟩;obtain⟨x0,x1,x2,rfl⟩:=own_agg q3;simp only[go_sem];refine lst_all rfl rfl ⟨_,rfl⟩ (by decide) ?_;simp only[go_sem];refine call_hereE rfl (n737 q2.at' hl) ?_;have hr:pT toks (f+1) false a=(match pT toks f true a with
      |.ok (t,b)=>if isP toks b [45,62]then(match pT toks f false (b+1)with
          |.ok (u,c)=>.ok (funT t u,c)
          |.error c=>.error c)
        else .ok (t,b)
      |.error b=>.error b):=by
        simp only[pT]<;>(cases pT toks f true a<;>first | rfl | (rename_i p;cases pT toks f false (p.2+1)<;>rfl))
    rw[hr];have hpr:=fun t b=>pT_prog (toks:=toks) f true a (t:=t) (b:=b);generalize pT toks f true a=r at q1 hpr
    match r,q1,hpr with
    |.error b',⟨e1,e2⟩,_=>
      subst e1 e2;rw[isS_bad];simp only[Bool.false_eq_true,if_false,go_sem];refine lst_all rfl rfl ⟨_,rfl⟩ (by decide) ?_;simp only[go_sem];exact⟨t,b,true,S,⟨rfl,rfl⟩,q2,q3,q4⟩
    |.ok (t',b'),⟨e1,e2,e3⟩,hpr=>
      subst e1 e2 e3;obtain⟨b1,b2⟩:=hpr _ _ rfl;rw[isS_isP hw (.inl rfl)];simp only[go_sem];cases hb:isP toks b [45,62]
      · simp only[Bool.false_eq_true,if_false,go_sem];refine lst_all rfl rfl ⟨_,rfl⟩ (by decide) ?_;simp only[go_sem];exact⟨t,b,false,S,⟨rfl,rfl,rfl⟩,q2,q3,q4⟩
      · have hlt:=isP_lt hb;simp only[if_true,go_sem];have hid1:id<h1.length:=Nat.lt_of_lt_of_le hid q2.len;have q2':=q2.trans (PS.set q2.at' (o:=prS toks (b+1) false));obtain⟨q3',q4'⟩:=q3.ps q4 hid (PS.set q2.at' (o:=prS toks (b+1) false));refine call_here ((ih false (b+1) (h1.set id (prS toks (b+1) false)) (by unfold fuelT at hf⊢;simp at hf⊢;omega) (by omega) (by rw[List.getElem?_set_self hid1])).mono ?_);rintro v2 h2 ⟨u,c,bad2,S2,p1,p2,p3,p4⟩;obtain⟨y0,y1,y2,rfl⟩:=own_agg p3;simp only[go_sem];refine call_hereE rfl n327 ?_;simp only[go_sem];refine lst_all rfl rfl ⟨_,rfl⟩ (by decide) ?_;simp only[go_sem];obtain⟨z3,z4⟩:=q3'.ps q4' hid p2;obtain⟨r1,r2⟩:=own_row2 z3 p3 z4 p4 (by have:=q2.len;have:=p2.len;rw[List.length_set]at this;omega) (by have:=q2.len;rw[List.length_set];omega) (fun j hj=>(q4' j hj).2);refine⟨funT t u,c,bad2,_, ?_,(q2'.trans p2).push,own_ty r1,r2⟩;generalize pT toks f false (b+1)=r at p1
        match r,p1 with
        |.ok (u',c'),⟨e1,e2,e3⟩=>exact⟨by rw[e1],e2,e3⟩
        |.error c',⟨e1,e2⟩=>exact⟨e1,e2⟩
end
end Go.Ab
namespace Go.Ab
open Go
set_option maxRecDepth 10000
set_option maxHeartbeats 2000000
mutual
def GType.nod:GType→Nat→Option Nat
  |.mk k n ks,d=>if d=0 then none else if okT k n ks.length then GType.nods ks (d-1) 1 else none
def GType.nods:List GType→Nat→Nat→Option Nat
  |[],_,s=>some s
  | x::xs,d,s=>match x.nod d with
    | none=>none
    | some k=>GType.nods xs d (s+k)
end
theorem GType.nod_eq(x:GType)(d:Nat):x.nod d=if d=0 then none else if okT x.Kind x.Name x.Kids.length then GType.nods x.Kids (d-1) 1 else none:=by cases x;rw[GType.nod];rfl
theorem GType.shps_ge:∀{xs:List GType}{d s d1 s1:Nat},GType.shps xs d s=some (d1,s1)→d≤d1
  |[],d,s,d1,s1,h=>by simp only[GType.shps,Option.some.injEq,Prod.mk.injEq]at h;omega
  | x::xs,d,s,d1,s1,h=>by
    simp only[GType.shps]at h;split at h
    · have:=GType.shps_ge h;omega
    · cases h
theorem GType.nods_shps{e:Nat}:∀{xs:List GType},(∀y∈xs,y.nod e=if y.shp.2.2=true∧y.shp.1≤e then some y.shp.2.1 else none)→∀{d s:Nat},d≤e+1→
    GType.nods xs e s=match GType.shps xs d s with
      | none=>none
      | some (d1,s1)=>if d1≤e+1 then some s1 else none
  |[],_,d,s,hd=>by simp[GType.nods,GType.shps,hd]
  | x::xs,ih,d,s,hd=>by
    have hx:=ih x (by simp);have hxs:=fun(d s:Nat)(q:d≤e+1)=>GType.nods_shps (xs:=xs) (fun y hy=>ih y (by simp[hy])) (d:=d) (s:=s) q;simp only[GType.nods,GType.shps,hx];generalize x.shp=p;obtain⟨d',s',ok⟩:=p;cases ok with
    | false=>simp
    | true=>
      simp only[true_and];by_cases h:d'≤e
      · rw[if_pos h];exact hxs _ _ (by omega)
      · rw[if_neg h];cases hq:GType.shps xs (max d (d'+1)) (s+s')with
        | none=>rfl
        | some p=>
          obtain⟨d1,s1⟩:=p;have:=GType.shps_ge hq;simp only;rw[if_neg (by omega)]
theorem GType.nod_shp:∀(x:GType)(d:Nat),x.nod d=if x.shp.2.2=true∧x.shp.1≤d then some x.shp.2.1 else none:=GType.ind fun x ih d=>by
  rw[GType.nod_eq,GType.shp_eq];cases d with
  | zero=>
    rw[if_pos rfl];split
    · simp
    · rename_i d1 s1 h;have:=GType.shps_ge h;rw[if_neg (fun q=>by simp only at q;omega)]
  | succ e=>
    rw[if_neg (by omega),Nat.add_sub_cancel];rw[GType.nods_shps (fun y hy=>ih y hy e) (show 1≤e+1 by omega)];cases GType.shps x.Kids 1 1 with
    | none=>simp
    | some p=>
      obtain⟨d1,s1⟩:=p;simp only;cases okT x.Kind x.Name x.Kids.length<;>simp
def nodI:Option Nat→Int
  | none=> -1
  | some n=>n
theorem valid_nod(x:GType):validT x=(decide (1≤nodI (x.nod 6))&&decide (nodI (x.nod 6)≤16)):=by
  rw[GType.nod_shp,validT];have h1:∀y:GType,y.shp.2.2=true→1≤y.shp.2.1:=fun y hy=>by
    rw[GType.shp_eq]at hy⊢;split
    · rename_i q;rw[q]at hy;cases hy
    · rename_i d s h;have:∀{xs:List GType}{d s d1 s1:Nat},GType.shps xs d s=some (d1,s1)→s≤s1:=by
        intro xs
        induction xs with
        | nil=>intro d s d1 s1 h;simp only[GType.shps,Option.some.injEq,Prod.mk.injEq]at h;omega
        | cons z zs ihz=>
          intro d s d1 s1 h;simp only[GType.shps]at h;split at h
          · have:=ihz h;omega
          · cases h
      exact this h
  by_cases a:x.shp.2.2=true
  · have:=h1 x a;by_cases b:x.shp.1≤6
    · rw[if_pos ⟨a,b⟩,a,decide_eq_true b];have e1:decide (1≤nodI (some x.shp.2.1))=true:=decide_eq_true (by simp only[nodI];omega);rw[e1,Bool.true_and,Bool.true_and,Bool.true_and,decide_eq_decide];simp only[nodI];omega
    · rw[if_neg (fun q=>b q.2),decide_eq_false b];simp[nodI]
  · rw[if_neg (fun q=>a q.1)];simp[nodI,a]
theorem GType.nod_le{x:GType}{d n:Nat}(h:x.nod d=some n):n≤x.nd:=by
  rw[GType.nod_shp]at h;split at h
  · cases h;exact(GType.shp_le x).2
  · cases h
theorem c541(x:GType):∀(d:Nat)(hd:d≤6)(hb:x.bd)(hn:x.nd≤1048576),Pure Gm 541 [x.enc,.int .i64 (d:Nat)] (.int .i64 (nodI (x.nod d))):=by
  induction x using GType.ind with
  | _ x ih=>
  intro d hd hb hn;refine Pure.intro [] [] g541 (by kernel_rfl) rfl (by simp[AV.trees,AV.tree,go_sem]) rfl ?_;simp only[F541,vparams,go_sem];refine lbox_ok GType.ln ?_;simp only[go_sem];have er:=GType.nod_eq x d;rw[GType.nd_eq]at hn;rw[GType.bd_eq]at hb;obtain⟨b1,b2,b3⟩:=hb;by_cases h0:d=0
  · have e0:decide (((d:Nat):Int)<1)=true:=decide_eq_true (by omega);simp only[e0,go_sem];exact fin_eq rfl (by rw[er,if_pos h0];rfl)
  have e0:decide (((d:Nat):Int)<1)=false:=decide_eq_false (by omega);simp only[e0,go_sem];rw[if_neg h0]at er;have e1:x.Kids.length≤1048576:=by
    have:∀xs:List GType,xs.length≤sumN GType.nd xs:=fun xs=>by
      induction xs with
      | nil=>simp
      | cons y ys ihy=>have:=GType.nd_eq y;simp only[List.length_cons,sumN];omega
    have:=this x.Kids;omega
  have z1:decide (((x.Kids.length:Nat):Int)=0)=decide (x.Kids.length=0):=by rw[decide_eq_decide];omega
  have z2:decide (((x.Kids.length:Nat):Int)=2)=decide (x.Kids.length=2):=by rw[decide_eq_decide];omega
  have z3:decide (((x.Kids.length:Nat):Int)=1)=decide (x.Kids.length=1):=by rw[decide_eq_decide];omega
  cases hok:okT x.Kind x.Name x.Kids.length
  · have bad:AV.int .i64 (-1)=.int .i64 (nodI (x.nod d)):=by rw[er,hok];rfl
    by_cases k1:x.Kind=1
    · have k2:¬x.Kind=2:=by omega
      simp only[decide_eq_true k1,decide_eq_false k2,go_sem,z1];by_cases q:x.Kids.length=0
      · simp only[decide_eq_true q,Bool.not_true,Bool.not_false,go_sem];by_cases q2:x.Name=[]
        · simp[okT,k1,q,q2]at hok
        · simp only[decide_eq_false k2,decide_eq_false q2,Bool.not_false,go_sem];exact fin_eq rfl bad
      · simp only[decide_eq_false q,Bool.not_false,go_sem];exact fin_eq rfl bad
    simp only[decide_eq_false k1,go_sem];by_cases k2:x.Kind=2
    · simp only[decide_eq_true k2,go_sem];refine call_pure (c921 (by omega)) ?_;simp only[go_sem];cases q:isUp x.Name
      · simp only[Bool.not_false,go_sem];exact fin_eq rfl bad
      · simp only[Bool.not_true,go_sem];by_cases q2:x.Name=[73,110,116]
        · simp only[decide_eq_true q2,go_sem];exact fin_eq rfl bad
        · simp only[decide_eq_false q2,go_sem,z1];by_cases q3:x.Kids.length=0
          · simp[okT,k2,q,q2,q3]at hok
          · simp only[decide_eq_false q3,Bool.not_false,go_sem];exact fin_eq rfl bad
    simp only[decide_eq_false k2,go_sem];by_cases k3:x.Kind=3
    · simp only[decide_eq_true k3,go_sem,z2];by_cases q:x.Kids.length=2
      · simp only[decide_eq_true q,decide_eq_false k2,Bool.not_true,Bool.not_false,go_sem];by_cases q2:x.Name=[]
        · simp[okT,k3,q,q2]at hok
        · simp only[decide_eq_false q2,Bool.not_false,go_sem];exact fin_eq rfl bad
      · simp only[decide_eq_false q,Bool.not_false,go_sem];exact fin_eq rfl bad
    simp only[decide_eq_false k3,go_sem];by_cases k4:x.Kind=4
    · simp only[decide_eq_true k4,go_sem,z3];by_cases q:x.Kids.length=1
      · simp only[decide_eq_true q,decide_eq_false k2,Bool.not_true,Bool.not_false,go_sem];by_cases q2:x.Name=[]
        · simp[okT,k4,q,q2]at hok
        · simp only[decide_eq_false q2,Bool.not_false,go_sem];exact fin_eq rfl bad
      · simp only[decide_eq_false q,Bool.not_false,go_sem];exact fin_eq rfl bad
    simp only[decide_eq_false k4,go_sem];exact fin_eq rfl bad
  rw[if_pos hok]at er;have four:(x.Kind=1∧x.Name=[]∧x.Kids.length=0)∨(x.Kind=2∧isUp x.Name=true∧¬x.Name=[73,110,116]∧x.Kids.length=0)∨(x.Kind=3∧x.Name=[]∧x.Kids.length=2)∨(x.Kind=4∧x.Name=[]∧x.Kids.length=1):=by
    unfold okT at hok;split at hok
    · rename_i k;simp at hok;exact .inl ⟨k,hok.1,by simp[hok.2]⟩
    · split at hok
      · rename_i k;simp at hok;exact .inr (.inl ⟨k,hok.1,hok.2.1,by simp[hok.2.2]⟩)
      · split at hok
        · rename_i k;simp at hok;exact .inr (.inr (.inl ⟨k,hok.1,hok.2⟩))
        · split at hok
          · rename_i k;simp at hok;exact .inr (.inr (.inr ⟨k,hok.1,hok.2⟩))
          · cases hok
  rcases four with⟨k,q1,q2⟩ | ⟨k,q1,q2,q3⟩ | ⟨k,q1,q2⟩ | ⟨k,q1,q2⟩
  case' inl=>
    have k2:¬x.Kind=2:=by omega
    simp only[decide_eq_true k,decide_eq_false k2,go_sem,z1,decide_eq_true q1,decide_eq_true q2,Bool.not_true,Bool.not_false]
  case' inr.inl=>
    have k1:¬x.Kind=1:=by omega
    simp only[decide_eq_false k1,decide_eq_true k,go_sem];refine call_pure (c921 (by omega)) ?_;simp only[q1,go_sem,decide_eq_false q2,z1,decide_eq_true q3,Bool.not_true,decide_eq_true k]
  case' inr.inr.inl=>
    have k1:¬x.Kind=1:=by omega
    have k2:¬x.Kind=2:=by omega
    simp only[decide_eq_false k1,decide_eq_false k2,decide_eq_true k,go_sem,z2,decide_eq_true q1,decide_eq_true q2,Bool.not_true,Bool.not_false]
  case' inr.inr.inr=>
    have k1:¬x.Kind=1:=by omega
    have k2:¬x.Kind=2:=by omega
    have k3:¬x.Kind=3:=by omega
    simp only[decide_eq_false k1,decide_eq_false k2,decide_eq_false k3,decide_eq_true k,go_sem,z3,decide_eq_true q1,decide_eq_true q2,Bool.not_true,Bool.not_false]
  all_goals
    refine Sem.loop (fun a:Nat×Nat=>a.1≤x.Kids.length∧a.2+sumN GType.nd (x.Kids.drop a.1)≤1048576∧GType.nods x.Kids (d-1) 1=GType.nods (x.Kids.drop a.1) (d-1) a.2)
      (fun a=>(⟨[(1,.int .i64 (d:Nat)),(6,.int .i64 (a.2:Nat)),(7,.int .i64 (a.1:Nat))],[(2,x.enc)],[]⟩:VSt)) (fun a=>x.Kids.length-a.1) (0,1) (by kernel_rfl) ⟨Nat.zero_le _,by simpa using hn,rfl⟩ (Can.sub (by simp[go_sem]) (by simp[go_sem])) ?_
    rintro⟨i,s⟩ ⟨hi,h3,hI⟩;simp only at hi h3 hI;simp only[go_sem];by_cases hlt:i<x.Kids.length
    · have e2:decide ((i:Int)<(x.Kids.length:Nat))=true:=decide_eq_true (by omega);have hm:=List.getElem_mem hlt;have hdr:x.Kids.drop i=x.Kids[i]::x.Kids.drop (i+1):=by simp
      rw[hdr]at h3 hI;simp only[sumN]at h3;have e3:((d:Nat):Int)-1=((d-1:Nat):Int):=by omega
      simp only[e2,go_sem,List.getElem?_map,List.getElem?_eq_getElem hlt,Option.map_some,wrap_small (n:=((d:Nat):Int)-1) (by omega) (by omega)];rw[e3];refine call_pure (ih _ hm (d-1) (by omega) (b3 _ hm) (by omega)) ?_;simp only[go_sem];rw[GType.nods]at hI;cases hk:x.Kids[i].nod (d-1)with
      | none=>
        rw[hk]at hI;simp only at hI;have e4:decide (nodI none<0)=true:=rfl;simp only[e4,go_sem];exact fin_eq rfl (by rw[er,hI];rfl)
      | some n=>
        rw[hk]at hI;simp only at hI;have hnl:=GType.nod_le hk;have e4:decide (nodI (some n)<0)=false:=decide_eq_false (by simp only[nodI];omega);have e5:(s:Int)+nodI (some n)=((s+n:Nat):Int):=by simp only[nodI];omega
        simp only[e4,e5,go_sem,wrap_small (n:=((s+n:Nat):Int)) (by omega) (by omega),wrap_succ (show i<4611686018427387904 by omega)];exact loopQ_nrm (i+1,s+n) ⟨by simp only;omega,by simp only;omega,hI⟩ (by simp only;omega) (Can.sub (by simp[go_sem]) (by simp[go_sem]))
    · have e2:decide ((i:Int)<(x.Kids.length:Nat))=false:=decide_eq_false (by omega);obtain rfl:i=x.Kids.length:=by omega
      simp only[e2,go_sem];refine fin_eq rfl ?_;rw[er,hI];simp[GType.nods,nodI]
theorem c208{x:GType}(hb:x.bd)(hn:x.nd≤1048576):Pure Gm 208 [x.enc] (.bool (validT x)):=by
  refine Pure.intro [] [] g208 (by kernel_rfl) rfl (by simp[AV.trees,AV.tree,go_sem]) rfl ?_;simp only[F208,vparams,go_sem];refine lbox_ok GType.ln ?_;simp only[go_sem];refine call_pure (c541 x 6 (by decide) hb hn) ?_;simp only[go_sem];refine call_pure c340 ?_;simp only[go_sem];exact fin_eq rfl (by rw[valid_nod])
end Go.Ab
namespace Go.Ab
open Go
set_option maxRecDepth 10000
set_option maxHeartbeats 2000000
theorem take_all{p:UInt8→Bool}:∀{l:Str},(l.takeWhile p).all p=true
  |[]=>rfl
  | x::l=>by
    by_cases h:p x=true
    · rw[List.takeWhile_cons_of_pos h,List.all_cons,h,take_all];rfl
    · rw[List.takeWhile_cons_of_neg h];rfl
theorem tokAt_ok{t:Str}{i:Nat}(hk:(tokEnd t i).1≠0):TokOK (tokAt t i):=by
  intro h5 h3;by_cases hp:0<(wordAt t i).length
  · have e:=tokS_word hp;have ets:tokS t i=tokAt t i:=by unfold tokS;rw[if_neg hk]
    rw[ets]at e;have et:(tokAt t i).Text=wordAt t i:=by rw[e]
    rw[et];refine⟨take_all, ?_⟩;have ee:=tokEnd_word hp;cases q:isKw (wordAt t i)
    · rfl
    · exfalso;apply h3;rw[q]at ee;simp only[tokAt,ee,if_true]
  · exfalso;apply h5;have hk':=hk;unfold tokEnd at hk';rw[if_neg hp]at hk';simp only[tokAt];unfold tokEnd;rw[if_neg hp];split
    · rfl
    · rename_i h1;rw[if_neg h1]at hk';split
      · rfl
      · rename_i h2;rw[if_neg h2]at hk';exact absurd rfl hk'
theorem toksF_ok{t:Str}:∀(f:Nat){i:Nat}{acc l:List GTok},toksF t f i acc=.ok l→(∀x∈acc,TokOK x)→∀x∈l,TokOK x
  | 0,i,acc,l,h,hx=>by simp only[toksF,Except.ok.injEq]at h;subst h;exact hx
  | f+1,i,acc,l,h,hx=>by
    simp only[toksF]at h;split at h
    · split at h
      · exact toksF_ok f h hx
      · split at h
        · cases h
        · rename_i hk;refine toksF_ok f h fun x hm=> ?_;rcases List.mem_append.1 hm with hm | hm
          · exact hx x hm
          · simp only[List.mem_singleton]at hm;subst hm;exact tokAt_ok hk
    · simp only[Except.ok.injEq]at h;subst h;exact hx
theorem tokR_ok{t:Str}:∀x∈(tokR t).1,TokOK x:=by
  unfold tokR;split
  · exact fun x hx=>by simp at hx
  · split
    · exact fun x hx=>by simp at hx
    · rename_i l h;exact toksF_ok _ h (fun x hx=>by simp at hx)
section
variable {h:List AObj} {id a:Nat} {toks:List GTok} {bad:Bool} {t:Str}
theorem n358:SCall Gm 358 [.str t] h fun v h'=>if (tokR t).2.2=0 then v=.tup [.ptr h.length 0 0,.int .i64 0,.int .i64 0]∧h'=h++[prS (tokR t).1 0 false]else v=.tup [.nilp,.int .i64 (tokR t).2.1,.int .i64 (tokR t).2.2]∧h'=h:=by
  refine SCall.run [] [] g358 (by kernel_rfl) rfl ?_;simp only[F358,vparams,go_sem];refine call_pure c735 ?_;simp only[go_sem];by_cases hc:(tokR t).2.2=0
  · simp only[decide_eq_true hc,Bool.not_true,go_sem];refine hbox_ok rfl ?_;simp only[go_sem];rw[if_pos hc];exact⟨by trivial,by trivial⟩
  · simp only[decide_eq_false hc,Bool.not_false,go_sem];rw[if_neg hc];exact⟨by trivial,by trivial⟩
theorem n738(ho:h[id]?=some (prS toks a bad))(hl:toks.length≤1048576):SCall Gm 738 [.ptr id 0 0,.str t] h fun v h'=>v=.int .i64 (nxt toks a t.length).At∧h'=h:=by
  refine SCall.run [] [] g738 (by kernel_rfl) rfl ?_;unfold prS at ho;simp only[F738,vparams,go_sem,ho,Option.map_some,List.length_map];by_cases hlt:a<toks.length
  · have e1:decide ((a:Int)<toks.length)=true:=decide_eq_true (by omega);simp only[e1,go_sem,ho,List.getElem?_map,List.getElem?_eq_getElem hlt,Option.map_some];exact⟨by simp[nxt,List.getElem?_eq_getElem hlt],trivial⟩
  · have e1:decide ((a:Int)<toks.length)=false:=decide_eq_false (by omega);simp only[e1,go_sem];exact⟨by simp[nxt,List.getElem?_eq_none (show toks.length≤a by omega)],trivial⟩
def doneC(toks:List GTok)(a:Nat)(bad:Bool):Bool:=bad || decide (a<toks.length)
theorem n360(ho:h[id]?=some (prS toks a bad))(hl:toks.length≤1048576):SCall Gm 360 [.ptr id 0 0,.str t] h fun v h'=>v=(if doneC toks a bad then .tup [.int .i64 (nxt toks a t.length).At,.int .i64 6]else .tup [.int .i64 0,.int .i64 0])∧h'=h:=by
  refine SCall.run [] [] g360 (by kernel_rfl) rfl ?_;have ho':=ho;unfold prS at ho';simp only[F360,vparams,go_sem,ho',Option.map_some,List.length_map];cases bad
  · simp only[go_sem,ho',Option.map_some,List.length_map];by_cases hlt:a<toks.length
    · have e1:decide ((a:Int)<toks.length)=true:=decide_eq_true (by omega);have e2:doneC toks a false=true:=by simp[doneC,hlt]
      simp only[e1,go_sem];refine call_hereE rfl (n738 ho hl) ?_;simp only[go_sem];rw[e2,if_pos rfl];exact⟨by trivial,by trivial⟩
    · have e1:decide ((a:Int)<toks.length)=false:=decide_eq_false (by omega);have e2:doneC toks a false=false:=by simp[doneC,hlt]
      simp only[e1,go_sem];rw[e2,if_neg (by decide)];exact⟨by trivial,by trivial⟩
  · have e2:doneC toks a true=true:=rfl;simp only[go_sem];refine call_hereE rfl (n738 ho hl) ?_;simp only[go_sem];rw[e2,if_pos rfl];exact⟨by trivial,by trivial⟩
end
theorem c100{t:Str}:Pure Gm 100 [.str t] (parseTV t):=by
  refine Pure.intro [] [] g100 (by kernel_rfl) rfl (by simp[AV.trees,AV.tree,go_sem]) (by simp[parseTV,AV.tree,AV.trees,GType.trx]) ?_;simp only[F100,vparams,go_sem];have er0:parseT t=if (tokR t).2.2=0 then
    (match pT (tokR t).1 (fuelT (tokR t).1 false 0) false 0 with
    |.error b=>(zeroT,(nxt (tokR t).1 b t.length).At,6)
    |.ok (ty,b)=>if b<(tokR t).1.length then(zeroT,(nxt (tokR t).1 b t.length).At,6)else if validT ty then(ty,0,0)else(zeroT,0,1))
    else(zeroT,(tokR t).2.1,(tokR t).2.2):=rfl
  have zz:∀{h:List AObj}{a c:Int},Cv h (.tup [.agg [.int .i64 0,.str [],.nils],.int .i64 a,.int .i64 c]) (.tup [zeroT.enc,.int .i64 a,.int .i64 c]):=fun{h a c}=>
    Cvs.tup (Cvs.cons ((own_ty0 (h:=h) (k:=0) (n:=[])).cv (GType.cnx zeroT)) (Cvs.cons (.refl rfl) (Cvs.cons (.refl rfl) Cvs.nil)))
  refine call_here (n358.mono ?_);intro v h' hq;by_cases hc:(tokR t).2.2=0
  case neg=>
    rw[if_neg hc]at hq er0;obtain⟨rfl,rfl⟩:=hq;simp only[decide_eq_false hc,Bool.not_false,go_sem];refine lst_all rfl rfl ⟨_,rfl⟩ (by decide) ?_;simp only[go_sem];refine fin_tup ?_;unfold parseTV;rw[er0];exact zz
  rw[if_pos hc]at hq er0;obtain⟨rfl,rfl⟩:=hq;have hl:(tokR t).1.length≤1048576:=by have:=tokR_len (t:=t);omega
  simp only[decide_true,Bool.not_true,go_sem];refine call_here ((s_typ (id:=0) hl tokR_ok _ false 0 _ (Nat.le_refl _) (Nat.zero_le _) rfl).mono ?_);rintro v h1 ⟨ty,b,bad,S,q1,q2,q3,q4⟩;obtain⟨x0,x1,x2,rfl⟩:=own_agg q3;simp only[go_sem];refine lst_all rfl rfl ⟨_,rfl⟩ (by decide) ?_;simp only[go_sem];refine call_hereE rfl (n360 q2.at' hl) ?_;have hbad:doneC (tokR t).1 b bad=true→parseT t=(zeroT,(nxt (tokR t).1 b t.length).At,6):=fun q=>by
    rw[er0];unfold PRes at q1;split at q1
    · rename_i t' b' e;obtain⟨rfl,rfl,rfl⟩:=q1;rw[e];have:b<(tokR t).1.length:=by simpa[doneC]using q
      simp only[this,if_true]
    · rename_i b' e;obtain⟨rfl,rfl⟩:=q1;rw[e]
  cases hd:doneC (tokR t).1 b bad
  case true=>
    have er:=hbad hd;simp only[if_true,go_sem,show decide ((6:Int)=0)=false from rfl,Bool.not_false];refine lst_all rfl rfl ⟨_,rfl⟩ (by decide) ?_;simp only[go_sem];refine fin_tup ?_;unfold parseTV;rw[er];exact zz
  case false=>
  have er:pT (tokR t).1 (fuelT (tokR t).1 false 0) false 0=.ok (ty,b)∧¬b<(tokR t).1.length:=by
    unfold PRes at q1;split at q1
    · rename_i t' b' e;obtain⟨rfl,rfl,rfl⟩:=q1;exact⟨e,by simpa[doneC]using hd⟩
    · obtain⟨rfl,rfl⟩:=q1;simp[doneC]at hd
  rw[er.1]at er0;simp only at er0;rw[if_neg er.2]at er0;obtain⟨g1,g2⟩:=pT_bd tokR_txt _ _ _ er.1;have g3:=(pT_prog _ _ _ er.1).2;simp only[Bool.false_eq_true,if_false,go_sem,show decide ((0:Int)=0)=true from rfl,Bool.not_true];refine call_lend (vs':=[ty.enc]) (Cvs.cons (q3.cv (GType.cnx ty)) Cvs.nil) (c208 g1 (by omega)) rfl ?_;simp only[go_sem];cases hv:validT ty
  · rw[hv]at er0;simp only[Bool.not_false,go_sem];refine lst_all rfl rfl ⟨_,rfl⟩ (by decide) ?_;simp only[go_sem];refine fin_tup ?_;unfold parseTV;rw[er0];exact zz
  · rw[hv]at er0;simp only[Bool.not_true,go_sem];refine lst_all rfl rfl ⟨_,rfl⟩ (by decide) ?_;simp only[go_sem];refine fin_tup ?_;unfold parseTV;rw[er0];exact Cvs.tup (Cvs.cons (q3.cv (GType.cnx ty)) (Cvs.cons (.refl rfl) (Cvs.cons (.refl rfl) Cvs.nil)))
end Go.Ab
namespace Go.Ab
open Go
set_option maxRecDepth 10000
set_option maxHeartbeats 2000000
def digF:Nat→Nat→Str→Str
  | 0,_,acc=>acc
  | f+1,n,acc=>if n=0 then acc else digF f (n/10) (UInt8.ofNat (48+n%10)::acc)
def markTx(k:Int):Str:=if k≤0 then [109,48]else 109::digF k.toNat k.toNat []
def B2s(E:Ev)(d:Option Nat)(v:Option AV)(l:List AOper)(ks:List Fr1)(st:VSt)(Q:AExit→VSt→Prop):Prop:=match v with
  | some v=>(v=.nils∨wOf v=some 1)∧(match elemsOf (toH st.h) v with
      | some el=>∃a:List UInt8,el=(a.map fun b:UInt8=>AV.int .u8 b.toNat)∧R E (.ops l::ks) (st.put d (.str a)) Q
      | none=>False)
  | none=>False
section
variable {E:Ev} {i:Nat} {d:Option Nat} {g:Option (Nat×Bool)} {x:Ao} {ck l:List AOper} {ks:List Fr1} {s m:LEnv} {h:List AObj} {Q:AExit→VSt→Prop}
@[go_sem] theorem go_b2s:Go1 E (.mk i d g (.b2s x) ck) l ks ⟨s,m,h⟩ Q=B2s E d (ev (toE s) x) l ks ⟨s,m,h⟩ Q:=by
  unfold Go1 xrun xstep B2s;cases hq:ev (toE s) x<;>simp[AOper.o,AOper.d,AOp.isCall,AOper.apC,AOp.isApp,hq]<;>exact fun _=>Iff.rfl
theorem b2s_ok{v:AV}{e:Nat}{a:List UInt8}(hw:wOf v=some 1)(he:elemsOf (toH h) v=some (a.map fun b:UInt8=>AV.int .u8 b.toNat))(hr:R E (.ops l::ks) ⟨(e,.str a)::s,m,h⟩ Q):B2s E (some e) (some v) l ks ⟨s,m,h⟩ Q:=
  ⟨.inr hw,by rw[he];exact⟨a,rfl,hr⟩⟩
end
theorem digF_z{f:Nat}{acc:Str}:digF f 0 acc=acc:=by cases f<;>rfl
theorem c739{k:Int}(hk:k≤4611686018427387904):Pure Gm 739 [.int .i64 k] (.str (markTx k)):=by
  refine Pure.intro [] [] g739 (by kernel_rfl) rfl (by simp[AV.trees,AV.tree,go_sem]) rfl ?_;simp only[F739,vparams,go_sem];by_cases h0:k≤0
  · simp only[decide_eq_true h0,go_sem];exact fin_eq rfl (by unfold markTx;rw[if_pos h0])
  · simp only[decide_eq_false h0,go_sem];obtain⟨K,rfl⟩:∃K:Nat,k=K:=⟨k.toNat,by omega⟩;have er:markTx (K:Int)=109::digF K K []:=by unfold markTx;rw[if_neg h0];rfl
    refine Sem.loop (fun a:Nat×Str=>a.2.length+a.1≤K∧∃f,a.1≤f∧digF K K []=digF f a.1 a.2) (fun a=>(⟨[(0,.int .i64 (a.1:Nat)),(3,.str a.2)],[],[]⟩:VSt)) (fun a=>a.1) (K,[]) (by kernel_rfl) ⟨by simp,K,Nat.le_refl _,rfl⟩ (Can.sub (by simp[go_sem]) (by simp[go_sem])) ?_;rintro⟨n,acc⟩ ⟨hi,f,hf,hI⟩;simp only at hi hf hI;simp only[go_sem];by_cases hn:n=0
    · have e:decide (0<((n:Nat):Int))=false:=decide_eq_false (by omega);simp only[e,go_sem];rw[strOp_add (by simp only[List.length_cons,List.length_nil];omega)];simp only[go_sem];refine fin_eq rfl ?_;subst hn;rw[er,hI,digF_z];rfl
    · have e:decide (0<((n:Nat):Int))=true:=decide_eq_true (by omega);have e1:Int.tmod (n:Int) 10=((n%10:Nat):Int):=rfl;have e2:Int.tdiv (n:Int) 10=((n/10:Nat):Int):=rfl;have e3:(48:Int)+((n%10:Nat):Int)=((48+n%10:Nat):Int):=by omega
      have hm:n%10<10:=Nat.mod_lt _ (by decide);have hd:n/10<n:=Nat.div_lt_self (by omega) (by decide);simp only[e,go_sem,e1,e2,Int.reduceEq,reduceIte,e3,wrap_small (n:=((48+n%10:Nat):Int)) (by omega) (by omega)];have e4:(UInt8.ofNat (48+n%10)).toNat=48+n%10:=by rw[UInt8.toNat_ofNat'];omega
      have e5:IntKind.u8.wrap ((48+n%10:Nat):Int)=(((UInt8.ofNat (48+n%10)).toNat:Nat):Int):=by
        rw[IntWalk.u8_in _ ⟨by omega,by omega⟩];omega
      rw[e5];refine bsl_one (v:=.int .u8 (((UInt8.ofNat (48+n%10)).toNat:Nat):Int)) rfl rfl ?_;simp only[go_sem];refine b2s_ok (a:=[UInt8.ofNat (48+n%10)]) rfl rfl ?_;simp only[go_sem];rw[strOp_add (by simp only[List.length_cons,List.length_nil];omega)];simp only[go_sem,e2,Int.reduceEq,reduceIte,wrap_small (n:=((n/10:Nat):Int)) (by omega) (by omega)];refine loopQ_nrm (n/10,UInt8.ofNat (48+n%10)::acc) ⟨by simp only[List.length_cons];omega, ?_⟩ (by simp only;omega) (Can.renum [] rfl trivial ⟨⟨_,rfl,.tree rfl⟩,⟨_,rfl,.tree rfl⟩,trivial⟩ trivial);cases f with
      | zero=>omega
      | succ f=>exact⟨f,by simp only;omega,by rw[hI,digF,if_neg hn]⟩
end Go.Ab
namespace Go.Ab
open Go
set_option maxRecDepth 10000
set_option maxHeartbeats 2000000
theorem rowss_memT{α:Type}{enc:α→AV}{f:α→Int→α}{c:α→Nat}:∀{xs:List α}(k:Int),(∀x∈xs,∀k,(enc (f x k)).rows=(enc x).rows)→AV.rowss ((mkL f c xs k).map enc)=AV.rowss (xs.map enc)
  |[],_,_=>rfl
  | x::xs,k,h=>by simp only[mkL,List.map_cons,AV.rowss,h x (by simp),rowss_memT (xs:=xs) _ fun y hy=>h y (by simp[hy])]
theorem GType.layE(x:GType)(n:Nat):lay x.enc n=(.agg [.int .i64 x.Kind,.str x.Name,.slice 3 (n) 0 x.Kids.length false],(lay (.lst 3 (x.Kids.map GType.enc) false) (n)).2++[]):=by
  rw[GType.enc_eq];simp[lay,lays,lays_len,AV.rows,Nat.add_assoc,Nat.add_comm,Nat.add_left_comm]
theorem GType.rowsE(x:GType):x.enc.rows=AV.rows (.lst 3 (x.Kids.map GType.enc) false):=by rw[GType.enc_eq];simp[AV.rows,AV.rowss,Nat.add_assoc]
def GType.wz(x:GType):Nat:=x.nd-1
theorem GType.nd_wz(x:GType):x.nd=1+x.wz:=by have:=x.nd_eq;unfold GType.wz;omega
theorem GType.wz_eq(x:GType):x.wz=x.Kids.length+sumN GType.wz x.Kids:=by
  have h:∀xs:List GType,sumN GType.nd xs=xs.length+sumN GType.wz xs:=by
    intro xs
    induction xs with
    | nil=>rfl
    | cons a xs ih=>have:=a.nd_wz;simp only[sumN,List.length_cons];omega
  have:=x.nd_eq;unfold GType.wz;rw[this,h];unfold GType.wz;omega
def GType.ct(x:GType):Nat:=2*x.nd
theorem GType.ct_eq(x:GType):x.ct=1+1+sumN GType.ct x.Kids:=by
  have h:∀xs:List GType,sumN GType.ct xs=2*sumN GType.nd xs:=by
    intro xs
    induction xs with
    | nil=>rfl
    | cons a xs ih=>simp only[sumN,ih];unfold GType.ct;omega
  have:=x.nd_eq;unfold GType.ct at h⊢;rw[h];omega
mutual
def GType.mrk:GType→Int→GType
  |.mk _ _ ks,k=>.mk k (markTx (k+1)) (GType.mrks ks (k+1+1))
def GType.mrks:List GType→Int→List GType
  |[],_=>[]
  | x::xs,k=>x.mrk k::GType.mrks xs (k+x.ct)
end
theorem GType.mrks_eq:∀xs k,GType.mrks xs k=mkL GType.mrk GType.ct xs k
  |[],k=>by simp[GType.mrks,mkL]
  | x::xs,k=>by simp[GType.mrks,mkL,GType.mrks_eq xs]
theorem GType.mrk_eq(x:GType)(k:Int):x.mrk k=.mk k (markTx (k+1)) (mkL GType.mrk GType.ct x.Kids (k+1+1)):=by
  cases x;simp[GType.mrk,GType.mrks_eq,GType.Kids]
theorem GType.mrkK(x:GType)(k:Int):(x.mrk k).Kind=k:=by rw[GType.mrk_eq];rfl
theorem GType.mrkV(x:GType)(k:Int):(x.mrk k).Name=markTx (k+1):=by rw[GType.mrk_eq];rfl
theorem GType.mrkC(x:GType)(k:Int):(x.mrk k).Kids=mkL GType.mrk GType.ct x.Kids (k+1+1):=by rw[GType.mrk_eq];rfl
theorem GType.rowsM:∀(x:GType)(k:Int),(x.mrk k).enc.rows=x.enc.rows:=GType.ind fun x ih k=>by
  rw[GType.rowsE,GType.rowsE,GType.mrkC];simp only[AV.rows,rowss_memT _ ih]
def GType.mkV(x:GType)(k:Int):GType:=.mk x.Kind x.Name (mkL GType.mrk GType.ct x.Kids (k))
def GType.ctV(x:GType):Nat:=sumN GType.ct x.Kids
theorem GType.mkVK(x:GType)(k:Int):(x.mkV k).Kind=x.Kind:=rfl
theorem GType.mkVV(x:GType)(k:Int):(x.mkV k).Name=x.Name:=rfl
theorem GType.mkVC(x:GType)(k:Int):(x.mkV k).Kids=mkL GType.mrk GType.ct x.Kids (k):=rfl
theorem GType.rowsV(x:GType)(k:Int):(x.mkV k).enc.rows=x.enc.rows:=by
  rw[GType.rowsE,GType.rowsE,GType.mkVC];simp only[AV.rows,rowss_mk GType.mrk GType.ct (enc:=GType.enc) GType.rowsM]
theorem GType.ctVle(x:GType):x.ctV≤2*x.nd:=by
  have h0:=x.ct_eq;unfold GType.ctV;have:x.ct=2*x.nd:=rfl;omega
theorem k362n(n:Nat):∀(xs:List GType)(k:Int)(_:xs.length+sumN GType.wz xs<n)(_:0≤k)(_:k+(sumN GType.ct xs:Nat)≤4611686018427387904)(_:xs.length+sumN GType.wz xs≤4194304),Mark Gm 362 (.lst 3 (xs.map GType.enc) false) (.lst 3 ((mkL GType.mrk GType.ct xs k).map GType.enc) false) k (k+(sumN GType.ct xs:Nat)):=by
  induction n with
  | zero=>intro xs k h;exact absurd h (by omega)
  | succ n ih=>
  intro xs k hn h0 hk hz;refine Mark.intro g362 (by kernel_rfl) rfl (pls_map GType.plx xs) (pls_map GType.plx _) (by simp only[AV.rows,rowss_mk GType.mrk GType.ct (enc:=GType.enc) GType.rowsM]) ?_;simp only[F362,vparams,lay_l1,go_sem,Nat.reduceEqDiff,reduceIte,Nat.reduceAdd,Nat.zero_add];refine Sem.loop (fun i:Nat=>i≤xs.length) (fun i=>(⟨[(0,.slice 3 0 0 xs.length false),(1,.int .i64 (k+((sumN GType.ct (xs.take i):Nat):Int))),(5,.int .i64 (i:Nat))],[],(lay (.lst 3 ((mkL GType.mrk GType.ct (xs.take i) k++xs.drop i).map GType.enc) false) 0).2⟩:VSt)) (fun i=>xs.length-i) 0 (by kernel_rfl) (Nat.zero_le _) (by simp only[List.take_zero,mkL,List.nil_append,List.drop_zero,sumN,Int.ofNat_zero,Int.natCast_zero,Int.add_zero];exact Can.sub (by simp[go_sem]) (by simp[go_sem])) ?_;intro i hi;simp only[go_sem,Nat.reduceEqDiff,reduceIte,Nat.reduceAdd,Nat.zero_add];refine cnd_split ?_ ?_<;>intro hc<;>simp only[hc,go_sem,Nat.reduceEqDiff,reduceIte,Nat.reduceAdd,Nat.zero_add]
  · have hlt:i<xs.length:=by have:=of_decide_eq_true hc;omega
    have hct:=sumN_succ GType.ct hlt;have hcl:=sumN_le GType.ct xs (i+1);have hrow:=GType.rowsM;rw[List.drop_eq_getElem_cons hlt,lay_midE];have hsz:GType.wz xs[i]≤sumN GType.wz xs:=le_sumN (f:=GType.wz) (List.getElem_mem hlt);obtain⟨K,hK⟩:∃K:Int,K=k+((sumN GType.ct (xs.take i):Nat):Int):=⟨_,rfl⟩;have hend:k+((sumN GType.ct (xs.take (i+1)):Nat):Int)=K+((GType.ct xs[i]:Nat):Int):=by rw[hct,hK];omega
    have hKb:0≤K∧K+((GType.ct xs[i]:Nat):Int)≤4611686018427387904:=by rw[←hend];omega
    have hmk:(mkL GType.mrk GType.ct (xs.take (i+1)) k++xs.drop (i+1))=mkL GType.mrk GType.ct (xs.take i) k++GType.mrk xs[i] K::xs.drop (i+1):=by rw[mkL_succ GType.mrk GType.ct hlt,←hK,List.append_assoc];rfl
    have hrx:=hrow xs[i] K;rw[←hK];obtain⟨y,hy⟩:∃y,y=xs[i]:=⟨_,rfl⟩;rw[←hy]at hmk hend hKb hrx hsz⊢;have hcy:GType.ct y=1+1+sumN GType.ct y.Kids:=GType.ct_eq y;rw[hcy]at hend hKb;rw[GType.wz_eq]at hsz;have hA:(lays ((mkL GType.mrk GType.ct (xs.take i) k).map GType.enc) 1).1.length=i:=by rw[lays_length,List.length_map,mkL_length];simp;omega
    have hoA:=lays_len ((mkL GType.mrk GType.ct (xs.take i) k).map GType.enc) 1;have e2:=lay_midE (enc:=GType.enc) (w:=3) (c:=false) (A:=mkL GType.mrk GType.ct (xs.take i) k) (B:=xs.drop (i+1)) (z:=GType.mrk y K);rw[hrx]at e2;rw[GType.layE]at e2⊢;obtain⟨p,hp⟩:∃p,p=1+AV.rowss ((mkL GType.mrk GType.ct (xs.take i) k).map GType.enc):=⟨_,rfl⟩;rw[←hp]at e2⊢;generalize (lays ((xs.drop (i+1)).map GType.enc) (p+y.enc.rows)).1=vB at e2⊢;generalize (lays ((xs.drop (i+1)).map GType.enc) (p+y.enc.rows)).2=oB at e2⊢;generalize (lays ((mkL GType.mrk GType.ct (xs.take i) k).map GType.enc) 1).1=vA at e2 hA⊢;generalize (lays ((mkL GType.mrk GType.ct (xs.take i) k).map GType.enc) 1).2=oA at e2 hoA⊢;simp only[mid_at hA,mid_set hA,idx_s hlt,List.set_cons_zero,go_sem,Nat.reduceEqDiff,reduceIte,Nat.reduceAdd,Nat.zero_add];refine sto_ok (e':=.agg [.int .i64 (K),.str y.Name,.slice 3 (p) 0 y.Kids.length false]) (by rfl) (by rfl) (mid_at hA) (by rfl) ?_;simp only[mid_at hA,mid_set hA,idx_s hlt,List.set_cons_zero,go_sem,Nat.reduceEqDiff,reduceIte,Nat.reduceAdd,Nat.zero_add];rw[wrap_small (n:=K+1) (by omega) (by omega)]
    try simp only[mid_at hA,mid_set hA,idx_s hlt,List.set_cons_zero,go_sem,Nat.reduceEqDiff,reduceIte,Nat.reduceAdd,Nat.zero_add]
    refine call_pure (c739 (by omega)) ?_;simp only[mid_at hA,mid_set hA,idx_s hlt,List.set_cons_zero,go_sem,Nat.reduceEqDiff,reduceIte,Nat.reduceAdd,Nat.zero_add];refine sto_ok (e':=.agg [.int .i64 (K),.str (markTx (K+1)),.slice 3 (p) 0 y.Kids.length false]) (by rfl) (by rfl) (mid_at hA) (by rfl) ?_;simp only[mid_at hA,mid_set hA,idx_s hlt,List.set_cons_zero,go_sem,Nat.reduceEqDiff,reduceIte,Nat.reduceAdd,Nat.zero_add];rw[wrap_small (n:=K+1+1) (by omega) (by omega)]
    try simp only[mid_at hA,mid_set hA,idx_s hlt,List.set_cons_zero,go_sem,Nat.reduceEqDiff,reduceIte,Nat.reduceAdd,Nat.zero_add]
    refine call_markn (n:=p) (pre:=.row 3 (vA++.agg [.int .i64 (K),.str (markTx (K+1)),.slice 3 (p) 0 y.Kids.length false]::vB) true::(oA++[])) (post:=([])++oB) (t:=(.lst 3 (y.Kids.map GType.enc) false)) (t':=(.lst 3 ((mkL GType.mrk GType.ct y.Kids (K+1+1)).map GType.enc) false)) (ih y.Kids (K+1+1) (by omega) (by omega) (by omega) (by omega)) ?_ ?_ (by rw[lay_l1,List.length_map]) ?_
    · first | rfl | (simp only[List.length_cons,List.length_append,List.length_nil,hoA,lay_len,AV.rows];done) | (simp only[List.length_cons,List.length_append,List.length_nil,hoA,lay_len,AV.rows];omega)
    · first | rfl | (simp only[List.append_assoc,List.nil_append,List.append_nil,List.cons_append];done)
    simp only[mid_at hA,mid_set hA,idx_s hlt,List.set_cons_zero,List.cons_append,go_sem,Nat.reduceEqDiff,reduceIte,Nat.reduceAdd,Nat.zero_add];simp only[wrap_succ (show i<4611686018427387904 by omega)];refine loopQ_nrm (i+1) (by omega) (by omega) ?_;have e3:K+1+1+((sumN GType.ct y.Kids:Nat):Int)=k+((sumN GType.ct (xs.take (i+1)):Nat):Int):=by first | (rw[hend];done) | (rw[hend];omega)
    rw[e3];rw[hmk,e2];simp only[GType.mrkK,GType.mrkV,GType.mrkC,mkL_length,AV.rows,List.append_assoc,List.nil_append,List.append_nil,List.cons_append,rowss_mk GType.mrk GType.ct (enc:=GType.enc) GType.rowsM];exact Can.sub (by simp[go_sem]) (by simp[go_sem])
  · have hge:i=xs.length:=by have:=of_decide_eq_false hc;omega
    subst hge;refine finM_ok (by rw[List.take_length]) ?_;rw[List.take_length,List.drop_length,List.append_nil]
theorem k362(xs:List GType)(k:Int)(h0:0≤k)(hk:k+(sumN GType.ct xs:Nat)≤4611686018427387904)(hz:xs.length+sumN GType.wz xs≤4194304):Mark Gm 362 (.lst 3 (xs.map GType.enc) false) (.lst 3 ((mkL GType.mrk GType.ct xs k).map GType.enc) false) k (k+(sumN GType.ct xs:Nat)):=k362n _ xs k (Nat.lt_succ_self _) h0 hk hz
theorem k102(x:GType)(k:Int)(h0:0≤k)(hk:k+(x.ctV:Nat)≤4611686018427387904)(hz:x.wz≤4194304):Mark Gm 102 x.enc (x.mkV k).enc k (k+(x.ctV:Nat)):=by
  refine Mark.intro g102 (by kernel_rfl) rfl (GType.plx x) (GType.plx _) (GType.rowsV x k) ?_;rw[GType.layE,GType.layE];simp only[F102,vparams,go_sem,Nat.reduceEqDiff,reduceIte,Nat.reduceAdd,Nat.zero_add];refine lbox_ok rfl ?_;simp only[go_sem,Nat.reduceEqDiff,reduceIte,Nat.reduceAdd,Nat.zero_add];unfold GType.ctV at hk;rw[GType.wz_eq]at hz;refine call_markn (n:=0) (pre:=[]) (post:=[]) (t:=(.lst 3 (x.Kids.map GType.enc) false)) (t':=(.lst 3 ((mkL GType.mrk GType.ct x.Kids (k)).map GType.enc) false)) (k362 x.Kids (k) (by omega) (by omega) (by omega)) ?_ ?_ (by rw[lay_l1,List.length_map]) ?_
  · first | rfl | (simp only[List.length_append,List.length_nil,lay_len,AV.rows,rowss_mk GType.mrk GType.ct (enc:=GType.enc) GType.rowsM];done) | (simp only[List.length_append,List.length_nil,lay_len,AV.rows,rowss_mk GType.mrk GType.ct (enc:=GType.enc) GType.rowsM];omega)
  · first | rfl | (simp only[List.append_assoc,List.nil_append,List.append_nil];done)
  simp only[List.append_assoc,List.nil_append,List.append_nil,go_sem,Nat.reduceEqDiff,reduceIte,Nat.reduceAdd,Nat.zero_add];refine finM_ok (by first | rfl | (simp only[GType.ctV];done) | (simp only[GType.ctV];omega)) ?_;simp only[GType.mkVK,GType.mkVV,GType.mkVC,mkL_length,AV.rows,Nat.zero_add,List.append_assoc,List.nil_append,List.append_nil,rowss_mk GType.mrk GType.ct (enc:=GType.enc) GType.rowsM]
theorem q363n(n:Nat):∀(xs:List GType)(k:Int)(_:xs.length+sumN GType.wz xs<n)(_:0≤k)(_:k+(sumN GType.ct xs:Nat)≤4611686018427387904)(_:xs.length+sumN GType.wz xs≤4194304),Pure Gm 363 [(.lst 3 ((mkL GType.mrk GType.ct xs k).map GType.enc) false),.int .i64 k] (.int .i64 (k+(sumN GType.ct xs:Nat))):=by
  induction n with
  | zero=>intro xs k h;exact absurd h (by omega)
  | succ n ih=>
  intro xs k hn h0 hk hz;refine Pure.intro [] [] g363 (by kernel_rfl) rfl (by simp[AV.trees,AV.tree,trees_map GType.isSh.tree]) rfl ?_;simp only[F363,vparams,go_sem,Nat.reduceEqDiff,reduceIte,Nat.reduceAdd,Nat.zero_add];refine Sem.loop (fun i:Nat=>i≤xs.length) (fun i=>(⟨[(0,(.lst 3 ((mkL GType.mrk GType.ct xs k).map GType.enc) false)),(1,.int .i64 (k+((sumN GType.ct (xs.take i):Nat):Int))),(5,.int .i64 (i:Nat))],[],[]⟩:VSt)) (fun i=>xs.length-i) 0 (by kernel_rfl) (Nat.zero_le _) (by simp only[List.take_zero,sumN,Int.ofNat_zero,Int.natCast_zero,Int.add_zero];exact Can.sub (by simp[go_sem]) (by simp[go_sem])) ?_;intro i hi;simp only[mkL_length,go_sem,Nat.reduceEqDiff,reduceIte,Nat.reduceAdd,Nat.zero_add];refine cnd_split ?_ ?_<;>intro hc<;>simp only[hc,go_sem,Nat.reduceEqDiff,reduceIte,Nat.reduceAdd,Nat.zero_add]
  · have hlt:i<xs.length:=by have:=of_decide_eq_true hc;omega
    have hct:=sumN_succ GType.ct hlt;have hcl:=sumN_le GType.ct xs (i+1);have hget:=mkL_get GType.mrk GType.ct hlt k;have hsz:GType.wz xs[i]≤sumN GType.wz xs:=le_sumN (f:=GType.wz) (List.getElem_mem hlt);obtain⟨K,hK⟩:∃K:Int,K=k+((sumN GType.ct (xs.take i):Nat):Int):=⟨_,rfl⟩;have hend:k+((sumN GType.ct (xs.take (i+1)):Nat):Int)=K+((GType.ct xs[i]:Nat):Int):=by rw[hct,hK];omega
    have hKb:0≤K∧K+((GType.ct xs[i]:Nat):Int)≤4611686018427387904:=by rw[←hend];omega
    rw[←hK]at hget⊢;obtain⟨y,hy⟩:∃y,y=xs[i]:=⟨_,rfl⟩;rw[←hy]at hget hend hKb hsz;have hcy:GType.ct y=1+1+sumN GType.ct y.Kids:=GType.ct_eq y;rw[hcy]at hend hKb;rw[GType.wz_eq]at hsz;simp only[List.getElem?_map,hget,Option.map_some,go_sem,Nat.reduceEqDiff,reduceIte,Nat.reduceAdd,Nat.zero_add]
    try simp only[List.getElem?_map,hget,Option.map_some,GType.mrkK,GType.mrkV,GType.mrkC,go_sem,Nat.reduceEqDiff,reduceIte,Nat.reduceAdd,Nat.zero_add]
    rw[wrap_small (n:=K+1) (by omega) (by omega)]
    try simp only[List.getElem?_map,hget,Option.map_some,GType.mrkK,GType.mrkV,GType.mrkC,go_sem,Nat.reduceEqDiff,reduceIte,Nat.reduceAdd,Nat.zero_add]
    try simp only[List.getElem?_map,hget,Option.map_some,GType.mrkK,GType.mrkV,GType.mrkC,go_sem,Nat.reduceEqDiff,reduceIte,Nat.reduceAdd,Nat.zero_add]
    refine call_pure (c739 (by omega)) ?_
    try simp only[List.getElem?_map,hget,Option.map_some,GType.mrkK,GType.mrkV,GType.mrkC,go_sem,Nat.reduceEqDiff,reduceIte,Nat.reduceAdd,Nat.zero_add]
    rw[wrap_small (n:=K+1+1) (by omega) (by omega)]
    try simp only[List.getElem?_map,hget,Option.map_some,GType.mrkK,GType.mrkV,GType.mrkC,go_sem,Nat.reduceEqDiff,reduceIte,Nat.reduceAdd,Nat.zero_add]
    try simp only[List.getElem?_map,hget,Option.map_some,GType.mrkK,GType.mrkV,GType.mrkC,go_sem,Nat.reduceEqDiff,reduceIte,Nat.reduceAdd,Nat.zero_add]
    refine call_pure (ih y.Kids (K+1+1) (by omega) (by omega) (by omega) (by omega)) ?_;simp only[List.getElem?_map,hget,Option.map_some,GType.mrkK,GType.mrkV,GType.mrkC,go_sem,Nat.reduceEqDiff,reduceIte,Nat.reduceAdd,Nat.zero_add];rw[show decide (K+1+1+((sumN GType.ct y.Kids:Nat):Int)<0)=false from decide_eq_false (by omega)];simp only[List.getElem?_map,hget,Option.map_some,GType.mrkK,GType.mrkV,GType.mrkC,go_sem,Nat.reduceEqDiff,reduceIte,Nat.reduceAdd,Nat.zero_add];simp only[wrap_succ (show i<4611686018427387904 by omega)];refine loopQ_nrm (i+1) (by omega) (by omega) ?_;have e3:K+1+1+((sumN GType.ct y.Kids:Nat):Int)=k+((sumN GType.ct (xs.take (i+1)):Nat):Int):=by first | (rw[hend];done) | (rw[hend];omega)
    rw[e3];exact Can.sub (by simp[go_sem]) (by simp[go_sem])
  · have hge:i=xs.length:=by have:=of_decide_eq_false hc;omega
    subst hge;refine fin_eq rfl ?_;rw[List.take_length]
theorem q363(xs:List GType)(k:Int)(h0:0≤k)(hk:k+(sumN GType.ct xs:Nat)≤4611686018427387904)(hz:xs.length+sumN GType.wz xs≤4194304):Pure Gm 363 [(.lst 3 ((mkL GType.mrk GType.ct xs k).map GType.enc) false),.int .i64 k] (.int .i64 (k+(sumN GType.ct xs:Nat))):=q363n _ xs k (Nat.lt_succ_self _) h0 hk hz
theorem q103(x:GType)(k:Int)(h0:0≤k)(hk:k+(x.ctV:Nat)≤4611686018427387904)(hz:x.wz≤4194304):Pure Gm 103 [(x.mkV k).enc,.int .i64 k] (.int .i64 (k+(x.ctV:Nat))):=by
  refine Pure.intro [] [] g103 (by kernel_rfl) rfl (by simp[AV.trees,AV.tree,GType.tr]) rfl ?_;simp only[F103,vparams,go_sem,Nat.reduceEqDiff,reduceIte,Nat.reduceAdd,Nat.zero_add];refine lbox_ok GType.ln ?_;simp only[go_sem,Nat.reduceEqDiff,reduceIte,Nat.reduceAdd,Nat.zero_add];unfold GType.ctV at hk;rw[GType.wz_eq]at hz;refine call_pure (q363 x.Kids (k) (by omega) (by omega) (by omega)) ?_;simp only[go_sem,Nat.reduceEqDiff,reduceIte,Nat.reduceAdd,Nat.zero_add]
  try (rw[show decide (k+((sumN GType.ct x.Kids:Nat):Int)<0)=false from decide_eq_false (by omega)];simp only[go_sem,Nat.reduceEqDiff,reduceIte,Nat.reduceAdd,Nat.zero_add])
  refine fin_eq rfl ?_
  first | rfl | (simp only[GType.ctV,AV.int.injEq,true_and];done) | (simp only[GType.ctV,AV.int.injEq,true_and];omega)
end Go.Ab
namespace Go.Ab
open Go
set_option maxRecDepth 10000
set_option maxHeartbeats 2000000
theorem c101w(x:GType):∀(_:x.wz≤2097152),Pure Gm 101 [x.enc,x.enc] (.bool true):=by
  induction x using GType.ind with
  | _ x ih=>
  intro hz;refine Pure.intro [] [] g101 (by kernel_rfl) rfl (by simp[AV.trees,AV.tree,GType.tr]) rfl ?_;simp only[F101,vparams,go_sem];refine lbox_ok GType.ln ?_;simp only[go_sem];refine lbox_ok GType.ln ?_;simp only[go_sem];rw[GType.wz_eq]at hz;refine call_pure (eqS_ok GType.isSh g361 x.Kids (fun y hm=>ih y hm (by have:=le_sumN (f:=GType.wz) hm;omega)) (by omega)) ?_;simp only[go_sem];exact fin_eq rfl rfl
theorem parseT_wz{t:Str}:(parseT t).1.wz≤20000:=by
  unfold parseT;have z:zeroT.wz≤20000:=by have:zeroT.nd=1:=rfl;unfold GType.wz;omega
  split
  · split
    · exact z
    · rename_i ty b e;split
      · exact z
      · split
        · have:=(pT_bd tokR_txt _ _ _ e).2;have h3:=(pT_prog _ _ _ e).2;have h4:=tokR_len (t:=t);have:=ty.nd_wz;simp only;omega
        · exact z
  · exact z
theorem layPT{t:Str}{n:Nat}:lay (parseTV t) n=(.tup [(lay (parseT t).1.enc n).1,.int .i64 (parseT t).2.1,.int .i64 (parseT t).2.2],(lay (parseT t).1.enc n).2):=by simp[parseTV,lay,lays]
theorem layTp(x:GType)(n:Nat):(lay x.enc n).1.part 0 (some 3)=some (lay x.enc n).1:=lay_part (GType.plx x) ⟨_,GType.enc_eq x⟩ (by rw[GType.ln])
theorem layTl(x:GType)(n:Nat):(lay x.enc n).1.cells.length=3:=by rw[lay_cellsLen (GType.plx x)];exact GType.ln
theorem layTa(x:GType)(n:Nat):∃cs,(lay x.enc n).1=.agg cs:=⟨_,congrArg Prod.fst (GType.layE x n)⟩
theorem layTV(x:GType)(k:Int)(n:Nat):(lay (x.mkV k).enc n).1=(lay x.enc n).1:=by
  rw[GType.layE,GType.layE];simp only[GType.mkVK,GType.mkVV,GType.mkVC,mkL_length]
theorem c7{t:Str}:Pure Gm 7 [.str t] (.bool true):=by
  refine Pure.intro [] [] g7 (by kernel_rfl) rfl (by simp[AV.trees,AV.tree,go_sem]) rfl ?_;simp only[F7,vparams,go_sem];by_cases hl:(1048576:Int)<t.length
  · simp only[decide_eq_true hl,go_sem];exact fin_eq rfl rfl
  simp only[decide_eq_false hl,go_sem];refine call_pure c100 ?_;have hw:=parseT_wz (t:=t);have hp:∀n,lay (parseTV t) n=(.tup [(lay (parseT t).1.enc n).1,.int .i64 (parseT t).2.1,.int .i64 (parseT t).2.2],(lay (parseT t).1.enc n).2):=fun n=>layPT;have hf:=n76 (t:=t);have hv:parseTV t=.tup [(parseT t).1.enc,.int .i64 (parseT t).2.1,.int .i64 (parseT t).2.2]:=rfl;generalize (parseT t).1=x at*;generalize (parseT t).2.1=pa at*;generalize (parseT t).2.2=pc at*;rw[hv];simp only[go_sem];refine lst_all (k:=3) rfl GType.ln ⟨_,GType.enc_eq x⟩ (by decide) ?_;simp only[go_sem];refine call_fresh hf ?_;simp only[go_sem,hp,List.nil_append,List.length_nil];refine lst_all (k:=3) rfl (layTl x 0) (layTa x 0) (by decide) ?_;simp only[go_sem,layTp];have cvx:∀{h post:List AObj},h=(lay x.enc 0).2++post→Cv h (lay x.enc 0).1 x.enc:=fun{h post} hh=>lay_at (pre:=[]) (GType.plx x) (GType.cnx x) hh;have cvm:∀{h post:List AObj},h=(lay (x.mkV 1).enc 0).2++post→Cv h (lay x.enc 0).1 (x.mkV 1).enc:=fun{h post} hh=>by
    rw[←layTV x 1];exact lay_at (pre:=[]) (GType.plx _) (GType.cnx _) hh
  refine call_lend (vs':=[x.enc,x.enc]) (Cvs.cons (cvx (List.append_nil _).symm) (Cvs.cons (.refl GType.tr) Cvs.nil)) (c101w x (by omega)) rfl ?_;simp only[go_sem,layTp,Bool.not_true,decide_true,eq_self];refine call_markn (k102 x 1 (by omega) (by have:=x.ctVle;have:=x.nd_wz;omega) (by omega)) (pre:=[]) (post:=[]) rfl (List.append_nil _).symm rfl ?_;simp only[go_sem,layTp,List.nil_append,List.append_nil,List.length_nil];have hneg:decide ((1:Int)+((x.ctV:Nat):Int)<0)=false:=decide_eq_false (by omega);have hb:=x.ctVle;have hb2:=x.nd_wz;have hq:=q103 x 1 (by omega) (by omega) (by omega);refine call_lend (vs':=[(x.mkV 1).enc,.int .i64 1]) (Cvs.cons (cvm (List.append_nil _).symm) (Cvs.cons (.refl rfl) Cvs.nil)) hq rfl ?_;simp only[hneg,go_sem,layTp,Bool.not_true,decide_true,eq_self];refine call_fresh hf ?_;simp only[go_sem,hp];generalize hn:(lay (x.mkV 1).enc 0).2.length=n;refine lst_all (k:=3) rfl (layTl x _) (layTa x _) (by decide) ?_;simp only[go_sem,layTp];have cvy:Cv ((lay (x.mkV 1).enc 0).2++(lay x.enc n).2) (lay x.enc n).1 x.enc:=by
    rw[←hn];exact lay_at (pre:=(lay (x.mkV 1).enc 0).2) (post:=[]) (GType.plx x) (GType.cnx x) (by simp)
  refine call_lend (vs':=[x.enc,x.enc]) (Cvs.cons cvy (Cvs.cons (.refl GType.tr) Cvs.nil)) (c101w x (by omega)) rfl ?_;simp only[go_sem,layTp,Bool.not_true,decide_true,eq_self];refine call_lend (vs':=[(x.mkV 1).enc,.int .i64 1]) (Cvs.cons (cvm rfl) (Cvs.cons (.refl rfl) Cvs.nil)) hq rfl ?_;simp only[hneg,go_sem,layTp,Bool.not_true,decide_true,eq_self];exact fin_eq rfl rfl
end Go.Ab
