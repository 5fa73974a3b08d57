/- Texts Dbg1 .. Dbg1: the abstract machine, its laws and contracts of functions: lemmas for the statement. No condition. -/
import Derived.Test.YtddahfmkcpnoaaaGreatP6
namespace Go.Ab
open Go
set_option maxRecDepth 10000
def F338 : AFun := szS0 
def F1173 : AFun := szS0 
def F852_r0 : List AOper := [⟨0, some 5, none, .nop 2, []⟩,
⟨1, some 6, none, .lload 2 3 none, []⟩,
⟨2, some 7, none, .mov (.t 1), []⟩,
⟨3, some 8, none, .call 338 [.t 6, .t 7], []⟩,
⟨4, some 1, none, .mov (.t 8), []⟩]
@[go_sem] theorem F852_r0_r : OE F852_r0.eq_1 := OEM F852_r0.eq_1
def F852_k1 : ACode := .seq (.reg true [⟨0, some 9, none, .mov (.t 1), []⟩,
⟨1, some 10, none, .bin .lss (.t 9) (.c (.int .i64 0)), []⟩]) (.cond (.t 10) (.seq (.reg true [⟨0, some 4, none, .mov (.c (.int .i64 (-1))), []⟩]) (.ret)) (.skip))
@[go_sem] theorem F852_k1_r : CE F852_k1.eq_1 := CEM F852_k1.eq_1
def F852_r2 : List AOper := [⟨0, some 11, none, .nop 2, []⟩,
⟨1, some 12, none, .lload 2 4 none, []⟩,
⟨2, some 13, none, .mov (.t 1), []⟩,
⟨3, some 14, none, .call 1173 [.t 12, .t 13], []⟩,
⟨4, some 1, none, .mov (.t 14), []⟩]
@[go_sem] theorem F852_r2_r : OE F852_r2.eq_1 := OEM F852_r2.eq_1
def F852_k3 : ACode := .seq (.reg true [⟨0, some 15, none, .mov (.t 1), []⟩,
⟨1, some 16, none, .bin .lss (.t 15) (.c (.int .i64 0)), []⟩]) (.cond (.t 16) (.seq (.reg true [⟨0, some 4, none, .mov (.c (.int .i64 (-1))), []⟩]) (.ret)) (.skip))
@[go_sem] theorem F852_k3_r : CE F852_k3.eq_1 := CEM F852_k3.eq_1
def F852_k4 : ACode := .seq F852_k3 (.seq (.reg true [⟨0, some 17, none, .mov (.t 1), []⟩,
⟨1, some 4, none, .mov (.t 17), []⟩]) (.ret))
@[go_sem] theorem F852_k4_r : CE F852_k4.eq_1 := CEM F852_k4.eq_1
def F852_k5 : ACode := .seq (.reg true F852_r2) F852_k4
@[go_sem] theorem F852_k5_r : CE F852_k5.eq_1 := CEM F852_k5.eq_1
def F852_k6 : ACode := .seq F852_k1 F852_k5
@[go_sem] theorem F852_k6_r : CE F852_k6.eq_1 := CEM F852_k6.eq_1
def F852_k7 : ACode := .seq (.reg true F852_r0) F852_k6
@[go_sem] theorem F852_k7_r : CE F852_k7.eq_1 := CEM F852_k7.eq_1
def F852 : AFun := ⟨2, 18, [.t 4], .seq (.reg true [⟨0, some 2, none, .lbox 5 (.t 0), []⟩,
⟨1, some 4, none, .mov (.c (.int .i64 0)), []⟩]) F852_k7⟩
def F501 : AFun := szS 5 (some 5) 852
def F182_r0 : List AOper := [⟨0, some 5, none, .nop 2, []⟩,
⟨1, some 6, none, .lload 2 0 none, []⟩,
⟨2, some 7, none, .mov (.t 1), []⟩,
⟨3, some 8, none, .call 501 [.t 6, .t 7], []⟩,
⟨4, some 1, none, .mov (.t 8), []⟩]
@[go_sem] theorem F182_r0_r : OE F182_r0.eq_1 := OEM F182_r0.eq_1
def F182_k1 : ACode := .seq (.reg true [⟨0, some 9, none, .mov (.t 1), []⟩,
⟨1, some 10, none, .bin .lss (.t 9) (.c (.int .i64 0)), []⟩]) (.cond (.t 10) (.seq (.reg true [⟨0, some 4, none, .mov (.c (.int .i64 (-1))), []⟩]) (.ret)) (.skip))
@[go_sem] theorem F182_k1_r : CE F182_k1.eq_1 := CEM F182_k1.eq_1
def F182_k2 : ACode := .seq F182_k1 (.seq (.reg true [⟨0, some 11, none, .mov (.t 1), []⟩,
⟨1, some 4, none, .mov (.t 11), []⟩]) (.ret))
@[go_sem] theorem F182_k2_r : CE F182_k2.eq_1 := CEM F182_k2.eq_1
def F182_k3 : ACode := .seq (.reg true F182_r0) F182_k2
@[go_sem] theorem F182_k3_r : CE F182_k3.eq_1 := CEM F182_k3.eq_1
def F182 : AFun := ⟨2, 12, [.t 4], .seq (.reg true [⟨0, some 2, none, .lbox 1 (.t 0), []⟩,
⟨1, some 4, none, .mov (.c (.int .i64 0)), []⟩]) F182_k3⟩
def F181 : AFun := szS 1 (some 1) 182
def F364 : AFun := szS0 
def F365 : AFun := szS0 
def F740_r0 : List AOper := [⟨0, some 5, none, .nop 2, []⟩,
⟨1, some 6, none, .lload 2 1 (some 1), []⟩,
⟨2, some 7, none, .mov (.t 1), []⟩,
⟨3, some 8, none, .call 182 [.t 6, .t 7], []⟩,
⟨4, some 1, none, .mov (.t 8), []⟩]
@[go_sem] theorem F740_r0_r : OE F740_r0.eq_1 := OEM F740_r0.eq_1
def F740_k1 : ACode := .seq (.reg true [⟨0, some 9, none, .mov (.t 1), []⟩,
⟨1, some 10, none, .bin .lss (.t 9) (.c (.int .i64 0)), []⟩]) (.cond (.t 10) (.seq (.reg true [⟨0, some 4, none, .mov (.c (.int .i64 (-1))), []⟩]) (.ret)) (.skip))
@[go_sem] theorem F740_k1_r : CE F740_k1.eq_1 := CEM F740_k1.eq_1
def F740_r2 : List AOper := [⟨0, some 11, none, .nop 2, []⟩,
⟨1, some 12, none, .lload 2 2 none, []⟩,
⟨2, some 13, none, .mov (.t 1), []⟩,
⟨3, some 14, none, .call 364 [.t 12, .t 13], []⟩,
⟨4, some 1, none, .mov (.t 14), []⟩]
@[go_sem] theorem F740_r2_r : OE F740_r2.eq_1 := OEM F740_r2.eq_1
def F740_k3 : ACode := .seq (.reg true [⟨0, some 15, none, .mov (.t 1), []⟩,
⟨1, some 16, none, .bin .lss (.t 15) (.c (.int .i64 0)), []⟩]) (.cond (.t 16) (.seq (.reg true [⟨0, some 4, none, .mov (.c (.int .i64 (-1))), []⟩]) (.ret)) (.skip))
@[go_sem] theorem F740_k3_r : CE F740_k3.eq_1 := CEM F740_k3.eq_1
def F740_k4 : ACode := .seq F740_k3 (.seq (.reg true [⟨0, some 17, none, .mov (.t 1), []⟩,
⟨1, some 4, none, .mov (.t 17), []⟩]) (.ret))
@[go_sem] theorem F740_k4_r : CE F740_k4.eq_1 := CEM F740_k4.eq_1
def F740_k5 : ACode := .seq (.reg true F740_r2) F740_k4
@[go_sem] theorem F740_k5_r : CE F740_k5.eq_1 := CEM F740_k5.eq_1
def F740_k6 : ACode := .seq F740_k1 F740_k5
@[go_sem] theorem F740_k6_r : CE F740_k6.eq_1 := CEM F740_k6.eq_1
def F740_k7 : ACode := .seq (.reg true F740_r0) F740_k6
@[go_sem] theorem F740_k7_r : CE F740_k7.eq_1 := CEM F740_k7.eq_1
def F740 : AFun := ⟨2, 18, [.t 4], .seq (.reg true [⟨0, some 2, none, .lbox 3 (.t 0), []⟩,
⟨1, some 4, none, .mov (.c (.int .i64 0)), []⟩]) F740_k7⟩
def F366 : AFun := szS 3 (some 3) 740
def F104_r0 : List AOper := [⟨0, some 5, none, .nop 2, []⟩,
⟨1, some 6, none, .lload 2 0 none, []⟩,
⟨2, some 7, none, .mov (.t 1), []⟩,
⟨3, some 8, none, .call 181 [.t 6, .t 7], []⟩,
⟨4, some 1, none, .mov (.t 8), []⟩]
@[go_sem] theorem F104_r0_r : OE F104_r0.eq_1 := OEM F104_r0.eq_1
def F104_k1 : ACode := .seq (.reg true [⟨0, some 9, none, .mov (.t 1), []⟩,
⟨1, some 10, none, .bin .lss (.t 9) (.c (.int .i64 0)), []⟩]) (.cond (.t 10) (.seq (.reg true [⟨0, some 4, none, .mov (.c (.int .i64 (-1))), []⟩]) (.ret)) (.skip))
@[go_sem] theorem F104_k1_r : CE F104_k1.eq_1 := CEM F104_k1.eq_1
def F104_r2 : List AOper := [⟨0, some 11, none, .nop 2, []⟩,
⟨1, some 12, none, .lload 2 1 none, []⟩,
⟨2, some 13, none, .mov (.t 1), []⟩,
⟨3, some 14, none, .call 338 [.t 12, .t 13], []⟩,
⟨4, some 1, none, .mov (.t 14), []⟩]
@[go_sem] theorem F104_r2_r : OE F104_r2.eq_1 := OEM F104_r2.eq_1
def F104_k3 : ACode := .seq (.reg true [⟨0, some 15, none, .mov (.t 1), []⟩,
⟨1, some 16, none, .bin .lss (.t 15) (.c (.int .i64 0)), []⟩]) (.cond (.t 16) (.seq (.reg true [⟨0, some 4, none, .mov (.c (.int .i64 (-1))), []⟩]) (.ret)) (.skip))
@[go_sem] theorem F104_k3_r : CE F104_k3.eq_1 := CEM F104_k3.eq_1
def F104_r4 : List AOper := [⟨0, some 17, none, .nop 2, []⟩,
⟨1, some 18, none, .lload 2 4 (some 1), []⟩,
⟨2, some 19, none, .mov (.t 1), []⟩,
⟨3, some 20, none, .call 182 [.t 18, .t 19], []⟩,
⟨4, some 1, none, .mov (.t 20), []⟩]
@[go_sem] theorem F104_r4_r : OE F104_r4.eq_1 := OEM F104_r4.eq_1
def F104_k5 : ACode := .seq (.reg true [⟨0, some 21, none, .mov (.t 1), []⟩,
⟨1, some 22, none, .bin .lss (.t 21) (.c (.int .i64 0)), []⟩]) (.cond (.t 22) (.seq (.reg true [⟨0, some 4, none, .mov (.c (.int .i64 (-1))), []⟩]) (.ret)) (.skip))
@[go_sem] theorem F104_k5_r : CE F104_k5.eq_1 := CEM F104_k5.eq_1
def F104_r6 : List AOper := [⟨0, some 23, none, .nop 2, []⟩,
⟨1, some 24, none, .lload 2 5 none, []⟩,
⟨2, some 25, none, .mov (.t 1), []⟩,
⟨3, some 26, none, .call 364 [.t 24, .t 25], []⟩,
⟨4, some 1, none, .mov (.t 26), []⟩]
@[go_sem] theorem F104_r6_r : OE F104_r6.eq_1 := OEM F104_r6.eq_1
def F104_k7 : ACode := .seq (.reg true [⟨0, some 27, none, .mov (.t 1), []⟩,
⟨1, some 28, none, .bin .lss (.t 27) (.c (.int .i64 0)), []⟩]) (.cond (.t 28) (.seq (.reg true [⟨0, some 4, none, .mov (.c (.int .i64 (-1))), []⟩]) (.ret)) (.skip))
@[go_sem] theorem F104_k7_r : CE F104_k7.eq_1 := CEM F104_k7.eq_1
def F104_r8 : List AOper := [⟨0, some 29, none, .nop 2, []⟩,
⟨1, some 30, none, .lload 2 6 none, []⟩,
⟨2, some 31, none, .mov (.t 1), []⟩,
⟨3, some 32, none, .call 365 [.t 30, .t 31], []⟩,
⟨4, some 1, none, .mov (.t 32), []⟩]
@[go_sem] theorem F104_r8_r : OE F104_r8.eq_1 := OEM F104_r8.eq_1
def F104_k9 : ACode := .seq (.reg true [⟨0, some 33, none, .mov (.t 1), []⟩,
⟨1, some 34, none, .bin .lss (.t 33) (.c (.int .i64 0)), []⟩]) (.cond (.t 34) (.seq (.reg true [⟨0, some 4, none, .mov (.c (.int .i64 (-1))), []⟩]) (.ret)) (.skip))
@[go_sem] theorem F104_k9_r : CE F104_k9.eq_1 := CEM F104_k9.eq_1
def F104_r10 : List AOper := [⟨0, some 35, none, .nop 2, []⟩,
⟨1, some 36, none, .lload 2 7 none, []⟩,
⟨2, some 37, none, .mov (.t 1), []⟩,
⟨3, some 38, none, .call 366 [.t 36, .t 37], []⟩,
⟨4, some 1, none, .mov (.t 38), []⟩]
@[go_sem] theorem F104_r10_r : OE F104_r10.eq_1 := OEM F104_r10.eq_1
def F104_k11 : ACode := .seq (.reg true [⟨0, some 39, none, .mov (.t 1), []⟩,
⟨1, some 40, none, .bin .lss (.t 39) (.c (.int .i64 0)), []⟩]) (.cond (.t 40) (.seq (.reg true [⟨0, some 4, none, .mov (.c (.int .i64 (-1))), []⟩]) (.ret)) (.skip))
@[go_sem] theorem F104_k11_r : CE F104_k11.eq_1 := CEM F104_k11.eq_1
def F104_k12 : ACode := .seq F104_k11 (.seq (.reg true [⟨0, some 41, none, .mov (.t 1), []⟩,
⟨1, some 4, none, .mov (.t 41), []⟩]) (.ret))
@[go_sem] theorem F104_k12_r : CE F104_k12.eq_1 := CEM F104_k12.eq_1
def F104_k13 : ACode := .seq (.reg true F104_r10) F104_k12
@[go_sem] theorem F104_k13_r : CE F104_k13.eq_1 := CEM F104_k13.eq_1
def F104_k14 : ACode := .seq F104_k9 F104_k13
@[go_sem] theorem F104_k14_r : CE F104_k14.eq_1 := CEM F104_k14.eq_1
def F104_k15 : ACode := .seq (.reg true F104_r8) F104_k14
@[go_sem] theorem F104_k15_r : CE F104_k15.eq_1 := CEM F104_k15.eq_1
def F104_k16 : ACode := .seq F104_k7 F104_k15
@[go_sem] theorem F104_k16_r : CE F104_k16.eq_1 := CEM F104_k16.eq_1
def F104_k17 : ACode := .seq (.reg true F104_r6) F104_k16
@[go_sem] theorem F104_k17_r : CE F104_k17.eq_1 := CEM F104_k17.eq_1
def F104_k18 : ACode := .seq F104_k5 F104_k17
@[go_sem] theorem F104_k18_r : CE F104_k18.eq_1 := CEM F104_k18.eq_1
def F104_k19 : ACode := .seq (.reg true F104_r4) F104_k18
@[go_sem] theorem F104_k19_r : CE F104_k19.eq_1 := CEM F104_k19.eq_1
def F104_k20 : ACode := .seq F104_k3 F104_k19
@[go_sem] theorem F104_k20_r : CE F104_k20.eq_1 := CEM F104_k20.eq_1
def F104_k21 : ACode := .seq (.reg true F104_r2) F104_k20
@[go_sem] theorem F104_k21_r : CE F104_k21.eq_1 := CEM F104_k21.eq_1
def F104_k22 : ACode := .seq F104_k1 F104_k21
@[go_sem] theorem F104_k22_r : CE F104_k22.eq_1 := CEM F104_k22.eq_1
def F104_k23 : ACode := .seq (.reg true F104_r0) F104_k22
@[go_sem] theorem F104_k23_r : CE F104_k23.eq_1 := CEM F104_k23.eq_1
def F104 : AFun := ⟨2, 42, [.t 4], .seq (.reg true [⟨0, some 2, none, .lbox 8 (.t 0), []⟩,
⟨1, some 4, none, .mov (.c (.int .i64 0)), []⟩]) F104_k23⟩
def F340_r0 : List AOper := [⟨0, some 7, none, .mov (.t 0), []⟩,
⟨1, some 8, none, .mov (.t 1), []⟩,
⟨2, some 9, none, .bin .geq (.t 7) (.t 8), []⟩,
⟨3, some 10, none, .mov (.t 9), []⟩,
⟨4, some 11, (some (10, true)), .mov (.t 0), []⟩,
⟨5, some 12, (some (10, true)), .mov (.t 2), []⟩,
⟨6, some 13, (some (10, true)), .bin .leq (.t 11) (.t 12), []⟩,
⟨7, some 14, none, .pick (.t 10) (.t 13) (.c (.bool false)), []⟩,
⟨8, some 6, none, .mov (.t 14), []⟩]
@[go_sem] theorem F340_r0_r : OE F340_r0.eq_1 := OEM F340_r0.eq_1
def F340_k1 : ACode := .seq (.reg true F340_r0) (.ret)
@[go_sem] theorem F340_k1_r : CE F340_k1.eq_1 := CEM F340_k1.eq_1
def F340 : AFun := ⟨3, 15, [.t 6], .seq (.reg true [⟨0, some 6, none, .mov (.c (.bool false)), []⟩]) F340_k1⟩
def F412_r0 : List AOper := [⟨0, some 4, none, .mov (.t 0), []⟩,
⟨1, some 5, none, .len (.t 4), []⟩,
⟨2, some 6, none, .bin .gtr (.t 5) (.c (.int .i64 200)), []⟩]
@[go_sem] theorem F412_r0_r : OE F412_r0.eq_1 := OEM F412_r0.eq_1
def F412_k1 : ACode := .seq (.reg true F412_r0) (.cond (.t 6) (.seq (.reg true [⟨0, some 2, none, .mov (.c (.bool false)), []⟩]) (.ret)) (.skip))
@[go_sem] theorem F412_k1_r : CE F412_k1.eq_1 := CEM F412_k1.eq_1
def F412_r2 : List AOper := [⟨0, some 7, none, .mov (.t 3), []⟩,
⟨1, some 8, none, .mov (.t 0), []⟩,
⟨2, some 9, none, .len (.t 8), []⟩,
⟨3, some 10, none, .bin .lss (.t 7) (.t 9), []⟩]
@[go_sem] theorem F412_r2_r : OE F412_r2.eq_1 := OEM F412_r2.eq_1
def F412_k3 : ACode := .seq (.reg true F412_r2) (.cond (.t 10) (.skip) (.exit 0))
@[go_sem] theorem F412_k3_r : CE F412_k3.eq_1 := CEM F412_k3.eq_1
def F412_r4 : List AOper := [⟨0, some 13, none, .mov (.t 0), []⟩,
⟨1, some 14, none, .mov (.t 3), []⟩,
⟨2, some 15, none, .iaddr 1 (.t 13) (.t 14), []⟩,
⟨3, some 16, none, .load none (.t 15), []⟩,
⟨4, some 17, none, .call 340 [.t 16, .c (.int .i64 0), .c (.int .i64 600)], []⟩,
⟨5, some 18, none, .not (.t 17), []⟩]
@[go_sem] theorem F412_r4_r : OE F412_r4.eq_1 := OEM F412_r4.eq_1
def F412_k5 : ACode := .seq (.reg true F412_r4) (.cond (.t 18) (.seq (.reg true [⟨0, some 2, none, .mov (.c (.bool false)), []⟩]) (.ret)) (.skip))
@[go_sem] theorem F412_k5_r : CE F412_k5.eq_1 := CEM F412_k5.eq_1
def F412_k6 : ACode := .blk 1 F412_k5
@[go_sem] theorem F412_k6_r : CE F412_k6.eq_1 := CEM F412_k6.eq_1
def F412_r7 : List AOper := [⟨0, some 11, none, .mov (.t 3), []⟩,
⟨1, some 12, none, .bin .add (.t 11) (.c (.int .i64 1)), []⟩,
⟨2, some 3, none, .mov (.t 12), []⟩]
@[go_sem] theorem F412_r7_r : OE F412_r7.eq_1 := OEM F412_r7.eq_1
def F412_k8 : ACode := .seq F412_k6 (.reg true F412_r7)
@[go_sem] theorem F412_k8_r : CE F412_k8.eq_1 := CEM F412_k8.eq_1
def F412_k9 : ACode := .seq F412_k3 F412_k8
@[go_sem] theorem F412_k9_r : CE F412_k9.eq_1 := CEM F412_k9.eq_1
def F412_k10 : ACode := .loop F412_k9
@[go_sem] theorem F412_k10_r : CE F412_k10.eq_1 := CEM F412_k10.eq_1
def F412_k11 : ACode := .blk 0 F412_k10
@[go_sem] theorem F412_k11_r : CE F412_k11.eq_1 := CEM F412_k11.eq_1
def F412_k12 : ACode := .seq (.reg true [⟨0, some 3, none, .mov (.c (.int .i64 0)), []⟩]) F412_k11
@[go_sem] theorem F412_k12_r : CE F412_k12.eq_1 := CEM F412_k12.eq_1
def F412_k13 : ACode := .seq F412_k12 (.seq (.reg true [⟨0, some 2, none, .mov (.c (.bool true)), []⟩]) (.ret))
@[go_sem] theorem F412_k13_r : CE F412_k13.eq_1 := CEM F412_k13.eq_1
def F412_k14 : ACode := .seq F412_k1 F412_k13
@[go_sem] theorem F412_k14_r : CE F412_k14.eq_1 := CEM F412_k14.eq_1
def F412 : AFun := ⟨1, 19, [.t 2], .seq (.reg true [⟨0, some 2, none, .mov (.c (.bool false)), []⟩]) F412_k14⟩
def F426_r0 : List AOper := [⟨0, some 3, none, .mov (.t 0), []⟩,
⟨1, some 4, none, .nilchk (.t 3), []⟩,
⟨2, some 5, none, .faddr 0 (.t 4), []⟩,
⟨3, some 6, none, .load none (.t 5), []⟩]
@[go_sem] theorem F426_r0_r : OE F426_r0.eq_1 := OEM F426_r0.eq_1
def F426_r1 : List AOper := [⟨0, some 9, none, .mov (.t 0), []⟩,
⟨1, some 10, none, .nilchk (.t 9), []⟩,
⟨2, some 11, none, .faddr 1 (.t 10), []⟩,
⟨3, some 12, none, .load none (.t 11), []⟩,
⟨4, some 13, none, .call 340 [.t 12, .c (.int .i64 1), .c (.int .i64 8)], []⟩,
⟨5, some 2, none, .mov (.t 13), []⟩]
@[go_sem] theorem F426_r1_r : OE F426_r1.eq_1 := OEM F426_r1.eq_1
def F426_k2 : ACode := .seq (.reg true F426_r1) (.ret)
@[go_sem] theorem F426_k2_r : CE F426_k2.eq_1 := CEM F426_k2.eq_1
def F426_r3 : List AOper := [⟨0, some 16, none, .mov (.t 0), []⟩,
⟨1, some 17, none, .nilchk (.t 16), []⟩,
⟨2, some 18, none, .faddr 1 (.t 17), []⟩,
⟨3, some 19, none, .load none (.t 18), []⟩,
⟨4, some 20, none, .call 340 [.t 19, .c (.int .i64 0), .c (.int .i64 23)], []⟩,
⟨5, some 2, none, .mov (.t 20), []⟩]
@[go_sem] theorem F426_r3_r : OE F426_r3.eq_1 := OEM F426_r3.eq_1
def F426_k4 : ACode := .seq (.reg true F426_r3) (.ret)
@[go_sem] theorem F426_k4_r : CE F426_k4.eq_1 := CEM F426_k4.eq_1
def F426_r5 : List AOper := [⟨0, some 23, none, .mov (.t 0), []⟩,
⟨1, some 24, none, .nilchk (.t 23), []⟩,
⟨2, some 25, none, .faddr 1 (.t 24), []⟩,
⟨3, some 26, none, .load none (.t 25), []⟩,
⟨4, some 27, none, .call 340 [.t 26, .c (.int .i64 1), .c (.int .i64 600)], []⟩,
⟨5, some 2, none, .mov (.t 27), []⟩]
@[go_sem] theorem F426_r5_r : OE F426_r5.eq_1 := OEM F426_r5.eq_1
def F426_k6 : ACode := .seq (.reg true F426_r5) (.ret)
@[go_sem] theorem F426_k6_r : CE F426_k6.eq_1 := CEM F426_k6.eq_1
def F426_k7 : ACode := .cond (.t 21) F426_k6 (.skip)
@[go_sem] theorem F426_k7_r : CE F426_k7.eq_1 := CEM F426_k7.eq_1
def F426_k8 : ACode := .seq (.reg true [⟨0, some 22, none, .bin .eql (.t 6) (.c (.int .i64 3)), []⟩,
⟨1, some 21, none, .mov (.t 22), []⟩]) F426_k7
@[go_sem] theorem F426_k8_r : CE F426_k8.eq_1 := CEM F426_k8.eq_1
def F426_k9 : ACode := .cond (.t 14) F426_k4 F426_k8
@[go_sem] theorem F426_k9_r : CE F426_k9.eq_1 := CEM F426_k9.eq_1
def F426_k10 : ACode := .seq (.reg true [⟨0, some 15, none, .bin .eql (.t 6) (.c (.int .i64 2)), []⟩,
⟨1, some 14, none, .mov (.t 15), []⟩]) F426_k9
@[go_sem] theorem F426_k10_r : CE F426_k10.eq_1 := CEM F426_k10.eq_1
def F426_k11 : ACode := .cond (.t 7) F426_k2 F426_k10
@[go_sem] theorem F426_k11_r : CE F426_k11.eq_1 := CEM F426_k11.eq_1
def F426_k12 : ACode := .seq (.reg true [⟨0, some 8, none, .bin .eql (.t 6) (.c (.int .i64 1)), []⟩,
⟨1, some 7, none, .mov (.t 8), []⟩]) F426_k11
@[go_sem] theorem F426_k12_r : CE F426_k12.eq_1 := CEM F426_k12.eq_1
def F426_k13 : ACode := .blk 0 F426_k12
@[go_sem] theorem F426_k13_r : CE F426_k13.eq_1 := CEM F426_k13.eq_1
def F426_k14 : ACode := .seq (.reg true F426_r0) F426_k13
@[go_sem] theorem F426_k14_r : CE F426_k14.eq_1 := CEM F426_k14.eq_1
def F426_k15 : ACode := .seq F426_k14 (.seq (.reg true [⟨0, some 2, none, .mov (.c (.bool false)), []⟩]) (.ret))
@[go_sem] theorem F426_k15_r : CE F426_k15.eq_1 := CEM F426_k15.eq_1
def F426 : AFun := ⟨1, 28, [.t 2], .seq (.reg true [⟨0, some 2, none, .mov (.c (.bool false)), []⟩]) F426_k15⟩
def F488_r0 : List AOper := [⟨0, some 5, none, .nop 3, []⟩,
⟨1, some 6, none, .lload 3 0 none, []⟩,
⟨2, some 7, none, .mov (.t 0), []⟩,
⟨3, some 8, none, .len (.t 7), []⟩,
⟨4, some 9, none, .bin .sub (.t 8) (.c (.int .i64 1)), []⟩,
⟨5, some 10, none, .call 340 [.t 6, .c (.int .i64 0), .t 9], []⟩,
⟨6, some 11, none, .mov (.t 10), []⟩,
⟨7, some 12, (some (11, true)), .nop 3, []⟩,
⟨8, some 13, (some (11, true)), .lload 3 1 none, []⟩,
⟨9, some 14, (some (11, true)), .mov (.t 0), []⟩,
⟨10, some 15, (some (11, true)), .nop 3, []⟩,
⟨11, some 16, (some (11, true)), .lload 3 0 none, []⟩,
⟨12, some 17, (some (11, true)), .iaddr 5 (.t 14) (.t 16), []⟩,
⟨13, some 18, (some (11, true)), .faddr 4 (.t 17), []⟩,
⟨14, some 19, (some (11, true)), .load none (.t 18), []⟩,
⟨15, some 20, (some (11, true)), .len (.t 19), []⟩,
⟨16, some 21, (some (11, true)), .bin .sub (.t 20) (.c (.int .i64 1)), []⟩,
⟨17, some 22, (some (11, true)), .call 340 [.t 13, .c (.int .i64 0), .t 21], []⟩,
⟨18, some 23, none, .pick (.t 11) (.t 22) (.c (.bool false)), []⟩,
⟨19, some 4, none, .mov (.t 23), []⟩]
@[go_sem] theorem F488_r0_r : OE F488_r0.eq_1 := OEM F488_r0.eq_1
def F488_k1 : ACode := .seq (.reg true F488_r0) (.ret)
@[go_sem] theorem F488_k1_r : CE F488_k1.eq_1 := CEM F488_k1.eq_1
def F488 : AFun := ⟨2, 24, [.t 4], .seq (.reg true [⟨0, some 3, none, .lbox 2 (.t 1), []⟩,
⟨1, some 4, none, .mov (.c (.bool false)), []⟩]) F488_k1⟩
def F1371_r0 : List AOper := [⟨0, some 9, none, .mov (.t 1), []⟩,
⟨1, some 10, none, .bin .add (.c (.int .i64 1)) (.t 9), []⟩,
⟨2, some 4, none, .mov (.t 10), []⟩]
@[go_sem] theorem F1371_r0_r : OE F1371_r0.eq_1 := OEM F1371_r0.eq_1
def F1371_k1 : ACode := .cond (.t 8) (.seq (.reg true F1371_r0) (.ret)) (.skip)
@[go_sem] theorem F1371_k1_r : CE F1371_k1.eq_1 := CEM F1371_k1.eq_1
def F1371_k2 : ACode := .seq (.reg true [⟨0, some 7, none, .mov (.t 1), []⟩,
⟨1, some 8, none, .call 340 [.t 7, .c (.int .i64 0), .c (.int .i64 3)], []⟩]) F1371_k1
@[go_sem] theorem F1371_k2_r : CE F1371_k2.eq_1 := CEM F1371_k2.eq_1
def F1371_k3 : ACode := .seq F1371_k2 (.seq (.reg true [⟨0, some 4, none, .mov (.c (.int .i64 0)), []⟩]) (.ret))
@[go_sem] theorem F1371_k3_r : CE F1371_k3.eq_1 := CEM F1371_k3.eq_1
def F1371_k4 : ACode := .cond (.t 6) F1371_k3 (.skip)
@[go_sem] theorem F1371_k4_r : CE F1371_k4.eq_1 := CEM F1371_k4.eq_1
def F1371_k5 : ACode := .seq (.reg true [⟨0, some 5, none, .mov (.t 0), []⟩,
⟨1, some 6, none, .bin .eql (.t 5) (.c (.int .i64 9)), []⟩]) F1371_k4
@[go_sem] theorem F1371_k5_r : CE F1371_k5.eq_1 := CEM F1371_k5.eq_1
def F1371_k6 : ACode := .seq (.reg true [⟨0, some 11, none, .mov (.t 1), []⟩,
⟨1, some 12, none, .bin .neq (.t 11) (.c (.int .i64 0)), []⟩]) (.cond (.t 12) (.seq (.reg true [⟨0, some 4, none, .mov (.c (.int .i64 0)), []⟩]) (.ret)) (.skip))
@[go_sem] theorem F1371_k6_r : CE F1371_k6.eq_1 := CEM F1371_k6.eq_1
def F1371_k7 : ACode := .seq (.reg true [⟨0, some 17, none, .bin .eql (.t 13) (.c (.int .i64 6)), []⟩,
⟨1, some 14, none, .mov (.t 17), []⟩]) (.cond (.t 14) (.skip) (.reg true [⟨0, some 18, none, .bin .eql (.t 13) (.c (.int .i64 12)), []⟩,
⟨1, some 14, none, .mov (.t 18), []⟩]))
@[go_sem] theorem F1371_k7_r : CE F1371_k7.eq_1 := CEM F1371_k7.eq_1
def F1371_k8 : ACode := .cond (.t 14) (.skip) F1371_k7
@[go_sem] theorem F1371_k8_r : CE F1371_k8.eq_1 := CEM F1371_k8.eq_1
def F1371_k9 : ACode := .seq (.reg true [⟨0, some 16, none, .bin .eql (.t 13) (.c (.int .i64 5)), []⟩,
⟨1, some 14, none, .mov (.t 16), []⟩]) F1371_k8
@[go_sem] theorem F1371_k9_r : CE F1371_k9.eq_1 := CEM F1371_k9.eq_1
def F1371_k10 : ACode := .cond (.t 14) (.skip) F1371_k9
@[go_sem] theorem F1371_k10_r : CE F1371_k10.eq_1 := CEM F1371_k10.eq_1
def F1371_k11 : ACode := .seq (.reg true [⟨0, some 15, none, .bin .eql (.t 13) (.c (.int .i64 1)), []⟩,
⟨1, some 14, none, .mov (.t 15), []⟩]) F1371_k10
@[go_sem] theorem F1371_k11_r : CE F1371_k11.eq_1 := CEM F1371_k11.eq_1
def F1371_k12 : ACode := .seq (.reg true [⟨0, some 21, none, .bin .eql (.t 13) (.c (.int .i64 10)), []⟩,
⟨1, some 19, none, .mov (.t 21), []⟩]) (.cond (.t 19) (.skip) (.reg true [⟨0, some 22, none, .bin .eql (.t 13) (.c (.int .i64 11)), []⟩,
⟨1, some 19, none, .mov (.t 22), []⟩]))
@[go_sem] theorem F1371_k12_r : CE F1371_k12.eq_1 := CEM F1371_k12.eq_1
def F1371_k13 : ACode := .cond (.t 19) (.skip) F1371_k12
@[go_sem] theorem F1371_k13_r : CE F1371_k13.eq_1 := CEM F1371_k13.eq_1
def F1371_k14 : ACode := .seq (.reg true [⟨0, some 20, none, .bin .eql (.t 13) (.c (.int .i64 8)), []⟩,
⟨1, some 19, none, .mov (.t 20), []⟩]) F1371_k13
@[go_sem] theorem F1371_k14_r : CE F1371_k14.eq_1 := CEM F1371_k14.eq_1
def F1371_k15 : ACode := .seq (.reg true [⟨0, some 26, none, .bin .eql (.t 13) (.c (.int .i64 4)), []⟩,
⟨1, some 23, none, .mov (.t 26), []⟩]) (.cond (.t 23) (.skip) (.reg true [⟨0, some 27, none, .bin .eql (.t 13) (.c (.int .i64 7)), []⟩,
⟨1, some 23, none, .mov (.t 27), []⟩]))
@[go_sem] theorem F1371_k15_r : CE F1371_k15.eq_1 := CEM F1371_k15.eq_1
def F1371_k16 : ACode := .cond (.t 23) (.skip) F1371_k15
@[go_sem] theorem F1371_k16_r : CE F1371_k16.eq_1 := CEM F1371_k16.eq_1
def F1371_k17 : ACode := .seq (.reg true [⟨0, some 25, none, .bin .eql (.t 13) (.c (.int .i64 3)), []⟩,
⟨1, some 23, none, .mov (.t 25), []⟩]) F1371_k16
@[go_sem] theorem F1371_k17_r : CE F1371_k17.eq_1 := CEM F1371_k17.eq_1
def F1371_k18 : ACode := .cond (.t 23) (.skip) F1371_k17
@[go_sem] theorem F1371_k18_r : CE F1371_k18.eq_1 := CEM F1371_k18.eq_1
def F1371_k19 : ACode := .seq (.reg true [⟨0, some 24, none, .bin .eql (.t 13) (.c (.int .i64 2)), []⟩,
⟨1, some 23, none, .mov (.t 24), []⟩]) F1371_k18
@[go_sem] theorem F1371_k19_r : CE F1371_k19.eq_1 := CEM F1371_k19.eq_1
def F1371_k20 : ACode := .seq F1371_k19 (.cond (.t 23) (.seq (.reg true [⟨0, some 4, none, .mov (.c (.int .i64 3)), []⟩]) (.ret)) (.skip))
@[go_sem] theorem F1371_k20_r : CE F1371_k20.eq_1 := CEM F1371_k20.eq_1
def F1371_k21 : ACode := .cond (.t 19) (.seq (.reg true [⟨0, some 4, none, .mov (.c (.int .i64 2)), []⟩]) (.ret)) F1371_k20
@[go_sem] theorem F1371_k21_r : CE F1371_k21.eq_1 := CEM F1371_k21.eq_1
def F1371_k22 : ACode := .seq F1371_k14 F1371_k21
@[go_sem] theorem F1371_k22_r : CE F1371_k22.eq_1 := CEM F1371_k22.eq_1
def F1371_k23 : ACode := .cond (.t 14) (.seq (.reg true [⟨0, some 4, none, .mov (.c (.int .i64 1)), []⟩]) (.ret)) F1371_k22
@[go_sem] theorem F1371_k23_r : CE F1371_k23.eq_1 := CEM F1371_k23.eq_1
def F1371_k24 : ACode := .seq F1371_k11 F1371_k23
@[go_sem] theorem F1371_k24_r : CE F1371_k24.eq_1 := CEM F1371_k24.eq_1
def F1371_k25 : ACode := .blk 0 F1371_k24
@[go_sem] theorem F1371_k25_r : CE F1371_k25.eq_1 := CEM F1371_k25.eq_1
def F1371_k26 : ACode := .seq (.reg true [⟨0, some 13, none, .mov (.t 0), []⟩]) F1371_k25
@[go_sem] theorem F1371_k26_r : CE F1371_k26.eq_1 := CEM F1371_k26.eq_1
def F1371_k27 : ACode := .seq F1371_k26 (.seq (.reg true [⟨0, some 4, none, .mov (.c (.int .i64 0)), []⟩]) (.ret))
@[go_sem] theorem F1371_k27_r : CE F1371_k27.eq_1 := CEM F1371_k27.eq_1
def F1371_k28 : ACode := .seq F1371_k6 F1371_k27
@[go_sem] theorem F1371_k28_r : CE F1371_k28.eq_1 := CEM F1371_k28.eq_1
def F1371_k29 : ACode := .seq F1371_k5 F1371_k28
@[go_sem] theorem F1371_k29_r : CE F1371_k29.eq_1 := CEM F1371_k29.eq_1
def F1371 : AFun := ⟨2, 28, [.t 4], .seq (.reg true [⟨0, some 4, none, .mov (.c (.int .i64 0)), []⟩]) F1371_k29⟩
def F1384_r0 : List AOper := [⟨0, some 3, none, .mov (.t 0), []⟩,
⟨1, some 4, none, .nilchk (.t 3), []⟩,
⟨2, some 5, none, .faddr 0 (.t 4), []⟩,
⟨3, some 6, none, .load none (.t 5), []⟩,
⟨4, some 7, none, .bin .eql (.t 6) (.c (.int .i64 9)), []⟩]
@[go_sem] theorem F1384_r0_r : OE F1384_r0.eq_1 := OEM F1384_r0.eq_1
def F1384_r1 : List AOper := [⟨0, some 8, none, .mov (.t 0), []⟩,
⟨1, some 9, none, .nilchk (.t 8), []⟩,
⟨2, some 10, none, .faddr 4 (.t 9), []⟩,
⟨3, some 11, none, .load none (.t 10), []⟩,
⟨4, some 12, none, .len (.t 11), []⟩,
⟨5, some 13, none, .bin .sub (.t 12) (.c (.int .i64 1)), []⟩,
⟨6, some 2, none, .mov (.t 13), []⟩]
@[go_sem] theorem F1384_r1_r : OE F1384_r1.eq_1 := OEM F1384_r1.eq_1
def F1384_k2 : ACode := .seq (.reg true F1384_r1) (.ret)
@[go_sem] theorem F1384_k2_r : CE F1384_k2.eq_1 := CEM F1384_k2.eq_1
def F1384_k3 : ACode := .cond (.t 7) F1384_k2 (.skip)
@[go_sem] theorem F1384_k3_r : CE F1384_k3.eq_1 := CEM F1384_k3.eq_1
def F1384_k4 : ACode := .seq (.reg true F1384_r0) F1384_k3
@[go_sem] theorem F1384_k4_r : CE F1384_k4.eq_1 := CEM F1384_k4.eq_1
def F1384_k5 : ACode := .seq F1384_k4 (.seq (.reg true [⟨0, some 2, none, .mov (.c (.int .i64 0)), []⟩]) (.ret))
@[go_sem] theorem F1384_k5_r : CE F1384_k5.eq_1 := CEM F1384_k5.eq_1
def F1384 : AFun := ⟨1, 14, [.t 2], .seq (.reg true [⟨0, some 2, none, .mov (.c (.int .i64 0)), []⟩]) F1384_k5⟩
def F1372_k0 : ACode := .seq (.reg true [⟨0, some 12, none, .bin .eql (.t 3) (.c (.int .i64 11)), []⟩,
⟨1, some 4, none, .mov (.t 12), []⟩]) (.cond (.t 4) (.skip) (.reg true [⟨0, some 13, none, .bin .eql (.t 3) (.c (.int .i64 12)), []⟩,
⟨1, some 4, none, .mov (.t 13), []⟩]))
@[go_sem] theorem F1372_k0_r : CE F1372_k0.eq_1 := CEM F1372_k0.eq_1
def F1372_k1 : ACode := .cond (.t 4) (.skip) F1372_k0
@[go_sem] theorem F1372_k1_r : CE F1372_k1.eq_1 := CEM F1372_k1.eq_1
def F1372_k2 : ACode := .seq (.reg true [⟨0, some 11, none, .bin .eql (.t 3) (.c (.int .i64 10)), []⟩,
⟨1, some 4, none, .mov (.t 11), []⟩]) F1372_k1
@[go_sem] theorem F1372_k2_r : CE F1372_k2.eq_1 := CEM F1372_k2.eq_1
def F1372_k3 : ACode := .cond (.t 4) (.skip) F1372_k2
@[go_sem] theorem F1372_k3_r : CE F1372_k3.eq_1 := CEM F1372_k3.eq_1
def F1372_k4 : ACode := .seq (.reg true [⟨0, some 10, none, .bin .eql (.t 3) (.c (.int .i64 9)), []⟩,
⟨1, some 4, none, .mov (.t 10), []⟩]) F1372_k3
@[go_sem] theorem F1372_k4_r : CE F1372_k4.eq_1 := CEM F1372_k4.eq_1
def F1372_k5 : ACode := .cond (.t 4) (.skip) F1372_k4
@[go_sem] theorem F1372_k5_r : CE F1372_k5.eq_1 := CEM F1372_k5.eq_1
def F1372_k6 : ACode := .seq (.reg true [⟨0, some 9, none, .bin .eql (.t 3) (.c (.int .i64 8)), []⟩,
⟨1, some 4, none, .mov (.t 9), []⟩]) F1372_k5
@[go_sem] theorem F1372_k6_r : CE F1372_k6.eq_1 := CEM F1372_k6.eq_1
def F1372_k7 : ACode := .cond (.t 4) (.skip) F1372_k6
@[go_sem] theorem F1372_k7_r : CE F1372_k7.eq_1 := CEM F1372_k7.eq_1
def F1372_k8 : ACode := .seq (.reg true [⟨0, some 8, none, .bin .eql (.t 3) (.c (.int .i64 7)), []⟩,
⟨1, some 4, none, .mov (.t 8), []⟩]) F1372_k7
@[go_sem] theorem F1372_k8_r : CE F1372_k8.eq_1 := CEM F1372_k8.eq_1
def F1372_k9 : ACode := .cond (.t 4) (.skip) F1372_k8
@[go_sem] theorem F1372_k9_r : CE F1372_k9.eq_1 := CEM F1372_k9.eq_1
def F1372_k10 : ACode := .seq (.reg true [⟨0, some 7, none, .bin .eql (.t 3) (.c (.int .i64 4)), []⟩,
⟨1, some 4, none, .mov (.t 7), []⟩]) F1372_k9
@[go_sem] theorem F1372_k10_r : CE F1372_k10.eq_1 := CEM F1372_k10.eq_1
def F1372_k11 : ACode := .cond (.t 4) (.skip) F1372_k10
@[go_sem] theorem F1372_k11_r : CE F1372_k11.eq_1 := CEM F1372_k11.eq_1
def F1372_k12 : ACode := .seq (.reg true [⟨0, some 6, none, .bin .eql (.t 3) (.c (.int .i64 3)), []⟩,
⟨1, some 4, none, .mov (.t 6), []⟩]) F1372_k11
@[go_sem] theorem F1372_k12_r : CE F1372_k12.eq_1 := CEM F1372_k12.eq_1
def F1372_k13 : ACode := .cond (.t 4) (.skip) F1372_k12
@[go_sem] theorem F1372_k13_r : CE F1372_k13.eq_1 := CEM F1372_k13.eq_1
def F1372_k14 : ACode := .seq (.reg true [⟨0, some 5, none, .bin .eql (.t 3) (.c (.int .i64 2)), []⟩,
⟨1, some 4, none, .mov (.t 5), []⟩]) F1372_k13
@[go_sem] theorem F1372_k14_r : CE F1372_k14.eq_1 := CEM F1372_k14.eq_1
def F1372_k15 : ACode := .seq F1372_k14 (.cond (.t 4) (.seq (.reg true [⟨0, some 2, none, .mov (.c (.bool true)), []⟩]) (.ret)) (.skip))
@[go_sem] theorem F1372_k15_r : CE F1372_k15.eq_1 := CEM F1372_k15.eq_1
def F1372_k16 : ACode := .blk 0 F1372_k15
@[go_sem] theorem F1372_k16_r : CE F1372_k16.eq_1 := CEM F1372_k16.eq_1
def F1372_k17 : ACode := .seq (.reg true [⟨0, some 3, none, .mov (.t 0), []⟩]) F1372_k16
@[go_sem] theorem F1372_k17_r : CE F1372_k17.eq_1 := CEM F1372_k17.eq_1
def F1372_k18 : ACode := .seq F1372_k17 (.seq (.reg true [⟨0, some 2, none, .mov (.c (.bool false)), []⟩]) (.ret))
@[go_sem] theorem F1372_k18_r : CE F1372_k18.eq_1 := CEM F1372_k18.eq_1
def F1372 : AFun := ⟨1, 14, [.t 2], .seq (.reg true [⟨0, some 2, none, .mov (.c (.bool false)), []⟩]) F1372_k18⟩
def F1489_r0 : List AOper := [⟨0, some 3, none, .mov (.t 0), []⟩,
⟨1, some 4, none, .call 340 [.t 3, .c (.int .i64 1), .c (.int .i64 12)], []⟩,
⟨2, some 2, none, .mov (.t 4), []⟩]
@[go_sem] theorem F1489_r0_r : OE F1489_r0.eq_1 := OEM F1489_r0.eq_1
def F1489 : AFun := ⟨1, 5, [.t 2], .seq (.reg true [⟨0, some 2, none, .mov (.c (.bool false)), []⟩]) (.seq (.reg true F1489_r0) (.ret))⟩
def F1385_r0 : List AOper := [⟨0, some 7, none, .mov (.t 1), []⟩,
⟨1, some 8, none, .call 340 [.t 7, .c (.int .i64 0), .c (.int .i64 8)], []⟩,
⟨2, some 4, none, .mov (.t 8), []⟩]
@[go_sem] theorem F1385_r0_r : OE F1385_r0.eq_1 := OEM F1385_r0.eq_1
def F1385_k1 : ACode := .cond (.t 6) (.seq (.reg true F1385_r0) (.ret)) (.skip)
@[go_sem] theorem F1385_k1_r : CE F1385_k1.eq_1 := CEM F1385_k1.eq_1
def F1385_k2 : ACode := .seq (.reg true [⟨0, some 5, none, .mov (.t 0), []⟩,
⟨1, some 6, none, .call 1372 [.t 5], []⟩]) F1385_k1
@[go_sem] theorem F1385_k2_r : CE F1385_k2.eq_1 := CEM F1385_k2.eq_1
def F1385_r3 : List AOper := [⟨0, some 9, none, .mov (.t 0), []⟩,
⟨1, some 10, none, .call 1489 [.t 9], []⟩,
⟨2, some 11, none, .mov (.t 10), []⟩,
⟨3, some 12, (some (11, true)), .mov (.t 1), []⟩,
⟨4, some 13, (some (11, true)), .bin .eql (.t 12) (.c (.int .i64 0)), []⟩,
⟨5, some 14, none, .pick (.t 11) (.t 13) (.c (.bool false)), []⟩,
⟨6, some 4, none, .mov (.t 14), []⟩]
@[go_sem] theorem F1385_r3_r : OE F1385_r3.eq_1 := OEM F1385_r3.eq_1
def F1385_k4 : ACode := .seq (.reg true F1385_r3) (.ret)
@[go_sem] theorem F1385_k4_r : CE F1385_k4.eq_1 := CEM F1385_k4.eq_1
def F1385_k5 : ACode := .seq F1385_k2 F1385_k4
@[go_sem] theorem F1385_k5_r : CE F1385_k5.eq_1 := CEM F1385_k5.eq_1
def F1385 : AFun := ⟨2, 15, [.t 4], .seq (.reg true [⟨0, some 4, none, .mov (.c (.bool false)), []⟩]) F1385_k5⟩
def F1494_r0 : List AOper := [⟨0, some 3, none, .mov (.t 0), []⟩,
⟨1, some 4, none, .call 340 [.t 3, .c (.int .i64 0), .c (.int .i64 23)], []⟩,
⟨2, some 2, none, .mov (.t 4), []⟩]
@[go_sem] theorem F1494_r0_r : OE F1494_r0.eq_1 := OEM F1494_r0.eq_1
def F1494 : AFun := ⟨1, 5, [.t 2], .seq (.reg true [⟨0, some 2, none, .mov (.c (.bool false)), []⟩]) (.seq (.reg true F1494_r0) (.ret))⟩
def F1386_r0 : List AOper := [⟨0, some 4, none, .mov (.t 0), []⟩,
⟨1, some 5, none, .nilchk (.t 4), []⟩,
⟨2, some 6, none, .faddr 0 (.t 5), []⟩,
⟨3, some 7, none, .load none (.t 6), []⟩]
@[go_sem] theorem F1386_r0_r : OE F1386_r0.eq_1 := OEM F1386_r0.eq_1
def F1386_r1 : List AOper := [⟨0, some 10, none, .mov (.t 0), []⟩,
⟨1, some 11, none, .nilchk (.t 10), []⟩,
⟨2, some 12, none, .faddr 3 (.t 11), []⟩,
⟨3, some 13, none, .load none (.t 12), []⟩,
⟨4, some 14, none, .len (.t 13), []⟩,
⟨5, some 15, none, .bin .eql (.t 14) (.c (.int .i64 0)), []⟩,
⟨6, some 16, none, .mov (.t 15), []⟩,
⟨7, some 17, (some (16, true)), .mov (.t 0), []⟩,
⟨8, some 18, (some (16, true)), .nilchk (.t 17), []⟩,
⟨9, some 19, (some (16, true)), .faddr 2 (.t 18), []⟩,
⟨10, some 20, (some (16, true)), .load none (.t 19), []⟩,
⟨11, some 21, (some (16, true)), .call 340 [.t 20, .c (.int .i64 (-2147483648)), .c (.int .i64 2147483647)], []⟩,
⟨12, some 22, none, .pick (.t 16) (.t 21) (.c (.bool false)), []⟩,
⟨13, some 2, none, .mov (.t 22), []⟩]
@[go_sem] theorem F1386_r1_r : OE F1386_r1.eq_1 := OEM F1386_r1.eq_1
def F1386_k2 : ACode := .seq (.reg true F1386_r1) (.ret)
@[go_sem] theorem F1386_k2_r : CE F1386_k2.eq_1 := CEM F1386_k2.eq_1
def F1386_r3 : List AOper := [⟨0, some 25, none, .mov (.t 0), []⟩,
⟨1, some 26, none, .nilchk (.t 25), []⟩,
⟨2, some 27, none, .faddr 3 (.t 26), []⟩,
⟨3, some 28, none, .load none (.t 27), []⟩,
⟨4, some 29, none, .len (.t 28), []⟩,
⟨5, some 30, none, .bin .eql (.t 29) (.c (.int .i64 0)), []⟩,
⟨6, some 31, none, .mov (.t 30), []⟩,
⟨7, some 32, (some (31, true)), .mov (.t 0), []⟩,
⟨8, some 33, (some (31, true)), .nilchk (.t 32), []⟩,
⟨9, some 34, (some (31, true)), .faddr 2 (.t 33), []⟩,
⟨10, some 35, (some (31, true)), .load none (.t 34), []⟩,
⟨11, some 36, (some (31, true)), .call 340 [.t 35, .c (.int .i64 1), .c (.int .i64 6)], []⟩,
⟨12, some 37, none, .pick (.t 31) (.t 36) (.c (.bool false)), []⟩,
⟨13, some 2, none, .mov (.t 37), []⟩]
@[go_sem] theorem F1386_r3_r : OE F1386_r3.eq_1 := OEM F1386_r3.eq_1
def F1386_k4 : ACode := .seq (.reg true F1386_r3) (.ret)
@[go_sem] theorem F1386_k4_r : CE F1386_k4.eq_1 := CEM F1386_k4.eq_1
def F1386_r5 : List AOper := [⟨0, some 40, none, .mov (.t 0), []⟩,
⟨1, some 41, none, .nilchk (.t 40), []⟩,
⟨2, some 42, none, .faddr 3 (.t 41), []⟩,
⟨3, some 43, none, .load none (.t 42), []⟩,
⟨4, some 44, none, .len (.t 43), []⟩,
⟨5, some 45, none, .bin .eql (.t 44) (.c (.int .i64 1)), []⟩,
⟨6, some 46, none, .mov (.t 45), []⟩,
⟨7, some 47, (some (46, true)), .mov (.t 0), []⟩,
⟨8, some 48, (some (46, true)), .nilchk (.t 47), []⟩,
⟨9, some 49, (some (46, true)), .faddr 2 (.t 48), []⟩,
⟨10, some 50, (some (46, true)), .load none (.t 49), []⟩,
⟨11, some 51, (some (46, true)), .call 340 [.t 50, .c (.int .i64 1), .c (.int .i64 6)], []⟩,
⟨12, some 52, none, .pick (.t 46) (.t 51) (.c (.bool false)), []⟩,
⟨13, some 53, none, .mov (.t 52), []⟩,
⟨14, some 54, (some (53, true)), .mov (.t 0), []⟩,
⟨15, some 55, (some (53, true)), .nilchk (.t 54), []⟩,
⟨16, some 56, (some (53, true)), .faddr 3 (.t 55), []⟩,
⟨17, some 57, (some (53, true)), .load none (.t 56), []⟩,
⟨18, some 58, (some (53, true)), .iaddr 1 (.t 57) (.c (.int .i64 0)), []⟩,
⟨19, some 59, (some (53, true)), .load none (.t 58), []⟩,
⟨20, some 60, (some (53, true)), .call 340 [.t 59, .c (.int .i64 (-2147483648)), .c (.int .i64 2147483647)], []⟩,
⟨21, some 61, none, .pick (.t 53) (.t 60) (.c (.bool false)), []⟩,
⟨22, some 2, none, .mov (.t 61), []⟩]
@[go_sem] theorem F1386_r5_r : OE F1386_r5.eq_1 := OEM F1386_r5.eq_1
def F1386_k6 : ACode := .seq (.reg true F1386_r5) (.ret)
@[go_sem] theorem F1386_k6_r : CE F1386_k6.eq_1 := CEM F1386_k6.eq_1
def F1386_r7 : List AOper := [⟨0, some 64, none, .mov (.t 0), []⟩,
⟨1, some 65, none, .nilchk (.t 64), []⟩,
⟨2, some 66, none, .faddr 3 (.t 65), []⟩,
⟨3, some 67, none, .load none (.t 66), []⟩,
⟨4, some 68, none, .len (.t 67), []⟩,
⟨5, some 69, none, .bin .eql (.t 68) (.c (.int .i64 0)), []⟩,
⟨6, some 70, none, .mov (.t 69), []⟩,
⟨7, some 71, (some (70, true)), .mov (.t 0), []⟩,
⟨8, some 72, (some (70, true)), .nilchk (.t 71), []⟩,
⟨9, some 73, (some (70, true)), .faddr 2 (.t 72), []⟩,
⟨10, some 74, (some (70, true)), .load none (.t 73), []⟩,
⟨11, some 75, (some (70, true)), .call 340 [.t 74, .c (.int .i64 0), .c (.int .i64 3)], []⟩,
⟨12, some 76, none, .pick (.t 70) (.t 75) (.c (.bool false)), []⟩,
⟨13, some 2, none, .mov (.t 76), []⟩]
@[go_sem] theorem F1386_r7_r : OE F1386_r7.eq_1 := OEM F1386_r7.eq_1
def F1386_k8 : ACode := .seq (.reg true F1386_r7) (.ret)
@[go_sem] theorem F1386_k8_r : CE F1386_k8.eq_1 := CEM F1386_k8.eq_1
def F1386_r9 : List AOper := [⟨0, some 79, none, .mov (.t 0), []⟩,
⟨1, some 80, none, .nilchk (.t 79), []⟩,
⟨2, some 81, none, .faddr 3 (.t 80), []⟩,
⟨3, some 82, none, .load none (.t 81), []⟩,
⟨4, some 83, none, .len (.t 82), []⟩,
⟨5, some 84, none, .bin .eql (.t 83) (.c (.int .i64 0)), []⟩,
⟨6, some 85, none, .mov (.t 84), []⟩,
⟨7, some 86, (some (85, true)), .mov (.t 0), []⟩,
⟨8, some 87, (some (85, true)), .nilchk (.t 86), []⟩,
⟨9, some 88, (some (85, true)), .faddr 2 (.t 87), []⟩,
⟨10, some 89, (some (85, true)), .load none (.t 88), []⟩,
⟨11, some 90, (some (85, true)), .call 1494 [.t 89], []⟩,
⟨12, some 91, none, .pick (.t 85) (.t 90) (.c (.bool false)), []⟩,
⟨13, some 2, none, .mov (.t 91), []⟩]
@[go_sem] theorem F1386_r9_r : OE F1386_r9.eq_1 := OEM F1386_r9.eq_1
def F1386_k10 : ACode := .seq (.reg true F1386_r9) (.ret)
@[go_sem] theorem F1386_k10_r : CE F1386_k10.eq_1 := CEM F1386_k10.eq_1
def F1386_k11 : ACode := .seq (.reg true [⟨0, some 93, none, .bin .eql (.t 7) (.c (.int .i64 10)), []⟩,
⟨1, some 92, none, .mov (.t 93), []⟩]) (.cond (.t 92) (.skip) (.reg true [⟨0, some 94, none, .bin .eql (.t 7) (.c (.int .i64 11)), []⟩,
⟨1, some 92, none, .mov (.t 94), []⟩]))
@[go_sem] theorem F1386_k11_r : CE F1386_k11.eq_1 := CEM F1386_k11.eq_1
def F1386_r12 : List AOper := [⟨0, some 95, none, .mov (.t 0), []⟩,
⟨1, some 96, none, .nilchk (.t 95), []⟩,
⟨2, some 97, none, .faddr 2 (.t 96), []⟩,
⟨3, some 98, none, .load none (.t 97), []⟩,
⟨4, some 99, none, .bin .neq (.t 98) (.c (.int .i64 0)), []⟩,
⟨5, some 100, none, .mov (.t 99), []⟩,
⟨6, some 101, (some (100, false)), .mov (.t 0), []⟩,
⟨7, some 102, (some (100, false)), .nilchk (.t 101), []⟩,
⟨8, some 103, (some (100, false)), .faddr 0 (.t 102), []⟩,
⟨9, some 104, (some (100, false)), .load none (.t 103), []⟩,
⟨10, some 105, (some (100, false)), .bin .eql (.t 104) (.c (.int .i64 11)), []⟩,
⟨11, some 106, (some (100, false)), .mov (.t 105), []⟩,
⟨12, some 107, (some (106, true)), .mov (.t 0), []⟩,
⟨13, some 108, (some (106, true)), .nilchk (.t 107), []⟩,
⟨14, some 109, (some (106, true)), .faddr 3 (.t 108), []⟩,
⟨15, some 110, (some (106, true)), .load none (.t 109), []⟩,
⟨16, some 111, (some (106, true)), .len (.t 110), []⟩,
⟨17, some 112, (some (106, true)), .bin .neq (.t 111) (.c (.int .i64 2)), []⟩,
⟨18, some 113, (some (100, false)), .pick (.t 106) (.t 112) (.c (.bool false)), []⟩,
⟨19, some 114, none, .pick (.t 100) (.c (.bool true)) (.t 113), []⟩,
⟨20, some 115, none, .mov (.t 114), []⟩,
⟨21, some 116, (some (115, false)), .mov (.t 0), []⟩,
⟨22, some 117, (some (115, false)), .nilchk (.t 116), []⟩,
⟨23, some 118, (some (115, false)), .faddr 0 (.t 117), []⟩,
⟨24, some 119, (some (115, false)), .load none (.t 118), []⟩,
⟨25, some 120, (some (115, false)), .bin .eql (.t 119) (.c (.int .i64 10)), []⟩,
⟨26, some 121, (some (115, false)), .mov (.t 120), []⟩,
⟨27, some 122, (some (121, true)), .mov (.t 0), []⟩,
⟨28, some 123, (some (121, true)), .nilchk (.t 122), []⟩,
⟨29, some 124, (some (121, true)), .faddr 3 (.t 123), []⟩,
⟨30, some 125, (some (121, true)), .load none (.t 124), []⟩,
⟨31, some 126, (some (121, true)), .len (.t 125), []⟩,
⟨32, some 127, (some (121, true)), .call 340 [.t 126, .c (.int .i64 1), .c (.int .i64 4)], []⟩,
⟨33, some 128, (some (121, true)), .not (.t 127), []⟩,
⟨34, some 129, (some (115, false)), .pick (.t 121) (.t 128) (.c (.bool false)), []⟩,
⟨35, some 130, none, .pick (.t 115) (.c (.bool true)) (.t 129), []⟩]
@[go_sem] theorem F1386_r12_r : OE F1386_r12.eq_1 := OEM F1386_r12.eq_1
def F1386_k13 : ACode := .seq (.reg true F1386_r12) (.cond (.t 130) (.seq (.reg true [⟨0, some 2, none, .mov (.c (.bool false)), []⟩]) (.ret)) (.skip))
@[go_sem] theorem F1386_k13_r : CE F1386_k13.eq_1 := CEM F1386_k13.eq_1
def F1386_r14 : List AOper := [⟨0, some 131, none, .mov (.t 3), []⟩,
⟨1, some 132, none, .mov (.t 0), []⟩,
⟨2, some 133, none, .nilchk (.t 132), []⟩,
⟨3, some 134, none, .faddr 3 (.t 133), []⟩,
⟨4, some 135, none, .load none (.t 134), []⟩,
⟨5, some 136, none, .len (.t 135), []⟩,
⟨6, some 137, none, .bin .lss (.t 131) (.t 136), []⟩]
@[go_sem] theorem F1386_r14_r : OE F1386_r14.eq_1 := OEM F1386_r14.eq_1
def F1386_k15 : ACode := .seq (.reg true F1386_r14) (.cond (.t 137) (.skip) (.exit 1))
@[go_sem] theorem F1386_k15_r : CE F1386_k15.eq_1 := CEM F1386_k15.eq_1
def F1386_r16 : List AOper := [⟨0, some 140, none, .mov (.t 0), []⟩,
⟨1, some 141, none, .nilchk (.t 140), []⟩,
⟨2, some 142, none, .faddr 3 (.t 141), []⟩,
⟨3, some 143, none, .load none (.t 142), []⟩,
⟨4, some 144, none, .mov (.t 3), []⟩,
⟨5, some 145, none, .iaddr 1 (.t 143) (.t 144), []⟩,
⟨6, some 146, none, .load none (.t 145), []⟩,
⟨7, some 147, none, .call 1494 [.t 146], []⟩,
⟨8, some 148, none, .not (.t 147), []⟩]
@[go_sem] theorem F1386_r16_r : OE F1386_r16.eq_1 := OEM F1386_r16.eq_1
def F1386_k17 : ACode := .seq (.reg true F1386_r16) (.cond (.t 148) (.seq (.reg true [⟨0, some 2, none, .mov (.c (.bool false)), []⟩]) (.ret)) (.skip))
@[go_sem] theorem F1386_k17_r : CE F1386_k17.eq_1 := CEM F1386_k17.eq_1
def F1386_k18 : ACode := .blk 2 F1386_k17
@[go_sem] theorem F1386_k18_r : CE F1386_k18.eq_1 := CEM F1386_k18.eq_1
def F1386_r19 : List AOper := [⟨0, some 138, none, .mov (.t 3), []⟩,
⟨1, some 139, none, .bin .add (.t 138) (.c (.int .i64 1)), []⟩,
⟨2, some 3, none, .mov (.t 139), []⟩]
@[go_sem] theorem F1386_r19_r : OE F1386_r19.eq_1 := OEM F1386_r19.eq_1
def F1386_k20 : ACode := .seq F1386_k18 (.reg true F1386_r19)
@[go_sem] theorem F1386_k20_r : CE F1386_k20.eq_1 := CEM F1386_k20.eq_1
def F1386_k21 : ACode := .seq F1386_k15 F1386_k20
@[go_sem] theorem F1386_k21_r : CE F1386_k21.eq_1 := CEM F1386_k21.eq_1
def F1386_k22 : ACode := .loop F1386_k21
@[go_sem] theorem F1386_k22_r : CE F1386_k22.eq_1 := CEM F1386_k22.eq_1
def F1386_k23 : ACode := .blk 1 F1386_k22
@[go_sem] theorem F1386_k23_r : CE F1386_k23.eq_1 := CEM F1386_k23.eq_1
def F1386_k24 : ACode := .seq (.reg true [⟨0, some 3, none, .mov (.c (.int .i64 0)), []⟩]) F1386_k23
@[go_sem] theorem F1386_k24_r : CE F1386_k24.eq_1 := CEM F1386_k24.eq_1
def F1386_k25 : ACode := .seq F1386_k24 (.seq (.reg true [⟨0, some 2, none, .mov (.c (.bool true)), []⟩]) (.ret))
@[go_sem] theorem F1386_k25_r : CE F1386_k25.eq_1 := CEM F1386_k25.eq_1
def F1386_k26 : ACode := .seq F1386_k13 F1386_k25
@[go_sem] theorem F1386_k26_r : CE F1386_k26.eq_1 := CEM F1386_k26.eq_1
def F1386_k27 : ACode := .cond (.t 92) F1386_k26 (.skip)
@[go_sem] theorem F1386_k27_r : CE F1386_k27.eq_1 := CEM F1386_k27.eq_1
def F1386_k28 : ACode := .seq F1386_k11 F1386_k27
@[go_sem] theorem F1386_k28_r : CE F1386_k28.eq_1 := CEM F1386_k28.eq_1
def F1386_k29 : ACode := .cond (.t 77) F1386_k10 F1386_k28
@[go_sem] theorem F1386_k29_r : CE F1386_k29.eq_1 := CEM F1386_k29.eq_1
def F1386_k30 : ACode := .seq (.reg true [⟨0, some 78, none, .bin .eql (.t 7) (.c (.int .i64 12)), []⟩,
⟨1, some 77, none, .mov (.t 78), []⟩]) F1386_k29
@[go_sem] theorem F1386_k30_r : CE F1386_k30.eq_1 := CEM F1386_k30.eq_1
def F1386_k31 : ACode := .cond (.t 62) F1386_k8 F1386_k30
@[go_sem] theorem F1386_k31_r : CE F1386_k31.eq_1 := CEM F1386_k31.eq_1
def F1386_k32 : ACode := .seq (.reg true [⟨0, some 63, none, .bin .eql (.t 7) (.c (.int .i64 9)), []⟩,
⟨1, some 62, none, .mov (.t 63), []⟩]) F1386_k31
@[go_sem] theorem F1386_k32_r : CE F1386_k32.eq_1 := CEM F1386_k32.eq_1
def F1386_k33 : ACode := .cond (.t 38) F1386_k6 F1386_k32
@[go_sem] theorem F1386_k33_r : CE F1386_k33.eq_1 := CEM F1386_k33.eq_1
def F1386_k34 : ACode := .seq (.reg true [⟨0, some 39, none, .bin .eql (.t 7) (.c (.int .i64 8)), []⟩,
⟨1, some 38, none, .mov (.t 39), []⟩]) F1386_k33
@[go_sem] theorem F1386_k34_r : CE F1386_k34.eq_1 := CEM F1386_k34.eq_1
def F1386_k35 : ACode := .cond (.t 23) F1386_k4 F1386_k34
@[go_sem] theorem F1386_k35_r : CE F1386_k35.eq_1 := CEM F1386_k35.eq_1
def F1386_k36 : ACode := .seq (.reg true [⟨0, some 24, none, .bin .eql (.t 7) (.c (.int .i64 7)), []⟩,
⟨1, some 23, none, .mov (.t 24), []⟩]) F1386_k35
@[go_sem] theorem F1386_k36_r : CE F1386_k36.eq_1 := CEM F1386_k36.eq_1
def F1386_k37 : ACode := .cond (.t 8) F1386_k2 F1386_k36
@[go_sem] theorem F1386_k37_r : CE F1386_k37.eq_1 := CEM F1386_k37.eq_1
def F1386_k38 : ACode := .seq (.reg true [⟨0, some 9, none, .bin .eql (.t 7) (.c (.int .i64 6)), []⟩,
⟨1, some 8, none, .mov (.t 9), []⟩]) F1386_k37
@[go_sem] theorem F1386_k38_r : CE F1386_k38.eq_1 := CEM F1386_k38.eq_1
def F1386_k39 : ACode := .blk 0 F1386_k38
@[go_sem] theorem F1386_k39_r : CE F1386_k39.eq_1 := CEM F1386_k39.eq_1
def F1386_k40 : ACode := .seq (.reg true F1386_r0) F1386_k39
@[go_sem] theorem F1386_k40_r : CE F1386_k40.eq_1 := CEM F1386_k40.eq_1
def F1386_r41 : List AOper := [⟨0, some 149, none, .mov (.t 0), []⟩,
⟨1, some 150, none, .nilchk (.t 149), []⟩,
⟨2, some 151, none, .faddr 2 (.t 150), []⟩,
⟨3, some 152, none, .load none (.t 151), []⟩,
⟨4, some 153, none, .bin .eql (.t 152) (.c (.int .i64 0)), []⟩,
⟨5, some 154, none, .mov (.t 153), []⟩,
⟨6, some 155, (some (154, true)), .mov (.t 0), []⟩,
⟨7, some 156, (some (154, true)), .nilchk (.t 155), []⟩,
⟨8, some 157, (some (154, true)), .faddr 3 (.t 156), []⟩,
⟨9, some 158, (some (154, true)), .load none (.t 157), []⟩,
⟨10, some 159, (some (154, true)), .len (.t 158), []⟩,
⟨11, some 160, (some (154, true)), .bin .eql (.t 159) (.c (.int .i64 0)), []⟩,
⟨12, some 161, none, .pick (.t 154) (.t 160) (.c (.bool false)), []⟩,
⟨13, some 2, none, .mov (.t 161), []⟩]
@[go_sem] theorem F1386_r41_r : OE F1386_r41.eq_1 := OEM F1386_r41.eq_1
def F1386_k42 : ACode := .seq (.reg true F1386_r41) (.ret)
@[go_sem] theorem F1386_k42_r : CE F1386_k42.eq_1 := CEM F1386_k42.eq_1
def F1386_k43 : ACode := .seq F1386_k40 F1386_k42
@[go_sem] theorem F1386_k43_r : CE F1386_k43.eq_1 := CEM F1386_k43.eq_1
def F1386 : AFun := ⟨1, 162, [.t 2], .seq (.reg true [⟨0, some 2, none, .mov (.c (.bool false)), []⟩]) F1386_k43⟩
def F1096_r0 : List AOper := [⟨0, some 4, none, .mov (.t 0), []⟩,
⟨1, some 5, none, .nilchk (.t 4), []⟩,
⟨2, some 6, none, .faddr 0 (.t 5), []⟩,
⟨3, some 7, none, .load none (.t 6), []⟩,
⟨4, some 8, none, .mov (.t 0), []⟩,
⟨5, some 9, none, .call 1384 [.t 8], [⟨3, some 7, none, .load none (.t 6), []⟩]⟩,
⟨6, some 10, none, .call 1371 [.t 7, .t 9], []⟩,
⟨7, some 3, none, .mov (.t 10), []⟩]
@[go_sem] theorem F1096_r0_r : OE F1096_r0.eq_1 := OEM F1096_r0.eq_1
def F1096_r1 : List AOper := [⟨0, some 11, none, .mov (.t 3), []⟩,
⟨1, some 12, none, .bin .gtr (.t 11) (.c (.int .i64 0)), []⟩,
⟨2, some 13, none, .mov (.t 12), []⟩,
⟨3, some 14, (some (13, true)), .mov (.t 0), []⟩,
⟨4, some 15, (some (13, true)), .nilchk (.t 14), []⟩,
⟨5, some 16, (some (13, true)), .faddr 4 (.t 15), []⟩,
⟨6, some 17, (some (13, true)), .load none (.t 16), []⟩,
⟨7, some 18, (some (13, true)), .len (.t 17), []⟩,
⟨8, some 19, (some (13, true)), .mov (.t 3), []⟩,
⟨9, some 20, (some (13, true)), .bin .eql (.t 18) (.t 19), []⟩,
⟨10, some 21, none, .pick (.t 13) (.t 20) (.c (.bool false)), []⟩,
⟨11, some 22, none, .mov (.t 21), []⟩,
⟨12, some 23, (some (22, true)), .mov (.t 0), []⟩,
⟨13, some 24, (some (22, true)), .nilchk (.t 23), []⟩,
⟨14, some 25, (some (22, true)), .faddr 0 (.t 24), []⟩,
⟨15, some 26, (some (22, true)), .load none (.t 25), []⟩,
⟨16, some 27, (some (22, true)), .mov (.t 0), []⟩,
⟨17, some 28, (some (22, true)), .nilchk (.t 27), []⟩,
⟨18, some 29, (some (22, true)), .faddr 1 (.t 28), []⟩,
⟨19, some 30, (some (22, true)), .load none (.t 29), []⟩,
⟨20, some 31, (some (22, true)), .call 1385 [.t 26, .t 30], []⟩,
⟨21, some 32, none, .pick (.t 22) (.t 31) (.c (.bool false)), []⟩,
⟨22, some 33, none, .mov (.t 32), []⟩,
⟨23, some 34, (some (33, true)), .mov (.t 0), []⟩,
⟨24, some 35, (some (33, true)), .call 1386 [.t 34], []⟩,
⟨25, some 36, none, .pick (.t 33) (.t 35) (.c (.bool false)), []⟩,
⟨26, some 2, none, .mov (.t 36), []⟩]
@[go_sem] theorem F1096_r1_r : OE F1096_r1.eq_1 := OEM F1096_r1.eq_1
def F1096_k2 : ACode := .seq (.reg true F1096_r1) (.ret)
@[go_sem] theorem F1096_k2_r : CE F1096_k2.eq_1 := CEM F1096_k2.eq_1
def F1096_k3 : ACode := .seq (.reg true F1096_r0) F1096_k2
@[go_sem] theorem F1096_k3_r : CE F1096_k3.eq_1 := CEM F1096_k3.eq_1
def F1096 : AFun := ⟨1, 37, [.t 2], .seq (.reg true [⟨0, some 2, none, .mov (.c (.bool false)), []⟩]) F1096_k3⟩
def F710_r0 : List AOper := [⟨0, some 4, none, .mov (.t 0), []⟩,
⟨1, some 5, none, .len (.t 4), []⟩,
⟨2, some 6, none, .call 340 [.t 5, .c (.int .i64 1), .c (.int .i64 600)], []⟩,
⟨3, some 7, none, .not (.t 6), []⟩]
@[go_sem] theorem F710_r0_r : OE F710_r0.eq_1 := OEM F710_r0.eq_1
def F710_k1 : ACode := .seq (.reg true F710_r0) (.cond (.t 7) (.seq (.reg true [⟨0, some 2, none, .mov (.c (.bool false)), []⟩]) (.ret)) (.skip))
@[go_sem] theorem F710_k1_r : CE F710_k1.eq_1 := CEM F710_k1.eq_1
def F710_r2 : List AOper := [⟨0, some 8, none, .mov (.t 3), []⟩,
⟨1, some 9, none, .mov (.t 0), []⟩,
⟨2, some 10, none, .len (.t 9), []⟩,
⟨3, some 11, none, .bin .lss (.t 8) (.t 10), []⟩]
@[go_sem] theorem F710_r2_r : OE F710_r2.eq_1 := OEM F710_r2.eq_1
def F710_k3 : ACode := .seq (.reg true F710_r2) (.cond (.t 11) (.skip) (.exit 0))
@[go_sem] theorem F710_k3_r : CE F710_k3.eq_1 := CEM F710_k3.eq_1
def F710_r4 : List AOper := [⟨0, some 14, none, .mov (.t 0), []⟩,
⟨1, some 15, none, .mov (.t 3), []⟩,
⟨2, some 16, none, .iaddr 5 (.t 14) (.t 15), []⟩,
⟨3, some 17, none, .call 1096 [.t 16], []⟩,
⟨4, some 18, none, .not (.t 17), []⟩,
⟨5, some 19, none, .mov (.t 18), []⟩,
⟨6, some 20, (some (19, false)), .mov (.t 0), []⟩,
⟨7, some 21, (some (19, false)), .mov (.t 3), []⟩,
⟨8, some 22, (some (19, false)), .iaddr 5 (.t 20) (.t 21), []⟩,
⟨9, some 23, (some (19, false)), .faddr 0 (.t 22), []⟩,
⟨10, some 24, (some (19, false)), .load none (.t 23), []⟩,
⟨11, some 25, (some (19, false)), .bin .eql (.t 24) (.c (.int .i64 1)), []⟩,
⟨12, some 26, (some (19, false)), .mov (.t 3), []⟩,
⟨13, some 27, (some (19, false)), .bin .eql (.t 26) (.c (.int .i64 0)), []⟩,
⟨14, some 28, (some (19, false)), .beq true (.t 25) (.t 27), []⟩,
⟨15, some 29, none, .pick (.t 19) (.c (.bool true)) (.t 28), []⟩]
@[go_sem] theorem F710_r4_r : OE F710_r4.eq_1 := OEM F710_r4.eq_1
def F710_k5 : ACode := .seq (.reg true F710_r4) (.cond (.t 29) (.seq (.reg true [⟨0, some 2, none, .mov (.c (.bool false)), []⟩]) (.ret)) (.skip))
@[go_sem] theorem F710_k5_r : CE F710_k5.eq_1 := CEM F710_k5.eq_1
def F710_k6 : ACode := .blk 1 F710_k5
@[go_sem] theorem F710_k6_r : CE F710_k6.eq_1 := CEM F710_k6.eq_1
def F710_r7 : List AOper := [⟨0, some 12, none, .mov (.t 3), []⟩,
⟨1, some 13, none, .bin .add (.t 12) (.c (.int .i64 1)), []⟩,
⟨2, some 3, none, .mov (.t 13), []⟩]
@[go_sem] theorem F710_r7_r : OE F710_r7.eq_1 := OEM F710_r7.eq_1
def F710_k8 : ACode := .seq F710_k6 (.reg true F710_r7)
@[go_sem] theorem F710_k8_r : CE F710_k8.eq_1 := CEM F710_k8.eq_1
def F710_k9 : ACode := .seq F710_k3 F710_k8
@[go_sem] theorem F710_k9_r : CE F710_k9.eq_1 := CEM F710_k9.eq_1
def F710_k10 : ACode := .loop F710_k9
@[go_sem] theorem F710_k10_r : CE F710_k10.eq_1 := CEM F710_k10.eq_1
def F710_k11 : ACode := .blk 0 F710_k10
@[go_sem] theorem F710_k11_r : CE F710_k11.eq_1 := CEM F710_k11.eq_1
def F710_k12 : ACode := .seq (.reg true [⟨0, some 3, none, .mov (.c (.int .i64 0)), []⟩]) F710_k11
@[go_sem] theorem F710_k12_r : CE F710_k12.eq_1 := CEM F710_k12.eq_1
def F710_k13 : ACode := .seq F710_k12 (.seq (.reg true [⟨0, some 2, none, .mov (.c (.bool true)), []⟩]) (.ret))
@[go_sem] theorem F710_k13_r : CE F710_k13.eq_1 := CEM F710_k13.eq_1
def F710_k14 : ACode := .seq F710_k1 F710_k13
@[go_sem] theorem F710_k14_r : CE F710_k14.eq_1 := CEM F710_k14.eq_1
def F710 : AFun := ⟨1, 30, [.t 2], .seq (.reg true [⟨0, some 2, none, .mov (.c (.bool false)), []⟩]) F710_k14⟩
def F318_r0 : List AOper := [⟨0, some 8, none, .mov (.t 0), []⟩,
⟨1, some 9, none, .nilchk (.t 8), []⟩,
⟨2, some 10, none, .faddr 0 (.t 9), []⟩,
⟨3, some 11, none, .load none (.t 10), []⟩,
⟨4, some 12, none, .call 710 [.t 11], []⟩,
⟨5, some 13, none, .not (.t 12), []⟩]
@[go_sem] theorem F318_r0_r : OE F318_r0.eq_1 := OEM F318_r0.eq_1
def F318_k1 : ACode := .seq (.reg true F318_r0) (.cond (.t 13) (.seq (.reg true [⟨0, some 2, none, .mov (.c (.bool false)), []⟩]) (.ret)) (.skip))
@[go_sem] theorem F318_k1_r : CE F318_k1.eq_1 := CEM F318_k1.eq_1
def F318_r2 : List AOper := [⟨0, some 14, none, .mov (.t 3), []⟩,
⟨1, some 15, none, .mov (.t 0), []⟩,
⟨2, some 16, none, .nilchk (.t 15), []⟩,
⟨3, some 17, none, .faddr 0 (.t 16), []⟩,
⟨4, some 18, none, .load none (.t 17), []⟩,
⟨5, some 19, none, .len (.t 18), []⟩,
⟨6, some 20, none, .bin .lss (.t 14) (.t 19), []⟩]
@[go_sem] theorem F318_r2_r : OE F318_r2.eq_1 := OEM F318_r2.eq_1
def F318_k3 : ACode := .seq (.reg true F318_r2) (.cond (.t 20) (.skip) (.exit 0))
@[go_sem] theorem F318_k3_r : CE F318_k3.eq_1 := CEM F318_k3.eq_1
def F318_r4 : List AOper := [⟨0, some 23, none, .mov (.t 0), []⟩,
⟨1, some 24, none, .nilchk (.t 23), []⟩,
⟨2, some 25, none, .faddr 0 (.t 24), []⟩,
⟨3, some 26, none, .load none (.t 25), []⟩,
⟨4, some 27, none, .mov (.t 3), []⟩,
⟨5, some 28, none, .iaddr 5 (.t 26) (.t 27), []⟩,
⟨6, some 4, none, .mov (.t 28), []⟩]
@[go_sem] theorem F318_r4_r : OE F318_r4.eq_1 := OEM F318_r4.eq_1
def F318_r5 : List AOper := [⟨0, some 29, none, .mov (.t 5), []⟩,
⟨1, some 30, none, .mov (.t 4), []⟩,
⟨2, some 31, none, .nilchk (.t 30), []⟩,
⟨3, some 32, none, .faddr 4 (.t 31), []⟩,
⟨4, some 33, none, .load none (.t 32), []⟩,
⟨5, some 34, none, .len (.t 33), []⟩,
⟨6, some 35, none, .bin .lss (.t 29) (.t 34), []⟩]
@[go_sem] theorem F318_r5_r : OE F318_r5.eq_1 := OEM F318_r5.eq_1
def F318_k6 : ACode := .seq (.reg true F318_r5) (.cond (.t 35) (.skip) (.exit 2))
@[go_sem] theorem F318_k6_r : CE F318_k6.eq_1 := CEM F318_k6.eq_1
def F318_r7 : List AOper := [⟨0, some 38, none, .mov (.t 3), []⟩,
⟨1, some 39, none, .mov (.t 5), []⟩,
⟨2, some 40, none, .build (.agg [.int .i64 0, .int .i64 0]) [(0, 1, .t 38), (1, 1, .t 39)], []⟩,
⟨3, some 6, none, .lalloc (.agg [.int .i64 0, .int .i64 0]), []⟩,
⟨4, none, none, .lstore 6 0 2 (.t 40), []⟩]
@[go_sem] theorem F318_r7_r : OE F318_r7.eq_1 := OEM F318_r7.eq_1
def F318_r8 : List AOper := [⟨0, some 41, none, .mov (.t 4), []⟩,
⟨1, some 42, none, .nilchk (.t 41), []⟩,
⟨2, some 43, none, .faddr 4 (.t 42), []⟩,
⟨3, some 44, none, .load none (.t 43), []⟩,
⟨4, some 45, none, .mov (.t 5), []⟩,
⟨5, some 46, none, .iaddr 2 (.t 44) (.t 45), []⟩,
⟨6, some 47, none, .load (some 2) (.t 46), []⟩,
⟨7, some 7, none, .lalloc (.agg [.int .i64 0, .int .i64 0]), []⟩,
⟨8, none, none, .lstore 7 0 2 (.t 47), []⟩]
@[go_sem] theorem F318_r8_r : OE F318_r8.eq_1 := OEM F318_r8.eq_1
def F318_r9 : List AOper := [⟨0, some 48, none, .lload 7 0 (some 2), []⟩,
⟨1, some 49, none, .lload 6 0 (some 2), []⟩,
⟨2, some 50, none, .seq false [1, 1] (.t 48) (.t 49), []⟩,
⟨3, some 51, none, .mov (.t 50), []⟩,
⟨4, some 52, (some (51, false)), .mov (.t 0), []⟩,
⟨5, some 53, (some (51, false)), .nilchk (.t 52), []⟩,
⟨6, some 54, (some (51, false)), .faddr 0 (.t 53), []⟩,
⟨7, some 55, (some (51, false)), .load none (.t 54), []⟩,
⟨8, some 56, (some (51, false)), .lload 7 0 (some 2), []⟩,
⟨9, some 57, (some (51, false)), .call 488 [.t 55, .t 56], []⟩,
⟨10, some 58, (some (51, false)), .not (.t 57), []⟩,
⟨11, some 59, none, .pick (.t 51) (.c (.bool true)) (.t 58), []⟩,
⟨12, some 60, none, .mov (.t 59), []⟩,
⟨13, some 61, (some (60, false)), .mov (.t 0), []⟩,
⟨14, some 62, (some (60, false)), .nilchk (.t 61), []⟩,
⟨15, some 63, (some (60, false)), .faddr 0 (.t 62), []⟩,
⟨16, some 64, (some (60, false)), .load none (.t 63), []⟩,
⟨17, some 65, (some (60, false)), .nop 7, []⟩,
⟨18, some 66, (some (60, false)), .lload 7 0 none, []⟩,
⟨19, some 67, (some (60, false)), .iaddr 5 (.t 64) (.t 66), []⟩,
⟨20, some 68, (some (60, false)), .faddr 4 (.t 67), []⟩,
⟨21, some 69, (some (60, false)), .load none (.t 68), []⟩,
⟨22, some 70, (some (60, false)), .nop 7, []⟩,
⟨23, some 71, (some (60, false)), .lload 7 1 none, []⟩,
⟨24, some 72, (some (60, false)), .iaddr 2 (.t 69) (.t 71), []⟩,
⟨25, some 73, (some (60, false)), .load (some 2) (.t 72), []⟩,
⟨26, some 74, (some (60, false)), .lload 6 0 (some 2), []⟩,
⟨27, some 75, (some (60, false)), .seq true [1, 1] (.t 73) (.t 74), []⟩,
⟨28, some 76, none, .pick (.t 60) (.c (.bool true)) (.t 75), []⟩]
@[go_sem] theorem F318_r9_r : OE F318_r9.eq_1 := OEM F318_r9.eq_1
def F318_k10 : ACode := .seq (.reg true F318_r9) (.cond (.t 76) (.seq (.reg true [⟨0, some 2, none, .mov (.c (.bool false)), []⟩]) (.ret)) (.skip))
@[go_sem] theorem F318_k10_r : CE F318_k10.eq_1 := CEM F318_k10.eq_1
def F318_k11 : ACode := .seq (.reg true F318_r8) F318_k10
@[go_sem] theorem F318_k11_r : CE F318_k11.eq_1 := CEM F318_k11.eq_1
def F318_k12 : ACode := .seq (.reg true F318_r7) F318_k11
@[go_sem] theorem F318_k12_r : CE F318_k12.eq_1 := CEM F318_k12.eq_1
def F318_k13 : ACode := .blk 3 F318_k12
@[go_sem] theorem F318_k13_r : CE F318_k13.eq_1 := CEM F318_k13.eq_1
def F318_r14 : List AOper := [⟨0, some 36, none, .mov (.t 5), []⟩,
⟨1, some 37, none, .bin .add (.t 36) (.c (.int .i64 1)), []⟩,
⟨2, some 5, none, .mov (.t 37), []⟩]
@[go_sem] theorem F318_r14_r : OE F318_r14.eq_1 := OEM F318_r14.eq_1
def F318_k15 : ACode := .seq F318_k13 (.reg true F318_r14)
@[go_sem] theorem F318_k15_r : CE F318_k15.eq_1 := CEM F318_k15.eq_1
def F318_k16 : ACode := .seq F318_k6 F318_k15
@[go_sem] theorem F318_k16_r : CE F318_k16.eq_1 := CEM F318_k16.eq_1
def F318_k17 : ACode := .loop F318_k16
@[go_sem] theorem F318_k17_r : CE F318_k17.eq_1 := CEM F318_k17.eq_1
def F318_k18 : ACode := .blk 2 F318_k17
@[go_sem] theorem F318_k18_r : CE F318_k18.eq_1 := CEM F318_k18.eq_1
def F318_k19 : ACode := .seq (.reg true [⟨0, some 5, none, .mov (.c (.int .i64 0)), []⟩]) F318_k18
@[go_sem] theorem F318_k19_r : CE F318_k19.eq_1 := CEM F318_k19.eq_1
def F318_k20 : ACode := .seq (.reg true F318_r4) F318_k19
@[go_sem] theorem F318_k20_r : CE F318_k20.eq_1 := CEM F318_k20.eq_1
def F318_k21 : ACode := .blk 1 F318_k20
@[go_sem] theorem F318_k21_r : CE F318_k21.eq_1 := CEM F318_k21.eq_1
def F318_r22 : List AOper := [⟨0, some 21, none, .mov (.t 3), []⟩,
⟨1, some 22, none, .bin .add (.t 21) (.c (.int .i64 1)), []⟩,
⟨2, some 3, none, .mov (.t 22), []⟩]
@[go_sem] theorem F318_r22_r : OE F318_r22.eq_1 := OEM F318_r22.eq_1
def F318_k23 : ACode := .seq F318_k21 (.reg true F318_r22)
@[go_sem] theorem F318_k23_r : CE F318_k23.eq_1 := CEM F318_k23.eq_1
def F318_k24 : ACode := .seq F318_k3 F318_k23
@[go_sem] theorem F318_k24_r : CE F318_k24.eq_1 := CEM F318_k24.eq_1
def F318_k25 : ACode := .loop F318_k24
@[go_sem] theorem F318_k25_r : CE F318_k25.eq_1 := CEM F318_k25.eq_1
def F318_k26 : ACode := .blk 0 F318_k25
@[go_sem] theorem F318_k26_r : CE F318_k26.eq_1 := CEM F318_k26.eq_1
def F318_k27 : ACode := .seq (.reg true [⟨0, some 3, none, .mov (.c (.int .i64 0)), []⟩]) F318_k26
@[go_sem] theorem F318_k27_r : CE F318_k27.eq_1 := CEM F318_k27.eq_1
def F318_k28 : ACode := .seq F318_k27 (.seq (.reg true [⟨0, some 2, none, .mov (.c (.bool true)), []⟩]) (.ret))
@[go_sem] theorem F318_k28_r : CE F318_k28.eq_1 := CEM F318_k28.eq_1
def F318_k29 : ACode := .seq F318_k1 F318_k28
@[go_sem] theorem F318_k29_r : CE F318_k29.eq_1 := CEM F318_k29.eq_1
def F318 : AFun := ⟨1, 77, [.t 2], .seq (.reg true [⟨0, some 2, none, .mov (.c (.bool false)), []⟩]) F318_k29⟩
def F598_r0 : List AOper := [⟨0, some 4, none, .mov (.t 0), []⟩,
⟨1, some 5, none, .len (.t 4), []⟩,
⟨2, some 6, none, .bin .gtr (.t 5) (.c (.int .i64 24)), []⟩]
@[go_sem] theorem F598_r0_r : OE F598_r0.eq_1 := OEM F598_r0.eq_1
def F598_k1 : ACode := .seq (.reg true F598_r0) (.cond (.t 6) (.seq (.reg true [⟨0, some 2, none, .mov (.c (.bool false)), []⟩]) (.ret)) (.skip))
@[go_sem] theorem F598_k1_r : CE F598_k1.eq_1 := CEM F598_k1.eq_1
def F598_r2 : List AOper := [⟨0, some 7, none, .mov (.t 3), []⟩,
⟨1, some 8, none, .mov (.t 0), []⟩,
⟨2, some 9, none, .len (.t 8), []⟩,
⟨3, some 10, none, .bin .lss (.t 7) (.t 9), []⟩]
@[go_sem] theorem F598_r2_r : OE F598_r2.eq_1 := OEM F598_r2.eq_1
def F598_k3 : ACode := .seq (.reg true F598_r2) (.cond (.t 10) (.skip) (.exit 0))
@[go_sem] theorem F598_k3_r : CE F598_k3.eq_1 := CEM F598_k3.eq_1
def F598_r4 : List AOper := [⟨0, some 13, none, .mov (.t 0), []⟩,
⟨1, some 14, none, .mov (.t 3), []⟩,
⟨2, some 15, none, .iaddr 1 (.t 13) (.t 14), []⟩,
⟨3, some 16, none, .call 318 [.t 15], []⟩,
⟨4, some 17, none, .not (.t 16), []⟩]
@[go_sem] theorem F598_r4_r : OE F598_r4.eq_1 := OEM F598_r4.eq_1
def F598_k5 : ACode := .seq (.reg true F598_r4) (.cond (.t 17) (.seq (.reg true [⟨0, some 2, none, .mov (.c (.bool false)), []⟩]) (.ret)) (.skip))
@[go_sem] theorem F598_k5_r : CE F598_k5.eq_1 := CEM F598_k5.eq_1
def F598_k6 : ACode := .blk 1 F598_k5
@[go_sem] theorem F598_k6_r : CE F598_k6.eq_1 := CEM F598_k6.eq_1
def F598_r7 : List AOper := [⟨0, some 11, none, .mov (.t 3), []⟩,
⟨1, some 12, none, .bin .add (.t 11) (.c (.int .i64 1)), []⟩,
⟨2, some 3, none, .mov (.t 12), []⟩]
@[go_sem] theorem F598_r7_r : OE F598_r7.eq_1 := OEM F598_r7.eq_1
def F598_k8 : ACode := .seq F598_k6 (.reg true F598_r7)
@[go_sem] theorem F598_k8_r : CE F598_k8.eq_1 := CEM F598_k8.eq_1
def F598_k9 : ACode := .seq F598_k3 F598_k8
@[go_sem] theorem F598_k9_r : CE F598_k9.eq_1 := CEM F598_k9.eq_1
def F598_k10 : ACode := .loop F598_k9
@[go_sem] theorem F598_k10_r : CE F598_k10.eq_1 := CEM F598_k10.eq_1
def F598_k11 : ACode := .blk 0 F598_k10
@[go_sem] theorem F598_k11_r : CE F598_k11.eq_1 := CEM F598_k11.eq_1
def F598_k12 : ACode := .seq (.reg true [⟨0, some 3, none, .mov (.c (.int .i64 0)), []⟩]) F598_k11
@[go_sem] theorem F598_k12_r : CE F598_k12.eq_1 := CEM F598_k12.eq_1
def F598_k13 : ACode := .seq F598_k12 (.seq (.reg true [⟨0, some 2, none, .mov (.c (.bool true)), []⟩]) (.ret))
@[go_sem] theorem F598_k13_r : CE F598_k13.eq_1 := CEM F598_k13.eq_1
def F598_k14 : ACode := .seq F598_k1 F598_k13
@[go_sem] theorem F598_k14_r : CE F598_k14.eq_1 := CEM F598_k14.eq_1
def F598 : AFun := ⟨1, 18, [.t 2], .seq (.reg true [⟨0, some 2, none, .mov (.c (.bool false)), []⟩]) F598_k14⟩
def F1109_r0 : List AOper := [⟨0, some 5, none, .mov (.t 0), []⟩,
⟨1, some 6, none, .nilchk (.t 5), []⟩,
⟨2, some 7, none, .faddr 0 (.t 6), []⟩,
⟨3, some 8, none, .load none (.t 7), []⟩,
⟨4, some 9, none, .mov (.t 1), []⟩,
⟨5, some 10, none, .call 340 [.t 8, .c (.int .i64 0), .t 9], []⟩,
⟨6, some 11, none, .mov (.t 10), []⟩,
⟨7, some 12, (some (11, true)), .mov (.t 0), []⟩,
⟨8, some 13, (some (11, true)), .nilchk (.t 12), []⟩,
⟨9, some 14, (some (11, true)), .faddr 1 (.t 13), []⟩,
⟨10, some 15, (some (11, true)), .load none (.t 14), []⟩,
⟨11, some 16, (some (11, true)), .call 340 [.t 15, .c (.int .i64 (-1)), .c (.int .i64 23)], []⟩,
⟨12, some 17, none, .pick (.t 11) (.t 16) (.c (.bool false)), []⟩,
⟨13, some 18, none, .mov (.t 17), []⟩,
⟨14, some 19, (some (18, true)), .mov (.t 0), []⟩,
⟨15, some 20, (some (18, true)), .nilchk (.t 19), []⟩,
⟨16, some 21, (some (18, true)), .faddr 2 (.t 20), []⟩,
⟨17, some 22, (some (18, true)), .load none (.t 21), []⟩,
⟨18, some 23, (some (18, true)), .call 340 [.t 22, .c (.int .i64 (-1)), .c (.int .i64 599)], []⟩,
⟨19, some 24, none, .pick (.t 18) (.t 23) (.c (.bool false)), []⟩,
⟨20, some 25, none, .mov (.t 24), []⟩,
⟨21, some 26, (some (25, true)), .mov (.t 0), []⟩,
⟨22, some 27, (some (25, true)), .nilchk (.t 26), []⟩,
⟨23, some 28, (some (25, true)), .faddr 2 (.t 27), []⟩,
⟨24, some 29, (some (25, true)), .load none (.t 28), []⟩,
⟨25, some 30, (some (25, true)), .bin .geq (.t 29) (.c (.int .i64 0)), []⟩,
⟨26, some 31, (some (25, true)), .mov (.t 30), []⟩,
⟨27, some 32, (some (31, false)), .mov (.t 0), []⟩,
⟨28, some 33, (some (31, false)), .nilchk (.t 32), []⟩,
⟨29, some 34, (some (31, false)), .faddr 1 (.t 33), []⟩,
⟨30, some 35, (some (31, false)), .load none (.t 34), []⟩,
⟨31, some 36, (some (31, false)), .bin .lss (.t 35) (.c (.int .i64 0)), []⟩,
⟨32, some 37, (some (25, true)), .pick (.t 31) (.c (.bool true)) (.t 36), []⟩,
⟨33, some 38, none, .pick (.t 25) (.t 37) (.c (.bool false)), []⟩,
⟨34, some 4, none, .mov (.t 38), []⟩]
@[go_sem] theorem F1109_r0_r : OE F1109_r0.eq_1 := OEM F1109_r0.eq_1
def F1109_k1 : ACode := .seq (.reg true F1109_r0) (.ret)
@[go_sem] theorem F1109_k1_r : CE F1109_k1.eq_1 := CEM F1109_k1.eq_1
def F1109 : AFun := ⟨2, 39, [.t 4], .seq (.reg true [⟨0, some 4, none, .mov (.c (.bool false)), []⟩]) F1109_k1⟩
def F741_r0 : List AOper := [⟨0, some 8, none, .mov (.t 0), []⟩,
⟨1, some 9, none, .call 318 [.t 8], []⟩,
⟨2, some 10, none, .not (.t 9), []⟩,
⟨3, some 11, none, .mov (.t 10), []⟩,
⟨4, some 12, (some (11, false)), .mov (.t 1), []⟩,
⟨5, some 13, (some (11, false)), .len (.t 12), []⟩,
⟨6, some 14, (some (11, false)), .mov (.t 0), []⟩,
⟨7, some 15, (some (11, false)), .nilchk (.t 14), []⟩,
⟨8, some 16, (some (11, false)), .faddr 0 (.t 15), []⟩,
⟨9, some 17, (some (11, false)), .load none (.t 16), []⟩,
⟨10, some 18, (some (11, false)), .len (.t 17), []⟩,
⟨11, some 19, (some (11, false)), .bin .neq (.t 13) (.t 18), []⟩,
⟨12, some 20, none, .pick (.t 11) (.c (.bool true)) (.t 19), []⟩]
@[go_sem] theorem F741_r0_r : OE F741_r0.eq_1 := OEM F741_r0.eq_1
def F741_k1 : ACode := .seq (.reg true F741_r0) (.cond (.t 20) (.seq (.reg true [⟨0, some 6, none, .mov (.c (.bool false)), []⟩]) (.ret)) (.skip))
@[go_sem] theorem F741_k1_r : CE F741_k1.eq_1 := CEM F741_k1.eq_1
def F741_r2 : List AOper := [⟨0, some 21, none, .mov (.t 7), []⟩,
⟨1, some 22, none, .mov (.t 1), []⟩,
⟨2, some 23, none, .len (.t 22), []⟩,
⟨3, some 24, none, .bin .lss (.t 21) (.t 23), []⟩]
@[go_sem] theorem F741_r2_r : OE F741_r2.eq_1 := OEM F741_r2.eq_1
def F741_k3 : ACode := .seq (.reg true F741_r2) (.cond (.t 24) (.skip) (.exit 0))
@[go_sem] theorem F741_k3_r : CE F741_k3.eq_1 := CEM F741_k3.eq_1
def F741_r4 : List AOper := [⟨0, some 27, none, .mov (.t 1), []⟩,
⟨1, some 28, none, .mov (.t 7), []⟩,
⟨2, some 29, none, .iaddr 3 (.t 27) (.t 28), []⟩,
⟨3, some 30, none, .mov (.t 2), []⟩,
⟨4, some 31, none, .call 1109 [.t 29, .t 30], []⟩,
⟨5, some 32, none, .not (.t 31), []⟩]
@[go_sem] theorem F741_r4_r : OE F741_r4.eq_1 := OEM F741_r4.eq_1
def F741_k5 : ACode := .seq (.reg true F741_r4) (.cond (.t 32) (.seq (.reg true [⟨0, some 6, none, .mov (.c (.bool false)), []⟩]) (.ret)) (.skip))
@[go_sem] theorem F741_k5_r : CE F741_k5.eq_1 := CEM F741_k5.eq_1
def F741_k6 : ACode := .blk 1 F741_k5
@[go_sem] theorem F741_k6_r : CE F741_k6.eq_1 := CEM F741_k6.eq_1
def F741_r7 : List AOper := [⟨0, some 25, none, .mov (.t 7), []⟩,
⟨1, some 26, none, .bin .add (.t 25) (.c (.int .i64 1)), []⟩,
⟨2, some 7, none, .mov (.t 26), []⟩]
@[go_sem] theorem F741_r7_r : OE F741_r7.eq_1 := OEM F741_r7.eq_1
def F741_k8 : ACode := .seq F741_k6 (.reg true F741_r7)
@[go_sem] theorem F741_k8_r : CE F741_k8.eq_1 := CEM F741_k8.eq_1
def F741_k9 : ACode := .seq F741_k3 F741_k8
@[go_sem] theorem F741_k9_r : CE F741_k9.eq_1 := CEM F741_k9.eq_1
def F741_k10 : ACode := .loop F741_k9
@[go_sem] theorem F741_k10_r : CE F741_k10.eq_1 := CEM F741_k10.eq_1
def F741_k11 : ACode := .blk 0 F741_k10
@[go_sem] theorem F741_k11_r : CE F741_k11.eq_1 := CEM F741_k11.eq_1
def F741_k12 : ACode := .seq (.reg true [⟨0, some 7, none, .mov (.c (.int .i64 0)), []⟩]) F741_k11
@[go_sem] theorem F741_k12_r : CE F741_k12.eq_1 := CEM F741_k12.eq_1
def F741_k13 : ACode := .seq F741_k12 (.seq (.reg true [⟨0, some 6, none, .mov (.c (.bool true)), []⟩]) (.ret))
@[go_sem] theorem F741_k13_r : CE F741_k13.eq_1 := CEM F741_k13.eq_1
def F741_k14 : ACode := .seq F741_k1 F741_k13
@[go_sem] theorem F741_k14_r : CE F741_k14.eq_1 := CEM F741_k14.eq_1
def F741 : AFun := ⟨3, 33, [.t 6], .seq (.reg true [⟨0, some 6, none, .mov (.c (.bool false)), []⟩]) F741_k14⟩
def F367_r0 : List AOper := [⟨0, some 6, none, .mov (.t 0), []⟩,
⟨1, some 7, none, .nilchk (.t 6), []⟩,
⟨2, some 8, none, .faddr 0 (.t 7), []⟩,
⟨3, some 9, none, .load none (.t 8), []⟩,
⟨4, some 10, none, .call 598 [.t 9], []⟩,
⟨5, some 11, none, .not (.t 10), []⟩,
⟨6, some 12, none, .mov (.t 11), []⟩,
⟨7, some 13, (some (12, false)), .mov (.t 0), []⟩,
⟨8, some 14, (some (12, false)), .nilchk (.t 13), []⟩,
⟨9, some 15, (some (12, false)), .faddr 1 (.t 14), []⟩,
⟨10, some 16, (some (12, false)), .load none (.t 15), []⟩,
⟨11, some 17, (some (12, false)), .call 412 [.t 16], []⟩,
⟨12, some 18, (some (12, false)), .not (.t 17), []⟩,
⟨13, some 19, none, .pick (.t 12) (.c (.bool true)) (.t 18), []⟩,
⟨14, some 20, none, .mov (.t 19), []⟩,
⟨15, some 21, (some (20, false)), .mov (.t 0), []⟩,
⟨16, some 22, (some (20, false)), .nilchk (.t 21), []⟩,
⟨17, some 23, (some (20, false)), .faddr 2 (.t 22), []⟩,
⟨18, some 24, (some (20, false)), .load none (.t 23), []⟩,
⟨19, some 25, (some (20, false)), .call 340 [.t 24, .c (.int .i64 1), .c (.int .i64 50)], []⟩,
⟨20, some 26, (some (20, false)), .not (.t 25), []⟩,
⟨21, some 27, none, .pick (.t 20) (.c (.bool true)) (.t 26), []⟩,
⟨22, some 28, none, .mov (.t 27), []⟩,
⟨23, some 29, (some (28, false)), .mov (.t 0), []⟩,
⟨24, some 30, (some (28, false)), .nilchk (.t 29), []⟩,
⟨25, some 31, (some (28, false)), .faddr 3 (.t 30), []⟩,
⟨26, some 32, (some (28, false)), .load none (.t 31), []⟩,
⟨27, some 33, (some (28, false)), .call 340 [.t 32, .c (.int .i64 0), .c (.int .i64 4000)], []⟩,
⟨28, some 34, (some (28, false)), .not (.t 33), []⟩,
⟨29, some 35, none, .pick (.t 28) (.c (.bool true)) (.t 34), []⟩,
⟨30, some 36, none, .mov (.t 35), []⟩,
⟨31, some 37, (some (36, false)), .mov (.t 0), []⟩,
⟨32, some 38, (some (36, false)), .nilchk (.t 37), []⟩,
⟨33, some 39, (some (36, false)), .faddr 4 (.t 38), []⟩,
⟨34, some 40, (some (36, false)), .mov (.t 0), []⟩,
⟨35, some 41, (some (36, false)), .nilchk (.t 40), []⟩,
⟨36, some 42, (some (36, false)), .faddr 5 (.t 41), []⟩,
⟨37, some 43, (some (36, false)), .load none (.t 42), []⟩,
⟨38, some 44, (some (36, false)), .mov (.t 0), []⟩,
⟨39, some 45, (some (36, false)), .nilchk (.t 44), []⟩,
⟨40, some 46, (some (36, false)), .faddr 3 (.t 45), []⟩,
⟨41, some 47, (some (36, false)), .load none (.t 46), []⟩,
⟨42, some 48, (some (36, false)), .call 741 [.t 39, .t 43, .t 47], []⟩,
⟨43, some 49, (some (36, false)), .not (.t 48), []⟩,
⟨44, some 50, none, .pick (.t 36) (.c (.bool true)) (.t 49), []⟩,
⟨45, some 51, none, .mov (.t 50), []⟩,
⟨46, some 52, (some (51, false)), .mov (.t 0), []⟩,
⟨47, some 53, (some (51, false)), .nilchk (.t 52), []⟩,
⟨48, some 54, (some (51, false)), .faddr 6 (.t 53), []⟩,
⟨49, some 55, (some (51, false)), .load none (.t 54), []⟩,
⟨50, some 56, (some (51, false)), .len (.t 55), []⟩,
⟨51, some 57, (some (51, false)), .bin .gtr (.t 56) (.c (.int .i64 8)), []⟩,
⟨52, some 58, none, .pick (.t 51) (.c (.bool true)) (.t 57), []⟩]
@[go_sem] theorem F367_r0_r : OE F367_r0.eq_1 := OEM F367_r0.eq_1
def F367_k1 : ACode := .seq (.reg true F367_r0) (.cond (.t 58) (.seq (.reg true [⟨0, some 2, none, .mov (.c (.bool false)), []⟩]) (.ret)) (.skip))
@[go_sem] theorem F367_k1_r : CE F367_k1.eq_1 := CEM F367_k1.eq_1
def F367_r2 : List AOper := [⟨0, some 59, none, .mov (.t 3), []⟩,
⟨1, some 60, none, .mov (.t 0), []⟩,
⟨2, some 61, none, .nilchk (.t 60), []⟩,
⟨3, some 62, none, .faddr 6 (.t 61), []⟩,
⟨4, some 63, none, .load none (.t 62), []⟩,
⟨5, some 64, none, .len (.t 63), []⟩,
⟨6, some 65, none, .bin .lss (.t 59) (.t 64), []⟩]
@[go_sem] theorem F367_r2_r : OE F367_r2.eq_1 := OEM F367_r2.eq_1
def F367_k3 : ACode := .seq (.reg true F367_r2) (.cond (.t 65) (.skip) (.exit 0))
@[go_sem] theorem F367_k3_r : CE F367_k3.eq_1 := CEM F367_k3.eq_1
def F367_r4 : List AOper := [⟨0, some 68, none, .mov (.t 0), []⟩,
⟨1, some 69, none, .nilchk (.t 68), []⟩,
⟨2, some 70, none, .faddr 6 (.t 69), []⟩,
⟨3, some 71, none, .load none (.t 70), []⟩,
⟨4, some 72, none, .mov (.t 3), []⟩,
⟨5, some 73, none, .iaddr 2 (.t 71) (.t 72), []⟩,
⟨6, some 74, none, .call 426 [.t 73], []⟩,
⟨7, some 75, none, .not (.t 74), []⟩]
@[go_sem] theorem F367_r4_r : OE F367_r4.eq_1 := OEM F367_r4.eq_1
def F367_k5 : ACode := .seq (.reg true F367_r4) (.cond (.t 75) (.seq (.reg true [⟨0, some 2, none, .mov (.c (.bool false)), []⟩]) (.ret)) (.skip))
@[go_sem] theorem F367_k5_r : CE F367_k5.eq_1 := CEM F367_k5.eq_1
def F367_k6 : ACode := .blk 1 F367_k5
@[go_sem] theorem F367_k6_r : CE F367_k6.eq_1 := CEM F367_k6.eq_1
def F367_r7 : List AOper := [⟨0, some 66, none, .mov (.t 3), []⟩,
⟨1, some 67, none, .bin .add (.t 66) (.c (.int .i64 1)), []⟩,
⟨2, some 3, none, .mov (.t 67), []⟩]
@[go_sem] theorem F367_r7_r : OE F367_r7.eq_1 := OEM F367_r7.eq_1
def F367_k8 : ACode := .seq F367_k6 (.reg true F367_r7)
@[go_sem] theorem F367_k8_r : CE F367_k8.eq_1 := CEM F367_k8.eq_1
def F367_k9 : ACode := .seq F367_k3 F367_k8
@[go_sem] theorem F367_k9_r : CE F367_k9.eq_1 := CEM F367_k9.eq_1
def F367_k10 : ACode := .loop F367_k9
@[go_sem] theorem F367_k10_r : CE F367_k10.eq_1 := CEM F367_k10.eq_1
def F367_k11 : ACode := .blk 0 F367_k10
@[go_sem] theorem F367_k11_r : CE F367_k11.eq_1 := CEM F367_k11.eq_1
def F367_k12 : ACode := .seq (.reg true [⟨0, some 3, none, .mov (.c (.int .i64 0)), []⟩]) F367_k11
@[go_sem] theorem F367_k12_r : CE F367_k12.eq_1 := CEM F367_k12.eq_1
def F367_r13 : List AOper := [⟨0, some 76, none, .mov (.t 0), []⟩,
⟨1, some 77, none, .nilchk (.t 76), []⟩,
⟨2, some 78, none, .faddr 7 (.t 77), []⟩,
⟨3, some 79, none, .load none (.t 78), []⟩,
⟨4, some 80, none, .len (.t 79), []⟩,
⟨5, some 81, none, .mov (.t 0), []⟩,
⟨6, some 82, none, .nilchk (.t 81), []⟩,
⟨7, some 83, none, .faddr 3 (.t 82), []⟩,
⟨8, some 84, none, .load none (.t 83), []⟩,
⟨9, some 85, none, .mov (.t 0), []⟩,
⟨10, some 86, none, .nilchk (.t 85), []⟩,
⟨11, some 87, none, .faddr 2 (.t 86), []⟩,
⟨12, some 88, none, .load none (.t 87), []⟩,
⟨13, some 89, none, .bin .quo (.t 84) (.t 88), []⟩,
⟨14, some 90, none, .bin .add (.t 89) (.c (.int .i64 1)), []⟩,
⟨15, some 91, none, .mov (.t 0), []⟩,
⟨16, some 92, none, .nilchk (.t 91), []⟩,
⟨17, some 93, none, .faddr 2 (.t 92), []⟩,
⟨18, some 94, none, .load none (.t 93), []⟩,
⟨19, some 95, none, .bin .quo (.c (.int .i64 4000)) (.t 94), []⟩,
⟨20, some 96, none, .bin .add (.t 95) (.c (.int .i64 1)), []⟩,
⟨21, some 97, none, .call 340 [.t 80, .t 90, .t 96], []⟩,
⟨22, some 98, none, .not (.t 97), []⟩]
@[go_sem] theorem F367_r13_r : OE F367_r13.eq_1 := OEM F367_r13.eq_1
def F367_k14 : ACode := .seq (.reg true F367_r13) (.cond (.t 98) (.seq (.reg true [⟨0, some 2, none, .mov (.c (.bool false)), []⟩]) (.ret)) (.skip))
@[go_sem] theorem F367_k14_r : CE F367_k14.eq_1 := CEM F367_k14.eq_1
def F367_r15 : List AOper := [⟨0, some 99, none, .mov (.t 4), []⟩,
⟨1, some 100, none, .mov (.t 0), []⟩,
⟨2, some 101, none, .nilchk (.t 100), []⟩,
⟨3, some 102, none, .faddr 7 (.t 101), []⟩,
⟨4, some 103, none, .load none (.t 102), []⟩,
⟨5, some 104, none, .len (.t 103), []⟩,
⟨6, some 105, none, .bin .lss (.t 99) (.t 104), []⟩]
@[go_sem] theorem F367_r15_r : OE F367_r15.eq_1 := OEM F367_r15.eq_1
def F367_k16 : ACode := .seq (.reg true F367_r15) (.cond (.t 105) (.skip) (.exit 2))
@[go_sem] theorem F367_k16_r : CE F367_k16.eq_1 := CEM F367_k16.eq_1
def F367_r17 : List AOper := [⟨0, some 108, none, .mov (.t 0), []⟩,
⟨1, some 109, none, .nilchk (.t 108), []⟩,
⟨2, some 110, none, .faddr 7 (.t 109), []⟩,
⟨3, some 111, none, .load none (.t 110), []⟩,
⟨4, some 112, none, .mov (.t 4), []⟩,
⟨5, some 113, none, .iaddr 3 (.t 111) (.t 112), []⟩,
⟨6, some 5, none, .mov (.t 113), []⟩]
@[go_sem] theorem F367_r17_r : OE F367_r17.eq_1 := OEM F367_r17.eq_1
def F367_r18 : List AOper := [⟨0, some 114, none, .mov (.t 5), []⟩,
⟨1, some 115, none, .nilchk (.t 114), []⟩,
⟨2, some 116, none, .faddr 0 (.t 115), []⟩,
⟨3, some 117, none, .load none (.t 116), []⟩,
⟨4, some 118, none, .mov (.t 4), []⟩,
⟨5, some 119, none, .mov (.t 0), []⟩,
⟨6, some 120, none, .nilchk (.t 119), []⟩,
⟨7, some 121, none, .faddr 2 (.t 120), []⟩,
⟨8, some 122, none, .load none (.t 121), []⟩,
⟨9, some 123, none, .bin .mul (.t 118) (.t 122), []⟩,
⟨10, some 124, none, .bin .neq (.t 117) (.t 123), []⟩,
⟨11, some 125, none, .mov (.t 124), []⟩,
⟨12, some 126, (some (125, false)), .mov (.t 5), []⟩,
⟨13, some 127, (some (125, false)), .nilchk (.t 126), []⟩,
⟨14, some 128, (some (125, false)), .faddr 1 (.t 127), []⟩,
⟨15, some 129, (some (125, false)), .mov (.t 5), []⟩,
⟨16, some 130, (some (125, false)), .nilchk (.t 129), []⟩,
⟨17, some 131, (some (125, false)), .faddr 2 (.t 130), []⟩,
⟨18, some 132, (some (125, false)), .load none (.t 131), []⟩,
⟨19, some 133, (some (125, false)), .mov (.t 5), []⟩,
⟨20, some 134, (some (125, false)), .nilchk (.t 133), []⟩,
⟨21, some 135, (some (125, false)), .faddr 0 (.t 134), []⟩,
⟨22, some 136, (some (125, false)), .load none (.t 135), []⟩,
⟨23, some 137, (some (125, false)), .call 741 [.t 128, .t 132, .t 136], []⟩,
⟨24, some 138, (some (125, false)), .not (.t 137), []⟩,
⟨25, some 139, none, .pick (.t 125) (.c (.bool true)) (.t 138), []⟩]
@[go_sem] theorem F367_r18_r : OE F367_r18.eq_1 := OEM F367_r18.eq_1
def F367_k19 : ACode := .seq (.reg true F367_r18) (.cond (.t 139) (.seq (.reg true [⟨0, some 2, none, .mov (.c (.bool false)), []⟩]) (.ret)) (.skip))
@[go_sem] theorem F367_k19_r : CE F367_k19.eq_1 := CEM F367_k19.eq_1
def F367_k20 : ACode := .seq (.reg true F367_r17) F367_k19
@[go_sem] theorem F367_k20_r : CE F367_k20.eq_1 := CEM F367_k20.eq_1
def F367_k21 : ACode := .blk 3 F367_k20
@[go_sem] theorem F367_k21_r : CE F367_k21.eq_1 := CEM F367_k21.eq_1
def F367_r22 : List AOper := [⟨0, some 106, none, .mov (.t 4), []⟩,
⟨1, some 107, none, .bin .add (.t 106) (.c (.int .i64 1)), []⟩,
⟨2, some 4, none, .mov (.t 107), []⟩]
@[go_sem] theorem F367_r22_r : OE F367_r22.eq_1 := OEM F367_r22.eq_1
def F367_k23 : ACode := .seq F367_k21 (.reg true F367_r22)
@[go_sem] theorem F367_k23_r : CE F367_k23.eq_1 := CEM F367_k23.eq_1
def F367_k24 : ACode := .seq F367_k16 F367_k23
@[go_sem] theorem F367_k24_r : CE F367_k24.eq_1 := CEM F367_k24.eq_1
def F367_k25 : ACode := .loop F367_k24
@[go_sem] theorem F367_k25_r : CE F367_k25.eq_1 := CEM F367_k25.eq_1
def F367_k26 : ACode := .blk 2 F367_k25
@[go_sem] theorem F367_k26_r : CE F367_k26.eq_1 := CEM F367_k26.eq_1
def F367_k27 : ACode := .seq (.reg true [⟨0, some 4, none, .mov (.c (.int .i64 0)), []⟩]) F367_k26
@[go_sem] theorem F367_k27_r : CE F367_k27.eq_1 := CEM F367_k27.eq_1
def F367_k28 : ACode := .seq F367_k27 (.seq (.reg true [⟨0, some 2, none, .mov (.c (.bool true)), []⟩]) (.ret))
@[go_sem] theorem F367_k28_r : CE F367_k28.eq_1 := CEM F367_k28.eq_1
def F367_k29 : ACode := .seq F367_k14 F367_k28
@[go_sem] theorem F367_k29_r : CE F367_k29.eq_1 := CEM F367_k29.eq_1
def F367_k30 : ACode := .seq F367_k12 F367_k29
@[go_sem] theorem F367_k30_r : CE F367_k30.eq_1 := CEM F367_k30.eq_1
def F367_k31 : ACode := .seq F367_k1 F367_k30
@[go_sem] theorem F367_k31_r : CE F367_k31.eq_1 := CEM F367_k31.eq_1
def F367 : AFun := ⟨1, 140, [.t 2], .seq (.reg true [⟨0, some 2, none, .mov (.c (.bool false)), []⟩]) F367_k31⟩
def F147 : AFun := toS0 
def F1419_r0 : List AOper := [⟨0, some 4, none, .nop 1, []⟩,
⟨1, some 5, none, .lload 1 0 none, []⟩,
⟨2, some 6, none, .nop 3, []⟩,
⟨3, none, none, .lstore 3 0 1 (.t 5), []⟩]
@[go_sem] theorem F1419_r0_r : OE F1419_r0.eq_1 := OEM F1419_r0.eq_1
def F1419_r1 : List AOper := [⟨0, some 7, none, .nop 1, []⟩,
⟨1, some 8, none, .lload 1 1 none, []⟩,
⟨2, some 9, none, .nop 3, []⟩,
⟨3, none, none, .lstore 3 1 1 (.t 8), []⟩]
@[go_sem] theorem F1419_r1_r : OE F1419_r1.eq_1 := OEM F1419_r1.eq_1
def F1419_k2 : ACode := .seq (.reg true F1419_r1) (.seq (.reg true [⟨0, some 10, none, .lload 3 0 (some 2), []⟩,
⟨1, none, none, .lstore 2 0 2 (.t 10), []⟩]) (.ret))
@[go_sem] theorem F1419_k2_r : CE F1419_k2.eq_1 := CEM F1419_k2.eq_1
def F1419_k3 : ACode := .seq (.reg true F1419_r0) F1419_k2
@[go_sem] theorem F1419_k3_r : CE F1419_k3.eq_1 := CEM F1419_k3.eq_1
def F1419_k4 : ACode := .seq (.reg true [⟨0, some 3, none, .lalloc (.agg [.int .i64 0, .int .i64 0]), []⟩]) F1419_k3
@[go_sem] theorem F1419_k4_r : CE F1419_k4.eq_1 := CEM F1419_k4.eq_1
def F1419 : AFun := ⟨1, 11, [.l 2 (some 2)], .seq (.reg true [⟨0, some 1, none, .lbox 2 (.t 0), []⟩,
⟨1, some 2, none, .lalloc (.agg [.int .i64 0, .int .i64 0]), []⟩]) F1419_k4⟩
def F1178 : AFun := toS 2 (some 2) (.agg [.int .i64 0, .int .i64 0]) 1419
def F858_r0 : List AOper := [⟨0, some 4, none, .nop 1, []⟩,
⟨1, some 5, none, .lload 1 0 none, []⟩,
⟨2, some 6, none, .nop 3, []⟩,
⟨3, none, none, .lstore 3 0 1 (.t 5), []⟩]
@[go_sem] theorem F858_r0_r : OE F858_r0.eq_1 := OEM F858_r0.eq_1
def F858_r1 : List AOper := [⟨0, some 7, none, .nop 1, []⟩,
⟨1, some 8, none, .lload 1 1 none, []⟩,
⟨2, some 9, none, .nop 3, []⟩,
⟨3, none, none, .lstore 3 1 1 (.t 8), []⟩]
@[go_sem] theorem F858_r1_r : OE F858_r1.eq_1 := OEM F858_r1.eq_1
def F858_r2 : List AOper := [⟨0, some 10, none, .nop 1, []⟩,
⟨1, some 11, none, .lload 1 2 none, []⟩,
⟨2, some 12, none, .nop 3, []⟩,
⟨3, none, none, .lstore 3 2 1 (.t 11), []⟩]
@[go_sem] theorem F858_r2_r : OE F858_r2.eq_1 := OEM F858_r2.eq_1
def F858_r3 : List AOper := [⟨0, some 13, none, .nop 1, []⟩,
⟨1, some 14, none, .lload 1 3 none, []⟩,
⟨2, some 15, none, .call 147 [.t 14], []⟩,
⟨3, some 16, none, .nop 3, []⟩,
⟨4, none, none, .lstore 3 3 1 (.t 15), []⟩]
@[go_sem] theorem F858_r3_r : OE F858_r3.eq_1 := OEM F858_r3.eq_1
def F858_r4 : List AOper := [⟨0, some 17, none, .nop 1, []⟩,
⟨1, some 18, none, .lload 1 4 none, []⟩,
⟨2, some 19, none, .call 1178 [.t 18], []⟩,
⟨3, some 20, none, .nop 3, []⟩,
⟨4, none, none, .lstore 3 4 1 (.t 19), []⟩]
@[go_sem] theorem F858_r4_r : OE F858_r4.eq_1 := OEM F858_r4.eq_1
def F858_k5 : ACode := .seq (.reg true F858_r4) (.seq (.reg true [⟨0, some 21, none, .lload 3 0 (some 5), []⟩,
⟨1, none, none, .lstore 2 0 5 (.t 21), []⟩]) (.ret))
@[go_sem] theorem F858_k5_r : CE F858_k5.eq_1 := CEM F858_k5.eq_1
def F858_k6 : ACode := .seq (.reg true F858_r3) F858_k5
@[go_sem] theorem F858_k6_r : CE F858_k6.eq_1 := CEM F858_k6.eq_1
def F858_k7 : ACode := .seq (.reg true F858_r2) F858_k6
@[go_sem] theorem F858_k7_r : CE F858_k7.eq_1 := CEM F858_k7.eq_1
def F858_k8 : ACode := .seq (.reg true F858_r1) F858_k7
@[go_sem] theorem F858_k8_r : CE F858_k8.eq_1 := CEM F858_k8.eq_1
def F858_k9 : ACode := .seq (.reg true F858_r0) F858_k8
@[go_sem] theorem F858_k9_r : CE F858_k9.eq_1 := CEM F858_k9.eq_1
def F858_k10 : ACode := .seq (.reg true [⟨0, some 3, none, .lalloc (.agg [.int .i64 0, .int .i64 0, .int .i64 0, .nils, .nils]), []⟩]) F858_k9
@[go_sem] theorem F858_k10_r : CE F858_k10.eq_1 := CEM F858_k10.eq_1
def F858 : AFun := ⟨1, 22, [.l 2 (some 5)], .seq (.reg true [⟨0, some 1, none, .lbox 5 (.t 0), []⟩,
⟨1, some 2, none, .lalloc (.agg [.int .i64 0, .int .i64 0, .int .i64 0, .nils, .nils]), []⟩]) F858_k10⟩
def F504 : AFun := toS 5 (some 5) (.agg [.int .i64 0, .int .i64 0, .int .i64 0, .nils, .nils]) 858
def F185_r0 : List AOper := [⟨0, some 4, none, .nop 1, []⟩,
⟨1, some 5, none, .lload 1 0 none, []⟩,
⟨2, some 6, none, .call 504 [.t 5], []⟩,
⟨3, some 7, none, .nop 3, []⟩,
⟨4, none, none, .lstore 3 0 1 (.t 6), []⟩]
@[go_sem] theorem F185_r0_r : OE F185_r0.eq_1 := OEM F185_r0.eq_1
def F185_k1 : ACode := .seq (.reg true F185_r0) (.seq (.reg true [⟨0, some 8, none, .lload 3 0 (some 1), []⟩,
⟨1, none, none, .lstore 2 0 1 (.t 8), []⟩]) (.ret))
@[go_sem] theorem F185_k1_r : CE F185_k1.eq_1 := CEM F185_k1.eq_1
def F185_k2 : ACode := .seq (.reg true [⟨0, some 3, none, .lalloc (.agg [.nils]), []⟩]) F185_k1
@[go_sem] theorem F185_k2_r : CE F185_k2.eq_1 := CEM F185_k2.eq_1
def F185 : AFun := ⟨1, 9, [.l 2 (some 1)], .seq (.reg true [⟨0, some 1, none, .lbox 1 (.t 0), []⟩,
⟨1, some 2, none, .lalloc (.agg [.nils]), []⟩]) F185_k2⟩
def F184 : AFun := toS 1 (some 1) (.agg [.nils]) 185
def F745_r0 : List AOper := [⟨0, some 4, none, .nop 1, []⟩,
⟨1, some 5, none, .lload 1 0 none, []⟩,
⟨2, some 6, none, .nop 3, []⟩,
⟨3, none, none, .lstore 3 0 1 (.t 5), []⟩]
@[go_sem] theorem F745_r0_r : OE F745_r0.eq_1 := OEM F745_r0.eq_1
def F745_r1 : List AOper := [⟨0, some 7, none, .nop 1, []⟩,
⟨1, some 8, none, .lload 1 1 none, []⟩,
⟨2, some 9, none, .nop 3, []⟩,
⟨3, none, none, .lstore 3 1 1 (.t 8), []⟩]
@[go_sem] theorem F745_r1_r : OE F745_r1.eq_1 := OEM F745_r1.eq_1
def F745_r2 : List AOper := [⟨0, some 10, none, .nop 1, []⟩,
⟨1, some 11, none, .lload 1 2 none, []⟩,
⟨2, some 12, none, .nop 3, []⟩,
⟨3, none, none, .lstore 3 2 1 (.t 11), []⟩]
@[go_sem] theorem F745_r2_r : OE F745_r2.eq_1 := OEM F745_r2.eq_1
def F745_k3 : ACode := .seq (.reg true F745_r2) (.seq (.reg true [⟨0, some 13, none, .lload 3 0 (some 3), []⟩,
⟨1, none, none, .lstore 2 0 3 (.t 13), []⟩]) (.ret))
@[go_sem] theorem F745_k3_r : CE F745_k3.eq_1 := CEM F745_k3.eq_1
def F745_k4 : ACode := .seq (.reg true F745_r1) F745_k3
@[go_sem] theorem F745_k4_r : CE F745_k4.eq_1 := CEM F745_k4.eq_1
def F745_k5 : ACode := .seq (.reg true F745_r0) F745_k4
@[go_sem] theorem F745_k5_r : CE F745_k5.eq_1 := CEM F745_k5.eq_1
def F745_k6 : ACode := .seq (.reg true [⟨0, some 3, none, .lalloc (.agg [.int .i64 0, .int .i64 0, .int .i64 0]), []⟩]) F745_k5
@[go_sem] theorem F745_k6_r : CE F745_k6.eq_1 := CEM F745_k6.eq_1
def F745 : AFun := ⟨1, 14, [.l 2 (some 3)], .seq (.reg true [⟨0, some 1, none, .lbox 3 (.t 0), []⟩,
⟨1, some 2, none, .lalloc (.agg [.int .i64 0, .int .i64 0, .int .i64 0]), []⟩]) F745_k6⟩
def F370 : AFun := toS 3 (some 3) (.agg [.int .i64 0, .int .i64 0, .int .i64 0]) 745
def F134_r0 : List AOper := [⟨0, some 4, none, .nop 1, []⟩,
⟨1, some 5, none, .lload 1 0 none, []⟩,
⟨2, some 6, none, .nop 3, []⟩,
⟨3, none, none, .lstore 3 0 1 (.t 5), []⟩]
@[go_sem] theorem F134_r0_r : OE F134_r0.eq_1 := OEM F134_r0.eq_1
def F134_r1 : List AOper := [⟨0, some 7, none, .nop 1, []⟩,
⟨1, some 8, none, .lload 1 1 none, []⟩,
⟨2, some 9, none, .nop 3, []⟩,
⟨3, none, none, .lstore 3 1 1 (.t 8), []⟩]
@[go_sem] theorem F134_r1_r : OE F134_r1.eq_1 := OEM F134_r1.eq_1
def F134_k2 : ACode := .seq (.reg true F134_r1) (.seq (.reg true [⟨0, some 10, none, .lload 3 0 (some 2), []⟩,
⟨1, none, none, .lstore 2 0 2 (.t 10), []⟩]) (.ret))
@[go_sem] theorem F134_k2_r : CE F134_k2.eq_1 := CEM F134_k2.eq_1
def F134_k3 : ACode := .seq (.reg true F134_r0) F134_k2
@[go_sem] theorem F134_k3_r : CE F134_k3.eq_1 := CEM F134_k3.eq_1
def F134_k4 : ACode := .seq (.reg true [⟨0, some 3, none, .lalloc (.agg [.int .i64 0, .int .i64 0]), []⟩]) F134_k3
@[go_sem] theorem F134_k4_r : CE F134_k4.eq_1 := CEM F134_k4.eq_1
def F134 : AFun := ⟨1, 11, [.l 2 (some 2)], .seq (.reg true [⟨0, some 1, none, .lbox 2 (.t 0), []⟩,
⟨1, some 2, none, .lalloc (.agg [.int .i64 0, .int .i64 0]), []⟩]) F134_k4⟩
def F371 : AFun := toS 2 (some 2) (.agg [.int .i64 0, .int .i64 0]) 134
def F746_r0 : List AOper := [⟨0, some 4, none, .nop 1, []⟩,
⟨1, some 5, none, .lload 1 0 none, []⟩,
⟨2, some 6, none, .nop 3, []⟩,
⟨3, none, none, .lstore 3 0 1 (.t 5), []⟩]
@[go_sem] theorem F746_r0_r : OE F746_r0.eq_1 := OEM F746_r0.eq_1
def F746_r1 : List AOper := [⟨0, some 7, none, .nop 1, []⟩,
⟨1, some 8, none, .lload 1 1 (some 1), []⟩,
⟨2, some 9, none, .call 185 [.t 8], []⟩,
⟨3, some 10, none, .nop 3, []⟩,
⟨4, none, none, .lstore 3 1 1 (.t 9), []⟩]
@[go_sem] theorem F746_r1_r : OE F746_r1.eq_1 := OEM F746_r1.eq_1
def F746_r2 : List AOper := [⟨0, some 11, none, .nop 1, []⟩,
⟨1, some 12, none, .lload 1 2 none, []⟩,
⟨2, some 13, none, .call 370 [.t 12], []⟩,
⟨3, some 14, none, .nop 3, []⟩,
⟨4, none, none, .lstore 3 2 1 (.t 13), []⟩]
@[go_sem] theorem F746_r2_r : OE F746_r2.eq_1 := OEM F746_r2.eq_1
def F746_k3 : ACode := .seq (.reg true F746_r2) (.seq (.reg true [⟨0, some 15, none, .lload 3 0 (some 3), []⟩,
⟨1, none, none, .lstore 2 0 3 (.t 15), []⟩]) (.ret))
@[go_sem] theorem F746_k3_r : CE F746_k3.eq_1 := CEM F746_k3.eq_1
def F746_k4 : ACode := .seq (.reg true F746_r1) F746_k3
@[go_sem] theorem F746_k4_r : CE F746_k4.eq_1 := CEM F746_k4.eq_1
def F746_k5 : ACode := .seq (.reg true F746_r0) F746_k4
@[go_sem] theorem F746_k5_r : CE F746_k5.eq_1 := CEM F746_k5.eq_1
def F746_k6 : ACode := .seq (.reg true [⟨0, some 3, none, .lalloc (.agg [.int .i64 0, .nils, .nils]), []⟩]) F746_k5
@[go_sem] theorem F746_k6_r : CE F746_k6.eq_1 := CEM F746_k6.eq_1
def F746 : AFun := ⟨1, 16, [.l 2 (some 3)], .seq (.reg true [⟨0, some 1, none, .lbox 3 (.t 0), []⟩,
⟨1, some 2, none, .lalloc (.agg [.int .i64 0, .nils, .nils]), []⟩]) F746_k6⟩
def F372 : AFun := toS 3 (some 3) (.agg [.int .i64 0, .nils, .nils]) 746
def F106_r0 : List AOper := [⟨0, some 4, none, .nop 1, []⟩,
⟨1, some 5, none, .lload 1 0 none, []⟩,
⟨2, some 6, none, .call 184 [.t 5], []⟩,
⟨3, some 7, none, .nop 3, []⟩,
⟨4, none, none, .lstore 3 0 1 (.t 6), []⟩]
@[go_sem] theorem F106_r0_r : OE F106_r0.eq_1 := OEM F106_r0.eq_1
def F106_r1 : List AOper := [⟨0, some 8, none, .nop 1, []⟩,
⟨1, some 9, none, .lload 1 1 none, []⟩,
⟨2, some 10, none, .call 147 [.t 9], []⟩,
⟨3, some 11, none, .nop 3, []⟩,
⟨4, none, none, .lstore 3 1 1 (.t 10), []⟩]
@[go_sem] theorem F106_r1_r : OE F106_r1.eq_1 := OEM F106_r1.eq_1
def F106_r2 : List AOper := [⟨0, some 12, none, .nop 1, []⟩,
⟨1, some 13, none, .lload 1 2 none, []⟩,
⟨2, some 14, none, .nop 3, []⟩,
⟨3, none, none, .lstore 3 2 1 (.t 13), []⟩]
@[go_sem] theorem F106_r2_r : OE F106_r2.eq_1 := OEM F106_r2.eq_1
def F106_r3 : List AOper := [⟨0, some 15, none, .nop 1, []⟩,
⟨1, some 16, none, .lload 1 3 none, []⟩,
⟨2, some 17, none, .nop 3, []⟩,
⟨3, none, none, .lstore 3 3 1 (.t 16), []⟩]
@[go_sem] theorem F106_r3_r : OE F106_r3.eq_1 := OEM F106_r3.eq_1
def F106_r4 : List AOper := [⟨0, some 18, none, .nop 1, []⟩,
⟨1, some 19, none, .lload 1 4 (some 1), []⟩,
⟨2, some 20, none, .call 185 [.t 19], []⟩,
⟨3, some 21, none, .nop 3, []⟩,
⟨4, none, none, .lstore 3 4 1 (.t 20), []⟩]
@[go_sem] theorem F106_r4_r : OE F106_r4.eq_1 := OEM F106_r4.eq_1
def F106_r5 : List AOper := [⟨0, some 22, none, .nop 1, []⟩,
⟨1, some 23, none, .lload 1 5 none, []⟩,
⟨2, some 24, none, .call 370 [.t 23], []⟩,
⟨3, some 25, none, .nop 3, []⟩,
⟨4, none, none, .lstore 3 5 1 (.t 24), []⟩]
@[go_sem] theorem F106_r5_r : OE F106_r5.eq_1 := OEM F106_r5.eq_1
def F106_r6 : List AOper := [⟨0, some 26, none, .nop 1, []⟩,
⟨1, some 27, none, .lload 1 6 none, []⟩,
⟨2, some 28, none, .call 371 [.t 27], []⟩,
⟨3, some 29, none, .nop 3, []⟩,
⟨4, none, none, .lstore 3 6 1 (.t 28), []⟩]
@[go_sem] theorem F106_r6_r : OE F106_r6.eq_1 := OEM F106_r6.eq_1
def F106_r7 : List AOper := [⟨0, some 30, none, .nop 1, []⟩,
⟨1, some 31, none, .lload 1 7 none, []⟩,
⟨2, some 32, none, .call 372 [.t 31], []⟩,
⟨3, some 33, none, .nop 3, []⟩,
⟨4, none, none, .lstore 3 7 1 (.t 32), []⟩]
@[go_sem] theorem F106_r7_r : OE F106_r7.eq_1 := OEM F106_r7.eq_1
def F106_k8 : ACode := .seq (.reg true F106_r7) (.seq (.reg true [⟨0, some 34, none, .lload 3 0 (some 8), []⟩,
⟨1, none, none, .lstore 2 0 8 (.t 34), []⟩]) (.ret))
@[go_sem] theorem F106_k8_r : CE F106_k8.eq_1 := CEM F106_k8.eq_1
def F106_k9 : ACode := .seq (.reg true F106_r6) F106_k8
@[go_sem] theorem F106_k9_r : CE F106_k9.eq_1 := CEM F106_k9.eq_1
def F106_k10 : ACode := .seq (.reg true F106_r5) F106_k9
@[go_sem] theorem F106_k10_r : CE F106_k10.eq_1 := CEM F106_k10.eq_1
def F106_k11 : ACode := .seq (.reg true F106_r4) F106_k10
@[go_sem] theorem F106_k11_r : CE F106_k11.eq_1 := CEM F106_k11.eq_1
def F106_k12 : ACode := .seq (.reg true F106_r3) F106_k11
@[go_sem] theorem F106_k12_r : CE F106_k12.eq_1 := CEM F106_k12.eq_1
def F106_k13 : ACode := .seq (.reg true F106_r2) F106_k12
@[go_sem] theorem F106_k13_r : CE F106_k13.eq_1 := CEM F106_k13.eq_1
def F106_k14 : ACode := .seq (.reg true F106_r1) F106_k13
@[go_sem] theorem F106_k14_r : CE F106_k14.eq_1 := CEM F106_k14.eq_1
def F106_k15 : ACode := .seq (.reg true F106_r0) F106_k14
@[go_sem] theorem F106_k15_r : CE F106_k15.eq_1 := CEM F106_k15.eq_1
def F106_k16 : ACode := .seq (.reg true [⟨0, some 3, none, .lalloc (.agg [.nils, .nils, .int .i64 0, .int .i64 0, .nils, .nils, .nils, .nils]), []⟩]) F106_k15
@[go_sem] theorem F106_k16_r : CE F106_k16.eq_1 := CEM F106_k16.eq_1
def F106 : AFun := ⟨1, 35, [.l 2 (some 8)], .seq (.reg true [⟨0, some 1, none, .lbox 8 (.t 0), []⟩,
⟨1, some 2, none, .lalloc (.agg [.nils, .nils, .int .i64 0, .int .i64 0, .nils, .nils, .nils, .nils]), []⟩]) F106_k16⟩
def F774 : AFun := idxF 1 none
def F397 : AFun := ctnF 774
def F775_r0 : List AOper := [⟨0, some 3, none, .mov (.t 0), []⟩,
⟨1, some 4, none, .bin .lss (.t 3) (.c (.int .i64 0)), []⟩,
⟨2, some 5, none, .mov (.t 4), []⟩,
⟨3, some 6, (some (5, false)), .mov (.t 0), []⟩,
⟨4, some 7, (some (5, false)), .bin .gtr (.t 6) (.c (.int .i64 600)), []⟩,
⟨5, some 8, none, .pick (.t 5) (.c (.bool true)) (.t 7), []⟩,
⟨6, some 2, none, .mov (.t 8), []⟩]
@[go_sem] theorem F775_r0_r : OE F775_r0.eq_1 := OEM F775_r0.eq_1
def F775_k1 : ACode := .seq (.reg true F775_r0) (.ret)
@[go_sem] theorem F775_k1_r : CE F775_k1.eq_1 := CEM F775_k1.eq_1
def F775 : AFun := ⟨1, 9, [.t 2], .seq (.reg true [⟨0, some 2, none, .mov (.c (.bool false)), []⟩]) F775_k1⟩
def F406_r0 : List AOper := [⟨0, some 3, none, .mov (.t 0), []⟩,
⟨1, some 4, none, .len (.t 3), []⟩,
⟨2, some 5, none, .bin .leq (.t 4) (.c (.int .i64 200)), []⟩,
⟨3, some 6, none, .mov (.t 5), []⟩,
⟨4, some 7, (some (6, true)), .mov (.t 0), []⟩,
⟨5, some 8, (some (6, true)), .call 397 [.t 7, .f 775], []⟩,
⟨6, some 9, (some (6, true)), .not (.t 8), []⟩,
⟨7, some 10, none, .pick (.t 6) (.t 9) (.c (.bool false)), []⟩,
⟨8, some 2, none, .mov (.t 10), []⟩]
@[go_sem] theorem F406_r0_r : OE F406_r0.eq_1 := OEM F406_r0.eq_1
def F406_k1 : ACode := .seq (.reg true F406_r0) (.ret)
@[go_sem] theorem F406_k1_r : CE F406_k1.eq_1 := CEM F406_k1.eq_1
def F406 : AFun := ⟨1, 11, [.t 2], .seq (.reg true [⟨0, some 2, none, .mov (.c (.bool false)), []⟩]) F406_k1⟩
def F801_r0 : List AOper := [⟨0, some 4, none, .mov (.t 0), []⟩,
⟨1, some 5, none, .bin .lss (.t 4) (.c (.int .i64 0)), []⟩,
⟨2, some 6, none, .mov (.t 5), []⟩,
⟨3, some 7, (some (6, false)), .mov (.t 0), []⟩,
⟨4, some 8, (some (6, false)), .load none (.t 1), []⟩,
⟨5, some 9, (some (6, false)), .bin .gtr (.t 7) (.t 8), []⟩,
⟨6, some 10, none, .pick (.t 6) (.c (.bool true)) (.t 9), []⟩,
⟨7, some 3, none, .mov (.t 10), []⟩]
@[go_sem] theorem F801_r0_r : OE F801_r0.eq_1 := OEM F801_r0.eq_1
def F801_k1 : ACode := .seq (.reg true F801_r0) (.ret)
@[go_sem] theorem F801_k1_r : CE F801_k1.eq_1 := CEM F801_k1.eq_1
def F801 : AFun := ⟨2, 11, [.t 3], .seq (.reg true [⟨0, some 3, none, .mov (.c (.bool false)), []⟩]) F801_k1⟩
def F436_r0 : List AOper := [⟨0, some 5, none, .mov (.t 1), []⟩,
⟨1, some 6, none, .mkfn 801 [.t 2], []⟩,
⟨2, some 7, none, .call 397 [.t 5, .t 6], []⟩,
⟨3, some 8, none, .not (.t 7), []⟩,
⟨4, some 4, none, .mov (.t 8), []⟩]
@[go_sem] theorem F436_r0_r : OE F436_r0.eq_1 := OEM F436_r0.eq_1
def F436_k1 : ACode := .seq (.reg true F436_r0) (.ret)
@[go_sem] theorem F436_k1_r : CE F436_k1.eq_1 := CEM F436_k1.eq_1
def F436 : AFun := ⟨2, 9, [.t 4], .seq (.reg true [⟨0, some 2, none, .hbox 1 (.t 0), []⟩,
⟨1, some 4, none, .mov (.c (.bool false)), []⟩]) F436_k1⟩
def F1179 : AFun := idxF 1 (some 1)
def F859 : AFun := ctnF 1179
def F554_r0 : List AOper := [⟨0, some 7, none, .mov (.t 0), []⟩,
⟨1, some 8, none, .nilchk (.t 7), []⟩,
⟨2, some 9, none, .faddr 0 (.t 8), []⟩,
⟨3, some 10, none, .load none (.t 9), []⟩,
⟨4, some 11, none, .len (.t 10), []⟩,
⟨5, some 12, none, .mov (.c (.int .i64 0)), []⟩]
@[go_sem] theorem F554_r0_r : OE F554_r0.eq_1 := OEM F554_r0.eq_1
def F554_r1 : List AOper := [⟨0, some 14, none, .mov (.t 12), []⟩,
⟨1, some 15, none, .iaddr 5 (.t 10) (.t 12), []⟩,
⟨2, some 16, none, .load (some 5) (.t 15), []⟩,
⟨3, some 5, none, .lalloc (.agg [.int .i64 0, .int .i64 0, .int .i64 0, .nils, .nils]), []⟩,
⟨4, some 4, none, .mov (.t 14), []⟩,
⟨5, none, none, .lstore 5 0 5 (.t 16), []⟩]
@[go_sem] theorem F554_r1_r : OE F554_r1.eq_1 := OEM F554_r1.eq_1
def F554_r2 : List AOper := [⟨0, some 17, none, .nop 5, []⟩,
⟨1, some 18, none, .lload 5 4 none, []⟩,
⟨2, some 19, none, .len (.t 18), []⟩,
⟨3, some 20, none, .mov (.c (.int .i64 0)), []⟩]
@[go_sem] theorem F554_r2_r : OE F554_r2.eq_1 := OEM F554_r2.eq_1
def F554_r3 : List AOper := [⟨0, some 23, none, .mov (.t 3), []⟩,
⟨1, some 24, none, .mov (.t 4), []⟩,
⟨2, some 25, none, .mov (.t 6), []⟩,
⟨3, some 26, none, .build (.agg [.int .i64 0, .int .i64 0]) [(0, 1, .t 24), (1, 1, .t 25)], []⟩,
⟨4, some 27, none, .bslice 2 (.agg [.int .i64 0, .int .i64 0]) 1 [(0, .t 26)], []⟩,
⟨5, some 28, none, .app 2 (.t 23) (.t 27), []⟩,
⟨6, some 3, none, .mov (.t 28), []⟩]
@[go_sem] theorem F554_r3_r : OE F554_r3.eq_1 := OEM F554_r3.eq_1
def F554_k4 : ACode := .seq (.reg true [⟨0, some 22, none, .mov (.t 20), []⟩,
⟨1, some 6, none, .mov (.t 22), []⟩]) (.reg true F554_r3)
@[go_sem] theorem F554_k4_r : CE F554_k4.eq_1 := CEM F554_k4.eq_1
def F554_k5 : ACode := .blk 3 F554_k4
@[go_sem] theorem F554_k5_r : CE F554_k5.eq_1 := CEM F554_k5.eq_1
def F554_k6 : ACode := .seq F554_k5 (.reg true [⟨0, some 29, none, .bin .add (.t 20) (.c (.int .i64 1)), []⟩,
⟨1, some 20, none, .mov (.t 29), []⟩])
@[go_sem] theorem F554_k6_r : CE F554_k6.eq_1 := CEM F554_k6.eq_1
def F554_k7 : ACode := .seq (.cond (.t 21) (.skip) (.exit 2)) F554_k6
@[go_sem] theorem F554_k7_r : CE F554_k7.eq_1 := CEM F554_k7.eq_1
def F554_k8 : ACode := .seq (.reg true [⟨0, some 21, none, .bin .lss (.t 20) (.t 19), []⟩]) F554_k7
@[go_sem] theorem F554_k8_r : CE F554_k8.eq_1 := CEM F554_k8.eq_1
def F554_k9 : ACode := .loop F554_k8
@[go_sem] theorem F554_k9_r : CE F554_k9.eq_1 := CEM F554_k9.eq_1
def F554_k10 : ACode := .blk 2 F554_k9
@[go_sem] theorem F554_k10_r : CE F554_k10.eq_1 := CEM F554_k10.eq_1
def F554_k11 : ACode := .seq (.reg true F554_r2) F554_k10
@[go_sem] theorem F554_k11_r : CE F554_k11.eq_1 := CEM F554_k11.eq_1
def F554_k12 : ACode := .seq (.reg true F554_r1) F554_k11
@[go_sem] theorem F554_k12_r : CE F554_k12.eq_1 := CEM F554_k12.eq_1
def F554_k13 : ACode := .blk 1 F554_k12
@[go_sem] theorem F554_k13_r : CE F554_k13.eq_1 := CEM F554_k13.eq_1
def F554_k14 : ACode := .seq F554_k13 (.reg true [⟨0, some 30, none, .bin .add (.t 12) (.c (.int .i64 1)), []⟩,
⟨1, some 12, none, .mov (.t 30), []⟩])
@[go_sem] theorem F554_k14_r : CE F554_k14.eq_1 := CEM F554_k14.eq_1
def F554_k15 : ACode := .seq (.cond (.t 13) (.skip) (.exit 0)) F554_k14
@[go_sem] theorem F554_k15_r : CE F554_k15.eq_1 := CEM F554_k15.eq_1
def F554_k16 : ACode := .seq (.reg true [⟨0, some 13, none, .bin .lss (.t 12) (.t 11), []⟩]) F554_k15
@[go_sem] theorem F554_k16_r : CE F554_k16.eq_1 := CEM F554_k16.eq_1
def F554_k17 : ACode := .loop F554_k16
@[go_sem] theorem F554_k17_r : CE F554_k17.eq_1 := CEM F554_k17.eq_1
def F554_k18 : ACode := .blk 0 F554_k17
@[go_sem] theorem F554_k18_r : CE F554_k18.eq_1 := CEM F554_k18.eq_1
def F554_k19 : ACode := .seq (.reg true F554_r0) F554_k18
@[go_sem] theorem F554_k19_r : CE F554_k19.eq_1 := CEM F554_k19.eq_1
def F554_k20 : ACode := .seq F554_k19 (.seq (.reg true [⟨0, some 31, none, .mov (.t 3), []⟩,
⟨1, some 2, none, .mov (.t 31), []⟩]) (.ret))
@[go_sem] theorem F554_k20_r : CE F554_k20.eq_1 := CEM F554_k20.eq_1
def F554_k21 : ACode := .seq (.reg true [⟨0, some 3, none, .mov (.c (.nils)), []⟩]) F554_k20
@[go_sem] theorem F554_k21_r : CE F554_k21.eq_1 := CEM F554_k21.eq_1
def F554 : AFun := ⟨1, 32, [.t 2], .seq (.reg true [⟨0, some 2, none, .mov (.c (.nils)), []⟩]) F554_k21⟩
def F796_r0 : List AOper := [⟨0, some 3, none, .mov (.t 0), []⟩,
⟨1, some 4, none, .bin .geq (.t 3) (.c (.int .i64 0)), []⟩,
⟨2, some 5, none, .mov (.t 4), []⟩,
⟨3, some 6, (some (5, true)), .mov (.t 0), []⟩,
⟨4, some 7, (some (5, true)), .bin .lss (.t 6) (.c (.int .i64 24)), []⟩,
⟨5, some 8, none, .pick (.t 5) (.t 7) (.c (.bool false)), []⟩,
⟨6, some 2, none, .mov (.t 8), []⟩]
@[go_sem] theorem F796_r0_r : OE F796_r0.eq_1 := OEM F796_r0.eq_1
def F796_k1 : ACode := .seq (.reg true F796_r0) (.ret)
@[go_sem] theorem F796_k1_r : CE F796_k1.eq_1 := CEM F796_k1.eq_1
def F796 : AFun := ⟨1, 9, [.t 2], .seq (.reg true [⟨0, some 2, none, .mov (.c (.bool false)), []⟩]) F796_k1⟩
def F1050_r0 : List AOper := [⟨0, some 3, none, .mov (.t 0), []⟩,
⟨1, some 4, none, .bin .geq (.t 3) (.c (.int .i64 1)), []⟩,
⟨2, some 5, none, .mov (.t 4), []⟩,
⟨3, some 6, (some (5, true)), .mov (.t 0), []⟩,
⟨4, some 7, (some (5, true)), .bin .leq (.t 6) (.c (.int .i64 6)), []⟩,
⟨5, some 8, none, .pick (.t 5) (.t 7) (.c (.bool false)), []⟩,
⟨6, some 2, none, .mov (.t 8), []⟩]
@[go_sem] theorem F1050_r0_r : OE F1050_r0.eq_1 := OEM F1050_r0.eq_1
def F1050_k1 : ACode := .seq (.reg true F1050_r0) (.ret)
@[go_sem] theorem F1050_k1_r : CE F1050_k1.eq_1 := CEM F1050_k1.eq_1
def F1050 : AFun := ⟨1, 9, [.t 2], .seq (.reg true [⟨0, some 2, none, .mov (.c (.bool false)), []⟩]) F1050_k1⟩
def F1051_r0 : List AOper := [⟨0, some 3, none, .mov (.t 0), []⟩,
⟨1, some 4, none, .bin .geq (.t 3) (.c (.int .i64 (-2147483648))), []⟩,
⟨2, some 5, none, .mov (.t 4), []⟩,
⟨3, some 6, (some (5, true)), .mov (.t 0), []⟩,
⟨4, some 7, (some (5, true)), .bin .leq (.t 6) (.c (.int .i64 2147483647)), []⟩,
⟨5, some 8, none, .pick (.t 5) (.t 7) (.c (.bool false)), []⟩,
⟨6, some 2, none, .mov (.t 8), []⟩]
@[go_sem] theorem F1051_r0_r : OE F1051_r0.eq_1 := OEM F1051_r0.eq_1
def F1051_k1 : ACode := .seq (.reg true F1051_r0) (.ret)
@[go_sem] theorem F1051_k1_r : CE F1051_k1.eq_1 := CEM F1051_k1.eq_1
def F1051 : AFun := ⟨1, 9, [.t 2], .seq (.reg true [⟨0, some 2, none, .mov (.c (.bool false)), []⟩]) F1051_k1⟩
def F1487_r0 : List AOper := [⟨0, some 3, none, .mov (.t 0), []⟩,
⟨1, some 4, none, .bin .geq (.t 3) (.c (.int .i64 1)), []⟩,
⟨2, some 5, none, .mov (.t 4), []⟩,
⟨3, some 6, (some (5, true)), .mov (.t 0), []⟩,
⟨4, some 7, (some (5, true)), .bin .leq (.t 6) (.c (.int .i64 12)), []⟩,
⟨5, some 8, none, .pick (.t 5) (.t 7) (.c (.bool false)), []⟩,
⟨6, some 2, none, .mov (.t 8), []⟩]
@[go_sem] theorem F1487_r0_r : OE F1487_r0.eq_1 := OEM F1487_r0.eq_1
def F1487_k1 : ACode := .seq (.reg true F1487_r0) (.ret)
@[go_sem] theorem F1487_k1_r : CE F1487_k1.eq_1 := CEM F1487_k1.eq_1
def F1487 : AFun := ⟨1, 9, [.t 2], .seq (.reg true [⟨0, some 2, none, .mov (.c (.bool false)), []⟩]) F1487_k1⟩
def F1387_r0 : List AOper := [⟨0, some 6, none, .mov (.t 0), []⟩,
⟨1, some 7, none, .bin .eql (.t 6) (.c (.int .i64 9)), []⟩,
⟨2, some 8, none, .mov (.t 7), []⟩,
⟨3, some 9, (some (8, true)), .mov (.t 1), []⟩,
⟨4, some 10, (some (8, true)), .bin .geq (.t 9) (.c (.int .i64 0)), []⟩,
⟨5, some 11, none, .pick (.t 8) (.t 10) (.c (.bool false)), []⟩,
⟨6, some 12, none, .mov (.t 11), []⟩,
⟨7, some 13, (some (12, true)), .mov (.t 1), []⟩,
⟨8, some 14, (some (12, true)), .bin .leq (.t 13) (.c (.int .i64 3)), []⟩,
⟨9, some 15, none, .pick (.t 12) (.t 14) (.c (.bool false)), []⟩,
⟨10, some 5, none, .mov (.t 15), []⟩]
@[go_sem] theorem F1387_r0_r : OE F1387_r0.eq_1 := OEM F1387_r0.eq_1
def F1387_r1 : List AOper := [⟨0, some 16, none, .mov (.t 1), []⟩,
⟨1, some 17, none, .bin .add (.t 16) (.c (.int .i64 1)), []⟩,
⟨2, some 4, none, .mov (.t 17), []⟩]
@[go_sem] theorem F1387_r1_r : OE F1387_r1.eq_1 := OEM F1387_r1.eq_1
def F1387_r2 : List AOper := [⟨0, some 19, none, .mov (.t 0), []⟩,
⟨1, some 20, none, .call 1487 [.t 19], []⟩,
⟨2, some 21, none, .not (.t 20), []⟩,
⟨3, some 22, none, .mov (.t 21), []⟩,
⟨4, some 23, (some (22, false)), .mov (.t 0), []⟩,
⟨5, some 24, (some (22, false)), .bin .eql (.t 23) (.c (.int .i64 9)), []⟩,
⟨6, some 25, none, .pick (.t 22) (.c (.bool true)) (.t 24), []⟩,
⟨7, some 26, none, .mov (.t 25), []⟩,
⟨8, some 27, (some (26, false)), .mov (.t 1), []⟩,
⟨9, some 28, (some (26, false)), .bin .neq (.t 27) (.c (.int .i64 0)), []⟩,
⟨10, some 29, none, .pick (.t 26) (.c (.bool true)) (.t 28), []⟩,
⟨11, some 18, none, .mov (.t 29), []⟩]
@[go_sem] theorem F1387_r2_r : OE F1387_r2.eq_1 := OEM F1387_r2.eq_1
def F1387_k3 : ACode := .seq (.reg true F1387_r2) (.cond (.t 18) (.seq (.reg true [⟨0, some 4, none, .mov (.c (.int .i64 0)), []⟩]) (.ret)) (.skip))
@[go_sem] theorem F1387_k3_r : CE F1387_k3.eq_1 := CEM F1387_k3.eq_1
def F1387_k4 : ACode := .cond (.t 5) (.seq (.reg true F1387_r1) (.ret)) F1387_k3
@[go_sem] theorem F1387_k4_r : CE F1387_k4.eq_1 := CEM F1387_k4.eq_1
def F1387_k5 : ACode := .seq (.reg true F1387_r0) F1387_k4
@[go_sem] theorem F1387_k5_r : CE F1387_k5.eq_1 := CEM F1387_k5.eq_1
def F1387_k6 : ACode := .blk 0 F1387_k5
@[go_sem] theorem F1387_k6_r : CE F1387_k6.eq_1 := CEM F1387_k6.eq_1
def F1387_r7 : List AOper := [⟨0, some 30, none, .build (.agg [.int .i64 0, .int .i64 0, .int .i64 0, .int .i64 0, .int .i64 0, .int .i64 0, .int .i64 0, .int .i64 0, .int .i64 0, .int .i64 0, .int .i64 0, .int .i64 0, .int .i64 0]) [(1, 1, .c (.int .i64 1)), (2, 1, .c (.int .i64 3)), (3, 1, .c (.int .i64 3)), (4, 1, .c (.int .i64 3)), (5, 1, .c (.int .i64 1)), (6, 1, .c (.int .i64 1)), (7, 1, .c (.int .i64 3)), (8, 1, .c (.int .i64 2)), (10, 1, .c (.int .i64 2)), (11, 1, .c (.int .i64 2)), (12, 1, .c (.int .i64 1))], []⟩,
⟨1, some 31, none, .mov (.t 0), []⟩,
⟨2, some 32, none, .aidx 13 1 none (.t 30) (.t 31), []⟩,
⟨3, some 4, none, .mov (.t 32), []⟩]
@[go_sem] theorem F1387_r7_r : OE F1387_r7.eq_1 := OEM F1387_r7.eq_1
def F1387_k8 : ACode := .seq (.reg true F1387_r7) (.ret)
@[go_sem] theorem F1387_k8_r : CE F1387_k8.eq_1 := CEM F1387_k8.eq_1
def F1387_k9 : ACode := .seq F1387_k6 F1387_k8
@[go_sem] theorem F1387_k9_r : CE F1387_k9.eq_1 := CEM F1387_k9.eq_1
def F1387 : AFun := ⟨2, 33, [.t 4], .seq (.reg true [⟨0, some 4, none, .mov (.c (.int .i64 0)), []⟩]) F1387_k9⟩
def F1388_r0 : List AOper := [⟨0, some 7, none, .mov (.t 1), []⟩,
⟨1, some 8, none, .bin .sub (.t 7) (.c (.int .i64 1)), []⟩,
⟨2, some 4, none, .mov (.t 8), []⟩]
@[go_sem] theorem F1388_r0_r : OE F1388_r0.eq_1 := OEM F1388_r0.eq_1
def F1388_k1 : ACode := .cond (.t 6) (.seq (.reg true F1388_r0) (.ret)) (.skip)
@[go_sem] theorem F1388_k1_r : CE F1388_k1.eq_1 := CEM F1388_k1.eq_1
def F1388_k2 : ACode := .seq (.reg true [⟨0, some 5, none, .mov (.t 0), []⟩,
⟨1, some 6, none, .bin .eql (.t 5) (.c (.int .i64 9)), []⟩]) F1388_k1
@[go_sem] theorem F1388_k2_r : CE F1388_k2.eq_1 := CEM F1388_k2.eq_1
def F1388_k3 : ACode := .seq F1388_k2 (.seq (.reg true [⟨0, some 4, none, .mov (.c (.int .i64 0)), []⟩]) (.ret))
@[go_sem] theorem F1388_k3_r : CE F1388_k3.eq_1 := CEM F1388_k3.eq_1
def F1388 : AFun := ⟨2, 9, [.t 4], .seq (.reg true [⟨0, some 4, none, .mov (.c (.int .i64 0)), []⟩]) F1388_k3⟩
def F1375_r0 : List AOper := [⟨0, some 3, none, .mov (.t 0), []⟩,
⟨1, some 4, none, .call 1487 [.t 3], []⟩,
⟨2, some 5, none, .mov (.t 4), []⟩,
⟨3, some 6, (some (5, true)), .mov (.t 0), []⟩,
⟨4, some 7, (some (5, true)), .bin .neq (.t 6) (.c (.int .i64 1)), []⟩,
⟨5, some 8, none, .pick (.t 5) (.t 7) (.c (.bool false)), []⟩,
⟨6, some 9, none, .mov (.t 8), []⟩,
⟨7, some 10, (some (9, true)), .mov (.t 0), []⟩,
⟨8, some 11, (some (9, true)), .bin .neq (.t 10) (.c (.int .i64 5)), []⟩,
⟨9, some 12, none, .pick (.t 9) (.t 11) (.c (.bool false)), []⟩,
⟨10, some 13, none, .mov (.t 12), []⟩,
⟨11, some 14, (some (13, true)), .mov (.t 0), []⟩,
⟨12, some 15, (some (13, true)), .bin .neq (.t 14) (.c (.int .i64 6)), []⟩,
⟨13, some 16, none, .pick (.t 13) (.t 15) (.c (.bool false)), []⟩,
⟨14, some 2, none, .mov (.t 16), []⟩]
@[go_sem] theorem F1375_r0_r : OE F1375_r0.eq_1 := OEM F1375_r0.eq_1
def F1375_k1 : ACode := .seq (.reg true F1375_r0) (.ret)
@[go_sem] theorem F1375_k1_r : CE F1375_k1.eq_1 := CEM F1375_k1.eq_1
def F1375 : AFun := ⟨1, 17, [.t 2], .seq (.reg true [⟨0, some 2, none, .mov (.c (.bool false)), []⟩]) F1375_k1⟩
def F1495_r0 : List AOper := [⟨0, some 3, none, .mov (.t 0), []⟩,
⟨1, some 4, none, .bin .geq (.t 3) (.c (.int .i64 0)), []⟩,
⟨2, some 5, none, .mov (.t 4), []⟩,
⟨3, some 6, (some (5, true)), .mov (.t 0), []⟩,
⟨4, some 7, (some (5, true)), .bin .leq (.t 6) (.c (.int .i64 8)), []⟩,
⟨5, some 8, none, .pick (.t 5) (.t 7) (.c (.bool false)), []⟩,
⟨6, some 2, none, .mov (.t 8), []⟩]
@[go_sem] theorem F1495_r0_r : OE F1495_r0.eq_1 := OEM F1495_r0.eq_1
def F1495_k1 : ACode := .seq (.reg true F1495_r0) (.ret)
@[go_sem] theorem F1495_k1_r : CE F1495_k1.eq_1 := CEM F1495_k1.eq_1
def F1495 : AFun := ⟨1, 9, [.t 2], .seq (.reg true [⟨0, some 2, none, .mov (.c (.bool false)), []⟩]) F1495_k1⟩
def F1389_r0 : List AOper := [⟨0, some 5, none, .mov (.t 0), []⟩,
⟨1, some 6, none, .call 1487 [.t 5], []⟩,
⟨2, some 7, none, .mov (.t 6), []⟩,
⟨3, some 8, (some (7, true)), .mov (.t 1), []⟩,
⟨4, some 9, (some (7, true)), .bin .eql (.t 8) (.c (.int .i64 0)), []⟩,
⟨5, some 10, (some (7, true)), .mov (.t 9), []⟩,
⟨6, some 11, (some (10, false)), .mov (.t 0), []⟩,
⟨7, some 12, (some (10, false)), .call 1375 [.t 11], []⟩,
⟨8, some 13, (some (10, false)), .mov (.t 12), []⟩,
⟨9, some 14, (some (13, true)), .mov (.t 1), []⟩,
⟨10, some 15, (some (13, true)), .call 1495 [.t 14], []⟩,
⟨11, some 16, (some (10, false)), .pick (.t 13) (.t 15) (.c (.bool false)), []⟩,
⟨12, some 17, (some (7, true)), .pick (.t 10) (.c (.bool true)) (.t 16), []⟩,
⟨13, some 18, none, .pick (.t 7) (.t 17) (.c (.bool false)), []⟩,
⟨14, some 4, none, .mov (.t 18), []⟩]
@[go_sem] theorem F1389_r0_r : OE F1389_r0.eq_1 := OEM F1389_r0.eq_1
def F1389_k1 : ACode := .seq (.reg true F1389_r0) (.ret)
@[go_sem] theorem F1389_k1_r : CE F1389_k1.eq_1 := CEM F1389_k1.eq_1
def F1389 : AFun := ⟨2, 19, [.t 4], .seq (.reg true [⟨0, some 4, none, .mov (.c (.bool false)), []⟩]) F1389_k1⟩
def F1390_r0 : List AOper := [⟨0, some 3, none, .mov (.t 0), []⟩,
⟨1, some 4, none, .call 796 [.t 3], []⟩,
⟨2, some 5, none, .not (.t 4), []⟩,
⟨3, some 2, none, .mov (.t 5), []⟩]
@[go_sem] theorem F1390_r0_r : OE F1390_r0.eq_1 := OEM F1390_r0.eq_1
def F1390_k1 : ACode := .seq (.reg true F1390_r0) (.ret)
@[go_sem] theorem F1390_k1_r : CE F1390_k1.eq_1 := CEM F1390_k1.eq_1
def F1390 : AFun := ⟨1, 6, [.t 2], .seq (.reg true [⟨0, some 2, none, .mov (.c (.bool false)), []⟩]) F1390_k1⟩
def F1097_r0 : List AOper := [⟨0, some 6, none, .nop 1, []⟩,
⟨1, some 7, none, .lload 1 4 none, []⟩,
⟨2, some 8, none, .len (.t 7), []⟩,
⟨3, some 9, none, .bin .eql (.t 8) (.c (.int .i64 0)), []⟩,
⟨4, some 10, none, .mov (.t 9), []⟩,
⟨5, some 11, (some (10, false)), .nop 1, []⟩,
⟨6, some 12, (some (10, false)), .lload 1 0 none, []⟩,
⟨7, some 13, (some (10, false)), .nop 1, []⟩,
⟨8, some 14, (some (10, false)), .lload 1 0 none, []⟩,
⟨9, some 15, (some (10, false)), .nop 1, []⟩,
⟨10, some 16, (some (10, false)), .lload 1 4 none, []⟩,
⟨11, some 17, (some (10, false)), .len (.t 16), []⟩,
⟨14, some 20, (some (10, false)), .nop 1, []⟩,
⟨15, some 21, (some (10, false)), .lload 1 4 none, []⟩,
⟨16, some 22, (some (10, false)), .len (.t 21), []⟩,
⟨12, some 18, (some (10, false)), .call 1388 [.t 14, .t 17], []⟩,
⟨13, some 19, (some (10, false)), .call 1387 [.t 12, .t 18], []⟩,
⟨17, some 23, (some (10, false)), .bin .neq (.t 19) (.t 22), []⟩,
⟨18, some 24, none, .pick (.t 10) (.c (.bool true)) (.t 23), []⟩,
⟨19, some 25, none, .mov (.t 24), []⟩,
⟨20, some 26, (some (25, false)), .nop 1, []⟩,
⟨21, some 27, (some (25, false)), .lload 1 0 none, []⟩,
⟨22, some 28, (some (25, false)), .nop 1, []⟩,
⟨23, some 29, (some (25, false)), .lload 1 1 none, []⟩,
⟨24, some 30, (some (25, false)), .call 1389 [.t 27, .t 29], []⟩,
⟨25, some 31, (some (25, false)), .not (.t 30), []⟩,
⟨26, some 32, none, .pick (.t 25) (.c (.bool true)) (.t 31), []⟩]
@[go_sem] theorem F1097_r0_r : OE F1097_r0.eq_1 := OEM F1097_r0.eq_1
def F1097_k1 : ACode := .seq (.reg true F1097_r0) (.cond (.t 32) (.seq (.reg true [⟨0, some 2, none, .mov (.c (.bool false)), []⟩]) (.ret)) (.skip))
@[go_sem] theorem F1097_k1_r : CE F1097_k1.eq_1 := CEM F1097_k1.eq_1
def F1097_r2 : List AOper := [⟨0, some 33, none, .nop 1, []⟩,
⟨1, some 34, none, .lload 1 2 none, []⟩,
⟨2, some 35, none, .bin .eql (.t 34) (.c (.int .i64 0)), []⟩,
⟨3, some 36, none, .nop 1, []⟩,
⟨4, some 37, none, .lload 1 3 none, []⟩,
⟨5, some 38, none, .len (.t 37), []⟩,
⟨6, some 39, none, .bin .eql (.t 38) (.c (.int .i64 0)), []⟩,
⟨7, some 3, none, .mov (.t 35), []⟩,
⟨8, some 4, none, .mov (.t 39), []⟩]
@[go_sem] theorem F1097_r2_r : OE F1097_r2.eq_1 := OEM F1097_r2.eq_1
def F1097_r3 : List AOper := [⟨0, some 40, none, .nop 1, []⟩,
⟨1, some 41, none, .lload 1 3 none, []⟩,
⟨2, some 42, none, .call 397 [.t 41, .f 1390], []⟩,
⟨3, some 43, none, .not (.t 42), []⟩,
⟨4, some 5, none, .mov (.t 43), []⟩]
@[go_sem] theorem F1097_r3_r : OE F1097_r3.eq_1 := OEM F1097_r3.eq_1
def F1097_r4 : List AOper := [⟨0, some 48, none, .nop 1, []⟩,
⟨1, some 49, none, .lload 1 2 none, []⟩,
⟨2, some 50, none, .call 1051 [.t 49], []⟩,
⟨3, some 3, none, .mov (.t 50), []⟩]
@[go_sem] theorem F1097_r4_r : OE F1097_r4.eq_1 := OEM F1097_r4.eq_1
def F1097_r5 : List AOper := [⟨0, some 53, none, .nop 1, []⟩,
⟨1, some 54, none, .lload 1 2 none, []⟩,
⟨2, some 55, none, .call 1050 [.t 54], []⟩,
⟨3, some 3, none, .mov (.t 55), []⟩]
@[go_sem] theorem F1097_r5_r : OE F1097_r5.eq_1 := OEM F1097_r5.eq_1
def F1097_r6 : List AOper := [⟨0, some 58, none, .nop 1, []⟩,
⟨1, some 59, none, .lload 1 2 none, []⟩,
⟨2, some 60, none, .call 1050 [.t 59], []⟩,
⟨3, some 61, none, .mov (.t 60), []⟩,
⟨4, some 62, (some (61, true)), .nop 1, []⟩,
⟨5, some 63, (some (61, true)), .lload 1 3 none, []⟩,
⟨6, some 64, (some (61, true)), .len (.t 63), []⟩,
⟨7, some 65, (some (61, true)), .bin .eql (.t 64) (.c (.int .i64 1)), []⟩,
⟨8, some 66, none, .pick (.t 61) (.t 65) (.c (.bool false)), []⟩,
⟨9, some 67, none, .mov (.t 66), []⟩,
⟨10, some 68, (some (67, true)), .nop 1, []⟩,
⟨11, some 69, (some (67, true)), .lload 1 3 none, []⟩,
⟨12, some 70, (some (67, true)), .iaddr 1 (.t 69) (.c (.int .i64 0)), []⟩,
⟨13, some 71, (some (67, true)), .load none (.t 70), []⟩,
⟨14, some 72, (some (67, true)), .call 1051 [.t 71], []⟩,
⟨15, some 73, none, .pick (.t 67) (.t 72) (.c (.bool false)), []⟩,
⟨16, some 2, none, .mov (.t 73), []⟩]
@[go_sem] theorem F1097_r6_r : OE F1097_r6.eq_1 := OEM F1097_r6.eq_1
def F1097_k7 : ACode := .seq (.reg true F1097_r6) (.ret)
@[go_sem] theorem F1097_k7_r : CE F1097_k7.eq_1 := CEM F1097_k7.eq_1
def F1097_r8 : List AOper := [⟨0, some 76, none, .nop 1, []⟩,
⟨1, some 77, none, .lload 1 2 none, []⟩,
⟨2, some 78, none, .bin .geq (.t 77) (.c (.int .i64 0)), []⟩,
⟨3, some 79, none, .mov (.t 78), []⟩,
⟨4, some 80, (some (79, true)), .nop 1, []⟩,
⟨5, some 81, (some (79, true)), .lload 1 2 none, []⟩,
⟨6, some 82, (some (79, true)), .bin .lss (.t 81) (.c (.int .i64 4)), []⟩,
⟨7, some 83, none, .pick (.t 79) (.t 82) (.c (.bool false)), []⟩,
⟨8, some 3, none, .mov (.t 83), []⟩]
@[go_sem] theorem F1097_r8_r : OE F1097_r8.eq_1 := OEM F1097_r8.eq_1
def F1097_r9 : List AOper := [⟨0, some 86, none, .nop 1, []⟩,
⟨1, some 87, none, .lload 1 3 none, []⟩,
⟨2, some 88, none, .len (.t 87), []⟩,
⟨3, some 89, none, .bin .geq (.t 88) (.c (.int .i64 1)), []⟩,
⟨4, some 90, none, .mov (.t 89), []⟩,
⟨5, some 91, (some (90, true)), .nop 1, []⟩,
⟨6, some 92, (some (90, true)), .lload 1 3 none, []⟩,
⟨7, some 93, (some (90, true)), .len (.t 92), []⟩,
⟨8, some 94, (some (90, true)), .bin .leq (.t 93) (.c (.int .i64 4)), []⟩,
⟨9, some 95, none, .pick (.t 90) (.t 94) (.c (.bool false)), []⟩,
⟨10, some 96, none, .mov (.t 95), []⟩,
⟨11, some 97, (some (96, true)), .mov (.t 5), []⟩,
⟨12, some 98, none, .pick (.t 96) (.t 97) (.c (.bool false)), []⟩,
⟨13, some 4, none, .mov (.t 98), []⟩]
@[go_sem] theorem F1097_r9_r : OE F1097_r9.eq_1 := OEM F1097_r9.eq_1
def F1097_r10 : List AOper := [⟨0, some 101, none, .nop 1, []⟩,
⟨1, some 102, none, .lload 1 3 none, []⟩,
⟨2, some 103, none, .len (.t 102), []⟩,
⟨3, some 104, none, .bin .eql (.t 103) (.c (.int .i64 2)), []⟩,
⟨4, some 105, none, .mov (.t 104), []⟩,
⟨5, some 106, (some (105, true)), .mov (.t 5), []⟩,
⟨6, some 107, none, .pick (.t 105) (.t 106) (.c (.bool false)), []⟩,
⟨7, some 4, none, .mov (.t 107), []⟩]
@[go_sem] theorem F1097_r10_r : OE F1097_r10.eq_1 := OEM F1097_r10.eq_1
def F1097_r11 : List AOper := [⟨0, some 110, none, .nop 1, []⟩,
⟨1, some 111, none, .lload 1 2 none, []⟩,
⟨2, some 112, none, .call 796 [.t 111], []⟩,
⟨3, some 3, none, .mov (.t 112), []⟩]
@[go_sem] theorem F1097_r11_r : OE F1097_r11.eq_1 := OEM F1097_r11.eq_1
def F1097_k12 : ACode := .cond (.t 108) (.reg true F1097_r11) (.skip)
@[go_sem] theorem F1097_k12_r : CE F1097_k12.eq_1 := CEM F1097_k12.eq_1
def F1097_k13 : ACode := .seq (.reg true [⟨0, some 109, none, .bin .eql (.t 45) (.c (.int .i64 12)), []⟩,
⟨1, some 108, none, .mov (.t 109), []⟩]) F1097_k12
@[go_sem] theorem F1097_k13_r : CE F1097_k13.eq_1 := CEM F1097_k13.eq_1
def F1097_k14 : ACode := .cond (.t 99) (.reg true F1097_r10) F1097_k13
@[go_sem] theorem F1097_k14_r : CE F1097_k14.eq_1 := CEM F1097_k14.eq_1
def F1097_k15 : ACode := .seq (.reg true [⟨0, some 100, none, .bin .eql (.t 45) (.c (.int .i64 11)), []⟩,
⟨1, some 99, none, .mov (.t 100), []⟩]) F1097_k14
@[go_sem] theorem F1097_k15_r : CE F1097_k15.eq_1 := CEM F1097_k15.eq_1
def F1097_k16 : ACode := .cond (.t 84) (.reg true F1097_r9) F1097_k15
@[go_sem] theorem F1097_k16_r : CE F1097_k16.eq_1 := CEM F1097_k16.eq_1
def F1097_k17 : ACode := .seq (.reg true [⟨0, some 85, none, .bin .eql (.t 45) (.c (.int .i64 10)), []⟩,
⟨1, some 84, none, .mov (.t 85), []⟩]) F1097_k16
@[go_sem] theorem F1097_k17_r : CE F1097_k17.eq_1 := CEM F1097_k17.eq_1
def F1097_k18 : ACode := .cond (.t 74) (.reg true F1097_r8) F1097_k17
@[go_sem] theorem F1097_k18_r : CE F1097_k18.eq_1 := CEM F1097_k18.eq_1
def F1097_k19 : ACode := .seq (.reg true [⟨0, some 75, none, .bin .eql (.t 45) (.c (.int .i64 9)), []⟩,
⟨1, some 74, none, .mov (.t 75), []⟩]) F1097_k18
@[go_sem] theorem F1097_k19_r : CE F1097_k19.eq_1 := CEM F1097_k19.eq_1
def F1097_k20 : ACode := .cond (.t 56) F1097_k7 F1097_k19
@[go_sem] theorem F1097_k20_r : CE F1097_k20.eq_1 := CEM F1097_k20.eq_1
def F1097_k21 : ACode := .seq (.reg true [⟨0, some 57, none, .bin .eql (.t 45) (.c (.int .i64 8)), []⟩,
⟨1, some 56, none, .mov (.t 57), []⟩]) F1097_k20
@[go_sem] theorem F1097_k21_r : CE F1097_k21.eq_1 := CEM F1097_k21.eq_1
def F1097_k22 : ACode := .cond (.t 51) (.reg true F1097_r5) F1097_k21
@[go_sem] theorem F1097_k22_r : CE F1097_k22.eq_1 := CEM F1097_k22.eq_1
def F1097_k23 : ACode := .seq (.reg true [⟨0, some 52, none, .bin .eql (.t 45) (.c (.int .i64 7)), []⟩,
⟨1, some 51, none, .mov (.t 52), []⟩]) F1097_k22
@[go_sem] theorem F1097_k23_r : CE F1097_k23.eq_1 := CEM F1097_k23.eq_1
def F1097_k24 : ACode := .cond (.t 46) (.reg true F1097_r4) F1097_k23
@[go_sem] theorem F1097_k24_r : CE F1097_k24.eq_1 := CEM F1097_k24.eq_1
def F1097_k25 : ACode := .seq (.reg true [⟨0, some 47, none, .bin .eql (.t 45) (.c (.int .i64 6)), []⟩,
⟨1, some 46, none, .mov (.t 47), []⟩]) F1097_k24
@[go_sem] theorem F1097_k25_r : CE F1097_k25.eq_1 := CEM F1097_k25.eq_1
def F1097_k26 : ACode := .blk 0 F1097_k25
@[go_sem] theorem F1097_k26_r : CE F1097_k26.eq_1 := CEM F1097_k26.eq_1
def F1097_k27 : ACode := .seq (.reg true [⟨0, some 44, none, .nop 1, []⟩,
⟨1, some 45, none, .lload 1 0 none, []⟩]) F1097_k26
@[go_sem] theorem F1097_k27_r : CE F1097_k27.eq_1 := CEM F1097_k27.eq_1
def F1097_r28 : List AOper := [⟨0, some 113, none, .mov (.t 3), []⟩,
⟨1, some 114, none, .mov (.t 113), []⟩,
⟨2, some 115, (some (114, true)), .mov (.t 4), []⟩,
⟨3, some 116, none, .pick (.t 114) (.t 115) (.c (.bool false)), []⟩,
⟨4, some 2, none, .mov (.t 116), []⟩]
@[go_sem] theorem F1097_r28_r : OE F1097_r28.eq_1 := OEM F1097_r28.eq_1
def F1097_k29 : ACode := .seq (.reg true F1097_r28) (.ret)
@[go_sem] theorem F1097_k29_r : CE F1097_k29.eq_1 := CEM F1097_k29.eq_1
def F1097_k30 : ACode := .seq F1097_k27 F1097_k29
@[go_sem] theorem F1097_k30_r : CE F1097_k30.eq_1 := CEM F1097_k30.eq_1
def F1097_k31 : ACode := .seq (.reg true F1097_r3) F1097_k30
@[go_sem] theorem F1097_k31_r : CE F1097_k31.eq_1 := CEM F1097_k31.eq_1
def F1097_k32 : ACode := .seq (.reg true F1097_r2) F1097_k31
@[go_sem] theorem F1097_k32_r : CE F1097_k32.eq_1 := CEM F1097_k32.eq_1
def F1097_k33 : ACode := .seq F1097_k1 F1097_k32
@[go_sem] theorem F1097_k33_r : CE F1097_k33.eq_1 := CEM F1097_k33.eq_1
def F1097 : AFun := ⟨1, 117, [.t 2], .seq (.reg true [⟨0, some 1, none, .lbox 5 (.t 0), []⟩,
⟨1, some 2, none, .mov (.c (.bool false)), []⟩]) F1097_k33⟩
def F711_r0 : List AOper := [⟨0, some 5, none, .mov (.t 0), []⟩,
⟨1, some 6, none, .len (.t 5), []⟩,
⟨2, some 7, none, .bin .lss (.t 6) (.c (.int .i64 1)), []⟩,
⟨3, some 8, none, .mov (.t 7), []⟩,
⟨4, some 9, (some (8, false)), .mov (.t 0), []⟩,
⟨5, some 10, (some (8, false)), .len (.t 9), []⟩,
⟨6, some 11, (some (8, false)), .bin .gtr (.t 10) (.c (.int .i64 600)), []⟩,
⟨7, some 12, none, .pick (.t 8) (.c (.bool true)) (.t 11), []⟩]
@[go_sem] theorem F711_r0_r : OE F711_r0.eq_1 := OEM F711_r0.eq_1
def F711_k1 : ACode := .seq (.reg true F711_r0) (.cond (.t 12) (.seq (.reg true [⟨0, some 2, none, .mov (.c (.bool false)), []⟩]) (.ret)) (.skip))
@[go_sem] theorem F711_k1_r : CE F711_k1.eq_1 := CEM F711_k1.eq_1
def F711_r2 : List AOper := [⟨0, some 13, none, .mov (.t 0), []⟩,
⟨1, some 14, none, .len (.t 13), []⟩,
⟨2, some 15, none, .mov (.c (.int .i64 0)), []⟩]
@[go_sem] theorem F711_r2_r : OE F711_r2.eq_1 := OEM F711_r2.eq_1
def F711_r3 : List AOper := [⟨0, some 17, none, .mov (.t 15), []⟩,
⟨1, some 18, none, .iaddr 5 (.t 13) (.t 15), []⟩,
⟨2, some 19, none, .load (some 5) (.t 18), []⟩,
⟨3, some 4, none, .lalloc (.agg [.int .i64 0, .int .i64 0, .int .i64 0, .nils, .nils]), []⟩,
⟨4, some 3, none, .mov (.t 17), []⟩,
⟨5, none, none, .lstore 4 0 5 (.t 19), []⟩]
@[go_sem] theorem F711_r3_r : OE F711_r3.eq_1 := OEM F711_r3.eq_1
def F711_r4 : List AOper := [⟨0, some 20, none, .lload 4 0 (some 5), []⟩,
⟨1, some 21, none, .call 1097 [.t 20], []⟩,
⟨2, some 22, none, .not (.t 21), []⟩,
⟨3, some 23, none, .mov (.t 22), []⟩,
⟨4, some 24, (some (23, false)), .nop 4, []⟩,
⟨5, some 25, (some (23, false)), .lload 4 0 none, []⟩,
⟨6, some 26, (some (23, false)), .bin .eql (.t 25) (.c (.int .i64 1)), []⟩,
⟨7, some 27, (some (23, false)), .mov (.t 3), []⟩,
⟨8, some 28, (some (23, false)), .bin .eql (.t 27) (.c (.int .i64 0)), []⟩,
⟨9, some 29, (some (23, false)), .beq true (.t 26) (.t 28), []⟩,
⟨10, some 30, none, .pick (.t 23) (.c (.bool true)) (.t 29), []⟩]
@[go_sem] theorem F711_r4_r : OE F711_r4.eq_1 := OEM F711_r4.eq_1
def F711_k5 : ACode := .seq (.reg true F711_r4) (.cond (.t 30) (.seq (.reg true [⟨0, some 2, none, .mov (.c (.bool false)), []⟩]) (.ret)) (.skip))
@[go_sem] theorem F711_k5_r : CE F711_k5.eq_1 := CEM F711_k5.eq_1
def F711_k6 : ACode := .seq (.reg true F711_r3) F711_k5
@[go_sem] theorem F711_k6_r : CE F711_k6.eq_1 := CEM F711_k6.eq_1
def F711_k7 : ACode := .blk 1 F711_k6
@[go_sem] theorem F711_k7_r : CE F711_k7.eq_1 := CEM F711_k7.eq_1
def F711_k8 : ACode := .seq F711_k7 (.reg true [⟨0, some 31, none, .bin .add (.t 15) (.c (.int .i64 1)), []⟩,
⟨1, some 15, none, .mov (.t 31), []⟩])
@[go_sem] theorem F711_k8_r : CE F711_k8.eq_1 := CEM F711_k8.eq_1
def F711_k9 : ACode := .seq (.cond (.t 16) (.skip) (.exit 0)) F711_k8
@[go_sem] theorem F711_k9_r : CE F711_k9.eq_1 := CEM F711_k9.eq_1
def F711_k10 : ACode := .seq (.reg true [⟨0, some 16, none, .bin .lss (.t 15) (.t 14), []⟩]) F711_k9
@[go_sem] theorem F711_k10_r : CE F711_k10.eq_1 := CEM F711_k10.eq_1
def F711_k11 : ACode := .loop F711_k10
@[go_sem] theorem F711_k11_r : CE F711_k11.eq_1 := CEM F711_k11.eq_1
def F711_k12 : ACode := .blk 0 F711_k11
@[go_sem] theorem F711_k12_r : CE F711_k12.eq_1 := CEM F711_k12.eq_1
def F711_k13 : ACode := .seq (.reg true F711_r2) F711_k12
@[go_sem] theorem F711_k13_r : CE F711_k13.eq_1 := CEM F711_k13.eq_1
def F711_k14 : ACode := .seq F711_k13 (.seq (.reg true [⟨0, some 2, none, .mov (.c (.bool true)), []⟩]) (.ret))
@[go_sem] theorem F711_k14_r : CE F711_k14.eq_1 := CEM F711_k14.eq_1
def F711_k15 : ACode := .seq F711_k1 F711_k14
@[go_sem] theorem F711_k15_r : CE F711_k15.eq_1 := CEM F711_k15.eq_1
def F711 : AFun := ⟨1, 32, [.t 2], .seq (.reg true [⟨0, some 2, none, .mov (.c (.bool false)), []⟩]) F711_k15⟩
def F1098 : AFun := idxF 2 (some 2)
def F712 : AFun := ctnF 1098
def F555_r0 : List AOper := [⟨0, some 5, none, .mov (.t 0), []⟩,
⟨1, some 6, none, .nilchk (.t 5), []⟩,
⟨2, some 7, none, .faddr 0 (.t 6), []⟩,
⟨3, some 8, none, .load none (.t 7), []⟩,
⟨4, some 9, none, .nop 3, []⟩,
⟨5, some 10, none, .lload 3 0 none, []⟩,
⟨6, some 11, none, .iaddr 5 (.t 8) (.t 10), []⟩,
⟨7, some 12, none, .faddr 4 (.t 11), []⟩,
⟨8, some 13, none, .load none (.t 12), []⟩,
⟨9, some 14, none, .nop 3, []⟩,
⟨10, some 15, none, .lload 3 1 none, []⟩,
⟨11, some 16, none, .iaddr 2 (.t 13) (.t 15), []⟩,
⟨12, some 17, none, .load (some 2) (.t 16), []⟩,
⟨13, none, none, .lstore 4 0 2 (.t 17), []⟩]
@[go_sem] theorem F555_r0_r : OE F555_r0.eq_1 := OEM F555_r0.eq_1
def F555_k1 : ACode := .seq (.reg true F555_r0) (.ret)
@[go_sem] theorem F555_k1_r : CE F555_k1.eq_1 := CEM F555_k1.eq_1
def F555 : AFun := ⟨2, 18, [.l 4 (some 2)], .seq (.reg true [⟨0, some 3, none, .lbox 2 (.t 1), []⟩,
⟨1, some 4, none, .lalloc (.agg [.int .i64 0, .int .i64 0]), []⟩]) F555_k1⟩
def F714_r0 : List AOper := [⟨0, some 5, none, .nop 3, []⟩,
⟨1, some 6, none, .lload 3 0 none, []⟩,
⟨2, some 7, none, .bin .geq (.t 6) (.c (.int .i64 0)), []⟩,
⟨3, some 8, none, .mov (.t 7), []⟩,
⟨4, some 9, (some (8, true)), .nop 3, []⟩,
⟨5, some 10, (some (8, true)), .lload 3 0 none, []⟩,
⟨6, some 11, (some (8, true)), .mov (.t 0), []⟩,
⟨7, some 12, (some (8, true)), .len (.t 11), []⟩,
⟨8, some 13, (some (8, true)), .bin .lss (.t 10) (.t 12), []⟩,
⟨9, some 14, none, .pick (.t 8) (.t 13) (.c (.bool false)), []⟩,
⟨10, some 15, none, .mov (.t 14), []⟩,
⟨11, some 16, (some (15, true)), .nop 3, []⟩,
⟨12, some 17, (some (15, true)), .lload 3 1 none, []⟩,
⟨13, some 18, (some (15, true)), .bin .geq (.t 17) (.c (.int .i64 0)), []⟩,
⟨14, some 19, none, .pick (.t 15) (.t 18) (.c (.bool false)), []⟩,
⟨15, some 20, none, .mov (.t 19), []⟩,
⟨16, some 21, (some (20, true)), .nop 3, []⟩,
⟨17, some 22, (some (20, true)), .lload 3 1 none, []⟩,
⟨18, some 23, (some (20, true)), .mov (.t 0), []⟩,
⟨19, some 24, (some (20, true)), .nop 3, []⟩,
⟨20, some 25, (some (20, true)), .lload 3 0 none, []⟩,
⟨21, some 26, (some (20, true)), .iaddr 5 (.t 23) (.t 25), []⟩,
⟨22, some 27, (some (20, true)), .faddr 4 (.t 26), []⟩,
⟨23, some 28, (some (20, true)), .load none (.t 27), []⟩,
⟨24, some 29, (some (20, true)), .len (.t 28), []⟩,
⟨25, some 30, (some (20, true)), .bin .lss (.t 22) (.t 29), []⟩,
⟨26, some 31, none, .pick (.t 20) (.t 30) (.c (.bool false)), []⟩,
⟨27, some 4, none, .mov (.t 31), []⟩]
@[go_sem] theorem F714_r0_r : OE F714_r0.eq_1 := OEM F714_r0.eq_1
def F714_k1 : ACode := .seq (.reg true F714_r0) (.ret)
@[go_sem] theorem F714_k1_r : CE F714_k1.eq_1 := CEM F714_k1.eq_1
def F714 : AFun := ⟨2, 32, [.t 4], .seq (.reg true [⟨0, some 3, none, .lbox 2 (.t 1), []⟩,
⟨1, some 4, none, .mov (.c (.bool false)), []⟩]) F714_k1⟩
def F713_r0 : List AOper := [⟨0, some 5, none, .lload 2 0 (some 2), []⟩,
⟨1, some 6, none, .call 555 [.t 1, .t 5], []⟩,
⟨2, some 4, none, .lalloc (.agg [.int .i64 0, .int .i64 0]), []⟩,
⟨3, none, none, .lstore 4 0 2 (.t 6), []⟩]
@[go_sem] theorem F713_r0_r : OE F713_r0.eq_1 := OEM F713_r0.eq_1
def F713_r1 : List AOper := [⟨0, some 7, none, .lload 4 0 (some 2), []⟩,
⟨1, some 8, none, .lload 2 0 (some 2), []⟩,
⟨2, some 9, none, .seq false [1, 1] (.t 7) (.t 8), []⟩,
⟨3, some 10, none, .mov (.t 9), []⟩,
⟨4, some 11, (some (10, false)), .faddr 0 (.t 1), []⟩,
⟨5, some 12, (some (10, false)), .load none (.t 11), []⟩,
⟨6, some 13, (some (10, false)), .lload 4 0 (some 2), []⟩,
⟨7, some 14, (some (10, false)), .call 714 [.t 12, .t 13], []⟩,
⟨8, some 15, (some (10, false)), .not (.t 14), []⟩,
⟨9, some 16, none, .pick (.t 10) (.c (.bool true)) (.t 15), []⟩,
⟨10, some 17, none, .mov (.t 16), []⟩,
⟨11, some 18, (some (17, false)), .lload 4 0 (some 2), []⟩,
⟨13, some 20, (some (17, false)), .lload 2 0 (some 2), []⟩,
⟨12, some 19, (some (17, false)), .call 555 [.t 1, .t 18], []⟩,
⟨14, some 21, (some (17, false)), .seq true [1, 1] (.t 19) (.t 20), []⟩,
⟨15, some 22, none, .pick (.t 17) (.c (.bool true)) (.t 21), []⟩,
⟨16, some 3, none, .mov (.t 22), []⟩]
@[go_sem] theorem F713_r1_r : OE F713_r1.eq_1 := OEM F713_r1.eq_1
def F713_k2 : ACode := .seq (.reg true F713_r1) (.ret)
@[go_sem] theorem F713_k2_r : CE F713_k2.eq_1 := CEM F713_k2.eq_1
def F713_k3 : ACode := .seq (.reg true F713_r0) F713_k2
@[go_sem] theorem F713_k3_r : CE F713_k3.eq_1 := CEM F713_k3.eq_1
def F713 : AFun := ⟨2, 23, [.t 3], .seq (.reg true [⟨0, some 2, none, .lbox 2 (.t 0), []⟩,
⟨1, some 3, none, .mov (.c (.bool false)), []⟩]) F713_k3⟩
def F319_r0 : List AOper := [⟨0, some 3, none, .faddr 0 (.t 1), []⟩,
⟨1, some 4, none, .load none (.t 3), []⟩,
⟨2, some 5, none, .call 711 [.t 4], []⟩,
⟨3, some 6, none, .not (.t 5), []⟩]
@[go_sem] theorem F319_r0_r : OE F319_r0.eq_1 := OEM F319_r0.eq_1
def F319_k1 : ACode := .seq (.reg true F319_r0) (.cond (.t 6) (.seq (.reg true [⟨0, some 2, none, .mov (.c (.bool false)), []⟩]) (.ret)) (.skip))
@[go_sem] theorem F319_k1_r : CE F319_k1.eq_1 := CEM F319_k1.eq_1
def F319_r2 : List AOper := [⟨0, some 7, none, .call 554 [.t 1], []⟩,
⟨1, some 8, none, .mkfn 713 [.t 1], []⟩,
⟨2, some 9, none, .call 712 [.t 7, .t 8], []⟩,
⟨3, some 10, none, .not (.t 9), []⟩,
⟨4, some 2, none, .mov (.t 10), []⟩]
@[go_sem] theorem F319_r2_r : OE F319_r2.eq_1 := OEM F319_r2.eq_1
def F319_k3 : ACode := .seq (.reg true F319_r2) (.ret)
@[go_sem] theorem F319_k3_r : CE F319_k3.eq_1 := CEM F319_k3.eq_1
def F319_k4 : ACode := .seq F319_k1 F319_k3
@[go_sem] theorem F319_k4_r : CE F319_k4.eq_1 := CEM F319_k4.eq_1
def F319 : AFun := ⟨1, 11, [.t 2], .seq (.reg true [⟨0, some 1, none, .hbox 1 (.t 0), []⟩,
⟨1, some 2, none, .mov (.c (.bool false)), []⟩]) F319_k4⟩
def F860_r0 : List AOper := [⟨0, some 3, none, .lload 1 0 (some 1), []⟩,
⟨1, some 4, none, .call 319 [.t 3], []⟩,
⟨2, some 5, none, .not (.t 4), []⟩,
⟨3, some 2, none, .mov (.t 5), []⟩]
@[go_sem] theorem F860_r0_r : OE F860_r0.eq_1 := OEM F860_r0.eq_1
def F860_k1 : ACode := .seq (.reg true F860_r0) (.ret)
@[go_sem] theorem F860_k1_r : CE F860_k1.eq_1 := CEM F860_k1.eq_1
def F860 : AFun := ⟨1, 6, [.t 2], .seq (.reg true [⟨0, some 1, none, .lbox 1 (.t 0), []⟩,
⟨1, some 2, none, .mov (.c (.bool false)), []⟩]) F860_k1⟩
def F505_r0 : List AOper := [⟨0, some 3, none, .mov (.t 0), []⟩,
⟨1, some 4, none, .len (.t 3), []⟩,
⟨2, some 5, none, .bin .leq (.t 4) (.c (.int .i64 24)), []⟩,
⟨3, some 6, none, .mov (.t 5), []⟩,
⟨4, some 7, (some (6, true)), .mov (.t 0), []⟩,
⟨5, some 8, (some (6, true)), .call 859 [.t 7, .f 860], []⟩,
⟨6, some 9, (some (6, true)), .not (.t 8), []⟩,
⟨7, some 10, none, .pick (.t 6) (.t 9) (.c (.bool false)), []⟩,
⟨8, some 2, none, .mov (.t 10), []⟩]
@[go_sem] theorem F505_r0_r : OE F505_r0.eq_1 := OEM F505_r0.eq_1
def F505_k1 : ACode := .seq (.reg true F505_r0) (.ret)
@[go_sem] theorem F505_k1_r : CE F505_k1.eq_1 := CEM F505_k1.eq_1
def F505 : AFun := ⟨1, 11, [.t 2], .seq (.reg true [⟨0, some 2, none, .mov (.c (.bool false)), []⟩]) F505_k1⟩
def F1397 : AFun := idxF 3 (some 3)
def F1112 : AFun := ctnF 1397
def F1114_r0 : List AOper := [⟨0, some 5, none, .mov (.t 1), []⟩,
⟨1, some 6, none, .nop 2, []⟩,
⟨2, some 7, none, .lload 2 0 none, []⟩,
⟨3, some 8, none, .bslice 1 (.int .i64 0) 1 [(0, .t 7)], []⟩,
⟨4, some 9, none, .call 436 [.t 5, .t 8], []⟩,
⟨5, some 10, none, .mov (.t 9), []⟩,
⟨6, some 11, (some (10, true)), .nop 2, []⟩,
⟨7, some 12, (some (10, true)), .lload 2 1 none, []⟩,
⟨8, some 13, (some (10, true)), .bin .geq (.t 12) (.c (.int .i64 (-1))), []⟩,
⟨9, some 14, none, .pick (.t 10) (.t 13) (.c (.bool false)), []⟩,
⟨10, some 15, none, .mov (.t 14), []⟩,
⟨11, some 16, (some (15, true)), .nop 2, []⟩,
⟨12, some 17, (some (15, true)), .lload 2 1 none, []⟩,
⟨13, some 18, (some (15, true)), .bin .lss (.t 17) (.c (.int .i64 24)), []⟩,
⟨14, some 19, none, .pick (.t 15) (.t 18) (.c (.bool false)), []⟩,
⟨15, some 20, none, .mov (.t 19), []⟩,
⟨16, some 21, (some (20, true)), .nop 2, []⟩,
⟨17, some 22, (some (20, true)), .lload 2 2 none, []⟩,
⟨18, some 23, (some (20, true)), .bin .geq (.t 22) (.c (.int .i64 (-1))), []⟩,
⟨19, some 24, none, .pick (.t 20) (.t 23) (.c (.bool false)), []⟩,
⟨20, some 25, none, .mov (.t 24), []⟩,
⟨21, some 26, (some (25, true)), .nop 2, []⟩,
⟨22, some 27, (some (25, true)), .lload 2 2 none, []⟩,
⟨23, some 28, (some (25, true)), .bin .lss (.t 27) (.c (.int .i64 600)), []⟩,
⟨24, some 29, none, .pick (.t 25) (.t 28) (.c (.bool false)), []⟩,
⟨25, some 30, none, .mov (.t 29), []⟩,
⟨26, some 31, (some (30, true)), .nop 2, []⟩,
⟨27, some 32, (some (30, true)), .lload 2 2 none, []⟩,
⟨28, some 33, (some (30, true)), .bin .neq (.t 32) (.c (.int .i64 (-1))), []⟩,
⟨29, some 34, (some (30, true)), .mov (.t 33), []⟩,
⟨30, some 35, (some (34, false)), .nop 2, []⟩,
⟨31, some 36, (some (34, false)), .lload 2 1 none, []⟩,
⟨32, some 37, (some (34, false)), .bin .eql (.t 36) (.c (.int .i64 (-1))), []⟩,
⟨33, some 38, (some (30, true)), .pick (.t 34) (.c (.bool true)) (.t 37), []⟩,
⟨34, some 39, none, .pick (.t 30) (.t 38) (.c (.bool false)), []⟩,
⟨35, some 4, none, .mov (.t 39), []⟩]
@[go_sem] theorem F1114_r0_r : OE F1114_r0.eq_1 := OEM F1114_r0.eq_1
def F1114_k1 : ACode := .seq (.reg true F1114_r0) (.ret)
@[go_sem] theorem F1114_k1_r : CE F1114_k1.eq_1 := CEM F1114_k1.eq_1
def F1114 : AFun := ⟨2, 40, [.t 4], .seq (.reg true [⟨0, some 2, none, .lbox 3 (.t 0), []⟩,
⟨1, some 4, none, .mov (.c (.bool false)), []⟩]) F1114_k1⟩
def F1113_r0 : List AOper := [⟨0, some 4, none, .lload 2 0 (some 3), []⟩,
⟨1, some 5, none, .load none (.t 1), []⟩,
⟨2, some 6, none, .call 1114 [.t 4, .t 5], []⟩,
⟨3, some 7, none, .not (.t 6), []⟩,
⟨4, some 3, none, .mov (.t 7), []⟩]
@[go_sem] theorem F1113_r0_r : OE F1113_r0.eq_1 := OEM F1113_r0.eq_1
def F1113_k1 : ACode := .seq (.reg true F1113_r0) (.ret)
@[go_sem] theorem F1113_k1_r : CE F1113_k1.eq_1 := CEM F1113_k1.eq_1
def F1113 : AFun := ⟨2, 8, [.t 3], .seq (.reg true [⟨0, some 2, none, .lbox 3 (.t 0), []⟩,
⟨1, some 3, none, .mov (.c (.bool false)), []⟩]) F1113_k1⟩
def F747_r0 : List AOper := [⟨0, some 3, none, .lbox 1 (.t 0), []⟩,
⟨1, some 5, none, .hbox 1 (.t 2), []⟩,
⟨2, some 6, none, .mov (.c (.bool false)), []⟩]
@[go_sem] theorem F747_r0_r : OE F747_r0.eq_1 := OEM F747_r0.eq_1
def F747_r1 : List AOper := [⟨0, some 7, none, .lload 3 0 (some 1), []⟩,
⟨1, some 8, none, .call 319 [.t 7], []⟩,
⟨2, some 9, none, .mov (.t 8), []⟩,
⟨3, some 10, (some (9, true)), .mov (.t 1), []⟩,
⟨4, some 11, (some (9, true)), .len (.t 10), []⟩,
⟨5, some 12, (some (9, true)), .nop 3, []⟩,
⟨6, some 13, (some (9, true)), .lload 3 0 none, []⟩,
⟨7, some 14, (some (9, true)), .len (.t 13), []⟩,
⟨8, some 15, (some (9, true)), .bin .eql (.t 11) (.t 14), []⟩,
⟨9, some 16, none, .pick (.t 9) (.t 15) (.c (.bool false)), []⟩,
⟨10, some 17, none, .mov (.t 16), []⟩,
⟨11, some 18, (some (17, true)), .mov (.t 1), []⟩,
⟨12, some 19, (some (17, true)), .mkfn 1113 [.t 5], []⟩,
⟨13, some 20, (some (17, true)), .call 1112 [.t 18, .t 19], []⟩,
⟨14, some 21, (some (17, true)), .not (.t 20), []⟩,
⟨15, some 22, none, .pick (.t 17) (.t 21) (.c (.bool false)), []⟩,
⟨16, some 6, none, .mov (.t 22), []⟩]
@[go_sem] theorem F747_r1_r : OE F747_r1.eq_1 := OEM F747_r1.eq_1
def F747_k2 : ACode := .seq (.reg true F747_r1) (.ret)
@[go_sem] theorem F747_k2_r : CE F747_k2.eq_1 := CEM F747_k2.eq_1
def F747 : AFun := ⟨3, 23, [.t 6], .seq (.reg true F747_r0) F747_k2⟩
def F771 : AFun := idxF 2 (some 2)
def F748 : AFun := ctnF 771
def F428_r0 : List AOper := [⟨0, some 7, none, .nop 1, []⟩,
⟨1, some 8, none, .lload 1 1 none, []⟩,
⟨2, some 9, none, .bin .geq (.t 8) (.c (.int .i64 1)), []⟩,
⟨3, some 10, none, .mov (.t 9), []⟩,
⟨4, some 11, (some (10, true)), .nop 1, []⟩,
⟨5, some 12, (some (10, true)), .lload 1 1 none, []⟩,
⟨6, some 13, (some (10, true)), .bin .leq (.t 12) (.c (.int .i64 8)), []⟩,
⟨7, some 14, none, .pick (.t 10) (.t 13) (.c (.bool false)), []⟩,
⟨8, some 2, none, .mov (.t 14), []⟩]
@[go_sem] theorem F428_r0_r : OE F428_r0.eq_1 := OEM F428_r0.eq_1
def F428_k1 : ACode := .seq (.reg true F428_r0) (.ret)
@[go_sem] theorem F428_k1_r : CE F428_k1.eq_1 := CEM F428_k1.eq_1
def F428_r2 : List AOper := [⟨0, some 17, none, .nop 1, []⟩,
⟨1, some 18, none, .lload 1 1 none, []⟩,
⟨2, some 19, none, .call 796 [.t 18], []⟩,
⟨3, some 2, none, .mov (.t 19), []⟩]
@[go_sem] theorem F428_r2_r : OE F428_r2.eq_1 := OEM F428_r2.eq_1
def F428_k3 : ACode := .seq (.reg true F428_r2) (.ret)
@[go_sem] theorem F428_k3_r : CE F428_k3.eq_1 := CEM F428_k3.eq_1
def F428_r4 : List AOper := [⟨0, some 22, none, .nop 1, []⟩,
⟨1, some 23, none, .lload 1 1 none, []⟩,
⟨2, some 24, none, .bin .geq (.t 23) (.c (.int .i64 1)), []⟩,
⟨3, some 25, none, .mov (.t 24), []⟩,
⟨4, some 26, (some (25, true)), .nop 1, []⟩,
⟨5, some 27, (some (25, true)), .lload 1 1 none, []⟩,
⟨6, some 28, (some (25, true)), .bin .leq (.t 27) (.c (.int .i64 600)), []⟩,
⟨7, some 29, none, .pick (.t 25) (.t 28) (.c (.bool false)), []⟩,
⟨8, some 2, none, .mov (.t 29), []⟩]
@[go_sem] theorem F428_r4_r : OE F428_r4.eq_1 := OEM F428_r4.eq_1
def F428_k5 : ACode := .seq (.reg true F428_r4) (.ret)
@[go_sem] theorem F428_k5_r : CE F428_k5.eq_1 := CEM F428_k5.eq_1
def F428_k6 : ACode := .cond (.t 20) F428_k5 (.skip)
@[go_sem] theorem F428_k6_r : CE F428_k6.eq_1 := CEM F428_k6.eq_1
def F428_k7 : ACode := .seq (.reg true [⟨0, some 21, none, .bin .eql (.t 4) (.c (.int .i64 3)), []⟩,
⟨1, some 20, none, .mov (.t 21), []⟩]) F428_k6
@[go_sem] theorem F428_k7_r : CE F428_k7.eq_1 := CEM F428_k7.eq_1
def F428_k8 : ACode := .cond (.t 15) F428_k3 F428_k7
@[go_sem] theorem F428_k8_r : CE F428_k8.eq_1 := CEM F428_k8.eq_1
def F428_k9 : ACode := .seq (.reg true [⟨0, some 16, none, .bin .eql (.t 4) (.c (.int .i64 2)), []⟩,
⟨1, some 15, none, .mov (.t 16), []⟩]) F428_k8
@[go_sem] theorem F428_k9_r : CE F428_k9.eq_1 := CEM F428_k9.eq_1
def F428_k10 : ACode := .cond (.t 5) F428_k1 F428_k9
@[go_sem] theorem F428_k10_r : CE F428_k10.eq_1 := CEM F428_k10.eq_1
def F428_k11 : ACode := .seq (.reg true [⟨0, some 6, none, .bin .eql (.t 4) (.c (.int .i64 1)), []⟩,
⟨1, some 5, none, .mov (.t 6), []⟩]) F428_k10
@[go_sem] theorem F428_k11_r : CE F428_k11.eq_1 := CEM F428_k11.eq_1
def F428_k12 : ACode := .blk 0 F428_k11
@[go_sem] theorem F428_k12_r : CE F428_k12.eq_1 := CEM F428_k12.eq_1
def F428_k13 : ACode := .seq (.reg true [⟨0, some 3, none, .nop 1, []⟩,
⟨1, some 4, none, .lload 1 0 none, []⟩]) F428_k12
@[go_sem] theorem F428_k13_r : CE F428_k13.eq_1 := CEM F428_k13.eq_1
def F428_k14 : ACode := .seq F428_k13 (.seq (.reg true [⟨0, some 2, none, .mov (.c (.bool false)), []⟩]) (.ret))
@[go_sem] theorem F428_k14_r : CE F428_k14.eq_1 := CEM F428_k14.eq_1
def F428 : AFun := ⟨1, 30, [.t 2], .seq (.reg true [⟨0, some 1, none, .lbox 2 (.t 0), []⟩,
⟨1, some 2, none, .mov (.c (.bool false)), []⟩]) F428_k14⟩
def F749_r0 : List AOper := [⟨0, some 3, none, .lload 1 0 (some 2), []⟩,
⟨1, some 4, none, .call 428 [.t 3], []⟩,
⟨2, some 5, none, .not (.t 4), []⟩,
⟨3, some 2, none, .mov (.t 5), []⟩]
@[go_sem] theorem F749_r0_r : OE F749_r0.eq_1 := OEM F749_r0.eq_1
def F749_k1 : ACode := .seq (.reg true F749_r0) (.ret)
@[go_sem] theorem F749_k1_r : CE F749_k1.eq_1 := CEM F749_k1.eq_1
def F749 : AFun := ⟨1, 6, [.t 2], .seq (.reg true [⟨0, some 1, none, .lbox 2 (.t 0), []⟩,
⟨1, some 2, none, .mov (.c (.bool false)), []⟩]) F749_k1⟩
def F373_r0 : List AOper := [⟨0, some 6, none, .nop 1, []⟩,
⟨1, some 7, none, .lload 1 0 none, []⟩,
⟨2, some 8, none, .call 505 [.t 7], []⟩,
⟨3, some 9, none, .not (.t 8), []⟩,
⟨4, some 10, none, .mov (.t 9), []⟩,
⟨5, some 11, (some (10, false)), .nop 1, []⟩,
⟨6, some 12, (some (10, false)), .lload 1 1 none, []⟩,
⟨7, some 13, (some (10, false)), .call 406 [.t 12], []⟩,
⟨8, some 14, (some (10, false)), .not (.t 13), []⟩,
⟨9, some 15, none, .pick (.t 10) (.c (.bool true)) (.t 14), []⟩,
⟨10, some 16, none, .mov (.t 15), []⟩,
⟨11, some 17, (some (16, false)), .nop 1, []⟩,
⟨12, some 18, (some (16, false)), .lload 1 2 none, []⟩,
⟨13, some 19, (some (16, false)), .bin .lss (.t 18) (.c (.int .i64 1)), []⟩,
⟨14, some 20, none, .pick (.t 16) (.c (.bool true)) (.t 19), []⟩,
⟨15, some 21, none, .mov (.t 20), []⟩,
⟨16, some 22, (some (21, false)), .nop 1, []⟩,
⟨17, some 23, (some (21, false)), .lload 1 2 none, []⟩,
⟨18, some 24, (some (21, false)), .bin .gtr (.t 23) (.c (.int .i64 50)), []⟩,
⟨19, some 25, none, .pick (.t 21) (.c (.bool true)) (.t 24), []⟩,
⟨20, some 26, none, .mov (.t 25), []⟩,
⟨21, some 27, (some (26, false)), .nop 1, []⟩,
⟨22, some 28, (some (26, false)), .lload 1 3 none, []⟩,
⟨23, some 29, (some (26, false)), .bslice 1 (.int .i64 0) 1 [(0, .t 28)], []⟩,
⟨24, some 30, (some (26, false)), .call 436 [.c (.int .i64 4000), .t 29], []⟩,
⟨25, some 31, (some (26, false)), .not (.t 30), []⟩,
⟨26, some 32, none, .pick (.t 26) (.c (.bool true)) (.t 31), []⟩,
⟨27, some 33, none, .mov (.t 32), []⟩,
⟨28, some 34, (some (33, false)), .nop 1, []⟩,
⟨29, some 35, (some (33, false)), .lload 1 4 (some 1), []⟩,
⟨30, some 36, (some (33, false)), .nop 1, []⟩,
⟨31, some 37, (some (33, false)), .lload 1 5 none, []⟩,
⟨32, some 38, (some (33, false)), .nop 1, []⟩,
⟨33, some 39, (some (33, false)), .lload 1 3 none, []⟩,
⟨34, some 40, (some (33, false)), .call 747 [.t 35, .t 37, .t 39], []⟩,
⟨35, some 41, (some (33, false)), .not (.t 40), []⟩,
⟨36, some 42, none, .pick (.t 33) (.c (.bool true)) (.t 41), []⟩]
@[go_sem] theorem F373_r0_r : OE F373_r0.eq_1 := OEM F373_r0.eq_1
def F373_k1 : ACode := .seq (.reg true F373_r0) (.cond (.t 42) (.seq (.reg true [⟨0, some 2, none, .mov (.c (.bool false)), []⟩]) (.ret)) (.skip))
@[go_sem] theorem F373_k1_r : CE F373_k1.eq_1 := CEM F373_k1.eq_1
def F373_r2 : List AOper := [⟨0, some 43, none, .nop 1, []⟩,
⟨1, some 44, none, .lload 1 6 none, []⟩,
⟨2, some 45, none, .len (.t 44), []⟩,
⟨3, some 46, none, .bin .gtr (.t 45) (.c (.int .i64 8)), []⟩,
⟨4, some 47, none, .mov (.t 46), []⟩,
⟨5, some 48, (some (47, false)), .nop 1, []⟩,
⟨6, some 49, (some (47, false)), .lload 1 6 none, []⟩,
⟨7, some 50, (some (47, false)), .call 748 [.t 49, .f 749], []⟩,
⟨8, some 51, none, .pick (.t 47) (.c (.bool true)) (.t 50), []⟩]
@[go_sem] theorem F373_r2_r : OE F373_r2.eq_1 := OEM F373_r2.eq_1
def F373_k3 : ACode := .seq (.reg true F373_r2) (.cond (.t 51) (.seq (.reg true [⟨0, some 2, none, .mov (.c (.bool false)), []⟩]) (.ret)) (.skip))
@[go_sem] theorem F373_k3_r : CE F373_k3.eq_1 := CEM F373_k3.eq_1
def F373_r4 : List AOper := [⟨0, some 52, none, .nop 1, []⟩,
⟨1, some 53, none, .lload 1 7 none, []⟩,
⟨2, some 54, none, .len (.t 53), []⟩,
⟨3, some 3, none, .mov (.t 54), []⟩]
@[go_sem] theorem F373_r4_r : OE F373_r4.eq_1 := OEM F373_r4.eq_1
def F373_r5 : List AOper := [⟨0, some 55, none, .mov (.t 3), []⟩,
⟨1, some 56, none, .nop 1, []⟩,
⟨2, some 57, none, .lload 1 3 none, []⟩,
⟨3, some 58, none, .nop 1, []⟩,
⟨4, some 59, none, .lload 1 2 none, []⟩,
⟨5, some 60, none, .bin .quo (.t 57) (.t 59), []⟩,
⟨6, some 61, none, .bin .add (.t 60) (.c (.int .i64 1)), []⟩,
⟨7, some 62, none, .bin .lss (.t 55) (.t 61), []⟩,
⟨8, some 63, none, .mov (.t 62), []⟩,
⟨9, some 64, (some (63, false)), .mov (.t 3), []⟩,
⟨10, some 65, (some (63, false)), .nop 1, []⟩,
⟨11, some 66, (some (63, false)), .lload 1 2 none, []⟩,
⟨12, some 67, (some (63, false)), .bin .quo (.c (.int .i64 4000)) (.t 66), []⟩,
⟨13, some 68, (some (63, false)), .bin .add (.t 67) (.c (.int .i64 1)), []⟩,
⟨14, some 69, (some (63, false)), .bin .gtr (.t 64) (.t 68), []⟩,
⟨15, some 70, none, .pick (.t 63) (.c (.bool true)) (.t 69), []⟩]
@[go_sem] theorem F373_r5_r : OE F373_r5.eq_1 := OEM F373_r5.eq_1
def F373_k6 : ACode := .seq (.reg true F373_r5) (.cond (.t 70) (.seq (.reg true [⟨0, some 2, none, .mov (.c (.bool false)), []⟩]) (.ret)) (.skip))
@[go_sem] theorem F373_k6_r : CE F373_k6.eq_1 := CEM F373_k6.eq_1
def F373_r7 : List AOper := [⟨0, some 71, none, .nop 1, []⟩,
⟨1, some 72, none, .lload 1 7 none, []⟩,
⟨2, some 73, none, .len (.t 72), []⟩,
⟨3, some 74, none, .mov (.c (.int .i64 0)), []⟩]
@[go_sem] theorem F373_r7_r : OE F373_r7.eq_1 := OEM F373_r7.eq_1
def F373_r8 : List AOper := [⟨0, some 76, none, .mov (.t 74), []⟩,
⟨1, some 77, none, .iaddr 3 (.t 72) (.t 74), []⟩,
⟨2, some 78, none, .load (some 3) (.t 77), []⟩,
⟨3, some 5, none, .lalloc (.agg [.int .i64 0, .nils, .nils]), []⟩,
⟨4, some 4, none, .mov (.t 76), []⟩,
⟨5, none, none, .lstore 5 0 3 (.t 78), []⟩]
@[go_sem] theorem F373_r8_r : OE F373_r8.eq_1 := OEM F373_r8.eq_1
def F373_r9 : List AOper := [⟨0, some 79, none, .nop 5, []⟩,
⟨1, some 80, none, .lload 5 0 none, []⟩,
⟨2, some 81, none, .mov (.t 4), []⟩,
⟨3, some 82, none, .nop 1, []⟩,
⟨4, some 83, none, .lload 1 2 none, []⟩,
⟨5, some 84, none, .bin .mul (.t 81) (.t 83), []⟩,
⟨6, some 85, none, .bin .neq (.t 80) (.t 84), []⟩,
⟨7, some 86, none, .mov (.t 85), []⟩,
⟨8, some 87, (some (86, false)), .nop 5, []⟩,
⟨9, some 88, (some (86, false)), .lload 5 1 (some 1), []⟩,
⟨10, some 89, (some (86, false)), .nop 5, []⟩,
⟨11, some 90, (some (86, false)), .lload 5 2 none, []⟩,
⟨12, some 91, (some (86, false)), .nop 5, []⟩,
⟨13, some 92, (some (86, false)), .lload 5 0 none, []⟩,
⟨14, some 93, (some (86, false)), .call 747 [.t 88, .t 90, .t 92], []⟩,
⟨15, some 94, (some (86, false)), .not (.t 93), []⟩,
⟨16, some 95, none, .pick (.t 86) (.c (.bool true)) (.t 94), []⟩]
@[go_sem] theorem F373_r9_r : OE F373_r9.eq_1 := OEM F373_r9.eq_1
def F373_k10 : ACode := .seq (.reg true F373_r9) (.cond (.t 95) (.seq (.reg true [⟨0, some 2, none, .mov (.c (.bool false)), []⟩]) (.ret)) (.skip))
@[go_sem] theorem F373_k10_r : CE F373_k10.eq_1 := CEM F373_k10.eq_1
def F373_k11 : ACode := .seq (.reg true F373_r8) F373_k10
@[go_sem] theorem F373_k11_r : CE F373_k11.eq_1 := CEM F373_k11.eq_1
def F373_k12 : ACode := .blk 1 F373_k11
@[go_sem] theorem F373_k12_r : CE F373_k12.eq_1 := CEM F373_k12.eq_1
def F373_k13 : ACode := .seq F373_k12 (.reg true [⟨0, some 96, none, .bin .add (.t 74) (.c (.int .i64 1)), []⟩,
⟨1, some 74, none, .mov (.t 96), []⟩])
@[go_sem] theorem F373_k13_r : CE F373_k13.eq_1 := CEM F373_k13.eq_1
def F373_k14 : ACode := .seq (.cond (.t 75) (.skip) (.exit 0)) F373_k13
@[go_sem] theorem F373_k14_r : CE F373_k14.eq_1 := CEM F373_k14.eq_1
def F373_k15 : ACode := .seq (.reg true [⟨0, some 75, none, .bin .lss (.t 74) (.t 73), []⟩]) F373_k14
@[go_sem] theorem F373_k15_r : CE F373_k15.eq_1 := CEM F373_k15.eq_1
def F373_k16 : ACode := .loop F373_k15
@[go_sem] theorem F373_k16_r : CE F373_k16.eq_1 := CEM F373_k16.eq_1
def F373_k17 : ACode := .blk 0 F373_k16
@[go_sem] theorem F373_k17_r : CE F373_k17.eq_1 := CEM F373_k17.eq_1
def F373_k18 : ACode := .seq (.reg true F373_r7) F373_k17
@[go_sem] theorem F373_k18_r : CE F373_k18.eq_1 := CEM F373_k18.eq_1
def F373_k19 : ACode := .seq F373_k18 (.seq (.reg true [⟨0, some 2, none, .mov (.c (.bool true)), []⟩]) (.ret))
@[go_sem] theorem F373_k19_r : CE F373_k19.eq_1 := CEM F373_k19.eq_1
def F373_k20 : ACode := .seq F373_k6 F373_k19
@[go_sem] theorem F373_k20_r : CE F373_k20.eq_1 := CEM F373_k20.eq_1
def F373_k21 : ACode := .seq (.reg true F373_r4) F373_k20
@[go_sem] theorem F373_k21_r : CE F373_k21.eq_1 := CEM F373_k21.eq_1
def F373_k22 : ACode := .seq F373_k3 F373_k21
@[go_sem] theorem F373_k22_r : CE F373_k22.eq_1 := CEM F373_k22.eq_1
def F373_k23 : ACode := .seq F373_k1 F373_k22
@[go_sem] theorem F373_k23_r : CE F373_k23.eq_1 := CEM F373_k23.eq_1
def F373 : AFun := ⟨1, 97, [.t 2], .seq (.reg true [⟨0, some 1, none, .lbox 8 (.t 0), []⟩,
⟨1, some 2, none, .mov (.c (.bool false)), []⟩]) F373_k23⟩
def F86 : AFun := eqS0 
def F1422_r0 : List AOper := [⟨0, some 2, none, .lbox 2 (.t 0), []⟩,
⟨1, some 3, none, .lbox 2 (.t 1), []⟩,
⟨2, some 4, none, .mov (.c (.bool false)), []⟩]
@[go_sem] theorem F1422_r0_r : OE F1422_r0.eq_1 := OEM F1422_r0.eq_1
def F1422_r1 : List AOper := [⟨0, some 5, none, .nop 2, []⟩,
⟨1, some 6, none, .lload 2 0 none, []⟩,
⟨2, some 7, none, .nop 3, []⟩,
⟨3, some 8, none, .lload 3 0 none, []⟩,
⟨4, some 9, none, .bin .neq (.t 6) (.t 8), []⟩]
@[go_sem] theorem F1422_r1_r : OE F1422_r1.eq_1 := OEM F1422_r1.eq_1
def F1422_k2 : ACode := .seq (.reg true F1422_r1) (.cond (.t 9) (.seq (.reg true [⟨0, some 4, none, .mov (.c (.bool false)), []⟩]) (.ret)) (.skip))
@[go_sem] theorem F1422_k2_r : CE F1422_k2.eq_1 := CEM F1422_k2.eq_1
def F1422_r3 : List AOper := [⟨0, some 10, none, .nop 2, []⟩,
⟨1, some 11, none, .lload 2 1 none, []⟩,
⟨2, some 12, none, .nop 3, []⟩,
⟨3, some 13, none, .lload 3 1 none, []⟩,
⟨4, some 14, none, .bin .neq (.t 11) (.t 13), []⟩]
@[go_sem] theorem F1422_r3_r : OE F1422_r3.eq_1 := OEM F1422_r3.eq_1
def F1422_k4 : ACode := .seq (.reg true F1422_r3) (.cond (.t 14) (.seq (.reg true [⟨0, some 4, none, .mov (.c (.bool false)), []⟩]) (.ret)) (.skip))
@[go_sem] theorem F1422_k4_r : CE F1422_k4.eq_1 := CEM F1422_k4.eq_1
def F1422_k5 : ACode := .seq F1422_k4 (.seq (.reg true [⟨0, some 4, none, .mov (.c (.bool true)), []⟩]) (.ret))
@[go_sem] theorem F1422_k5_r : CE F1422_k5.eq_1 := CEM F1422_k5.eq_1
def F1422_k6 : ACode := .seq F1422_k2 F1422_k5
@[go_sem] theorem F1422_k6_r : CE F1422_k6.eq_1 := CEM F1422_k6.eq_1
def F1422 : AFun := ⟨2, 15, [.t 4], .seq (.reg true F1422_r0) F1422_k6⟩
def F1184 : AFun := eqS 2 (some 2) 1422
def F870_r0 : List AOper := [⟨0, some 2, none, .lbox 5 (.t 0), []⟩,
⟨1, some 3, none, .lbox 5 (.t 1), []⟩,
⟨2, some 4, none, .mov (.c (.bool false)), []⟩]
@[go_sem] theorem F870_r0_r : OE F870_r0.eq_1 := OEM F870_r0.eq_1
def F870_r1 : List AOper := [⟨0, some 5, none, .nop 2, []⟩,
⟨1, some 6, none, .lload 2 0 none, []⟩,
⟨2, some 7, none, .nop 3, []⟩,
⟨3, some 8, none, .lload 3 0 none, []⟩,
⟨4, some 9, none, .bin .neq (.t 6) (.t 8), []⟩]
@[go_sem] theorem F870_r1_r : OE F870_r1.eq_1 := OEM F870_r1.eq_1
def F870_k2 : ACode := .seq (.reg true F870_r1) (.cond (.t 9) (.seq (.reg true [⟨0, some 4, none, .mov (.c (.bool false)), []⟩]) (.ret)) (.skip))
@[go_sem] theorem F870_k2_r : CE F870_k2.eq_1 := CEM F870_k2.eq_1
def F870_r3 : List AOper := [⟨0, some 10, none, .nop 2, []⟩,
⟨1, some 11, none, .lload 2 1 none, []⟩,
⟨2, some 12, none, .nop 3, []⟩,
⟨3, some 13, none, .lload 3 1 none, []⟩,
⟨4, some 14, none, .bin .neq (.t 11) (.t 13), []⟩]
@[go_sem] theorem F870_r3_r : OE F870_r3.eq_1 := OEM F870_r3.eq_1
def F870_k4 : ACode := .seq (.reg true F870_r3) (.cond (.t 14) (.seq (.reg true [⟨0, some 4, none, .mov (.c (.bool false)), []⟩]) (.ret)) (.skip))
@[go_sem] theorem F870_k4_r : CE F870_k4.eq_1 := CEM F870_k4.eq_1
def F870_r5 : List AOper := [⟨0, some 15, none, .nop 2, []⟩,
⟨1, some 16, none, .lload 2 2 none, []⟩,
⟨2, some 17, none, .nop 3, []⟩,
⟨3, some 18, none, .lload 3 2 none, []⟩,
⟨4, some 19, none, .bin .neq (.t 16) (.t 18), []⟩]
@[go_sem] theorem F870_r5_r : OE F870_r5.eq_1 := OEM F870_r5.eq_1
def F870_k6 : ACode := .seq (.reg true F870_r5) (.cond (.t 19) (.seq (.reg true [⟨0, some 4, none, .mov (.c (.bool false)), []⟩]) (.ret)) (.skip))
@[go_sem] theorem F870_k6_r : CE F870_k6.eq_1 := CEM F870_k6.eq_1
def F870_r7 : List AOper := [⟨0, some 20, none, .nop 2, []⟩,
⟨1, some 21, none, .lload 2 3 none, []⟩,
⟨2, some 22, none, .nop 3, []⟩,
⟨3, some 23, none, .lload 3 3 none, []⟩,
⟨4, some 24, none, .call 86 [.t 21, .t 23], []⟩,
⟨5, some 25, none, .not (.t 24), []⟩]
@[go_sem] theorem F870_r7_r : OE F870_r7.eq_1 := OEM F870_r7.eq_1
def F870_k8 : ACode := .seq (.reg true F870_r7) (.cond (.t 25) (.seq (.reg true [⟨0, some 4, none, .mov (.c (.bool false)), []⟩]) (.ret)) (.skip))
@[go_sem] theorem F870_k8_r : CE F870_k8.eq_1 := CEM F870_k8.eq_1
def F870_r9 : List AOper := [⟨0, some 26, none, .nop 2, []⟩,
⟨1, some 27, none, .lload 2 4 none, []⟩,
⟨2, some 28, none, .nop 3, []⟩,
⟨3, some 29, none, .lload 3 4 none, []⟩,
⟨4, some 30, none, .call 1184 [.t 27, .t 29], []⟩,
⟨5, some 31, none, .not (.t 30), []⟩]
@[go_sem] theorem F870_r9_r : OE F870_r9.eq_1 := OEM F870_r9.eq_1
def F870_k10 : ACode := .seq (.reg true F870_r9) (.cond (.t 31) (.seq (.reg true [⟨0, some 4, none, .mov (.c (.bool false)), []⟩]) (.ret)) (.skip))
@[go_sem] theorem F870_k10_r : CE F870_k10.eq_1 := CEM F870_k10.eq_1
def F870_k11 : ACode := .seq F870_k10 (.seq (.reg true [⟨0, some 4, none, .mov (.c (.bool true)), []⟩]) (.ret))
@[go_sem] theorem F870_k11_r : CE F870_k11.eq_1 := CEM F870_k11.eq_1
def F870_k12 : ACode := .seq F870_k8 F870_k11
@[go_sem] theorem F870_k12_r : CE F870_k12.eq_1 := CEM F870_k12.eq_1
def F870_k13 : ACode := .seq F870_k6 F870_k12
@[go_sem] theorem F870_k13_r : CE F870_k13.eq_1 := CEM F870_k13.eq_1
def F870_k14 : ACode := .seq F870_k4 F870_k13
@[go_sem] theorem F870_k14_r : CE F870_k14.eq_1 := CEM F870_k14.eq_1
def F870_k15 : ACode := .seq F870_k2 F870_k14
@[go_sem] theorem F870_k15_r : CE F870_k15.eq_1 := CEM F870_k15.eq_1
def F870 : AFun := ⟨2, 32, [.t 4], .seq (.reg true F870_r0) F870_k15⟩
def F508 : AFun := eqS 5 (some 5) 870
def F188_r0 : List AOper := [⟨0, some 2, none, .lbox 1 (.t 0), []⟩,
⟨1, some 3, none, .lbox 1 (.t 1), []⟩,
⟨2, some 4, none, .mov (.c (.bool false)), []⟩]
@[go_sem] theorem F188_r0_r : OE F188_r0.eq_1 := OEM F188_r0.eq_1
def F188_r1 : List AOper := [⟨0, some 5, none, .nop 2, []⟩,
⟨1, some 6, none, .lload 2 0 none, []⟩,
⟨2, some 7, none, .nop 3, []⟩,
⟨3, some 8, none, .lload 3 0 none, []⟩,
⟨4, some 9, none, .call 508 [.t 6, .t 8], []⟩,
⟨5, some 10, none, .not (.t 9), []⟩]
@[go_sem] theorem F188_r1_r : OE F188_r1.eq_1 := OEM F188_r1.eq_1
def F188_k2 : ACode := .seq (.reg true F188_r1) (.cond (.t 10) (.seq (.reg true [⟨0, some 4, none, .mov (.c (.bool false)), []⟩]) (.ret)) (.skip))
@[go_sem] theorem F188_k2_r : CE F188_k2.eq_1 := CEM F188_k2.eq_1
def F188_k3 : ACode := .seq F188_k2 (.seq (.reg true [⟨0, some 4, none, .mov (.c (.bool true)), []⟩]) (.ret))
@[go_sem] theorem F188_k3_r : CE F188_k3.eq_1 := CEM F188_k3.eq_1
def F188 : AFun := ⟨2, 11, [.t 4], .seq (.reg true F188_r0) F188_k3⟩
def F187 : AFun := eqS 1 (some 1) 188
def F752_r0 : List AOper := [⟨0, some 2, none, .lbox 3 (.t 0), []⟩,
⟨1, some 3, none, .lbox 3 (.t 1), []⟩,
⟨2, some 4, none, .mov (.c (.bool false)), []⟩]
@[go_sem] theorem F752_r0_r : OE F752_r0.eq_1 := OEM F752_r0.eq_1
def F752_r1 : List AOper := [⟨0, some 5, none, .nop 2, []⟩,
⟨1, some 6, none, .lload 2 0 none, []⟩,
⟨2, some 7, none, .nop 3, []⟩,
⟨3, some 8, none, .lload 3 0 none, []⟩,
⟨4, some 9, none, .bin .neq (.t 6) (.t 8), []⟩]
@[go_sem] theorem F752_r1_r : OE F752_r1.eq_1 := OEM F752_r1.eq_1
def F752_k2 : ACode := .seq (.reg true F752_r1) (.cond (.t 9) (.seq (.reg true [⟨0, some 4, none, .mov (.c (.bool false)), []⟩]) (.ret)) (.skip))
@[go_sem] theorem F752_k2_r : CE F752_k2.eq_1 := CEM F752_k2.eq_1
def F752_r3 : List AOper := [⟨0, some 10, none, .nop 2, []⟩,
⟨1, some 11, none, .lload 2 1 none, []⟩,
⟨2, some 12, none, .nop 3, []⟩,
⟨3, some 13, none, .lload 3 1 none, []⟩,
⟨4, some 14, none, .bin .neq (.t 11) (.t 13), []⟩]
@[go_sem] theorem F752_r3_r : OE F752_r3.eq_1 := OEM F752_r3.eq_1
def F752_k4 : ACode := .seq (.reg true F752_r3) (.cond (.t 14) (.seq (.reg true [⟨0, some 4, none, .mov (.c (.bool false)), []⟩]) (.ret)) (.skip))
@[go_sem] theorem F752_k4_r : CE F752_k4.eq_1 := CEM F752_k4.eq_1
def F752_r5 : List AOper := [⟨0, some 15, none, .nop 2, []⟩,
⟨1, some 16, none, .lload 2 2 none, []⟩,
⟨2, some 17, none, .nop 3, []⟩,
⟨3, some 18, none, .lload 3 2 none, []⟩,
⟨4, some 19, none, .bin .neq (.t 16) (.t 18), []⟩]
@[go_sem] theorem F752_r5_r : OE F752_r5.eq_1 := OEM F752_r5.eq_1
def F752_k6 : ACode := .seq (.reg true F752_r5) (.cond (.t 19) (.seq (.reg true [⟨0, some 4, none, .mov (.c (.bool false)), []⟩]) (.ret)) (.skip))
@[go_sem] theorem F752_k6_r : CE F752_k6.eq_1 := CEM F752_k6.eq_1
def F752_k7 : ACode := .seq F752_k6 (.seq (.reg true [⟨0, some 4, none, .mov (.c (.bool true)), []⟩]) (.ret))
@[go_sem] theorem F752_k7_r : CE F752_k7.eq_1 := CEM F752_k7.eq_1
def F752_k8 : ACode := .seq F752_k4 F752_k7
@[go_sem] theorem F752_k8_r : CE F752_k8.eq_1 := CEM F752_k8.eq_1
def F752_k9 : ACode := .seq F752_k2 F752_k8
@[go_sem] theorem F752_k9_r : CE F752_k9.eq_1 := CEM F752_k9.eq_1
def F752 : AFun := ⟨2, 20, [.t 4], .seq (.reg true F752_r0) F752_k9⟩
def F377 : AFun := eqS 3 (some 3) 752
def F753_r0 : List AOper := [⟨0, some 2, none, .lbox 2 (.t 0), []⟩,
⟨1, some 3, none, .lbox 2 (.t 1), []⟩,
⟨2, some 4, none, .mov (.c (.bool false)), []⟩]
@[go_sem] theorem F753_r0_r : OE F753_r0.eq_1 := OEM F753_r0.eq_1
def F753_r1 : List AOper := [⟨0, some 5, none, .nop 2, []⟩,
⟨1, some 6, none, .lload 2 0 none, []⟩,
⟨2, some 7, none, .nop 3, []⟩,
⟨3, some 8, none, .lload 3 0 none, []⟩,
⟨4, some 9, none, .bin .neq (.t 6) (.t 8), []⟩]
@[go_sem] theorem F753_r1_r : OE F753_r1.eq_1 := OEM F753_r1.eq_1
def F753_k2 : ACode := .seq (.reg true F753_r1) (.cond (.t 9) (.seq (.reg true [⟨0, some 4, none, .mov (.c (.bool false)), []⟩]) (.ret)) (.skip))
@[go_sem] theorem F753_k2_r : CE F753_k2.eq_1 := CEM F753_k2.eq_1
def F753_r3 : List AOper := [⟨0, some 10, none, .nop 2, []⟩,
⟨1, some 11, none, .lload 2 1 none, []⟩,
⟨2, some 12, none, .nop 3, []⟩,
⟨3, some 13, none, .lload 3 1 none, []⟩,
⟨4, some 14, none, .bin .neq (.t 11) (.t 13), []⟩]
@[go_sem] theorem F753_r3_r : OE F753_r3.eq_1 := OEM F753_r3.eq_1
def F753_k4 : ACode := .seq (.reg true F753_r3) (.cond (.t 14) (.seq (.reg true [⟨0, some 4, none, .mov (.c (.bool false)), []⟩]) (.ret)) (.skip))
@[go_sem] theorem F753_k4_r : CE F753_k4.eq_1 := CEM F753_k4.eq_1
def F753_k5 : ACode := .seq F753_k4 (.seq (.reg true [⟨0, some 4, none, .mov (.c (.bool true)), []⟩]) (.ret))
@[go_sem] theorem F753_k5_r : CE F753_k5.eq_1 := CEM F753_k5.eq_1
def F753_k6 : ACode := .seq F753_k2 F753_k5
@[go_sem] theorem F753_k6_r : CE F753_k6.eq_1 := CEM F753_k6.eq_1
def F753 : AFun := ⟨2, 15, [.t 4], .seq (.reg true F753_r0) F753_k6⟩
def F378 : AFun := eqS 2 (some 2) 753
def F754_r0 : List AOper := [⟨0, some 2, none, .lbox 3 (.t 0), []⟩,
⟨1, some 3, none, .lbox 3 (.t 1), []⟩,
⟨2, some 4, none, .mov (.c (.bool false)), []⟩]
@[go_sem] theorem F754_r0_r : OE F754_r0.eq_1 := OEM F754_r0.eq_1
def F754_r1 : List AOper := [⟨0, some 5, none, .nop 2, []⟩,
⟨1, some 6, none, .lload 2 0 none, []⟩,
⟨2, some 7, none, .nop 3, []⟩,
⟨3, some 8, none, .lload 3 0 none, []⟩,
⟨4, some 9, none, .bin .neq (.t 6) (.t 8), []⟩]
@[go_sem] theorem F754_r1_r : OE F754_r1.eq_1 := OEM F754_r1.eq_1
def F754_k2 : ACode := .seq (.reg true F754_r1) (.cond (.t 9) (.seq (.reg true [⟨0, some 4, none, .mov (.c (.bool false)), []⟩]) (.ret)) (.skip))
@[go_sem] theorem F754_k2_r : CE F754_k2.eq_1 := CEM F754_k2.eq_1
def F754_r3 : List AOper := [⟨0, some 10, none, .nop 2, []⟩,
⟨1, some 11, none, .lload 2 1 (some 1), []⟩,
⟨2, some 12, none, .nop 3, []⟩,
⟨3, some 13, none, .lload 3 1 (some 1), []⟩,
⟨4, some 14, none, .call 188 [.t 11, .t 13], []⟩,
⟨5, some 15, none, .not (.t 14), []⟩]
@[go_sem] theorem F754_r3_r : OE F754_r3.eq_1 := OEM F754_r3.eq_1
def F754_k4 : ACode := .seq (.reg true F754_r3) (.cond (.t 15) (.seq (.reg true [⟨0, some 4, none, .mov (.c (.bool false)), []⟩]) (.ret)) (.skip))
@[go_sem] theorem F754_k4_r : CE F754_k4.eq_1 := CEM F754_k4.eq_1
def F754_r5 : List AOper := [⟨0, some 16, none, .nop 2, []⟩,
⟨1, some 17, none, .lload 2 2 none, []⟩,
⟨2, some 18, none, .nop 3, []⟩,
⟨3, some 19, none, .lload 3 2 none, []⟩,
⟨4, some 20, none, .call 377 [.t 17, .t 19], []⟩,
⟨5, some 21, none, .not (.t 20), []⟩]
@[go_sem] theorem F754_r5_r : OE F754_r5.eq_1 := OEM F754_r5.eq_1
def F754_k6 : ACode := .seq (.reg true F754_r5) (.cond (.t 21) (.seq (.reg true [⟨0, some 4, none, .mov (.c (.bool false)), []⟩]) (.ret)) (.skip))
@[go_sem] theorem F754_k6_r : CE F754_k6.eq_1 := CEM F754_k6.eq_1
def F754_k7 : ACode := .seq F754_k6 (.seq (.reg true [⟨0, some 4, none, .mov (.c (.bool true)), []⟩]) (.ret))
@[go_sem] theorem F754_k7_r : CE F754_k7.eq_1 := CEM F754_k7.eq_1
def F754_k8 : ACode := .seq F754_k4 F754_k7
@[go_sem] theorem F754_k8_r : CE F754_k8.eq_1 := CEM F754_k8.eq_1
def F754_k9 : ACode := .seq F754_k2 F754_k8
@[go_sem] theorem F754_k9_r : CE F754_k9.eq_1 := CEM F754_k9.eq_1
def F754 : AFun := ⟨2, 22, [.t 4], .seq (.reg true F754_r0) F754_k9⟩
def F379 : AFun := eqS 3 (some 3) 754
def F108_r0 : List AOper := [⟨0, some 2, none, .lbox 8 (.t 0), []⟩,
⟨1, some 3, none, .lbox 8 (.t 1), []⟩,
⟨2, some 4, none, .mov (.c (.bool false)), []⟩]
@[go_sem] theorem F108_r0_r : OE F108_r0.eq_1 := OEM F108_r0.eq_1
def F108_r1 : List AOper := [⟨0, some 5, none, .nop 2, []⟩,
⟨1, some 6, none, .lload 2 0 none, []⟩,
⟨2, some 7, none, .nop 3, []⟩,
⟨3, some 8, none, .lload 3 0 none, []⟩,
⟨4, some 9, none, .call 187 [.t 6, .t 8], []⟩,
⟨5, some 10, none, .not (.t 9), []⟩]
@[go_sem] theorem F108_r1_r : OE F108_r1.eq_1 := OEM F108_r1.eq_1
def F108_k2 : ACode := .seq (.reg true F108_r1) (.cond (.t 10) (.seq (.reg true [⟨0, some 4, none, .mov (.c (.bool false)), []⟩]) (.ret)) (.skip))
@[go_sem] theorem F108_k2_r : CE F108_k2.eq_1 := CEM F108_k2.eq_1
def F108_r3 : List AOper := [⟨0, some 11, none, .nop 2, []⟩,
⟨1, some 12, none, .lload 2 1 none, []⟩,
⟨2, some 13, none, .nop 3, []⟩,
⟨3, some 14, none, .lload 3 1 none, []⟩,
⟨4, some 15, none, .call 86 [.t 12, .t 14], []⟩,
⟨5, some 16, none, .not (.t 15), []⟩]
@[go_sem] theorem F108_r3_r : OE F108_r3.eq_1 := OEM F108_r3.eq_1
def F108_k4 : ACode := .seq (.reg true F108_r3) (.cond (.t 16) (.seq (.reg true [⟨0, some 4, none, .mov (.c (.bool false)), []⟩]) (.ret)) (.skip))
@[go_sem] theorem F108_k4_r : CE F108_k4.eq_1 := CEM F108_k4.eq_1
def F108_r5 : List AOper := [⟨0, some 17, none, .nop 2, []⟩,
⟨1, some 18, none, .lload 2 2 none, []⟩,
⟨2, some 19, none, .nop 3, []⟩,
⟨3, some 20, none, .lload 3 2 none, []⟩,
⟨4, some 21, none, .bin .neq (.t 18) (.t 20), []⟩]
@[go_sem] theorem F108_r5_r : OE F108_r5.eq_1 := OEM F108_r5.eq_1
def F108_k6 : ACode := .seq (.reg true F108_r5) (.cond (.t 21) (.seq (.reg true [⟨0, some 4, none, .mov (.c (.bool false)), []⟩]) (.ret)) (.skip))
@[go_sem] theorem F108_k6_r : CE F108_k6.eq_1 := CEM F108_k6.eq_1
def F108_r7 : List AOper := [⟨0, some 22, none, .nop 2, []⟩,
⟨1, some 23, none, .lload 2 3 none, []⟩,
⟨2, some 24, none, .nop 3, []⟩,
⟨3, some 25, none, .lload 3 3 none, []⟩,
⟨4, some 26, none, .bin .neq (.t 23) (.t 25), []⟩]
@[go_sem] theorem F108_r7_r : OE F108_r7.eq_1 := OEM F108_r7.eq_1
def F108_k8 : ACode := .seq (.reg true F108_r7) (.cond (.t 26) (.seq (.reg true [⟨0, some 4, none, .mov (.c (.bool false)), []⟩]) (.ret)) (.skip))
@[go_sem] theorem F108_k8_r : CE F108_k8.eq_1 := CEM F108_k8.eq_1
def F108_r9 : List AOper := [⟨0, some 27, none, .nop 2, []⟩,
⟨1, some 28, none, .lload 2 4 (some 1), []⟩,
⟨2, some 29, none, .nop 3, []⟩,
⟨3, some 30, none, .lload 3 4 (some 1), []⟩,
⟨4, some 31, none, .call 188 [.t 28, .t 30], []⟩,
⟨5, some 32, none, .not (.t 31), []⟩]
@[go_sem] theorem F108_r9_r : OE F108_r9.eq_1 := OEM F108_r9.eq_1
def F108_k10 : ACode := .seq (.reg true F108_r9) (.cond (.t 32) (.seq (.reg true [⟨0, some 4, none, .mov (.c (.bool false)), []⟩]) (.ret)) (.skip))
@[go_sem] theorem F108_k10_r : CE F108_k10.eq_1 := CEM F108_k10.eq_1
def F108_r11 : List AOper := [⟨0, some 33, none, .nop 2, []⟩,
⟨1, some 34, none, .lload 2 5 none, []⟩,
⟨2, some 35, none, .nop 3, []⟩,
⟨3, some 36, none, .lload 3 5 none, []⟩,
⟨4, some 37, none, .call 377 [.t 34, .t 36], []⟩,
⟨5, some 38, none, .not (.t 37), []⟩]
@[go_sem] theorem F108_r11_r : OE F108_r11.eq_1 := OEM F108_r11.eq_1
def F108_k12 : ACode := .seq (.reg true F108_r11) (.cond (.t 38) (.seq (.reg true [⟨0, some 4, none, .mov (.c (.bool false)), []⟩]) (.ret)) (.skip))
@[go_sem] theorem F108_k12_r : CE F108_k12.eq_1 := CEM F108_k12.eq_1
def F108_r13 : List AOper := [⟨0, some 39, none, .nop 2, []⟩,
⟨1, some 40, none, .lload 2 6 none, []⟩,
⟨2, some 41, none, .nop 3, []⟩,
⟨3, some 42, none, .lload 3 6 none, []⟩,
⟨4, some 43, none, .call 378 [.t 40, .t 42], []⟩,
⟨5, some 44, none, .not (.t 43), []⟩]
@[go_sem] theorem F108_r13_r : OE F108_r13.eq_1 := OEM F108_r13.eq_1
def F108_k14 : ACode := .seq (.reg true F108_r13) (.cond (.t 44) (.seq (.reg true [⟨0, some 4, none, .mov (.c (.bool false)), []⟩]) (.ret)) (.skip))
@[go_sem] theorem F108_k14_r : CE F108_k14.eq_1 := CEM F108_k14.eq_1
def F108_r15 : List AOper := [⟨0, some 45, none, .nop 2, []⟩,
⟨1, some 46, none, .lload 2 7 none, []⟩,
⟨2, some 47, none, .nop 3, []⟩,
⟨3, some 48, none, .lload 3 7 none, []⟩,
⟨4, some 49, none, .call 379 [.t 46, .t 48], []⟩,
⟨5, some 50, none, .not (.t 49), []⟩]
@[go_sem] theorem F108_r15_r : OE F108_r15.eq_1 := OEM F108_r15.eq_1
def F108_k16 : ACode := .seq (.reg true F108_r15) (.cond (.t 50) (.seq (.reg true [⟨0, some 4, none, .mov (.c (.bool false)), []⟩]) (.ret)) (.skip))
@[go_sem] theorem F108_k16_r : CE F108_k16.eq_1 := CEM F108_k16.eq_1
def F108_k17 : ACode := .seq F108_k16 (.seq (.reg true [⟨0, some 4, none, .mov (.c (.bool true)), []⟩]) (.ret))
@[go_sem] theorem F108_k17_r : CE F108_k17.eq_1 := CEM F108_k17.eq_1
def F108_k18 : ACode := .seq F108_k14 F108_k17
@[go_sem] theorem F108_k18_r : CE F108_k18.eq_1 := CEM F108_k18.eq_1
def F108_k19 : ACode := .seq F108_k12 F108_k18
@[go_sem] theorem F108_k19_r : CE F108_k19.eq_1 := CEM F108_k19.eq_1
def F108_k20 : ACode := .seq F108_k10 F108_k19
@[go_sem] theorem F108_k20_r : CE F108_k20.eq_1 := CEM F108_k20.eq_1
def F108_k21 : ACode := .seq F108_k8 F108_k20
@[go_sem] theorem F108_k21_r : CE F108_k21.eq_1 := CEM F108_k21.eq_1
def F108_k22 : ACode := .seq F108_k6 F108_k21
@[go_sem] theorem F108_k22_r : CE F108_k22.eq_1 := CEM F108_k22.eq_1
def F108_k23 : ACode := .seq F108_k4 F108_k22
@[go_sem] theorem F108_k23_r : CE F108_k23.eq_1 := CEM F108_k23.eq_1
def F108_k24 : ACode := .seq F108_k2 F108_k23
@[go_sem] theorem F108_k24_r : CE F108_k24.eq_1 := CEM F108_k24.eq_1
def F108 : AFun := ⟨2, 51, [.t 4], .seq (.reg true F108_r0) F108_k24⟩
def F402_r0 : List AOper := [⟨0, some 3, none, .mov (.c (.lst 1 [] true)), []⟩,
⟨1, some 4, none, .mov (.t 0), []⟩,
⟨2, some 5, none, .app 1 (.t 3) (.t 4), []⟩,
⟨3, some 2, none, .mov (.t 5), []⟩]
@[go_sem] theorem F402_r0_r : OE F402_r0.eq_1 := OEM F402_r0.eq_1
def F402_k1 : ACode := .seq (.reg true F402_r0) (.ret)
@[go_sem] theorem F402_k1_r : CE F402_k1.eq_1 := CEM F402_k1.eq_1
def F402 : AFun := ⟨1, 6, [.t 2], .seq (.reg true [⟨0, some 2, none, .mov (.c (.nils)), []⟩]) F402_k1⟩
def F837_r0 : List AOper := [⟨0, some 3, none, .mov (.t 0), []⟩,
⟨1, some 4, none, .nilchk (.t 3), []⟩,
⟨2, some 5, none, .faddr 0 (.t 4), []⟩,
⟨3, some 6, none, .load none (.t 5), []⟩,
⟨4, some 7, none, .mov (.t 0), []⟩,
⟨5, some 8, none, .nilchk (.t 7), []⟩,
⟨6, some 9, none, .faddr 1 (.t 8), []⟩,
⟨7, some 10, none, .load none (.t 9), []⟩,
⟨8, some 11, none, .mov (.t 0), []⟩,
⟨9, some 12, none, .nilchk (.t 11), []⟩,
⟨10, some 13, none, .faddr 2 (.t 12), []⟩,
⟨11, some 14, none, .load none (.t 13), []⟩,
⟨12, some 15, none, .mov (.t 0), []⟩,
⟨13, some 16, none, .nilchk (.t 15), []⟩,
⟨14, some 17, none, .faddr 3 (.t 16), []⟩,
⟨15, some 18, none, .load none (.t 17), []⟩,
⟨17, some 20, none, .mov (.c (.lst 2 [] true)), []⟩,
⟨18, some 21, none, .mov (.t 0), []⟩,
⟨19, some 22, none, .nilchk (.t 21), []⟩,
⟨20, some 23, none, .faddr 4 (.t 22), []⟩,
⟨21, some 24, none, .load none (.t 23), []⟩,
⟨16, some 19, none, .call 402 [.t 18], [⟨3, some 6, none, .load none (.t 5), []⟩, ⟨7, some 10, none, .load none (.t 9), []⟩, ⟨11, some 14, none, .load none (.t 13), []⟩, ⟨21, some 24, none, .load none (.t 23), []⟩]⟩,
⟨22, some 25, none, .app 2 (.t 20) (.t 24), [⟨3, some 6, none, .load none (.t 5), []⟩, ⟨7, some 10, none, .load none (.t 9), []⟩, ⟨11, some 14, none, .load none (.t 13), []⟩]⟩,
⟨23, some 26, none, .build (.agg [.int .i64 0, .int .i64 0, .int .i64 0, .nils, .nils]) [(0, 1, .t 6), (1, 1, .t 10), (2, 1, .t 14), (3, 1, .t 19), (4, 1, .t 25)], []⟩,
⟨24, none, none, .lstore 2 0 5 (.t 26), []⟩]
@[go_sem] theorem F837_r0_r : OE F837_r0.eq_1 := OEM F837_r0.eq_1
def F837_k1 : ACode := .seq (.reg true F837_r0) (.ret)
@[go_sem] theorem F837_k1_r : CE F837_k1.eq_1 := CEM F837_k1.eq_1
def F837 : AFun := ⟨1, 27, [.l 2 (some 5)], .seq (.reg true [⟨0, some 2, none, .lalloc (.agg [.int .i64 0, .int .i64 0, .int .i64 0, .nils, .nils]), []⟩]) F837_k1⟩
def F489_r0 : List AOper := [⟨0, some 5, none, .build (.agg [.nils]) [], []⟩,
⟨1, some 3, none, .lalloc (.agg [.nils]), []⟩,
⟨2, none, none, .lstore 3 0 1 (.t 5), []⟩]
@[go_sem] theorem F489_r0_r : OE F489_r0.eq_1 := OEM F489_r0.eq_1
def F489_r1 : List AOper := [⟨0, some 6, none, .mov (.t 4), []⟩,
⟨1, some 7, none, .mov (.t 0), []⟩,
⟨2, some 8, none, .nilchk (.t 7), []⟩,
⟨3, some 9, none, .faddr 0 (.t 8), []⟩,
⟨4, some 10, none, .load none (.t 9), []⟩,
⟨5, some 11, none, .len (.t 10), []⟩,
⟨6, some 12, none, .bin .lss (.t 6) (.t 11), []⟩]
@[go_sem] theorem F489_r1_r : OE F489_r1.eq_1 := OEM F489_r1.eq_1
def F489_k2 : ACode := .seq (.reg true F489_r1) (.cond (.t 12) (.skip) (.exit 0))
@[go_sem] theorem F489_k2_r : CE F489_k2.eq_1 := CEM F489_k2.eq_1
def F489_r3 : List AOper := [⟨0, some 15, none, .nop 3, []⟩,
⟨1, some 16, none, .lload 3 0 none, []⟩,
⟨2, some 17, none, .mov (.t 0), []⟩,
⟨3, some 18, none, .nilchk (.t 17), []⟩,
⟨4, some 19, none, .faddr 0 (.t 18), []⟩,
⟨5, some 20, none, .load none (.t 19), []⟩,
⟨6, some 21, none, .mov (.t 4), []⟩,
⟨7, some 22, none, .iaddr 5 (.t 20) (.t 21), []⟩,
⟨8, some 23, none, .call 837 [.t 22], []⟩,
⟨9, some 24, none, .bslice 5 (.agg [.int .i64 0, .int .i64 0, .int .i64 0, .nils, .nils]) 1 [(0, .t 23)], []⟩,
⟨10, some 25, none, .app 5 (.t 16) (.t 24), []⟩,
⟨11, some 26, none, .nop 3, []⟩,
⟨12, none, none, .lstore 3 0 1 (.t 25), []⟩]
@[go_sem] theorem F489_r3_r : OE F489_r3.eq_1 := OEM F489_r3.eq_1
def F489_k4 : ACode := .blk 1 (.reg true F489_r3)
@[go_sem] theorem F489_k4_r : CE F489_k4.eq_1 := CEM F489_k4.eq_1
def F489_r5 : List AOper := [⟨0, some 13, none, .mov (.t 4), []⟩,
⟨1, some 14, none, .bin .add (.t 13) (.c (.int .i64 1)), []⟩,
⟨2, some 4, none, .mov (.t 14), []⟩]
@[go_sem] theorem F489_r5_r : OE F489_r5.eq_1 := OEM F489_r5.eq_1
def F489_k6 : ACode := .seq F489_k4 (.reg true F489_r5)
@[go_sem] theorem F489_k6_r : CE F489_k6.eq_1 := CEM F489_k6.eq_1
def F489_k7 : ACode := .seq F489_k2 F489_k6
@[go_sem] theorem F489_k7_r : CE F489_k7.eq_1 := CEM F489_k7.eq_1
def F489_k8 : ACode := .loop F489_k7
@[go_sem] theorem F489_k8_r : CE F489_k8.eq_1 := CEM F489_k8.eq_1
def F489_k9 : ACode := .blk 0 F489_k8
@[go_sem] theorem F489_k9_r : CE F489_k9.eq_1 := CEM F489_k9.eq_1
def F489_k10 : ACode := .seq (.reg true [⟨0, some 4, none, .mov (.c (.int .i64 0)), []⟩]) F489_k9
@[go_sem] theorem F489_k10_r : CE F489_k10.eq_1 := CEM F489_k10.eq_1
def F489_k11 : ACode := .seq F489_k10 (.seq (.reg true [⟨0, some 27, none, .lload 3 0 (some 1), []⟩,
⟨1, none, none, .lstore 2 0 1 (.t 27), []⟩]) (.ret))
@[go_sem] theorem F489_k11_r : CE F489_k11.eq_1 := CEM F489_k11.eq_1
def F489_k12 : ACode := .seq (.reg true F489_r0) F489_k11
@[go_sem] theorem F489_k12_r : CE F489_k12.eq_1 := CEM F489_k12.eq_1
def F489 : AFun := ⟨1, 28, [.l 2 (some 1)], .seq (.reg true [⟨0, some 2, none, .lalloc (.agg [.nils]), []⟩]) F489_k12⟩
def F795_r0 : List AOper := [⟨0, some 3, none, .mov (.t 0), []⟩,
⟨1, some 4, none, .nilchk (.t 3), []⟩,
⟨2, some 5, none, .faddr 0 (.t 4), []⟩,
⟨3, some 6, none, .load none (.t 5), []⟩,
⟨4, some 7, none, .mov (.t 0), []⟩,
⟨5, some 8, none, .nilchk (.t 7), []⟩,
⟨6, some 9, none, .faddr 1 (.t 8), []⟩,
⟨8, some 11, none, .mov (.c (.lst 3 [] true)), []⟩,
⟨9, some 12, none, .mov (.t 0), []⟩,
⟨10, some 13, none, .nilchk (.t 12), []⟩,
⟨11, some 14, none, .faddr 2 (.t 13), []⟩,
⟨12, some 15, none, .load none (.t 14), []⟩,
⟨7, some 10, none, .call 489 [.t 9], [⟨3, some 6, none, .load none (.t 5), []⟩, ⟨12, some 15, none, .load none (.t 14), []⟩]⟩,
⟨13, some 16, none, .app 3 (.t 11) (.t 15), [⟨3, some 6, none, .load none (.t 5), []⟩]⟩,
⟨14, some 17, none, .build (.agg [.int .i64 0, .nils, .nils]) [(0, 1, .t 6), (1, 1, .t 10), (2, 1, .t 16)], []⟩,
⟨15, none, none, .lstore 2 0 3 (.t 17), []⟩]
@[go_sem] theorem F795_r0_r : OE F795_r0.eq_1 := OEM F795_r0.eq_1
def F795_k1 : ACode := .seq (.reg true F795_r0) (.ret)
@[go_sem] theorem F795_k1_r : CE F795_k1.eq_1 := CEM F795_k1.eq_1
def F795 : AFun := ⟨1, 18, [.l 2 (some 3)], .seq (.reg true [⟨0, some 2, none, .lalloc (.agg [.int .i64 0, .nils, .nils]), []⟩]) F795_k1⟩
def F427_r0 : List AOper := [⟨0, some 6, none, .mov (.t 0), []⟩,
⟨1, some 7, none, .nilchk (.t 6), []⟩,
⟨2, some 8, none, .faddr 1 (.t 7), []⟩,
⟨3, some 9, none, .load none (.t 8), []⟩,
⟨5, some 11, none, .mov (.t 0), []⟩,
⟨6, some 12, none, .nilchk (.t 11), []⟩,
⟨7, some 13, none, .faddr 2 (.t 12), []⟩,
⟨8, some 14, none, .load none (.t 13), []⟩,
⟨9, some 15, none, .mov (.t 0), []⟩,
⟨10, some 16, none, .nilchk (.t 15), []⟩,
⟨11, some 17, none, .faddr 3 (.t 16), []⟩,
⟨12, some 18, none, .load none (.t 17), []⟩,
⟨13, some 19, none, .mov (.t 0), []⟩,
⟨14, some 20, none, .nilchk (.t 19), []⟩,
⟨15, some 21, none, .faddr 4 (.t 20), []⟩,
⟨17, some 23, none, .mov (.c (.lst 3 [] true)), []⟩,
⟨18, some 24, none, .mov (.t 0), []⟩,
⟨19, some 25, none, .nilchk (.t 24), []⟩,
⟨20, some 26, none, .faddr 5 (.t 25), []⟩,
⟨21, some 27, none, .load none (.t 26), []⟩,
⟨23, some 29, none, .mov (.c (.lst 2 [] true)), []⟩,
⟨24, some 30, none, .mov (.t 0), []⟩,
⟨25, some 31, none, .nilchk (.t 30), []⟩,
⟨26, some 32, none, .faddr 6 (.t 31), []⟩,
⟨27, some 33, none, .load none (.t 32), []⟩,
⟨30, some 3, none, .lalloc (.agg [.nils, .nils, .int .i64 0, .int .i64 0, .nils, .nils, .nils, .nils]), []⟩,
⟨4, some 10, none, .call 402 [.t 9], [⟨8, some 14, none, .load none (.t 13), []⟩, ⟨12, some 18, none, .load none (.t 17), []⟩, ⟨21, some 27, none, .load none (.t 26), []⟩, ⟨27, some 33, none, .load none (.t 32), []⟩]⟩,
⟨16, some 22, none, .call 489 [.t 21], [⟨8, some 14, none, .load none (.t 13), []⟩, ⟨12, some 18, none, .load none (.t 17), []⟩, ⟨21, some 27, none, .load none (.t 26), []⟩, ⟨27, some 33, none, .load none (.t 32), []⟩]⟩,
⟨22, some 28, none, .app 3 (.t 23) (.t 27), [⟨8, some 14, none, .load none (.t 13), []⟩, ⟨12, some 18, none, .load none (.t 17), []⟩, ⟨27, some 33, none, .load none (.t 32), []⟩]⟩,
⟨28, some 34, none, .app 2 (.t 29) (.t 33), [⟨8, some 14, none, .load none (.t 13), []⟩, ⟨12, some 18, none, .load none (.t 17), []⟩]⟩,
⟨29, some 35, none, .build (.agg [.nils, .nils, .int .i64 0, .int .i64 0, .nils, .nils, .nils, .nils]) [(1, 1, .t 10), (2, 1, .t 14), (3, 1, .t 18), (4, 1, .t 22), (5, 1, .t 28), (6, 1, .t 34)], []⟩,
⟨31, none, none, .lstore 3 0 8 (.t 35), []⟩]
@[go_sem] theorem F427_r0_r : OE F427_r0.eq_1 := OEM F427_r0.eq_1
def F427_r1 : List AOper := [⟨0, some 36, none, .mov (.t 4), []⟩,
⟨1, some 37, none, .mov (.t 0), []⟩,
⟨2, some 38, none, .nilchk (.t 37), []⟩,
⟨3, some 39, none, .faddr 0 (.t 38), []⟩,
⟨4, some 40, none, .load none (.t 39), []⟩,
⟨5, some 41, none, .len (.t 40), []⟩,
⟨6, some 42, none, .bin .lss (.t 36) (.t 41), []⟩]
@[go_sem] theorem F427_r1_r : OE F427_r1.eq_1 := OEM F427_r1.eq_1
def F427_k2 : ACode := .seq (.reg true F427_r1) (.cond (.t 42) (.skip) (.exit 0))
@[go_sem] theorem F427_k2_r : CE F427_k2.eq_1 := CEM F427_k2.eq_1
def F427_r3 : List AOper := [⟨0, some 45, none, .nop 3, []⟩,
⟨1, some 46, none, .lload 3 0 none, []⟩,
⟨2, some 47, none, .mov (.t 0), []⟩,
⟨3, some 48, none, .nilchk (.t 47), []⟩,
⟨4, some 49, none, .faddr 0 (.t 48), []⟩,
⟨5, some 50, none, .load none (.t 49), []⟩,
⟨6, some 51, none, .mov (.t 4), []⟩,
⟨7, some 52, none, .iaddr 1 (.t 50) (.t 51), []⟩,
⟨8, some 53, none, .call 489 [.t 52], []⟩,
⟨9, some 54, none, .bslice 1 (.agg [.nils]) 1 [(0, .t 53)], []⟩,
⟨10, some 55, none, .app 1 (.t 46) (.t 54), []⟩,
⟨11, some 56, none, .nop 3, []⟩,
⟨12, none, none, .lstore 3 0 1 (.t 55), []⟩]
@[go_sem] theorem F427_r3_r : OE F427_r3.eq_1 := OEM F427_r3.eq_1
def F427_k4 : ACode := .blk 1 (.reg true F427_r3)
@[go_sem] theorem F427_k4_r : CE F427_k4.eq_1 := CEM F427_k4.eq_1
def F427_r5 : List AOper := [⟨0, some 43, none, .mov (.t 4), []⟩,
⟨1, some 44, none, .bin .add (.t 43) (.c (.int .i64 1)), []⟩,
⟨2, some 4, none, .mov (.t 44), []⟩]
@[go_sem] theorem F427_r5_r : OE F427_r5.eq_1 := OEM F427_r5.eq_1
def F427_k6 : ACode := .seq F427_k4 (.reg true F427_r5)
@[go_sem] theorem F427_k6_r : CE F427_k6.eq_1 := CEM F427_k6.eq_1
def F427_k7 : ACode := .seq F427_k2 F427_k6
@[go_sem] theorem F427_k7_r : CE F427_k7.eq_1 := CEM F427_k7.eq_1
def F427_k8 : ACode := .loop F427_k7
@[go_sem] theorem F427_k8_r : CE F427_k8.eq_1 := CEM F427_k8.eq_1
def F427_k9 : ACode := .blk 0 F427_k8
@[go_sem] theorem F427_k9_r : CE F427_k9.eq_1 := CEM F427_k9.eq_1
def F427_k10 : ACode := .seq (.reg true [⟨0, some 4, none, .mov (.c (.int .i64 0)), []⟩]) F427_k9
@[go_sem] theorem F427_k10_r : CE F427_k10.eq_1 := CEM F427_k10.eq_1
def F427_r11 : List AOper := [⟨0, some 57, none, .mov (.t 5), []⟩,
⟨1, some 58, none, .mov (.t 0), []⟩,
⟨2, some 59, none, .nilchk (.t 58), []⟩,
⟨3, some 60, none, .faddr 7 (.t 59), []⟩,
⟨4, some 61, none, .load none (.t 60), []⟩,
⟨5, some 62, none, .len (.t 61), []⟩,
⟨6, some 63, none, .bin .lss (.t 57) (.t 62), []⟩]
@[go_sem] theorem F427_r11_r : OE F427_r11.eq_1 := OEM F427_r11.eq_1
def F427_k12 : ACode := .seq (.reg true F427_r11) (.cond (.t 63) (.skip) (.exit 2))
@[go_sem] theorem F427_k12_r : CE F427_k12.eq_1 := CEM F427_k12.eq_1
def F427_r13 : List AOper := [⟨0, some 66, none, .nop 3, []⟩,
⟨1, some 67, none, .lload 3 7 none, []⟩,
⟨2, some 68, none, .mov (.t 0), []⟩,
⟨3, some 69, none, .nilchk (.t 68), []⟩,
⟨4, some 70, none, .faddr 7 (.t 69), []⟩,
⟨5, some 71, none, .load none (.t 70), []⟩,
⟨6, some 72, none, .mov (.t 5), []⟩,
⟨7, some 73, none, .iaddr 3 (.t 71) (.t 72), []⟩,
⟨8, some 74, none, .call 795 [.t 73], []⟩,
⟨9, some 75, none, .bslice 3 (.agg [.int .i64 0, .nils, .nils]) 1 [(0, .t 74)], []⟩,
⟨10, some 76, none, .app 3 (.t 67) (.t 75), []⟩,
⟨11, some 77, none, .nop 3, []⟩,
⟨12, none, none, .lstore 3 7 1 (.t 76), []⟩]
@[go_sem] theorem F427_r13_r : OE F427_r13.eq_1 := OEM F427_r13.eq_1
def F427_k14 : ACode := .blk 3 (.reg true F427_r13)
@[go_sem] theorem F427_k14_r : CE F427_k14.eq_1 := CEM F427_k14.eq_1
def F427_r15 : List AOper := [⟨0, some 64, none, .mov (.t 5), []⟩,
⟨1, some 65, none, .bin .add (.t 64) (.c (.int .i64 1)), []⟩,
⟨2, some 5, none, .mov (.t 65), []⟩]
@[go_sem] theorem F427_r15_r : OE F427_r15.eq_1 := OEM F427_r15.eq_1
def F427_k16 : ACode := .seq F427_k14 (.reg true F427_r15)
@[go_sem] theorem F427_k16_r : CE F427_k16.eq_1 := CEM F427_k16.eq_1
def F427_k17 : ACode := .seq F427_k12 F427_k16
@[go_sem] theorem F427_k17_r : CE F427_k17.eq_1 := CEM F427_k17.eq_1
def F427_k18 : ACode := .loop F427_k17
@[go_sem] theorem F427_k18_r : CE F427_k18.eq_1 := CEM F427_k18.eq_1
def F427_k19 : ACode := .blk 2 F427_k18
@[go_sem] theorem F427_k19_r : CE F427_k19.eq_1 := CEM F427_k19.eq_1
def F427_k20 : ACode := .seq (.reg true [⟨0, some 5, none, .mov (.c (.int .i64 0)), []⟩]) F427_k19
@[go_sem] theorem F427_k20_r : CE F427_k20.eq_1 := CEM F427_k20.eq_1
def F427_k21 : ACode := .seq F427_k20 (.seq (.reg true [⟨0, some 78, none, .lload 3 0 (some 8), []⟩,
⟨1, none, none, .lstore 2 0 8 (.t 78), []⟩]) (.ret))
@[go_sem] theorem F427_k21_r : CE F427_k21.eq_1 := CEM F427_k21.eq_1
def F427_k22 : ACode := .seq F427_k10 F427_k21
@[go_sem] theorem F427_k22_r : CE F427_k22.eq_1 := CEM F427_k22.eq_1
def F427_k23 : ACode := .seq (.reg true F427_r0) F427_k22
@[go_sem] theorem F427_k23_r : CE F427_k23.eq_1 := CEM F427_k23.eq_1
def F427 : AFun := ⟨1, 79, [.l 2 (some 8)], .seq (.reg true [⟨0, some 2, none, .lalloc (.agg [.nils, .nils, .int .i64 0, .int .i64 0, .nils, .nils, .nils, .nils]), []⟩]) F427_k23⟩
def F133_r0 : List AOper := [⟨0, some 2, none, .hbox 8 (.t 0), []⟩,
⟨1, some 3, none, .hbox 2 (.t 1), []⟩,
⟨2, some 4, none, .lalloc (.agg [.nils, .nils, .int .i64 0, .int .i64 0, .nils, .nils, .nils, .nils]), []⟩,
⟨3, some 5, none, .mov (.c (.int .i64 0)), []⟩]
@[go_sem] theorem F133_r0_r : OE F133_r0.eq_1 := OEM F133_r0.eq_1
def F133_r1 : List AOper := [⟨0, some 9, none, .build (.agg [.nils, .nils, .int .i64 0, .int .i64 0, .nils, .nils, .nils, .nils]) [], []⟩,
⟨1, none, none, .lstore 4 0 8 (.t 9), []⟩,
⟨2, some 5, none, .mov (.c (.int .i64 1)), []⟩]
@[go_sem] theorem F133_r1_r : OE F133_r1.eq_1 := OEM F133_r1.eq_1
def F133_k2 : ACode := .cond (.t 8) (.seq (.reg true F133_r1) (.ret)) (.skip)
@[go_sem] theorem F133_k2_r : CE F133_k2.eq_1 := CEM F133_k2.eq_1
def F133_k3 : ACode := .seq (.reg true [⟨0, some 7, none, .call 367 [.t 2], []⟩,
⟨1, some 8, none, .not (.t 7), []⟩]) F133_k2
@[go_sem] theorem F133_k3_r : CE F133_k3.eq_1 := CEM F133_k3.eq_1
def F133_r4 : List AOper := [⟨0, some 12, none, .build (.agg [.nils, .nils, .int .i64 0, .int .i64 0, .nils, .nils, .nils, .nils]) [], []⟩,
⟨1, none, none, .lstore 4 0 8 (.t 12), []⟩,
⟨2, some 5, none, .mov (.c (.int .i64 2)), []⟩]
@[go_sem] theorem F133_r4_r : OE F133_r4.eq_1 := OEM F133_r4.eq_1
def F133_k5 : ACode := .cond (.t 11) (.seq (.reg true F133_r4) (.ret)) (.skip)
@[go_sem] theorem F133_k5_r : CE F133_k5.eq_1 := CEM F133_k5.eq_1
def F133_k6 : ACode := .seq (.reg true [⟨0, some 10, none, .call 426 [.t 3], []⟩,
⟨1, some 11, none, .not (.t 10), []⟩]) F133_k5
@[go_sem] theorem F133_k6_r : CE F133_k6.eq_1 := CEM F133_k6.eq_1
def F133_r7 : List AOper := [⟨0, some 13, none, .faddr 6 (.t 2), []⟩,
⟨1, some 14, none, .load none (.t 13), []⟩,
⟨2, some 15, none, .len (.t 14), []⟩,
⟨3, some 16, none, .bin .eql (.t 15) (.c (.int .i64 8)), []⟩]
@[go_sem] theorem F133_r7_r : OE F133_r7.eq_1 := OEM F133_r7.eq_1
def F133_r8 : List AOper := [⟨0, some 17, none, .build (.agg [.nils, .nils, .int .i64 0, .int .i64 0, .nils, .nils, .nils, .nils]) [], []⟩,
⟨1, none, none, .lstore 4 0 8 (.t 17), []⟩,
⟨2, some 5, none, .mov (.c (.int .i64 4)), []⟩]
@[go_sem] theorem F133_r8_r : OE F133_r8.eq_1 := OEM F133_r8.eq_1
def F133_k9 : ACode := .cond (.t 16) (.seq (.reg true F133_r8) (.ret)) (.skip)
@[go_sem] theorem F133_k9_r : CE F133_k9.eq_1 := CEM F133_k9.eq_1
def F133_k10 : ACode := .seq (.reg true F133_r7) F133_k9
@[go_sem] theorem F133_k10_r : CE F133_k10.eq_1 := CEM F133_k10.eq_1
def F133_r11 : List AOper := [⟨0, some 18, none, .call 427 [.t 2], []⟩,
⟨1, some 6, none, .lalloc (.agg [.nils, .nils, .int .i64 0, .int .i64 0, .nils, .nils, .nils, .nils]), []⟩,
⟨2, none, none, .lstore 6 0 8 (.t 18), []⟩]
@[go_sem] theorem F133_r11_r : OE F133_r11.eq_1 := OEM F133_r11.eq_1
def F133_r12 : List AOper := [⟨0, some 19, none, .nop 6, []⟩,
⟨1, some 20, none, .lload 6 6 none, []⟩,
⟨2, some 21, none, .load (some 2) (.t 3), []⟩,
⟨3, some 22, none, .bslice 2 (.agg [.int .i64 0, .int .i64 0]) 1 [(0, .t 21)], []⟩,
⟨4, some 23, none, .app 2 (.t 20) (.t 22), []⟩,
⟨5, some 24, none, .nop 6, []⟩,
⟨6, none, none, .lstore 6 6 1 (.t 23), []⟩]
@[go_sem] theorem F133_r12_r : OE F133_r12.eq_1 := OEM F133_r12.eq_1
def F133_r13 : List AOper := [⟨0, some 25, none, .lload 6 0 (some 8), []⟩,
⟨1, none, none, .lstore 4 0 8 (.t 25), []⟩,
⟨2, some 5, none, .mov (.c (.int .i64 0)), []⟩]
@[go_sem] theorem F133_r13_r : OE F133_r13.eq_1 := OEM F133_r13.eq_1
def F133_k14 : ACode := .seq (.reg true F133_r12) (.seq (.reg true F133_r13) (.ret))
@[go_sem] theorem F133_k14_r : CE F133_k14.eq_1 := CEM F133_k14.eq_1
def F133_k15 : ACode := .seq (.reg true F133_r11) F133_k14
@[go_sem] theorem F133_k15_r : CE F133_k15.eq_1 := CEM F133_k15.eq_1
def F133_k16 : ACode := .seq F133_k10 F133_k15
@[go_sem] theorem F133_k16_r : CE F133_k16.eq_1 := CEM F133_k16.eq_1
def F133_k17 : ACode := .seq F133_k6 F133_k16
@[go_sem] theorem F133_k17_r : CE F133_k17.eq_1 := CEM F133_k17.eq_1
def F133_k18 : ACode := .seq F133_k3 F133_k17
@[go_sem] theorem F133_k18_r : CE F133_k18.eq_1 := CEM F133_k18.eq_1
def F133 : AFun := ⟨2, 26, [.l 4 (some 8), .t 5], .seq (.reg true F133_r0) F133_k18⟩
def F401_k0 : ACode := .seq (.reg true [⟨0, some 3, none, .mov (.t 0), []⟩,
⟨1, some 4, none, .isnil 1 false (.t 3), []⟩]) (.cond (.t 4) (.seq (.reg true [⟨0, some 2, none, .mov (.c (.nils)), []⟩]) (.ret)) (.skip))
@[go_sem] theorem F401_k0_r : CE F401_k0.eq_1 := CEM F401_k0.eq_1
def F401_r1 : List AOper := [⟨0, some 5, none, .mov (.c (.lst 1 [] true)), []⟩,
⟨1, some 6, none, .mov (.t 0), []⟩,
⟨2, some 7, none, .app 1 (.t 5) (.t 6), []⟩,
⟨3, some 2, none, .mov (.t 7), []⟩]
@[go_sem] theorem F401_r1_r : OE F401_r1.eq_1 := OEM F401_r1.eq_1
def F401_k2 : ACode := .seq (.reg true F401_r1) (.ret)
@[go_sem] theorem F401_k2_r : CE F401_k2.eq_1 := CEM F401_k2.eq_1
def F401_k3 : ACode := .seq F401_k0 F401_k2
@[go_sem] theorem F401_k3_r : CE F401_k3.eq_1 := CEM F401_k3.eq_1
def F401 : AFun := ⟨1, 8, [.t 2], .seq (.reg true [⟨0, some 2, none, .mov (.c (.nils)), []⟩]) F401_k3⟩
def F1373_k0 : ACode := .seq (.reg true [⟨0, some 3, none, .mov (.t 0), []⟩,
⟨1, some 4, none, .isnil 1 false (.t 3), []⟩]) (.cond (.t 4) (.seq (.reg true [⟨0, some 2, none, .mov (.c (.nils)), []⟩]) (.ret)) (.skip))
@[go_sem] theorem F1373_k0_r : CE F1373_k0.eq_1 := CEM F1373_k0.eq_1
def F1373_r1 : List AOper := [⟨0, some 5, none, .mov (.c (.lst 2 [] true)), []⟩,
⟨1, some 6, none, .mov (.t 0), []⟩,
⟨2, some 7, none, .app 2 (.t 5) (.t 6), []⟩,
⟨3, some 2, none, .mov (.t 7), []⟩]
@[go_sem] theorem F1373_r1_r : OE F1373_r1.eq_1 := OEM F1373_r1.eq_1
def F1373_k2 : ACode := .seq (.reg true F1373_r1) (.ret)
@[go_sem] theorem F1373_k2_r : CE F1373_k2.eq_1 := CEM F1373_k2.eq_1
def F1373_k3 : ACode := .seq F1373_k0 F1373_k2
@[go_sem] theorem F1373_k3_r : CE F1373_k3.eq_1 := CEM F1373_k3.eq_1
def F1373 : AFun := ⟨1, 8, [.t 2], .seq (.reg true [⟨0, some 2, none, .mov (.c (.nils)), []⟩]) F1373_k3⟩
def F1085_r0 : List AOper := [⟨0, some 3, none, .nop 1, []⟩,
⟨1, some 4, none, .lload 1 3 none, []⟩,
⟨3, some 6, none, .nop 1, []⟩,
⟨4, some 7, none, .lload 1 4 none, []⟩,
⟨2, some 5, none, .call 401 [.t 4], []⟩,
⟨6, some 9, none, .nop 1, []⟩,
⟨5, some 8, none, .call 1373 [.t 7], []⟩,
⟨7, none, none, .lstore 1 3 1 (.t 5), []⟩,
⟨8, some 10, none, .nop 1, []⟩,
⟨9, none, none, .lstore 1 4 1 (.t 8), []⟩]
@[go_sem] theorem F1085_r0_r : OE F1085_r0.eq_1 := OEM F1085_r0.eq_1
def F1085_k1 : ACode := .seq (.reg true F1085_r0) (.seq (.reg true [⟨0, some 11, none, .lload 1 0 (some 5), []⟩,
⟨1, none, none, .lstore 2 0 5 (.t 11), []⟩]) (.ret))
@[go_sem] theorem F1085_k1_r : CE F1085_k1.eq_1 := CEM F1085_k1.eq_1
def F1085 : AFun := ⟨1, 12, [.l 2 (some 5)], .seq (.reg true [⟨0, some 1, none, .lbox 5 (.t 0), []⟩,
⟨1, some 2, none, .lalloc (.agg [.int .i64 0, .int .i64 0, .int .i64 0, .nils, .nils]), []⟩]) F1085_k1⟩
def F798_r0 : List AOper := [⟨0, some 6, none, .nop 1, []⟩,
⟨1, some 7, none, .lload 1 0 none, []⟩,
⟨2, some 8, none, .len (.t 7), []⟩,
⟨3, some 9, none, .mksl 5 (.agg [.int .i64 0, .int .i64 0, .int .i64 0, .nils, .nils]) (.c (.int .i64 0)) (.t 8), []⟩,
⟨4, some 10, none, .build (.agg [.nils]) [(0, 1, .t 9)], []⟩,
⟨5, some 3, none, .lalloc (.agg [.nils]), []⟩,
⟨6, none, none, .lstore 3 0 1 (.t 10), []⟩]
@[go_sem] theorem F798_r0_r : OE F798_r0.eq_1 := OEM F798_r0.eq_1
def F798_r1 : List AOper := [⟨0, some 11, none, .nop 1, []⟩,
⟨1, some 12, none, .lload 1 0 none, []⟩,
⟨2, some 13, none, .len (.t 12), []⟩,
⟨3, some 14, none, .mov (.c (.int .i64 0)), []⟩]
@[go_sem] theorem F798_r1_r : OE F798_r1.eq_1 := OEM F798_r1.eq_1
def F798_r2 : List AOper := [⟨0, some 16, none, .iaddr 5 (.t 12) (.t 14), []⟩,
⟨1, some 17, none, .load (some 5) (.t 16), []⟩,
⟨2, some 5, none, .lalloc (.agg [.int .i64 0, .int .i64 0, .int .i64 0, .nils, .nils]), []⟩,
⟨3, none, none, .lstore 5 0 5 (.t 17), []⟩]
@[go_sem] theorem F798_r2_r : OE F798_r2.eq_1 := OEM F798_r2.eq_1
def F798_r3 : List AOper := [⟨0, some 18, none, .nop 3, []⟩,
⟨1, some 19, none, .lload 3 0 none, []⟩,
⟨2, some 20, none, .lload 5 0 (some 5), []⟩,
⟨3, some 21, none, .call 1085 [.t 20], []⟩,
⟨4, some 22, none, .bslice 5 (.agg [.int .i64 0, .int .i64 0, .int .i64 0, .nils, .nils]) 1 [(0, .t 21)], []⟩,
⟨5, some 23, none, .app 5 (.t 19) (.t 22), []⟩,
⟨6, some 24, none, .nop 3, []⟩,
⟨7, none, none, .lstore 3 0 1 (.t 23), []⟩]
@[go_sem] theorem F798_r3_r : OE F798_r3.eq_1 := OEM F798_r3.eq_1
def F798_k4 : ACode := .seq (.reg true F798_r2) (.reg true F798_r3)
@[go_sem] theorem F798_k4_r : CE F798_k4.eq_1 := CEM F798_k4.eq_1
def F798_k5 : ACode := .blk 1 F798_k4
@[go_sem] theorem F798_k5_r : CE F798_k5.eq_1 := CEM F798_k5.eq_1
def F798_k6 : ACode := .seq F798_k5 (.reg true [⟨0, some 25, none, .bin .add (.t 14) (.c (.int .i64 1)), []⟩,
⟨1, some 14, none, .mov (.t 25), []⟩])
@[go_sem] theorem F798_k6_r : CE F798_k6.eq_1 := CEM F798_k6.eq_1
def F798_k7 : ACode := .seq (.cond (.t 15) (.skip) (.exit 0)) F798_k6
@[go_sem] theorem F798_k7_r : CE F798_k7.eq_1 := CEM F798_k7.eq_1
def F798_k8 : ACode := .seq (.reg true [⟨0, some 15, none, .bin .lss (.t 14) (.t 13), []⟩]) F798_k7
@[go_sem] theorem F798_k8_r : CE F798_k8.eq_1 := CEM F798_k8.eq_1
def F798_k9 : ACode := .loop F798_k8
@[go_sem] theorem F798_k9_r : CE F798_k9.eq_1 := CEM F798_k9.eq_1
def F798_k10 : ACode := .blk 0 F798_k9
@[go_sem] theorem F798_k10_r : CE F798_k10.eq_1 := CEM F798_k10.eq_1
def F798_k11 : ACode := .seq (.reg true F798_r1) F798_k10
@[go_sem] theorem F798_k11_r : CE F798_k11.eq_1 := CEM F798_k11.eq_1
def F798_k12 : ACode := .seq F798_k11 (.seq (.reg true [⟨0, some 26, none, .lload 3 0 (some 1), []⟩,
⟨1, none, none, .lstore 2 0 1 (.t 26), []⟩]) (.ret))
@[go_sem] theorem F798_k12_r : CE F798_k12.eq_1 := CEM F798_k12.eq_1
def F798_k13 : ACode := .seq (.reg true F798_r0) F798_k12
@[go_sem] theorem F798_k13_r : CE F798_k13.eq_1 := CEM F798_k13.eq_1
def F798 : AFun := ⟨1, 27, [.l 2 (some 1)], .seq (.reg true [⟨0, some 1, none, .lbox 1 (.t 0), []⟩,
⟨1, some 2, none, .lalloc (.agg [.nils]), []⟩]) F798_k13⟩
def F797_r0 : List AOper := [⟨0, some 6, none, .mov (.t 0), []⟩,
⟨1, some 7, none, .len (.t 6), []⟩,
⟨2, some 8, none, .mov (.c (.int .i64 0)), []⟩]
@[go_sem] theorem F797_r0_r : OE F797_r0.eq_1 := OEM F797_r0.eq_1
def F797_r1 : List AOper := [⟨0, some 10, none, .iaddr 1 (.t 6) (.t 8), []⟩,
⟨1, some 11, none, .load (some 1) (.t 10), []⟩,
⟨2, some 5, none, .lalloc (.agg [.nils]), []⟩,
⟨3, none, none, .lstore 5 0 1 (.t 11), []⟩]
@[go_sem] theorem F797_r1_r : OE F797_r1.eq_1 := OEM F797_r1.eq_1
def F797_r2 : List AOper := [⟨0, some 12, none, .mov (.t 3), []⟩,
⟨1, some 13, none, .lload 5 0 (some 1), []⟩,
⟨2, some 14, none, .call 798 [.t 13], []⟩,
⟨3, some 15, none, .bslice 1 (.agg [.nils]) 1 [(0, .t 14)], []⟩,
⟨4, some 16, none, .app 1 (.t 12) (.t 15), []⟩,
⟨5, some 3, none, .mov (.t 16), []⟩]
@[go_sem] theorem F797_r2_r : OE F797_r2.eq_1 := OEM F797_r2.eq_1
def F797_k3 : ACode := .seq (.reg true F797_r1) (.reg true F797_r2)
@[go_sem] theorem F797_k3_r : CE F797_k3.eq_1 := CEM F797_k3.eq_1
def F797_k4 : ACode := .blk 1 F797_k3
@[go_sem] theorem F797_k4_r : CE F797_k4.eq_1 := CEM F797_k4.eq_1
def F797_k5 : ACode := .seq F797_k4 (.reg true [⟨0, some 17, none, .bin .add (.t 8) (.c (.int .i64 1)), []⟩,
⟨1, some 8, none, .mov (.t 17), []⟩])
@[go_sem] theorem F797_k5_r : CE F797_k5.eq_1 := CEM F797_k5.eq_1
def F797_k6 : ACode := .seq (.cond (.t 9) (.skip) (.exit 0)) F797_k5
@[go_sem] theorem F797_k6_r : CE F797_k6.eq_1 := CEM F797_k6.eq_1
def F797_k7 : ACode := .seq (.reg true [⟨0, some 9, none, .bin .lss (.t 8) (.t 7), []⟩]) F797_k6
@[go_sem] theorem F797_k7_r : CE F797_k7.eq_1 := CEM F797_k7.eq_1
def F797_k8 : ACode := .loop F797_k7
@[go_sem] theorem F797_k8_r : CE F797_k8.eq_1 := CEM F797_k8.eq_1
def F797_k9 : ACode := .blk 0 F797_k8
@[go_sem] theorem F797_k9_r : CE F797_k9.eq_1 := CEM F797_k9.eq_1
def F797_k10 : ACode := .seq (.reg true F797_r0) F797_k9
@[go_sem] theorem F797_k10_r : CE F797_k10.eq_1 := CEM F797_k10.eq_1
def F797_k11 : ACode := .seq F797_k10 (.seq (.reg true [⟨0, some 18, none, .mov (.t 3), []⟩,
⟨1, some 2, none, .mov (.t 18), []⟩]) (.ret))
@[go_sem] theorem F797_k11_r : CE F797_k11.eq_1 := CEM F797_k11.eq_1
def F797_k12 : ACode := .seq (.reg true [⟨0, some 3, none, .mov (.c (.nils)), []⟩]) F797_k11
@[go_sem] theorem F797_k12_r : CE F797_k12.eq_1 := CEM F797_k12.eq_1
def F797 : AFun := ⟨1, 19, [.t 2], .seq (.reg true [⟨0, some 2, none, .mov (.c (.nils)), []⟩]) F797_k12⟩
def F799_k0 : ACode := .seq (.reg true [⟨0, some 3, none, .mov (.t 0), []⟩,
⟨1, some 4, none, .isnil 1 false (.t 3), []⟩]) (.cond (.t 4) (.seq (.reg true [⟨0, some 2, none, .mov (.c (.nils)), []⟩]) (.ret)) (.skip))
@[go_sem] theorem F799_k0_r : CE F799_k0.eq_1 := CEM F799_k0.eq_1
def F799_r1 : List AOper := [⟨0, some 5, none, .mov (.c (.lst 3 [] true)), []⟩,
⟨1, some 6, none, .mov (.t 0), []⟩,
⟨2, some 7, none, .app 3 (.t 5) (.t 6), []⟩,
⟨3, some 2, none, .mov (.t 7), []⟩]
@[go_sem] theorem F799_r1_r : OE F799_r1.eq_1 := OEM F799_r1.eq_1
def F799_k2 : ACode := .seq (.reg true F799_r1) (.ret)
@[go_sem] theorem F799_k2_r : CE F799_k2.eq_1 := CEM F799_k2.eq_1
def F799_k3 : ACode := .seq F799_k0 F799_k2
@[go_sem] theorem F799_k3_r : CE F799_k3.eq_1 := CEM F799_k3.eq_1
def F799 : AFun := ⟨1, 8, [.t 2], .seq (.reg true [⟨0, some 2, none, .mov (.c (.nils)), []⟩]) F799_k3⟩
def F800_k0 : ACode := .seq (.reg true [⟨0, some 3, none, .mov (.t 0), []⟩,
⟨1, some 4, none, .isnil 1 false (.t 3), []⟩]) (.cond (.t 4) (.seq (.reg true [⟨0, some 2, none, .mov (.c (.nils)), []⟩]) (.ret)) (.skip))
@[go_sem] theorem F800_k0_r : CE F800_k0.eq_1 := CEM F800_k0.eq_1
def F800_r1 : List AOper := [⟨0, some 5, none, .mov (.c (.lst 2 [] true)), []⟩,
⟨1, some 6, none, .mov (.t 0), []⟩,
⟨2, some 7, none, .app 2 (.t 5) (.t 6), []⟩,
⟨3, some 2, none, .mov (.t 7), []⟩]
@[go_sem] theorem F800_r1_r : OE F800_r1.eq_1 := OEM F800_r1.eq_1
def F800_k2 : ACode := .seq (.reg true F800_r1) (.ret)
@[go_sem] theorem F800_k2_r : CE F800_k2.eq_1 := CEM F800_k2.eq_1
def F800_k3 : ACode := .seq F800_k0 F800_k2
@[go_sem] theorem F800_k3_r : CE F800_k3.eq_1 := CEM F800_k3.eq_1
def F800 : AFun := ⟨1, 8, [.t 2], .seq (.reg true [⟨0, some 2, none, .mov (.c (.nils)), []⟩]) F800_k3⟩
def F429_r0 : List AOper := [⟨0, some 6, none, .nop 1, []⟩,
⟨1, some 7, none, .lload 1 7 none, []⟩,
⟨2, some 3, none, .mov (.t 7), []⟩]
@[go_sem] theorem F429_r0_r : OE F429_r0.eq_1 := OEM F429_r0.eq_1
def F429_r1 : List AOper := [⟨0, some 8, none, .nop 1, []⟩,
⟨1, some 9, none, .lload 1 0 none, []⟩,
⟨3, some 11, none, .nop 1, []⟩,
⟨4, some 12, none, .lload 1 1 none, []⟩,
⟨6, some 14, none, .nop 1, []⟩,
⟨7, some 15, none, .lload 1 4 (some 1), []⟩,
⟨9, some 17, none, .nop 1, []⟩,
⟨10, some 18, none, .lload 1 5 none, []⟩,
⟨12, some 20, none, .nop 1, []⟩,
⟨13, some 21, none, .lload 1 6 none, []⟩,
⟨2, some 10, none, .call 797 [.t 9], []⟩,
⟨15, some 23, none, .nop 1, []⟩,
⟨5, some 13, none, .call 401 [.t 12], []⟩,
⟨8, some 16, none, .call 798 [.t 15], []⟩,
⟨11, some 19, none, .call 799 [.t 18], []⟩,
⟨14, some 22, none, .call 800 [.t 21], []⟩,
⟨16, none, none, .lstore 1 0 1 (.t 10), []⟩,
⟨17, some 24, none, .nop 1, []⟩,
⟨18, none, none, .lstore 1 1 1 (.t 13), []⟩,
⟨19, some 25, none, .nop 1, []⟩,
⟨20, none, none, .lstore 1 4 1 (.t 16), []⟩,
⟨21, some 26, none, .nop 1, []⟩,
⟨22, none, none, .lstore 1 5 1 (.t 19), []⟩,
⟨23, some 27, none, .nop 1, []⟩,
⟨24, none, none, .lstore 1 6 1 (.t 22), []⟩,
⟨25, some 28, none, .nop 1, []⟩,
⟨26, none, none, .lstore 1 7 1 (.c (.nils)), []⟩]
@[go_sem] theorem F429_r1_r : OE F429_r1.eq_1 := OEM F429_r1.eq_1
def F429_r2 : List AOper := [⟨0, some 29, none, .mov (.t 3), []⟩,
⟨1, some 30, none, .len (.t 29), []⟩,
⟨2, some 31, none, .mov (.c (.int .i64 0)), []⟩]
@[go_sem] theorem F429_r2_r : OE F429_r2.eq_1 := OEM F429_r2.eq_1
def F429_r3 : List AOper := [⟨0, some 33, none, .iaddr 3 (.t 29) (.t 31), []⟩,
⟨1, some 34, none, .load (some 3) (.t 33), []⟩,
⟨2, some 5, none, .lalloc (.agg [.int .i64 0, .nils, .nils]), []⟩,
⟨3, none, none, .lstore 5 0 3 (.t 34), []⟩]
@[go_sem] theorem F429_r3_r : OE F429_r3.eq_1 := OEM F429_r3.eq_1
def F429_r4 : List AOper := [⟨0, some 35, none, .nop 1, []⟩,
⟨1, some 36, none, .lload 1 7 none, []⟩,
⟨2, some 37, none, .nop 5, []⟩,
⟨3, some 38, none, .lload 5 0 none, []⟩,
⟨4, some 39, none, .nop 5, []⟩,
⟨5, some 40, none, .lload 5 1 (some 1), []⟩,
⟨7, some 42, none, .nop 5, []⟩,
⟨8, some 43, none, .lload 5 2 none, []⟩,
⟨6, some 41, none, .call 798 [.t 40], []⟩,
⟨9, some 44, none, .call 799 [.t 43], []⟩,
⟨10, some 45, none, .build (.agg [.int .i64 0, .nils, .nils]) [(0, 1, .t 38), (1, 1, .t 41), (2, 1, .t 44)], []⟩,
⟨11, some 46, none, .bslice 3 (.agg [.int .i64 0, .nils, .nils]) 1 [(0, .t 45)], []⟩,
⟨12, some 47, none, .app 3 (.t 36) (.t 46), []⟩,
⟨13, some 48, none, .nop 1, []⟩,
⟨14, none, none, .lstore 1 7 1 (.t 47), []⟩]
@[go_sem] theorem F429_r4_r : OE F429_r4.eq_1 := OEM F429_r4.eq_1
def F429_k5 : ACode := .seq (.reg true F429_r3) (.reg true F429_r4)
@[go_sem] theorem F429_k5_r : CE F429_k5.eq_1 := CEM F429_k5.eq_1
def F429_k6 : ACode := .blk 1 F429_k5
@[go_sem] theorem F429_k6_r : CE F429_k6.eq_1 := CEM F429_k6.eq_1
def F429_k7 : ACode := .seq F429_k6 (.reg true [⟨0, some 49, none, .bin .add (.t 31) (.c (.int .i64 1)), []⟩,
⟨1, some 31, none, .mov (.t 49), []⟩])
@[go_sem] theorem F429_k7_r : CE F429_k7.eq_1 := CEM F429_k7.eq_1
def F429_k8 : ACode := .seq (.cond (.t 32) (.skip) (.exit 0)) F429_k7
@[go_sem] theorem F429_k8_r : CE F429_k8.eq_1 := CEM F429_k8.eq_1
def F429_k9 : ACode := .seq (.reg true [⟨0, some 32, none, .bin .lss (.t 31) (.t 30), []⟩]) F429_k8
@[go_sem] theorem F429_k9_r : CE F429_k9.eq_1 := CEM F429_k9.eq_1
def F429_k10 : ACode := .loop F429_k9
@[go_sem] theorem F429_k10_r : CE F429_k10.eq_1 := CEM F429_k10.eq_1
def F429_k11 : ACode := .blk 0 F429_k10
@[go_sem] theorem F429_k11_r : CE F429_k11.eq_1 := CEM F429_k11.eq_1
def F429_k12 : ACode := .seq (.reg true F429_r2) F429_k11
@[go_sem] theorem F429_k12_r : CE F429_k12.eq_1 := CEM F429_k12.eq_1
def F429_k13 : ACode := .seq F429_k12 (.seq (.reg true [⟨0, some 50, none, .lload 1 0 (some 8), []⟩,
⟨1, none, none, .lstore 2 0 8 (.t 50), []⟩]) (.ret))
@[go_sem] theorem F429_k13_r : CE F429_k13.eq_1 := CEM F429_k13.eq_1
def F429_k14 : ACode := .seq (.reg true F429_r1) F429_k13
@[go_sem] theorem F429_k14_r : CE F429_k14.eq_1 := CEM F429_k14.eq_1
def F429_k15 : ACode := .seq (.reg true F429_r0) F429_k14
@[go_sem] theorem F429_k15_r : CE F429_k15.eq_1 := CEM F429_k15.eq_1
def F429 : AFun := ⟨1, 51, [.l 2 (some 8)], .seq (.reg true [⟨0, some 1, none, .lbox 8 (.t 0), []⟩,
⟨1, some 2, none, .lalloc (.agg [.nils, .nils, .int .i64 0, .int .i64 0, .nils, .nils, .nils, .nils]), []⟩]) F429_k15⟩
def F135_r0 : List AOper := [⟨0, some 2, none, .lbox 8 (.t 0), []⟩,
⟨1, some 3, none, .lbox 2 (.t 1), []⟩,
⟨2, some 4, none, .lalloc (.agg [.nils, .nils, .int .i64 0, .int .i64 0, .nils, .nils, .nils, .nils]), []⟩,
⟨3, some 5, none, .mov (.c (.int .i64 0)), []⟩]
@[go_sem] theorem F135_r0_r : OE F135_r0.eq_1 := OEM F135_r0.eq_1
def F135_r1 : List AOper := [⟨0, some 8, none, .lload 2 0 (some 8), []⟩,
⟨1, some 9, none, .call 373 [.t 8], []⟩,
⟨2, some 10, none, .not (.t 9), []⟩,
⟨3, some 7, none, .mov (.t 10), []⟩]
@[go_sem] theorem F135_r1_r : OE F135_r1.eq_1 := OEM F135_r1.eq_1
def F135_r2 : List AOper := [⟨0, some 11, none, .build (.agg [.nils, .nils, .int .i64 0, .int .i64 0, .nils, .nils, .nils, .nils]) [], []⟩,
⟨1, none, none, .lstore 4 0 8 (.t 11), []⟩,
⟨2, some 5, none, .mov (.c (.int .i64 1)), []⟩]
@[go_sem] theorem F135_r2_r : OE F135_r2.eq_1 := OEM F135_r2.eq_1
def F135_r3 : List AOper := [⟨0, some 13, none, .lload 3 0 (some 2), []⟩,
⟨1, some 14, none, .call 428 [.t 13], []⟩,
⟨2, some 15, none, .not (.t 14), []⟩,
⟨3, some 12, none, .mov (.t 15), []⟩]
@[go_sem] theorem F135_r3_r : OE F135_r3.eq_1 := OEM F135_r3.eq_1
def F135_r4 : List AOper := [⟨0, some 16, none, .build (.agg [.nils, .nils, .int .i64 0, .int .i64 0, .nils, .nils, .nils, .nils]) [], []⟩,
⟨1, none, none, .lstore 4 0 8 (.t 16), []⟩,
⟨2, some 5, none, .mov (.c (.int .i64 2)), []⟩]
@[go_sem] theorem F135_r4_r : OE F135_r4.eq_1 := OEM F135_r4.eq_1
def F135_r5 : List AOper := [⟨0, some 18, none, .nop 2, []⟩,
⟨1, some 19, none, .lload 2 6 none, []⟩,
⟨2, some 20, none, .len (.t 19), []⟩,
⟨3, some 21, none, .bin .eql (.t 20) (.c (.int .i64 8)), []⟩,
⟨4, some 17, none, .mov (.t 21), []⟩]
@[go_sem] theorem F135_r5_r : OE F135_r5.eq_1 := OEM F135_r5.eq_1
def F135_r6 : List AOper := [⟨0, some 22, none, .build (.agg [.nils, .nils, .int .i64 0, .int .i64 0, .nils, .nils, .nils, .nils]) [], []⟩,
⟨1, none, none, .lstore 4 0 8 (.t 22), []⟩,
⟨2, some 5, none, .mov (.c (.int .i64 4)), []⟩]
@[go_sem] theorem F135_r6_r : OE F135_r6.eq_1 := OEM F135_r6.eq_1
def F135_k7 : ACode := .cond (.t 17) (.seq (.reg true F135_r6) (.ret)) (.skip)
@[go_sem] theorem F135_k7_r : CE F135_k7.eq_1 := CEM F135_k7.eq_1
def F135_k8 : ACode := .seq (.reg true F135_r5) F135_k7
@[go_sem] theorem F135_k8_r : CE F135_k8.eq_1 := CEM F135_k8.eq_1
def F135_k9 : ACode := .cond (.t 12) (.seq (.reg true F135_r4) (.ret)) F135_k8
@[go_sem] theorem F135_k9_r : CE F135_k9.eq_1 := CEM F135_k9.eq_1
def F135_k10 : ACode := .seq (.reg true F135_r3) F135_k9
@[go_sem] theorem F135_k10_r : CE F135_k10.eq_1 := CEM F135_k10.eq_1
def F135_k11 : ACode := .cond (.t 7) (.seq (.reg true F135_r2) (.ret)) F135_k10
@[go_sem] theorem F135_k11_r : CE F135_k11.eq_1 := CEM F135_k11.eq_1
def F135_k12 : ACode := .seq (.reg true F135_r1) F135_k11
@[go_sem] theorem F135_k12_r : CE F135_k12.eq_1 := CEM F135_k12.eq_1
def F135_k13 : ACode := .blk 0 F135_k12
@[go_sem] theorem F135_k13_r : CE F135_k13.eq_1 := CEM F135_k13.eq_1
def F135_r14 : List AOper := [⟨0, some 23, none, .lload 2 0 (some 8), []⟩,
⟨1, some 24, none, .call 429 [.t 23], []⟩,
⟨2, some 6, none, .lalloc (.agg [.nils, .nils, .int .i64 0, .int .i64 0, .nils, .nils, .nils, .nils]), []⟩,
⟨3, none, none, .lstore 6 0 8 (.t 24), []⟩]
@[go_sem] theorem F135_r14_r : OE F135_r14.eq_1 := OEM F135_r14.eq_1
def F135_r15 : List AOper := [⟨0, some 25, none, .nop 6, []⟩,
⟨1, some 26, none, .lload 6 6 none, []⟩,
⟨2, some 27, none, .lload 3 0 (some 2), []⟩,
⟨3, some 28, none, .bslice 2 (.agg [.int .i64 0, .int .i64 0]) 1 [(0, .t 27)], []⟩,
⟨4, some 29, none, .app 2 (.t 26) (.t 28), []⟩,
⟨5, some 30, none, .nop 6, []⟩,
⟨6, none, none, .lstore 6 6 1 (.t 29), []⟩]
@[go_sem] theorem F135_r15_r : OE F135_r15.eq_1 := OEM F135_r15.eq_1
def F135_r16 : List AOper := [⟨0, some 31, none, .lload 6 0 (some 8), []⟩,
⟨1, none, none, .lstore 4 0 8 (.t 31), []⟩,
⟨2, some 5, none, .mov (.c (.int .i64 0)), []⟩]
@[go_sem] theorem F135_r16_r : OE F135_r16.eq_1 := OEM F135_r16.eq_1
def F135_k17 : ACode := .seq (.reg true F135_r15) (.seq (.reg true F135_r16) (.ret))
@[go_sem] theorem F135_k17_r : CE F135_k17.eq_1 := CEM F135_k17.eq_1
def F135_k18 : ACode := .seq (.reg true F135_r14) F135_k17
@[go_sem] theorem F135_k18_r : CE F135_k18.eq_1 := CEM F135_k18.eq_1
def F135_k19 : ACode := .seq F135_k13 F135_k18
@[go_sem] theorem F135_k19_r : CE F135_k19.eq_1 := CEM F135_k19.eq_1
def F135 : AFun := ⟨2, 32, [.l 4 (some 8), .t 5], .seq (.reg true F135_r0) F135_k19⟩
def F90_r0 : List AOper := [⟨0, some 6, none, .mov (.t 5), []⟩,
⟨1, some 7, none, .mov (.t 0), []⟩,
⟨2, some 8, none, .len (.t 7), []⟩,
⟨3, some 9, none, .bin .lss (.t 6) (.t 8), []⟩]
@[go_sem] theorem F90_r0_r : OE F90_r0.eq_1 := OEM F90_r0.eq_1
def F90_k1 : ACode := .seq (.reg true F90_r0) (.cond (.t 9) (.skip) (.exit 0))
@[go_sem] theorem F90_k1_r : CE F90_k1.eq_1 := CEM F90_k1.eq_1
def F90_r2 : List AOper := [⟨0, some 12, none, .mov (.t 0), []⟩,
⟨1, some 13, none, .mov (.t 5), []⟩,
⟨2, some 14, none, .mov (.t 1), []⟩,
⟨3, some 15, none, .iaddr 1 (.t 12) (.t 13), []⟩,
⟨4, none, none, .store 1 (.t 15) (.t 14), []⟩]
@[go_sem] theorem F90_r2_r : OE F90_r2.eq_1 := OEM F90_r2.eq_1
def F90_r3 : List AOper := [⟨0, some 16, none, .mov (.t 1), []⟩,
⟨1, some 17, none, .bin .add (.t 16) (.c (.int .i64 1)), []⟩,
⟨2, some 1, none, .mov (.t 17), []⟩]
@[go_sem] theorem F90_r3_r : OE F90_r3.eq_1 := OEM F90_r3.eq_1
def F90_k4 : ACode := .seq (.reg true F90_r2) (.reg true F90_r3)
@[go_sem] theorem F90_k4_r : CE F90_k4.eq_1 := CEM F90_k4.eq_1
def F90_k5 : ACode := .blk 1 F90_k4
@[go_sem] theorem F90_k5_r : CE F90_k5.eq_1 := CEM F90_k5.eq_1
def F90_r6 : List AOper := [⟨0, some 10, none, .mov (.t 5), []⟩,
⟨1, some 11, none, .bin .add (.t 10) (.c (.int .i64 1)), []⟩,
⟨2, some 5, none, .mov (.t 11), []⟩]
@[go_sem] theorem F90_r6_r : OE F90_r6.eq_1 := OEM F90_r6.eq_1
def F90_k7 : ACode := .seq F90_k5 (.reg true F90_r6)
@[go_sem] theorem F90_k7_r : CE F90_k7.eq_1 := CEM F90_k7.eq_1
def F90_k8 : ACode := .seq F90_k1 F90_k7
@[go_sem] theorem F90_k8_r : CE F90_k8.eq_1 := CEM F90_k8.eq_1
def F90_k9 : ACode := .loop F90_k8
@[go_sem] theorem F90_k9_r : CE F90_k9.eq_1 := CEM F90_k9.eq_1
def F90_k10 : ACode := .blk 0 F90_k9
@[go_sem] theorem F90_k10_r : CE F90_k10.eq_1 := CEM F90_k10.eq_1
def F90_k11 : ACode := .seq (.reg true [⟨0, some 5, none, .mov (.c (.int .i64 0)), []⟩]) F90_k10
@[go_sem] theorem F90_k11_r : CE F90_k11.eq_1 := CEM F90_k11.eq_1
def F90_k12 : ACode := .seq F90_k11 (.seq (.reg true [⟨0, some 18, none, .mov (.t 1), []⟩,
⟨1, some 4, none, .mov (.t 18), []⟩]) (.ret))
@[go_sem] theorem F90_k12_r : CE F90_k12.eq_1 := CEM F90_k12.eq_1
def F90 : AFun := ⟨2, 19, [.t 4], .seq (.reg true [⟨0, some 4, none, .mov (.c (.int .i64 0)), []⟩]) F90_k12⟩
def F885_r0 : List AOper := [⟨0, some 6, none, .mov (.t 5), []⟩,
⟨1, some 7, none, .mov (.t 0), []⟩,
⟨2, some 8, none, .len (.t 7), []⟩,
⟨3, some 9, none, .bin .lss (.t 6) (.t 8), []⟩]
@[go_sem] theorem F885_r0_r : OE F885_r0.eq_1 := OEM F885_r0.eq_1
def F885_k1 : ACode := .seq (.reg true F885_r0) (.cond (.t 9) (.skip) (.exit 0))
@[go_sem] theorem F885_k1_r : CE F885_k1.eq_1 := CEM F885_k1.eq_1
def F885_r2 : List AOper := [⟨0, some 12, none, .mov (.t 0), []⟩,
⟨1, some 13, none, .mov (.t 5), []⟩,
⟨2, some 14, none, .mov (.t 1), []⟩,
⟨3, some 15, none, .iaddr 2 (.t 12) (.t 13), []⟩,
⟨4, some 16, none, .faddr 0 (.t 15), []⟩,
⟨5, none, none, .store 1 (.t 16) (.t 14), []⟩]
@[go_sem] theorem F885_r2_r : OE F885_r2.eq_1 := OEM F885_r2.eq_1
def F885_r3 : List AOper := [⟨0, some 17, none, .mov (.t 1), []⟩,
⟨1, some 18, none, .bin .add (.t 17) (.c (.int .i64 1)), []⟩,
⟨2, some 1, none, .mov (.t 18), []⟩]
@[go_sem] theorem F885_r3_r : OE F885_r3.eq_1 := OEM F885_r3.eq_1
def F885_r4 : List AOper := [⟨0, some 19, none, .mov (.t 0), []⟩,
⟨1, some 20, none, .mov (.t 5), []⟩,
⟨2, some 21, none, .mov (.t 1), []⟩,
⟨3, some 22, none, .iaddr 2 (.t 19) (.t 20), []⟩,
⟨4, some 23, none, .faddr 1 (.t 22), []⟩,
⟨5, none, none, .store 1 (.t 23) (.t 21), []⟩]
@[go_sem] theorem F885_r4_r : OE F885_r4.eq_1 := OEM F885_r4.eq_1
def F885_r5 : List AOper := [⟨0, some 24, none, .mov (.t 1), []⟩,
⟨1, some 25, none, .bin .add (.t 24) (.c (.int .i64 1)), []⟩,
⟨2, some 1, none, .mov (.t 25), []⟩]
@[go_sem] theorem F885_r5_r : OE F885_r5.eq_1 := OEM F885_r5.eq_1
def F885_k6 : ACode := .seq (.reg true F885_r4) (.reg true F885_r5)
@[go_sem] theorem F885_k6_r : CE F885_k6.eq_1 := CEM F885_k6.eq_1
def F885_k7 : ACode := .seq (.reg true F885_r3) F885_k6
@[go_sem] theorem F885_k7_r : CE F885_k7.eq_1 := CEM F885_k7.eq_1
def F885_k8 : ACode := .seq (.reg true F885_r2) F885_k7
@[go_sem] theorem F885_k8_r : CE F885_k8.eq_1 := CEM F885_k8.eq_1
def F885_k9 : ACode := .blk 1 F885_k8
@[go_sem] theorem F885_k9_r : CE F885_k9.eq_1 := CEM F885_k9.eq_1
def F885_r10 : List AOper := [⟨0, some 10, none, .mov (.t 5), []⟩,
⟨1, some 11, none, .bin .add (.t 10) (.c (.int .i64 1)), []⟩,
⟨2, some 5, none, .mov (.t 11), []⟩]
@[go_sem] theorem F885_r10_r : OE F885_r10.eq_1 := OEM F885_r10.eq_1
def F885_k11 : ACode := .seq F885_k9 (.reg true F885_r10)
@[go_sem] theorem F885_k11_r : CE F885_k11.eq_1 := CEM F885_k11.eq_1
def F885_k12 : ACode := .seq F885_k1 F885_k11
@[go_sem] theorem F885_k12_r : CE F885_k12.eq_1 := CEM F885_k12.eq_1
def F885_k13 : ACode := .loop F885_k12
@[go_sem] theorem F885_k13_r : CE F885_k13.eq_1 := CEM F885_k13.eq_1
def F885_k14 : ACode := .blk 0 F885_k13
@[go_sem] theorem F885_k14_r : CE F885_k14.eq_1 := CEM F885_k14.eq_1
def F885_k15 : ACode := .seq (.reg true [⟨0, some 5, none, .mov (.c (.int .i64 0)), []⟩]) F885_k14
@[go_sem] theorem F885_k15_r : CE F885_k15.eq_1 := CEM F885_k15.eq_1
def F885_k16 : ACode := .seq F885_k15 (.seq (.reg true [⟨0, some 26, none, .mov (.t 1), []⟩,
⟨1, some 4, none, .mov (.t 26), []⟩]) (.ret))
@[go_sem] theorem F885_k16_r : CE F885_k16.eq_1 := CEM F885_k16.eq_1
def F885 : AFun := ⟨2, 27, [.t 4], .seq (.reg true [⟨0, some 4, none, .mov (.c (.int .i64 0)), []⟩]) F885_k16⟩
def F524_r0 : List AOper := [⟨0, some 6, none, .mov (.t 5), []⟩,
⟨1, some 7, none, .mov (.t 0), []⟩,
⟨2, some 8, none, .len (.t 7), []⟩,
⟨3, some 9, none, .bin .lss (.t 6) (.t 8), []⟩]
@[go_sem] theorem F524_r0_r : OE F524_r0.eq_1 := OEM F524_r0.eq_1
def F524_k1 : ACode := .seq (.reg true F524_r0) (.cond (.t 9) (.skip) (.exit 0))
@[go_sem] theorem F524_k1_r : CE F524_k1.eq_1 := CEM F524_k1.eq_1
def F524_r2 : List AOper := [⟨0, some 12, none, .mov (.t 0), []⟩,
⟨1, some 13, none, .mov (.t 5), []⟩,
⟨2, some 14, none, .mov (.t 1), []⟩,
⟨3, some 15, none, .iaddr 5 (.t 12) (.t 13), []⟩,
⟨4, some 16, none, .faddr 0 (.t 15), []⟩,
⟨5, none, none, .store 1 (.t 16) (.t 14), []⟩]
@[go_sem] theorem F524_r2_r : OE F524_r2.eq_1 := OEM F524_r2.eq_1
def F524_r3 : List AOper := [⟨0, some 17, none, .mov (.t 1), []⟩,
⟨1, some 18, none, .bin .add (.t 17) (.c (.int .i64 1)), []⟩,
⟨2, some 1, none, .mov (.t 18), []⟩]
@[go_sem] theorem F524_r3_r : OE F524_r3.eq_1 := OEM F524_r3.eq_1
def F524_r4 : List AOper := [⟨0, some 19, none, .mov (.t 0), []⟩,
⟨1, some 20, none, .mov (.t 5), []⟩,
⟨2, some 21, none, .mov (.t 1), []⟩,
⟨3, some 22, none, .iaddr 5 (.t 19) (.t 20), []⟩,
⟨4, some 23, none, .faddr 1 (.t 22), []⟩,
⟨5, none, none, .store 1 (.t 23) (.t 21), []⟩]
@[go_sem] theorem F524_r4_r : OE F524_r4.eq_1 := OEM F524_r4.eq_1
def F524_r5 : List AOper := [⟨0, some 24, none, .mov (.t 1), []⟩,
⟨1, some 25, none, .bin .add (.t 24) (.c (.int .i64 1)), []⟩,
⟨2, some 1, none, .mov (.t 25), []⟩]
@[go_sem] theorem F524_r5_r : OE F524_r5.eq_1 := OEM F524_r5.eq_1
def F524_r6 : List AOper := [⟨0, some 26, none, .mov (.t 0), []⟩,
⟨1, some 27, none, .mov (.t 5), []⟩,
⟨2, some 28, none, .mov (.t 1), []⟩,
⟨3, some 29, none, .iaddr 5 (.t 26) (.t 27), []⟩,
⟨4, some 30, none, .faddr 2 (.t 29), []⟩,
⟨5, none, none, .store 1 (.t 30) (.t 28), []⟩]
@[go_sem] theorem F524_r6_r : OE F524_r6.eq_1 := OEM F524_r6.eq_1
def F524_r7 : List AOper := [⟨0, some 31, none, .mov (.t 1), []⟩,
⟨1, some 32, none, .bin .add (.t 31) (.c (.int .i64 1)), []⟩,
⟨2, some 1, none, .mov (.t 32), []⟩]
@[go_sem] theorem F524_r7_r : OE F524_r7.eq_1 := OEM F524_r7.eq_1
def F524_r8 : List AOper := [⟨0, some 33, none, .mov (.t 0), []⟩,
⟨1, some 34, none, .mov (.t 5), []⟩,
⟨2, some 35, none, .iaddr 5 (.t 33) (.t 34), []⟩,
⟨3, some 36, none, .faddr 3 (.t 35), []⟩,
⟨4, some 37, none, .load none (.t 36), []⟩,
⟨5, some 38, none, .mov (.t 1), []⟩,
⟨6, some 39, none, .call 90 [.t 37, .t 38], []⟩,
⟨7, some 1, none, .mov (.t 39), []⟩]
@[go_sem] theorem F524_r8_r : OE F524_r8.eq_1 := OEM F524_r8.eq_1
def F524_r9 : List AOper := [⟨0, some 40, none, .mov (.t 0), []⟩,
⟨1, some 41, none, .mov (.t 5), []⟩,
⟨2, some 42, none, .iaddr 5 (.t 40) (.t 41), []⟩,
⟨3, some 43, none, .faddr 4 (.t 42), []⟩,
⟨4, some 44, none, .load none (.t 43), []⟩,
⟨5, some 45, none, .mov (.t 1), []⟩,
⟨6, some 46, none, .call 885 [.t 44, .t 45], []⟩,
⟨7, some 1, none, .mov (.t 46), []⟩]
@[go_sem] theorem F524_r9_r : OE F524_r9.eq_1 := OEM F524_r9.eq_1
def F524_k10 : ACode := .seq (.reg true F524_r8) (.reg true F524_r9)
@[go_sem] theorem F524_k10_r : CE F524_k10.eq_1 := CEM F524_k10.eq_1
def F524_k11 : ACode := .seq (.reg true F524_r7) F524_k10
@[go_sem] theorem F524_k11_r : CE F524_k11.eq_1 := CEM F524_k11.eq_1
def F524_k12 : ACode := .seq (.reg true F524_r6) F524_k11
@[go_sem] theorem F524_k12_r : CE F524_k12.eq_1 := CEM F524_k12.eq_1
def F524_k13 : ACode := .seq (.reg true F524_r5) F524_k12
@[go_sem] theorem F524_k13_r : CE F524_k13.eq_1 := CEM F524_k13.eq_1
def F524_k14 : ACode := .seq (.reg true F524_r4) F524_k13
@[go_sem] theorem F524_k14_r : CE F524_k14.eq_1 := CEM F524_k14.eq_1
def F524_k15 : ACode := .seq (.reg true F524_r3) F524_k14
@[go_sem] theorem F524_k15_r : CE F524_k15.eq_1 := CEM F524_k15.eq_1
def F524_k16 : ACode := .seq (.reg true F524_r2) F524_k15
@[go_sem] theorem F524_k16_r : CE F524_k16.eq_1 := CEM F524_k16.eq_1
def F524_k17 : ACode := .blk 1 F524_k16
@[go_sem] theorem F524_k17_r : CE F524_k17.eq_1 := CEM F524_k17.eq_1
def F524_r18 : List AOper := [⟨0, some 10, none, .mov (.t 5), []⟩,
⟨1, some 11, none, .bin .add (.t 10) (.c (.int .i64 1)), []⟩,
⟨2, some 5, none, .mov (.t 11), []⟩]
@[go_sem] theorem F524_r18_r : OE F524_r18.eq_1 := OEM F524_r18.eq_1
def F524_k19 : ACode := .seq F524_k17 (.reg true F524_r18)
@[go_sem] theorem F524_k19_r : CE F524_k19.eq_1 := CEM F524_k19.eq_1
def F524_k20 : ACode := .seq F524_k1 F524_k19
@[go_sem] theorem F524_k20_r : CE F524_k20.eq_1 := CEM F524_k20.eq_1
def F524_k21 : ACode := .loop F524_k20
@[go_sem] theorem F524_k21_r : CE F524_k21.eq_1 := CEM F524_k21.eq_1
def F524_k22 : ACode := .blk 0 F524_k21
@[go_sem] theorem F524_k22_r : CE F524_k22.eq_1 := CEM F524_k22.eq_1
def F524_k23 : ACode := .seq (.reg true [⟨0, some 5, none, .mov (.c (.int .i64 0)), []⟩]) F524_k22
@[go_sem] theorem F524_k23_r : CE F524_k23.eq_1 := CEM F524_k23.eq_1
def F524_k24 : ACode := .seq F524_k23 (.seq (.reg true [⟨0, some 47, none, .mov (.t 1), []⟩,
⟨1, some 4, none, .mov (.t 47), []⟩]) (.ret))
@[go_sem] theorem F524_k24_r : CE F524_k24.eq_1 := CEM F524_k24.eq_1
def F524 : AFun := ⟨2, 48, [.t 4], .seq (.reg true [⟨0, some 4, none, .mov (.c (.int .i64 0)), []⟩]) F524_k24⟩
def F198_r0 : List AOper := [⟨0, some 5, none, .nop 2, []⟩,
⟨1, some 6, none, .lload 2 0 none, []⟩,
⟨2, some 7, none, .mov (.t 1), []⟩,
⟨3, some 8, none, .call 524 [.t 6, .t 7], []⟩,
⟨4, some 1, none, .mov (.t 8), []⟩]
@[go_sem] theorem F198_r0_r : OE F198_r0.eq_1 := OEM F198_r0.eq_1
def F198_k1 : ACode := .seq (.reg true F198_r0) (.seq (.reg true [⟨0, some 9, none, .mov (.t 1), []⟩,
⟨1, some 4, none, .mov (.t 9), []⟩]) (.ret))
@[go_sem] theorem F198_k1_r : CE F198_k1.eq_1 := CEM F198_k1.eq_1
def F198 : AFun := ⟨2, 10, [.t 4], .seq (.reg true [⟨0, some 2, none, .lbox 1 (.t 0), []⟩,
⟨1, some 4, none, .mov (.c (.int .i64 0)), []⟩]) F198_k1⟩
def F225_r0 : List AOper := [⟨0, some 6, none, .mov (.t 5), []⟩,
⟨1, some 7, none, .mov (.t 0), []⟩,
⟨2, some 8, none, .len (.t 7), []⟩,
⟨3, some 9, none, .bin .lss (.t 6) (.t 8), []⟩]
@[go_sem] theorem F225_r0_r : OE F225_r0.eq_1 := OEM F225_r0.eq_1
def F225_k1 : ACode := .seq (.reg true F225_r0) (.cond (.t 9) (.skip) (.exit 0))
@[go_sem] theorem F225_k1_r : CE F225_k1.eq_1 := CEM F225_k1.eq_1
def F225_r2 : List AOper := [⟨0, some 12, none, .mov (.t 0), []⟩,
⟨1, some 13, none, .mov (.t 5), []⟩,
⟨2, some 14, none, .iaddr 1 (.t 12) (.t 13), []⟩,
⟨3, some 15, none, .faddr 0 (.t 14), []⟩,
⟨4, some 16, none, .load none (.t 15), []⟩,
⟨5, some 17, none, .mov (.t 1), []⟩,
⟨6, some 18, none, .call 524 [.t 16, .t 17], []⟩,
⟨7, some 1, none, .mov (.t 18), []⟩]
@[go_sem] theorem F225_r2_r : OE F225_r2.eq_1 := OEM F225_r2.eq_1
def F225_k3 : ACode := .blk 1 (.reg true F225_r2)
@[go_sem] theorem F225_k3_r : CE F225_k3.eq_1 := CEM F225_k3.eq_1
def F225_r4 : List AOper := [⟨0, some 10, none, .mov (.t 5), []⟩,
⟨1, some 11, none, .bin .add (.t 10) (.c (.int .i64 1)), []⟩,
⟨2, some 5, none, .mov (.t 11), []⟩]
@[go_sem] theorem F225_r4_r : OE F225_r4.eq_1 := OEM F225_r4.eq_1
def F225_k5 : ACode := .seq F225_k3 (.reg true F225_r4)
@[go_sem] theorem F225_k5_r : CE F225_k5.eq_1 := CEM F225_k5.eq_1
def F225_k6 : ACode := .seq F225_k1 F225_k5
@[go_sem] theorem F225_k6_r : CE F225_k6.eq_1 := CEM F225_k6.eq_1
def F225_k7 : ACode := .loop F225_k6
@[go_sem] theorem F225_k7_r : CE F225_k7.eq_1 := CEM F225_k7.eq_1
def F225_k8 : ACode := .blk 0 F225_k7
@[go_sem] theorem F225_k8_r : CE F225_k8.eq_1 := CEM F225_k8.eq_1
def F225_k9 : ACode := .seq (.reg true [⟨0, some 5, none, .mov (.c (.int .i64 0)), []⟩]) F225_k8
@[go_sem] theorem F225_k9_r : CE F225_k9.eq_1 := CEM F225_k9.eq_1
def F225_k10 : ACode := .seq F225_k9 (.seq (.reg true [⟨0, some 19, none, .mov (.t 1), []⟩,
⟨1, some 4, none, .mov (.t 19), []⟩]) (.ret))
@[go_sem] theorem F225_k10_r : CE F225_k10.eq_1 := CEM F225_k10.eq_1
def F225 : AFun := ⟨2, 20, [.t 4], .seq (.reg true [⟨0, some 4, none, .mov (.c (.int .i64 0)), []⟩]) F225_k10⟩
def F430_r0 : List AOper := [⟨0, some 6, none, .mov (.t 5), []⟩,
⟨1, some 7, none, .mov (.t 0), []⟩,
⟨2, some 8, none, .len (.t 7), []⟩,
⟨3, some 9, none, .bin .lss (.t 6) (.t 8), []⟩]
@[go_sem] theorem F430_r0_r : OE F430_r0.eq_1 := OEM F430_r0.eq_1
def F430_k1 : ACode := .seq (.reg true F430_r0) (.cond (.t 9) (.skip) (.exit 0))
@[go_sem] theorem F430_k1_r : CE F430_k1.eq_1 := CEM F430_k1.eq_1
def F430_r2 : List AOper := [⟨0, some 12, none, .mov (.t 0), []⟩,
⟨1, some 13, none, .mov (.t 5), []⟩,
⟨2, some 14, none, .mov (.t 1), []⟩,
⟨3, some 15, none, .iaddr 3 (.t 12) (.t 13), []⟩,
⟨4, some 16, none, .faddr 0 (.t 15), []⟩,
⟨5, none, none, .store 1 (.t 16) (.t 14), []⟩]
@[go_sem] theorem F430_r2_r : OE F430_r2.eq_1 := OEM F430_r2.eq_1
def F430_r3 : List AOper := [⟨0, some 17, none, .mov (.t 1), []⟩,
⟨1, some 18, none, .bin .add (.t 17) (.c (.int .i64 1)), []⟩,
⟨2, some 1, none, .mov (.t 18), []⟩]
@[go_sem] theorem F430_r3_r : OE F430_r3.eq_1 := OEM F430_r3.eq_1
def F430_r4 : List AOper := [⟨0, some 19, none, .mov (.t 0), []⟩,
⟨1, some 20, none, .mov (.t 5), []⟩,
⟨2, some 21, none, .mov (.t 1), []⟩,
⟨3, some 22, none, .iaddr 3 (.t 19) (.t 20), []⟩,
⟨4, some 23, none, .faddr 1 (.t 22), []⟩,
⟨5, none, none, .store 1 (.t 23) (.t 21), []⟩]
@[go_sem] theorem F430_r4_r : OE F430_r4.eq_1 := OEM F430_r4.eq_1
def F430_r5 : List AOper := [⟨0, some 24, none, .mov (.t 1), []⟩,
⟨1, some 25, none, .bin .add (.t 24) (.c (.int .i64 1)), []⟩,
⟨2, some 1, none, .mov (.t 25), []⟩]
@[go_sem] theorem F430_r5_r : OE F430_r5.eq_1 := OEM F430_r5.eq_1
def F430_r6 : List AOper := [⟨0, some 26, none, .mov (.t 0), []⟩,
⟨1, some 27, none, .mov (.t 5), []⟩,
⟨2, some 28, none, .mov (.t 1), []⟩,
⟨3, some 29, none, .iaddr 3 (.t 26) (.t 27), []⟩,
⟨4, some 30, none, .faddr 2 (.t 29), []⟩,
⟨5, none, none, .store 1 (.t 30) (.t 28), []⟩]
@[go_sem] theorem F430_r6_r : OE F430_r6.eq_1 := OEM F430_r6.eq_1
def F430_r7 : List AOper := [⟨0, some 31, none, .mov (.t 1), []⟩,
⟨1, some 32, none, .bin .add (.t 31) (.c (.int .i64 1)), []⟩,
⟨2, some 1, none, .mov (.t 32), []⟩]
@[go_sem] theorem F430_r7_r : OE F430_r7.eq_1 := OEM F430_r7.eq_1
def F430_k8 : ACode := .seq (.reg true F430_r6) (.reg true F430_r7)
@[go_sem] theorem F430_k8_r : CE F430_k8.eq_1 := CEM F430_k8.eq_1
def F430_k9 : ACode := .seq (.reg true F430_r5) F430_k8
@[go_sem] theorem F430_k9_r : CE F430_k9.eq_1 := CEM F430_k9.eq_1
def F430_k10 : ACode := .seq (.reg true F430_r4) F430_k9
@[go_sem] theorem F430_k10_r : CE F430_k10.eq_1 := CEM F430_k10.eq_1
def F430_k11 : ACode := .seq (.reg true F430_r3) F430_k10
@[go_sem] theorem F430_k11_r : CE F430_k11.eq_1 := CEM F430_k11.eq_1
def F430_k12 : ACode := .seq (.reg true F430_r2) F430_k11
@[go_sem] theorem F430_k12_r : CE F430_k12.eq_1 := CEM F430_k12.eq_1
def F430_k13 : ACode := .blk 1 F430_k12
@[go_sem] theorem F430_k13_r : CE F430_k13.eq_1 := CEM F430_k13.eq_1
def F430_r14 : List AOper := [⟨0, some 10, none, .mov (.t 5), []⟩,
⟨1, some 11, none, .bin .add (.t 10) (.c (.int .i64 1)), []⟩,
⟨2, some 5, none, .mov (.t 11), []⟩]
@[go_sem] theorem F430_r14_r : OE F430_r14.eq_1 := OEM F430_r14.eq_1
def F430_k15 : ACode := .seq F430_k13 (.reg true F430_r14)
@[go_sem] theorem F430_k15_r : CE F430_k15.eq_1 := CEM F430_k15.eq_1
def F430_k16 : ACode := .seq F430_k1 F430_k15
@[go_sem] theorem F430_k16_r : CE F430_k16.eq_1 := CEM F430_k16.eq_1
def F430_k17 : ACode := .loop F430_k16
@[go_sem] theorem F430_k17_r : CE F430_k17.eq_1 := CEM F430_k17.eq_1
def F430_k18 : ACode := .blk 0 F430_k17
@[go_sem] theorem F430_k18_r : CE F430_k18.eq_1 := CEM F430_k18.eq_1
def F430_k19 : ACode := .seq (.reg true [⟨0, some 5, none, .mov (.c (.int .i64 0)), []⟩]) F430_k18
@[go_sem] theorem F430_k19_r : CE F430_k19.eq_1 := CEM F430_k19.eq_1
def F430_k20 : ACode := .seq F430_k19 (.seq (.reg true [⟨0, some 33, none, .mov (.t 1), []⟩,
⟨1, some 4, none, .mov (.t 33), []⟩]) (.ret))
@[go_sem] theorem F430_k20_r : CE F430_k20.eq_1 := CEM F430_k20.eq_1
def F430 : AFun := ⟨2, 34, [.t 4], .seq (.reg true [⟨0, some 4, none, .mov (.c (.int .i64 0)), []⟩]) F430_k20⟩
def F431_r0 : List AOper := [⟨0, some 6, none, .mov (.t 5), []⟩,
⟨1, some 7, none, .mov (.t 0), []⟩,
⟨2, some 8, none, .len (.t 7), []⟩,
⟨3, some 9, none, .bin .lss (.t 6) (.t 8), []⟩]
@[go_sem] theorem F431_r0_r : OE F431_r0.eq_1 := OEM F431_r0.eq_1
def F431_k1 : ACode := .seq (.reg true F431_r0) (.cond (.t 9) (.skip) (.exit 0))
@[go_sem] theorem F431_k1_r : CE F431_k1.eq_1 := CEM F431_k1.eq_1
def F431_r2 : List AOper := [⟨0, some 12, none, .mov (.t 0), []⟩,
⟨1, some 13, none, .mov (.t 5), []⟩,
⟨2, some 14, none, .mov (.t 1), []⟩,
⟨3, some 15, none, .iaddr 2 (.t 12) (.t 13), []⟩,
⟨4, some 16, none, .faddr 0 (.t 15), []⟩,
⟨5, none, none, .store 1 (.t 16) (.t 14), []⟩]
@[go_sem] theorem F431_r2_r : OE F431_r2.eq_1 := OEM F431_r2.eq_1
def F431_r3 : List AOper := [⟨0, some 17, none, .mov (.t 1), []⟩,
⟨1, some 18, none, .bin .add (.t 17) (.c (.int .i64 1)), []⟩,
⟨2, some 1, none, .mov (.t 18), []⟩]
@[go_sem] theorem F431_r3_r : OE F431_r3.eq_1 := OEM F431_r3.eq_1
def F431_r4 : List AOper := [⟨0, some 19, none, .mov (.t 0), []⟩,
⟨1, some 20, none, .mov (.t 5), []⟩,
⟨2, some 21, none, .mov (.t 1), []⟩,
⟨3, some 22, none, .iaddr 2 (.t 19) (.t 20), []⟩,
⟨4, some 23, none, .faddr 1 (.t 22), []⟩,
⟨5, none, none, .store 1 (.t 23) (.t 21), []⟩]
@[go_sem] theorem F431_r4_r : OE F431_r4.eq_1 := OEM F431_r4.eq_1
def F431_r5 : List AOper := [⟨0, some 24, none, .mov (.t 1), []⟩,
⟨1, some 25, none, .bin .add (.t 24) (.c (.int .i64 1)), []⟩,
⟨2, some 1, none, .mov (.t 25), []⟩]
@[go_sem] theorem F431_r5_r : OE F431_r5.eq_1 := OEM F431_r5.eq_1
def F431_k6 : ACode := .seq (.reg true F431_r4) (.reg true F431_r5)
@[go_sem] theorem F431_k6_r : CE F431_k6.eq_1 := CEM F431_k6.eq_1
def F431_k7 : ACode := .seq (.reg true F431_r3) F431_k6
@[go_sem] theorem F431_k7_r : CE F431_k7.eq_1 := CEM F431_k7.eq_1
def F431_k8 : ACode := .seq (.reg true F431_r2) F431_k7
@[go_sem] theorem F431_k8_r : CE F431_k8.eq_1 := CEM F431_k8.eq_1
def F431_k9 : ACode := .blk 1 F431_k8
@[go_sem] theorem F431_k9_r : CE F431_k9.eq_1 := CEM F431_k9.eq_1
def F431_r10 : List AOper := [⟨0, some 10, none, .mov (.t 5), []⟩,
⟨1, some 11, none, .bin .add (.t 10) (.c (.int .i64 1)), []⟩,
⟨2, some 5, none, .mov (.t 11), []⟩]
@[go_sem] theorem F431_r10_r : OE F431_r10.eq_1 := OEM F431_r10.eq_1
def F431_k11 : ACode := .seq F431_k9 (.reg true F431_r10)
@[go_sem] theorem F431_k11_r : CE F431_k11.eq_1 := CEM F431_k11.eq_1
def F431_k12 : ACode := .seq F431_k1 F431_k11
@[go_sem] theorem F431_k12_r : CE F431_k12.eq_1 := CEM F431_k12.eq_1
def F431_k13 : ACode := .loop F431_k12
@[go_sem] theorem F431_k13_r : CE F431_k13.eq_1 := CEM F431_k13.eq_1
def F431_k14 : ACode := .blk 0 F431_k13
@[go_sem] theorem F431_k14_r : CE F431_k14.eq_1 := CEM F431_k14.eq_1
def F431_k15 : ACode := .seq (.reg true [⟨0, some 5, none, .mov (.c (.int .i64 0)), []⟩]) F431_k14
@[go_sem] theorem F431_k15_r : CE F431_k15.eq_1 := CEM F431_k15.eq_1
def F431_k16 : ACode := .seq F431_k15 (.seq (.reg true [⟨0, some 26, none, .mov (.t 1), []⟩,
⟨1, some 4, none, .mov (.t 26), []⟩]) (.ret))
@[go_sem] theorem F431_k16_r : CE F431_k16.eq_1 := CEM F431_k16.eq_1
def F431 : AFun := ⟨2, 27, [.t 4], .seq (.reg true [⟨0, some 4, none, .mov (.c (.int .i64 0)), []⟩]) F431_k16⟩
def F432_r0 : List AOper := [⟨0, some 6, none, .mov (.t 5), []⟩,
⟨1, some 7, none, .mov (.t 0), []⟩,
⟨2, some 8, none, .len (.t 7), []⟩,
⟨3, some 9, none, .bin .lss (.t 6) (.t 8), []⟩]
@[go_sem] theorem F432_r0_r : OE F432_r0.eq_1 := OEM F432_r0.eq_1
def F432_k1 : ACode := .seq (.reg true F432_r0) (.cond (.t 9) (.skip) (.exit 0))
@[go_sem] theorem F432_k1_r : CE F432_k1.eq_1 := CEM F432_k1.eq_1
def F432_r2 : List AOper := [⟨0, some 12, none, .mov (.t 0), []⟩,
⟨1, some 13, none, .mov (.t 5), []⟩,
⟨2, some 14, none, .mov (.t 1), []⟩,
⟨3, some 15, none, .iaddr 3 (.t 12) (.t 13), []⟩,
⟨4, some 16, none, .faddr 0 (.t 15), []⟩,
⟨5, none, none, .store 1 (.t 16) (.t 14), []⟩]
@[go_sem] theorem F432_r2_r : OE F432_r2.eq_1 := OEM F432_r2.eq_1
def F432_r3 : List AOper := [⟨0, some 17, none, .mov (.t 1), []⟩,
⟨1, some 18, none, .bin .add (.t 17) (.c (.int .i64 1)), []⟩,
⟨2, some 1, none, .mov (.t 18), []⟩]
@[go_sem] theorem F432_r3_r : OE F432_r3.eq_1 := OEM F432_r3.eq_1
def F432_r4 : List AOper := [⟨0, some 19, none, .mov (.t 0), []⟩,
⟨1, some 20, none, .mov (.t 5), []⟩,
⟨2, some 21, none, .iaddr 3 (.t 19) (.t 20), []⟩,
⟨3, some 22, none, .faddr 1 (.t 21), []⟩,
⟨4, some 23, none, .faddr 0 (.t 22), []⟩,
⟨5, some 24, none, .load none (.t 23), []⟩,
⟨6, some 25, none, .mov (.t 1), []⟩,
⟨7, some 26, none, .call 524 [.t 24, .t 25], []⟩,
⟨8, some 1, none, .mov (.t 26), []⟩]
@[go_sem] theorem F432_r4_r : OE F432_r4.eq_1 := OEM F432_r4.eq_1
def F432_r5 : List AOper := [⟨0, some 27, none, .mov (.t 0), []⟩,
⟨1, some 28, none, .mov (.t 5), []⟩,
⟨2, some 29, none, .iaddr 3 (.t 27) (.t 28), []⟩,
⟨3, some 30, none, .faddr 2 (.t 29), []⟩,
⟨4, some 31, none, .load none (.t 30), []⟩,
⟨5, some 32, none, .mov (.t 1), []⟩,
⟨6, some 33, none, .call 430 [.t 31, .t 32], []⟩,
⟨7, some 1, none, .mov (.t 33), []⟩]
@[go_sem] theorem F432_r5_r : OE F432_r5.eq_1 := OEM F432_r5.eq_1
def F432_k6 : ACode := .seq (.reg true F432_r4) (.reg true F432_r5)
@[go_sem] theorem F432_k6_r : CE F432_k6.eq_1 := CEM F432_k6.eq_1
def F432_k7 : ACode := .seq (.reg true F432_r3) F432_k6
@[go_sem] theorem F432_k7_r : CE F432_k7.eq_1 := CEM F432_k7.eq_1
def F432_k8 : ACode := .seq (.reg true F432_r2) F432_k7
@[go_sem] theorem F432_k8_r : CE F432_k8.eq_1 := CEM F432_k8.eq_1
def F432_k9 : ACode := .blk 1 F432_k8
@[go_sem] theorem F432_k9_r : CE F432_k9.eq_1 := CEM F432_k9.eq_1
def F432_r10 : List AOper := [⟨0, some 10, none, .mov (.t 5), []⟩,
⟨1, some 11, none, .bin .add (.t 10) (.c (.int .i64 1)), []⟩,
⟨2, some 5, none, .mov (.t 11), []⟩]
@[go_sem] theorem F432_r10_r : OE F432_r10.eq_1 := OEM F432_r10.eq_1
def F432_k11 : ACode := .seq F432_k9 (.reg true F432_r10)
@[go_sem] theorem F432_k11_r : CE F432_k11.eq_1 := CEM F432_k11.eq_1
def F432_k12 : ACode := .seq F432_k1 F432_k11
@[go_sem] theorem F432_k12_r : CE F432_k12.eq_1 := CEM F432_k12.eq_1
def F432_k13 : ACode := .loop F432_k12
@[go_sem] theorem F432_k13_r : CE F432_k13.eq_1 := CEM F432_k13.eq_1
def F432_k14 : ACode := .blk 0 F432_k13
@[go_sem] theorem F432_k14_r : CE F432_k14.eq_1 := CEM F432_k14.eq_1
def F432_k15 : ACode := .seq (.reg true [⟨0, some 5, none, .mov (.c (.int .i64 0)), []⟩]) F432_k14
@[go_sem] theorem F432_k15_r : CE F432_k15.eq_1 := CEM F432_k15.eq_1
def F432_k16 : ACode := .seq F432_k15 (.seq (.reg true [⟨0, some 34, none, .mov (.t 1), []⟩,
⟨1, some 4, none, .mov (.t 34), []⟩]) (.ret))
@[go_sem] theorem F432_k16_r : CE F432_k16.eq_1 := CEM F432_k16.eq_1
def F432 : AFun := ⟨2, 35, [.t 4], .seq (.reg true [⟨0, some 4, none, .mov (.c (.int .i64 0)), []⟩]) F432_k16⟩
def F136_r0 : List AOper := [⟨0, some 5, none, .nop 2, []⟩,
⟨1, some 6, none, .lload 2 0 none, []⟩,
⟨2, some 7, none, .mov (.t 1), []⟩,
⟨3, some 8, none, .call 225 [.t 6, .t 7], []⟩,
⟨4, some 1, none, .mov (.t 8), []⟩]
@[go_sem] theorem F136_r0_r : OE F136_r0.eq_1 := OEM F136_r0.eq_1
def F136_r1 : List AOper := [⟨0, some 9, none, .nop 2, []⟩,
⟨1, some 10, none, .lload 2 1 none, []⟩,
⟨2, some 11, none, .mov (.t 1), []⟩,
⟨3, some 12, none, .call 90 [.t 10, .t 11], []⟩,
⟨4, some 1, none, .mov (.t 12), []⟩]
@[go_sem] theorem F136_r1_r : OE F136_r1.eq_1 := OEM F136_r1.eq_1
def F136_r2 : List AOper := [⟨0, some 13, none, .nop 2, []⟩,
⟨1, some 14, none, .lload 2 4 (some 1), []⟩,
⟨2, some 15, none, .mov (.t 1), []⟩,
⟨3, some 16, none, .call 198 [.t 14, .t 15], []⟩,
⟨4, some 1, none, .mov (.t 16), []⟩]
@[go_sem] theorem F136_r2_r : OE F136_r2.eq_1 := OEM F136_r2.eq_1
def F136_r3 : List AOper := [⟨0, some 17, none, .nop 2, []⟩,
⟨1, some 18, none, .lload 2 5 none, []⟩,
⟨2, some 19, none, .mov (.t 1), []⟩,
⟨3, some 20, none, .call 430 [.t 18, .t 19], []⟩,
⟨4, some 1, none, .mov (.t 20), []⟩]
@[go_sem] theorem F136_r3_r : OE F136_r3.eq_1 := OEM F136_r3.eq_1
def F136_r4 : List AOper := [⟨0, some 21, none, .nop 2, []⟩,
⟨1, some 22, none, .lload 2 6 none, []⟩,
⟨2, some 23, none, .mov (.t 1), []⟩,
⟨3, some 24, none, .call 431 [.t 22, .t 23], []⟩,
⟨4, some 1, none, .mov (.t 24), []⟩]
@[go_sem] theorem F136_r4_r : OE F136_r4.eq_1 := OEM F136_r4.eq_1
def F136_r5 : List AOper := [⟨0, some 25, none, .nop 2, []⟩,
⟨1, some 26, none, .lload 2 7 none, []⟩,
⟨2, some 27, none, .mov (.t 1), []⟩,
⟨3, some 28, none, .call 432 [.t 26, .t 27], []⟩,
⟨4, some 1, none, .mov (.t 28), []⟩]
@[go_sem] theorem F136_r5_r : OE F136_r5.eq_1 := OEM F136_r5.eq_1
def F136_k6 : ACode := .seq (.reg true F136_r5) (.seq (.reg true [⟨0, some 29, none, .mov (.t 1), []⟩,
⟨1, some 4, none, .mov (.t 29), []⟩]) (.ret))
@[go_sem] theorem F136_k6_r : CE F136_k6.eq_1 := CEM F136_k6.eq_1
def F136_k7 : ACode := .seq (.reg true F136_r4) F136_k6
@[go_sem] theorem F136_k7_r : CE F136_k7.eq_1 := CEM F136_k7.eq_1
def F136_k8 : ACode := .seq (.reg true F136_r3) F136_k7
@[go_sem] theorem F136_k8_r : CE F136_k8.eq_1 := CEM F136_k8.eq_1
def F136_k9 : ACode := .seq (.reg true F136_r2) F136_k8
@[go_sem] theorem F136_k9_r : CE F136_k9.eq_1 := CEM F136_k9.eq_1
def F136_k10 : ACode := .seq (.reg true F136_r1) F136_k9
@[go_sem] theorem F136_k10_r : CE F136_k10.eq_1 := CEM F136_k10.eq_1
def F136_k11 : ACode := .seq (.reg true F136_r0) F136_k10
@[go_sem] theorem F136_k11_r : CE F136_k11.eq_1 := CEM F136_k11.eq_1
def F136 : AFun := ⟨2, 30, [.t 4], .seq (.reg true [⟨0, some 2, none, .lbox 8 (.t 0), []⟩,
⟨1, some 4, none, .mov (.c (.int .i64 0)), []⟩]) F136_k11⟩
def F92_r0 : List AOper := [⟨0, some 6, none, .mov (.t 5), []⟩,
⟨1, some 7, none, .mov (.t 0), []⟩,
⟨2, some 8, none, .len (.t 7), []⟩,
⟨3, some 9, none, .bin .lss (.t 6) (.t 8), []⟩]
@[go_sem] theorem F92_r0_r : OE F92_r0.eq_1 := OEM F92_r0.eq_1
def F92_k1 : ACode := .seq (.reg true F92_r0) (.cond (.t 9) (.skip) (.exit 0))
@[go_sem] theorem F92_k1_r : CE F92_k1.eq_1 := CEM F92_k1.eq_1
def F92_r2 : List AOper := [⟨0, some 12, none, .mov (.t 0), []⟩,
⟨1, some 13, none, .mov (.t 5), []⟩,
⟨2, some 14, none, .iaddr 1 (.t 12) (.t 13), []⟩,
⟨3, some 15, none, .load none (.t 14), []⟩,
⟨4, some 16, none, .mov (.t 1), []⟩,
⟨5, some 17, none, .bin .neq (.t 15) (.t 16), []⟩]
@[go_sem] theorem F92_r2_r : OE F92_r2.eq_1 := OEM F92_r2.eq_1
def F92_k3 : ACode := .seq (.reg true F92_r2) (.cond (.t 17) (.seq (.reg true [⟨0, some 4, none, .mov (.c (.int .i64 (-1))), []⟩]) (.ret)) (.skip))
@[go_sem] theorem F92_k3_r : CE F92_k3.eq_1 := CEM F92_k3.eq_1
def F92_r4 : List AOper := [⟨0, some 18, none, .mov (.t 1), []⟩,
⟨1, some 19, none, .bin .add (.t 18) (.c (.int .i64 1)), []⟩,
⟨2, some 1, none, .mov (.t 19), []⟩]
@[go_sem] theorem F92_r4_r : OE F92_r4.eq_1 := OEM F92_r4.eq_1
def F92_k5 : ACode := .seq F92_k3 (.reg true F92_r4)
@[go_sem] theorem F92_k5_r : CE F92_k5.eq_1 := CEM F92_k5.eq_1
def F92_k6 : ACode := .blk 1 F92_k5
@[go_sem] theorem F92_k6_r : CE F92_k6.eq_1 := CEM F92_k6.eq_1
def F92_r7 : List AOper := [⟨0, some 10, none, .mov (.t 5), []⟩,
⟨1, some 11, none, .bin .add (.t 10) (.c (.int .i64 1)), []⟩,
⟨2, some 5, none, .mov (.t 11), []⟩]
@[go_sem] theorem F92_r7_r : OE F92_r7.eq_1 := OEM F92_r7.eq_1
def F92_k8 : ACode := .seq F92_k6 (.reg true F92_r7)
@[go_sem] theorem F92_k8_r : CE F92_k8.eq_1 := CEM F92_k8.eq_1
def F92_k9 : ACode := .seq F92_k1 F92_k8
@[go_sem] theorem F92_k9_r : CE F92_k9.eq_1 := CEM F92_k9.eq_1
def F92_k10 : ACode := .loop F92_k9
@[go_sem] theorem F92_k10_r : CE F92_k10.eq_1 := CEM F92_k10.eq_1
def F92_k11 : ACode := .blk 0 F92_k10
@[go_sem] theorem F92_k11_r : CE F92_k11.eq_1 := CEM F92_k11.eq_1
def F92_k12 : ACode := .seq (.reg true [⟨0, some 5, none, .mov (.c (.int .i64 0)), []⟩]) F92_k11
@[go_sem] theorem F92_k12_r : CE F92_k12.eq_1 := CEM F92_k12.eq_1
def F92_k13 : ACode := .seq F92_k12 (.seq (.reg true [⟨0, some 20, none, .mov (.t 1), []⟩,
⟨1, some 4, none, .mov (.t 20), []⟩]) (.ret))
@[go_sem] theorem F92_k13_r : CE F92_k13.eq_1 := CEM F92_k13.eq_1
def F92 : AFun := ⟨2, 21, [.t 4], .seq (.reg true [⟨0, some 4, none, .mov (.c (.int .i64 0)), []⟩]) F92_k13⟩
def F886_r0 : List AOper := [⟨0, some 6, none, .mov (.t 5), []⟩,
⟨1, some 7, none, .mov (.t 0), []⟩,
⟨2, some 8, none, .len (.t 7), []⟩,
⟨3, some 9, none, .bin .lss (.t 6) (.t 8), []⟩]
@[go_sem] theorem F886_r0_r : OE F886_r0.eq_1 := OEM F886_r0.eq_1
def F886_k1 : ACode := .seq (.reg true F886_r0) (.cond (.t 9) (.skip) (.exit 0))
@[go_sem] theorem F886_k1_r : CE F886_k1.eq_1 := CEM F886_k1.eq_1
def F886_r2 : List AOper := [⟨0, some 12, none, .mov (.t 0), []⟩,
⟨1, some 13, none, .mov (.t 5), []⟩,
⟨2, some 14, none, .iaddr 2 (.t 12) (.t 13), []⟩,
⟨3, some 15, none, .faddr 0 (.t 14), []⟩,
⟨4, some 16, none, .load none (.t 15), []⟩,
⟨5, some 17, none, .mov (.t 1), []⟩,
⟨6, some 18, none, .bin .neq (.t 16) (.t 17), []⟩]
@[go_sem] theorem F886_r2_r : OE F886_r2.eq_1 := OEM F886_r2.eq_1
def F886_k3 : ACode := .seq (.reg true F886_r2) (.cond (.t 18) (.seq (.reg true [⟨0, some 4, none, .mov (.c (.int .i64 (-1))), []⟩]) (.ret)) (.skip))
@[go_sem] theorem F886_k3_r : CE F886_k3.eq_1 := CEM F886_k3.eq_1
def F886_r4 : List AOper := [⟨0, some 19, none, .mov (.t 1), []⟩,
⟨1, some 20, none, .bin .add (.t 19) (.c (.int .i64 1)), []⟩,
⟨2, some 1, none, .mov (.t 20), []⟩]
@[go_sem] theorem F886_r4_r : OE F886_r4.eq_1 := OEM F886_r4.eq_1
def F886_r5 : List AOper := [⟨0, some 21, none, .mov (.t 0), []⟩,
⟨1, some 22, none, .mov (.t 5), []⟩,
⟨2, some 23, none, .iaddr 2 (.t 21) (.t 22), []⟩,
⟨3, some 24, none, .faddr 1 (.t 23), []⟩,
⟨4, some 25, none, .load none (.t 24), []⟩,
⟨5, some 26, none, .mov (.t 1), []⟩,
⟨6, some 27, none, .bin .neq (.t 25) (.t 26), []⟩]
@[go_sem] theorem F886_r5_r : OE F886_r5.eq_1 := OEM F886_r5.eq_1
def F886_k6 : ACode := .seq (.reg true F886_r5) (.cond (.t 27) (.seq (.reg true [⟨0, some 4, none, .mov (.c (.int .i64 (-1))), []⟩]) (.ret)) (.skip))
@[go_sem] theorem F886_k6_r : CE F886_k6.eq_1 := CEM F886_k6.eq_1
def F886_r7 : List AOper := [⟨0, some 28, none, .mov (.t 1), []⟩,
⟨1, some 29, none, .bin .add (.t 28) (.c (.int .i64 1)), []⟩,
⟨2, some 1, none, .mov (.t 29), []⟩]
@[go_sem] theorem F886_r7_r : OE F886_r7.eq_1 := OEM F886_r7.eq_1
def F886_k8 : ACode := .seq F886_k6 (.reg true F886_r7)
@[go_sem] theorem F886_k8_r : CE F886_k8.eq_1 := CEM F886_k8.eq_1
def F886_k9 : ACode := .seq (.reg true F886_r4) F886_k8
@[go_sem] theorem F886_k9_r : CE F886_k9.eq_1 := CEM F886_k9.eq_1
def F886_k10 : ACode := .seq F886_k3 F886_k9
@[go_sem] theorem F886_k10_r : CE F886_k10.eq_1 := CEM F886_k10.eq_1
def F886_k11 : ACode := .blk 1 F886_k10
@[go_sem] theorem F886_k11_r : CE F886_k11.eq_1 := CEM F886_k11.eq_1
def F886_r12 : List AOper := [⟨0, some 10, none, .mov (.t 5), []⟩,
⟨1, some 11, none, .bin .add (.t 10) (.c (.int .i64 1)), []⟩,
⟨2, some 5, none, .mov (.t 11), []⟩]
@[go_sem] theorem F886_r12_r : OE F886_r12.eq_1 := OEM F886_r12.eq_1
def F886_k13 : ACode := .seq F886_k11 (.reg true F886_r12)
@[go_sem] theorem F886_k13_r : CE F886_k13.eq_1 := CEM F886_k13.eq_1
def F886_k14 : ACode := .seq F886_k1 F886_k13
@[go_sem] theorem F886_k14_r : CE F886_k14.eq_1 := CEM F886_k14.eq_1
def F886_k15 : ACode := .loop F886_k14
@[go_sem] theorem F886_k15_r : CE F886_k15.eq_1 := CEM F886_k15.eq_1
def F886_k16 : ACode := .blk 0 F886_k15
@[go_sem] theorem F886_k16_r : CE F886_k16.eq_1 := CEM F886_k16.eq_1
def F886_k17 : ACode := .seq (.reg true [⟨0, some 5, none, .mov (.c (.int .i64 0)), []⟩]) F886_k16
@[go_sem] theorem F886_k17_r : CE F886_k17.eq_1 := CEM F886_k17.eq_1
def F886_k18 : ACode := .seq F886_k17 (.seq (.reg true [⟨0, some 30, none, .mov (.t 1), []⟩,
⟨1, some 4, none, .mov (.t 30), []⟩]) (.ret))
@[go_sem] theorem F886_k18_r : CE F886_k18.eq_1 := CEM F886_k18.eq_1
def F886 : AFun := ⟨2, 31, [.t 4], .seq (.reg true [⟨0, some 4, none, .mov (.c (.int .i64 0)), []⟩]) F886_k18⟩
def F525_r0 : List AOper := [⟨0, some 6, none, .mov (.t 5), []⟩,
⟨1, some 7, none, .mov (.t 0), []⟩,
⟨2, some 8, none, .len (.t 7), []⟩,
⟨3, some 9, none, .bin .lss (.t 6) (.t 8), []⟩]
@[go_sem] theorem F525_r0_r : OE F525_r0.eq_1 := OEM F525_r0.eq_1
def F525_k1 : ACode := .seq (.reg true F525_r0) (.cond (.t 9) (.skip) (.exit 0))
@[go_sem] theorem F525_k1_r : CE F525_k1.eq_1 := CEM F525_k1.eq_1
def F525_r2 : List AOper := [⟨0, some 12, none, .mov (.t 0), []⟩,
⟨1, some 13, none, .mov (.t 5), []⟩,
⟨2, some 14, none, .iaddr 5 (.t 12) (.t 13), []⟩,
⟨3, some 15, none, .faddr 0 (.t 14), []⟩,
⟨4, some 16, none, .load none (.t 15), []⟩,
⟨5, some 17, none, .mov (.t 1), []⟩,
⟨6, some 18, none, .bin .neq (.t 16) (.t 17), []⟩]
@[go_sem] theorem F525_r2_r : OE F525_r2.eq_1 := OEM F525_r2.eq_1
def F525_k3 : ACode := .seq (.reg true F525_r2) (.cond (.t 18) (.seq (.reg true [⟨0, some 4, none, .mov (.c (.int .i64 (-1))), []⟩]) (.ret)) (.skip))
@[go_sem] theorem F525_k3_r : CE F525_k3.eq_1 := CEM F525_k3.eq_1
def F525_r4 : List AOper := [⟨0, some 19, none, .mov (.t 1), []⟩,
⟨1, some 20, none, .bin .add (.t 19) (.c (.int .i64 1)), []⟩,
⟨2, some 1, none, .mov (.t 20), []⟩]
@[go_sem] theorem F525_r4_r : OE F525_r4.eq_1 := OEM F525_r4.eq_1
def F525_r5 : List AOper := [⟨0, some 21, none, .mov (.t 0), []⟩,
⟨1, some 22, none, .mov (.t 5), []⟩,
⟨2, some 23, none, .iaddr 5 (.t 21) (.t 22), []⟩,
⟨3, some 24, none, .faddr 1 (.t 23), []⟩,
⟨4, some 25, none, .load none (.t 24), []⟩,
⟨5, some 26, none, .mov (.t 1), []⟩,
⟨6, some 27, none, .bin .neq (.t 25) (.t 26), []⟩]
@[go_sem] theorem F525_r5_r : OE F525_r5.eq_1 := OEM F525_r5.eq_1
def F525_k6 : ACode := .seq (.reg true F525_r5) (.cond (.t 27) (.seq (.reg true [⟨0, some 4, none, .mov (.c (.int .i64 (-1))), []⟩]) (.ret)) (.skip))
@[go_sem] theorem F525_k6_r : CE F525_k6.eq_1 := CEM F525_k6.eq_1
def F525_r7 : List AOper := [⟨0, some 28, none, .mov (.t 1), []⟩,
⟨1, some 29, none, .bin .add (.t 28) (.c (.int .i64 1)), []⟩,
⟨2, some 1, none, .mov (.t 29), []⟩]
@[go_sem] theorem F525_r7_r : OE F525_r7.eq_1 := OEM F525_r7.eq_1
def F525_r8 : List AOper := [⟨0, some 30, none, .mov (.t 0), []⟩,
⟨1, some 31, none, .mov (.t 5), []⟩,
⟨2, some 32, none, .iaddr 5 (.t 30) (.t 31), []⟩,
⟨3, some 33, none, .faddr 2 (.t 32), []⟩,
⟨4, some 34, none, .load none (.t 33), []⟩,
⟨5, some 35, none, .mov (.t 1), []⟩,
⟨6, some 36, none, .bin .neq (.t 34) (.t 35), []⟩]
@[go_sem] theorem F525_r8_r : OE F525_r8.eq_1 := OEM F525_r8.eq_1
def F525_k9 : ACode := .seq (.reg true F525_r8) (.cond (.t 36) (.seq (.reg true [⟨0, some 4, none, .mov (.c (.int .i64 (-1))), []⟩]) (.ret)) (.skip))
@[go_sem] theorem F525_k9_r : CE F525_k9.eq_1 := CEM F525_k9.eq_1
def F525_r10 : List AOper := [⟨0, some 37, none, .mov (.t 1), []⟩,
⟨1, some 38, none, .bin .add (.t 37) (.c (.int .i64 1)), []⟩,
⟨2, some 1, none, .mov (.t 38), []⟩]
@[go_sem] theorem F525_r10_r : OE F525_r10.eq_1 := OEM F525_r10.eq_1
def F525_r11 : List AOper := [⟨0, some 39, none, .mov (.t 0), []⟩,
⟨1, some 40, none, .mov (.t 5), []⟩,
⟨2, some 41, none, .iaddr 5 (.t 39) (.t 40), []⟩,
⟨3, some 42, none, .faddr 3 (.t 41), []⟩,
⟨4, some 43, none, .load none (.t 42), []⟩,
⟨5, some 44, none, .mov (.t 1), []⟩,
⟨6, some 45, none, .call 92 [.t 43, .t 44], []⟩,
⟨7, some 1, none, .mov (.t 45), []⟩]
@[go_sem] theorem F525_r11_r : OE F525_r11.eq_1 := OEM F525_r11.eq_1
def F525_k12 : ACode := .seq (.reg true [⟨0, some 46, none, .mov (.t 1), []⟩,
⟨1, some 47, none, .bin .lss (.t 46) (.c (.int .i64 0)), []⟩]) (.cond (.t 47) (.seq (.reg true [⟨0, some 4, none, .mov (.c (.int .i64 (-1))), []⟩]) (.ret)) (.skip))
@[go_sem] theorem F525_k12_r : CE F525_k12.eq_1 := CEM F525_k12.eq_1
def F525_r13 : List AOper := [⟨0, some 48, none, .mov (.t 0), []⟩,
⟨1, some 49, none, .mov (.t 5), []⟩,
⟨2, some 50, none, .iaddr 5 (.t 48) (.t 49), []⟩,
⟨3, some 51, none, .faddr 4 (.t 50), []⟩,
⟨4, some 52, none, .load none (.t 51), []⟩,
⟨5, some 53, none, .mov (.t 1), []⟩,
⟨6, some 54, none, .call 886 [.t 52, .t 53], []⟩,
⟨7, some 1, none, .mov (.t 54), []⟩]
@[go_sem] theorem F525_r13_r : OE F525_r13.eq_1 := OEM F525_r13.eq_1
def F525_k14 : ACode := .seq (.reg true [⟨0, some 55, none, .mov (.t 1), []⟩,
⟨1, some 56, none, .bin .lss (.t 55) (.c (.int .i64 0)), []⟩]) (.cond (.t 56) (.seq (.reg true [⟨0, some 4, none, .mov (.c (.int .i64 (-1))), []⟩]) (.ret)) (.skip))
@[go_sem] theorem F525_k14_r : CE F525_k14.eq_1 := CEM F525_k14.eq_1
def F525_k15 : ACode := .seq (.reg true F525_r13) F525_k14
@[go_sem] theorem F525_k15_r : CE F525_k15.eq_1 := CEM F525_k15.eq_1
def F525_k16 : ACode := .seq F525_k12 F525_k15
@[go_sem] theorem F525_k16_r : CE F525_k16.eq_1 := CEM F525_k16.eq_1
def F525_k17 : ACode := .seq (.reg true F525_r11) F525_k16
@[go_sem] theorem F525_k17_r : CE F525_k17.eq_1 := CEM F525_k17.eq_1
def F525_k18 : ACode := .seq (.reg true F525_r10) F525_k17
@[go_sem] theorem F525_k18_r : CE F525_k18.eq_1 := CEM F525_k18.eq_1
def F525_k19 : ACode := .seq F525_k9 F525_k18
@[go_sem] theorem F525_k19_r : CE F525_k19.eq_1 := CEM F525_k19.eq_1
def F525_k20 : ACode := .seq (.reg true F525_r7) F525_k19
@[go_sem] theorem F525_k20_r : CE F525_k20.eq_1 := CEM F525_k20.eq_1
def F525_k21 : ACode := .seq F525_k6 F525_k20
@[go_sem] theorem F525_k21_r : CE F525_k21.eq_1 := CEM F525_k21.eq_1
def F525_k22 : ACode := .seq (.reg true F525_r4) F525_k21
@[go_sem] theorem F525_k22_r : CE F525_k22.eq_1 := CEM F525_k22.eq_1
def F525_k23 : ACode := .seq F525_k3 F525_k22
@[go_sem] theorem F525_k23_r : CE F525_k23.eq_1 := CEM F525_k23.eq_1
def F525_k24 : ACode := .blk 1 F525_k23
@[go_sem] theorem F525_k24_r : CE F525_k24.eq_1 := CEM F525_k24.eq_1
def F525_r25 : List AOper := [⟨0, some 10, none, .mov (.t 5), []⟩,
⟨1, some 11, none, .bin .add (.t 10) (.c (.int .i64 1)), []⟩,
⟨2, some 5, none, .mov (.t 11), []⟩]
@[go_sem] theorem F525_r25_r : OE F525_r25.eq_1 := OEM F525_r25.eq_1
def F525_k26 : ACode := .seq F525_k24 (.reg true F525_r25)
@[go_sem] theorem F525_k26_r : CE F525_k26.eq_1 := CEM F525_k26.eq_1
def F525_k27 : ACode := .seq F525_k1 F525_k26
@[go_sem] theorem F525_k27_r : CE F525_k27.eq_1 := CEM F525_k27.eq_1
def F525_k28 : ACode := .loop F525_k27
@[go_sem] theorem F525_k28_r : CE F525_k28.eq_1 := CEM F525_k28.eq_1
def F525_k29 : ACode := .blk 0 F525_k28
@[go_sem] theorem F525_k29_r : CE F525_k29.eq_1 := CEM F525_k29.eq_1
def F525_k30 : ACode := .seq (.reg true [⟨0, some 5, none, .mov (.c (.int .i64 0)), []⟩]) F525_k29
@[go_sem] theorem F525_k30_r : CE F525_k30.eq_1 := CEM F525_k30.eq_1
def F525_k31 : ACode := .seq F525_k30 (.seq (.reg true [⟨0, some 57, none, .mov (.t 1), []⟩,
⟨1, some 4, none, .mov (.t 57), []⟩]) (.ret))
@[go_sem] theorem F525_k31_r : CE F525_k31.eq_1 := CEM F525_k31.eq_1
def F525 : AFun := ⟨2, 58, [.t 4], .seq (.reg true [⟨0, some 4, none, .mov (.c (.int .i64 0)), []⟩]) F525_k31⟩
def F199_r0 : List AOper := [⟨0, some 5, none, .nop 2, []⟩,
⟨1, some 6, none, .lload 2 0 none, []⟩,
⟨2, some 7, none, .mov (.t 1), []⟩,
⟨3, some 8, none, .call 525 [.t 6, .t 7], []⟩,
⟨4, some 1, none, .mov (.t 8), []⟩]
@[go_sem] theorem F199_r0_r : OE F199_r0.eq_1 := OEM F199_r0.eq_1
def F199_k1 : ACode := .seq (.reg true [⟨0, some 9, none, .mov (.t 1), []⟩,
⟨1, some 10, none, .bin .lss (.t 9) (.c (.int .i64 0)), []⟩]) (.cond (.t 10) (.seq (.reg true [⟨0, some 4, none, .mov (.c (.int .i64 (-1))), []⟩]) (.ret)) (.skip))
@[go_sem] theorem F199_k1_r : CE F199_k1.eq_1 := CEM F199_k1.eq_1
def F199_k2 : ACode := .seq F199_k1 (.seq (.reg true [⟨0, some 11, none, .mov (.t 1), []⟩,
⟨1, some 4, none, .mov (.t 11), []⟩]) (.ret))
@[go_sem] theorem F199_k2_r : CE F199_k2.eq_1 := CEM F199_k2.eq_1
def F199_k3 : ACode := .seq (.reg true F199_r0) F199_k2
@[go_sem] theorem F199_k3_r : CE F199_k3.eq_1 := CEM F199_k3.eq_1
def F199 : AFun := ⟨2, 12, [.t 4], .seq (.reg true [⟨0, some 2, none, .lbox 1 (.t 0), []⟩,
⟨1, some 4, none, .mov (.c (.int .i64 0)), []⟩]) F199_k3⟩
def F230_r0 : List AOper := [⟨0, some 6, none, .mov (.t 5), []⟩,
⟨1, some 7, none, .mov (.t 0), []⟩,
⟨2, some 8, none, .len (.t 7), []⟩,
⟨3, some 9, none, .bin .lss (.t 6) (.t 8), []⟩]
@[go_sem] theorem F230_r0_r : OE F230_r0.eq_1 := OEM F230_r0.eq_1
def F230_k1 : ACode := .seq (.reg true F230_r0) (.cond (.t 9) (.skip) (.exit 0))
@[go_sem] theorem F230_k1_r : CE F230_k1.eq_1 := CEM F230_k1.eq_1
def F230_r2 : List AOper := [⟨0, some 12, none, .mov (.t 0), []⟩,
⟨1, some 13, none, .mov (.t 5), []⟩,
⟨2, some 14, none, .iaddr 1 (.t 12) (.t 13), []⟩,
⟨3, some 15, none, .faddr 0 (.t 14), []⟩,
⟨4, some 16, none, .load none (.t 15), []⟩,
⟨5, some 17, none, .mov (.t 1), []⟩,
⟨6, some 18, none, .call 525 [.t 16, .t 17], []⟩,
⟨7, some 1, none, .mov (.t 18), []⟩]
@[go_sem] theorem F230_r2_r : OE F230_r2.eq_1 := OEM F230_r2.eq_1
def F230_k3 : ACode := .seq (.reg true [⟨0, some 19, none, .mov (.t 1), []⟩,
⟨1, some 20, none, .bin .lss (.t 19) (.c (.int .i64 0)), []⟩]) (.cond (.t 20) (.seq (.reg true [⟨0, some 4, none, .mov (.c (.int .i64 (-1))), []⟩]) (.ret)) (.skip))
@[go_sem] theorem F230_k3_r : CE F230_k3.eq_1 := CEM F230_k3.eq_1
def F230_k4 : ACode := .seq (.reg true F230_r2) F230_k3
@[go_sem] theorem F230_k4_r : CE F230_k4.eq_1 := CEM F230_k4.eq_1
def F230_k5 : ACode := .blk 1 F230_k4
@[go_sem] theorem F230_k5_r : CE F230_k5.eq_1 := CEM F230_k5.eq_1
def F230_r6 : List AOper := [⟨0, some 10, none, .mov (.t 5), []⟩,
⟨1, some 11, none, .bin .add (.t 10) (.c (.int .i64 1)), []⟩,
⟨2, some 5, none, .mov (.t 11), []⟩]
@[go_sem] theorem F230_r6_r : OE F230_r6.eq_1 := OEM F230_r6.eq_1
def F230_k7 : ACode := .seq F230_k5 (.reg true F230_r6)
@[go_sem] theorem F230_k7_r : CE F230_k7.eq_1 := CEM F230_k7.eq_1
def F230_k8 : ACode := .seq F230_k1 F230_k7
@[go_sem] theorem F230_k8_r : CE F230_k8.eq_1 := CEM F230_k8.eq_1
def F230_k9 : ACode := .loop F230_k8
@[go_sem] theorem F230_k9_r : CE F230_k9.eq_1 := CEM F230_k9.eq_1
def F230_k10 : ACode := .blk 0 F230_k9
@[go_sem] theorem F230_k10_r : CE F230_k10.eq_1 := CEM F230_k10.eq_1
def F230_k11 : ACode := .seq (.reg true [⟨0, some 5, none, .mov (.c (.int .i64 0)), []⟩]) F230_k10
@[go_sem] theorem F230_k11_r : CE F230_k11.eq_1 := CEM F230_k11.eq_1
def F230_k12 : ACode := .seq F230_k11 (.seq (.reg true [⟨0, some 21, none, .mov (.t 1), []⟩,
⟨1, some 4, none, .mov (.t 21), []⟩]) (.ret))
@[go_sem] theorem F230_k12_r : CE F230_k12.eq_1 := CEM F230_k12.eq_1
def F230 : AFun := ⟨2, 22, [.t 4], .seq (.reg true [⟨0, some 4, none, .mov (.c (.int .i64 0)), []⟩]) F230_k12⟩
def F433_r0 : List AOper := [⟨0, some 6, none, .mov (.t 5), []⟩,
⟨1, some 7, none, .mov (.t 0), []⟩,
⟨2, some 8, none, .len (.t 7), []⟩,
⟨3, some 9, none, .bin .lss (.t 6) (.t 8), []⟩]
@[go_sem] theorem F433_r0_r : OE F433_r0.eq_1 := OEM F433_r0.eq_1
def F433_k1 : ACode := .seq (.reg true F433_r0) (.cond (.t 9) (.skip) (.exit 0))
@[go_sem] theorem F433_k1_r : CE F433_k1.eq_1 := CEM F433_k1.eq_1
def F433_r2 : List AOper := [⟨0, some 12, none, .mov (.t 0), []⟩,
⟨1, some 13, none, .mov (.t 5), []⟩,
⟨2, some 14, none, .iaddr 3 (.t 12) (.t 13), []⟩,
⟨3, some 15, none, .faddr 0 (.t 14), []⟩,
⟨4, some 16, none, .load none (.t 15), []⟩,
⟨5, some 17, none, .mov (.t 1), []⟩,
⟨6, some 18, none, .bin .neq (.t 16) (.t 17), []⟩]
@[go_sem] theorem F433_r2_r : OE F433_r2.eq_1 := OEM F433_r2.eq_1
def F433_k3 : ACode := .seq (.reg true F433_r2) (.cond (.t 18) (.seq (.reg true [⟨0, some 4, none, .mov (.c (.int .i64 (-1))), []⟩]) (.ret)) (.skip))
@[go_sem] theorem F433_k3_r : CE F433_k3.eq_1 := CEM F433_k3.eq_1
def F433_r4 : List AOper := [⟨0, some 19, none, .mov (.t 1), []⟩,
⟨1, some 20, none, .bin .add (.t 19) (.c (.int .i64 1)), []⟩,
⟨2, some 1, none, .mov (.t 20), []⟩]
@[go_sem] theorem F433_r4_r : OE F433_r4.eq_1 := OEM F433_r4.eq_1
def F433_r5 : List AOper := [⟨0, some 21, none, .mov (.t 0), []⟩,
⟨1, some 22, none, .mov (.t 5), []⟩,
⟨2, some 23, none, .iaddr 3 (.t 21) (.t 22), []⟩,
⟨3, some 24, none, .faddr 1 (.t 23), []⟩,
⟨4, some 25, none, .load none (.t 24), []⟩,
⟨5, some 26, none, .mov (.t 1), []⟩,
⟨6, some 27, none, .bin .neq (.t 25) (.t 26), []⟩]
@[go_sem] theorem F433_r5_r : OE F433_r5.eq_1 := OEM F433_r5.eq_1
def F433_k6 : ACode := .seq (.reg true F433_r5) (.cond (.t 27) (.seq (.reg true [⟨0, some 4, none, .mov (.c (.int .i64 (-1))), []⟩]) (.ret)) (.skip))
@[go_sem] theorem F433_k6_r : CE F433_k6.eq_1 := CEM F433_k6.eq_1
def F433_r7 : List AOper := [⟨0, some 28, none, .mov (.t 1), []⟩,
⟨1, some 29, none, .bin .add (.t 28) (.c (.int .i64 1)), []⟩,
⟨2, some 1, none, .mov (.t 29), []⟩]
@[go_sem] theorem F433_r7_r : OE F433_r7.eq_1 := OEM F433_r7.eq_1
def F433_r8 : List AOper := [⟨0, some 30, none, .mov (.t 0), []⟩,
⟨1, some 31, none, .mov (.t 5), []⟩,
⟨2, some 32, none, .iaddr 3 (.t 30) (.t 31), []⟩,
⟨3, some 33, none, .faddr 2 (.t 32), []⟩,
⟨4, some 34, none, .load none (.t 33), []⟩,
⟨5, some 35, none, .mov (.t 1), []⟩,
⟨6, some 36, none, .bin .neq (.t 34) (.t 35), []⟩]
@[go_sem] theorem F433_r8_r : OE F433_r8.eq_1 := OEM F433_r8.eq_1
def F433_k9 : ACode := .seq (.reg true F433_r8) (.cond (.t 36) (.seq (.reg true [⟨0, some 4, none, .mov (.c (.int .i64 (-1))), []⟩]) (.ret)) (.skip))
@[go_sem] theorem F433_k9_r : CE F433_k9.eq_1 := CEM F433_k9.eq_1
def F433_r10 : List AOper := [⟨0, some 37, none, .mov (.t 1), []⟩,
⟨1, some 38, none, .bin .add (.t 37) (.c (.int .i64 1)), []⟩,
⟨2, some 1, none, .mov (.t 38), []⟩]
@[go_sem] theorem F433_r10_r : OE F433_r10.eq_1 := OEM F433_r10.eq_1
def F433_k11 : ACode := .seq F433_k9 (.reg true F433_r10)
@[go_sem] theorem F433_k11_r : CE F433_k11.eq_1 := CEM F433_k11.eq_1
def F433_k12 : ACode := .seq (.reg true F433_r7) F433_k11
@[go_sem] theorem F433_k12_r : CE F433_k12.eq_1 := CEM F433_k12.eq_1
def F433_k13 : ACode := .seq F433_k6 F433_k12
@[go_sem] theorem F433_k13_r : CE F433_k13.eq_1 := CEM F433_k13.eq_1
def F433_k14 : ACode := .seq (.reg true F433_r4) F433_k13
@[go_sem] theorem F433_k14_r : CE F433_k14.eq_1 := CEM F433_k14.eq_1
def F433_k15 : ACode := .seq F433_k3 F433_k14
@[go_sem] theorem F433_k15_r : CE F433_k15.eq_1 := CEM F433_k15.eq_1
def F433_k16 : ACode := .blk 1 F433_k15
@[go_sem] theorem F433_k16_r : CE F433_k16.eq_1 := CEM F433_k16.eq_1
def F433_r17 : List AOper := [⟨0, some 10, none, .mov (.t 5), []⟩,
⟨1, some 11, none, .bin .add (.t 10) (.c (.int .i64 1)), []⟩,
⟨2, some 5, none, .mov (.t 11), []⟩]
@[go_sem] theorem F433_r17_r : OE F433_r17.eq_1 := OEM F433_r17.eq_1
def F433_k18 : ACode := .seq F433_k16 (.reg true F433_r17)
@[go_sem] theorem F433_k18_r : CE F433_k18.eq_1 := CEM F433_k18.eq_1
def F433_k19 : ACode := .seq F433_k1 F433_k18
@[go_sem] theorem F433_k19_r : CE F433_k19.eq_1 := CEM F433_k19.eq_1
def F433_k20 : ACode := .loop F433_k19
@[go_sem] theorem F433_k20_r : CE F433_k20.eq_1 := CEM F433_k20.eq_1
def F433_k21 : ACode := .blk 0 F433_k20
@[go_sem] theorem F433_k21_r : CE F433_k21.eq_1 := CEM F433_k21.eq_1
def F433_k22 : ACode := .seq (.reg true [⟨0, some 5, none, .mov (.c (.int .i64 0)), []⟩]) F433_k21
@[go_sem] theorem F433_k22_r : CE F433_k22.eq_1 := CEM F433_k22.eq_1
def F433_k23 : ACode := .seq F433_k22 (.seq (.reg true [⟨0, some 39, none, .mov (.t 1), []⟩,
⟨1, some 4, none, .mov (.t 39), []⟩]) (.ret))
@[go_sem] theorem F433_k23_r : CE F433_k23.eq_1 := CEM F433_k23.eq_1
def F433 : AFun := ⟨2, 40, [.t 4], .seq (.reg true [⟨0, some 4, none, .mov (.c (.int .i64 0)), []⟩]) F433_k23⟩
def F434_r0 : List AOper := [⟨0, some 6, none, .mov (.t 5), []⟩,
⟨1, some 7, none, .mov (.t 0), []⟩,
⟨2, some 8, none, .len (.t 7), []⟩,
⟨3, some 9, none, .bin .lss (.t 6) (.t 8), []⟩]
@[go_sem] theorem F434_r0_r : OE F434_r0.eq_1 := OEM F434_r0.eq_1
def F434_k1 : ACode := .seq (.reg true F434_r0) (.cond (.t 9) (.skip) (.exit 0))
@[go_sem] theorem F434_k1_r : CE F434_k1.eq_1 := CEM F434_k1.eq_1
def F434_r2 : List AOper := [⟨0, some 12, none, .mov (.t 0), []⟩,
⟨1, some 13, none, .mov (.t 5), []⟩,
⟨2, some 14, none, .iaddr 2 (.t 12) (.t 13), []⟩,
⟨3, some 15, none, .faddr 0 (.t 14), []⟩,
⟨4, some 16, none, .load none (.t 15), []⟩,
⟨5, some 17, none, .mov (.t 1), []⟩,
⟨6, some 18, none, .bin .neq (.t 16) (.t 17), []⟩]
@[go_sem] theorem F434_r2_r : OE F434_r2.eq_1 := OEM F434_r2.eq_1
def F434_k3 : ACode := .seq (.reg true F434_r2) (.cond (.t 18) (.seq (.reg true [⟨0, some 4, none, .mov (.c (.int .i64 (-1))), []⟩]) (.ret)) (.skip))
@[go_sem] theorem F434_k3_r : CE F434_k3.eq_1 := CEM F434_k3.eq_1
def F434_r4 : List AOper := [⟨0, some 19, none, .mov (.t 1), []⟩,
⟨1, some 20, none, .bin .add (.t 19) (.c (.int .i64 1)), []⟩,
⟨2, some 1, none, .mov (.t 20), []⟩]
@[go_sem] theorem F434_r4_r : OE F434_r4.eq_1 := OEM F434_r4.eq_1
def F434_r5 : List AOper := [⟨0, some 21, none, .mov (.t 0), []⟩,
⟨1, some 22, none, .mov (.t 5), []⟩,
⟨2, some 23, none, .iaddr 2 (.t 21) (.t 22), []⟩,
⟨3, some 24, none, .faddr 1 (.t 23), []⟩,
⟨4, some 25, none, .load none (.t 24), []⟩,
⟨5, some 26, none, .mov (.t 1), []⟩,
⟨6, some 27, none, .bin .neq (.t 25) (.t 26), []⟩]
@[go_sem] theorem F434_r5_r : OE F434_r5.eq_1 := OEM F434_r5.eq_1
def F434_k6 : ACode := .seq (.reg true F434_r5) (.cond (.t 27) (.seq (.reg true [⟨0, some 4, none, .mov (.c (.int .i64 (-1))), []⟩]) (.ret)) (.skip))
@[go_sem] theorem F434_k6_r : CE F434_k6.eq_1 := CEM F434_k6.eq_1
def F434_r7 : List AOper := [⟨0, some 28, none, .mov (.t 1), []⟩,
⟨1, some 29, none, .bin .add (.t 28) (.c (.int .i64 1)), []⟩,
⟨2, some 1, none, .mov (.t 29), []⟩]
@[go_sem] theorem F434_r7_r : OE F434_r7.eq_1 := OEM F434_r7.eq_1
def F434_k8 : ACode := .seq F434_k6 (.reg true F434_r7)
@[go_sem] theorem F434_k8_r : CE F434_k8.eq_1 := CEM F434_k8.eq_1
def F434_k9 : ACode := .seq (.reg true F434_r4) F434_k8
@[go_sem] theorem F434_k9_r : CE F434_k9.eq_1 := CEM F434_k9.eq_1
def F434_k10 : ACode := .seq F434_k3 F434_k9
@[go_sem] theorem F434_k10_r : CE F434_k10.eq_1 := CEM F434_k10.eq_1
def F434_k11 : ACode := .blk 1 F434_k10
@[go_sem] theorem F434_k11_r : CE F434_k11.eq_1 := CEM F434_k11.eq_1
def F434_r12 : List AOper := [⟨0, some 10, none, .mov (.t 5), []⟩,
⟨1, some 11, none, .bin .add (.t 10) (.c (.int .i64 1)), []⟩,
⟨2, some 5, none, .mov (.t 11), []⟩]
@[go_sem] theorem F434_r12_r : OE F434_r12.eq_1 := OEM F434_r12.eq_1
def F434_k13 : ACode := .seq F434_k11 (.reg true F434_r12)
@[go_sem] theorem F434_k13_r : CE F434_k13.eq_1 := CEM F434_k13.eq_1
def F434_k14 : ACode := .seq F434_k1 F434_k13
@[go_sem] theorem F434_k14_r : CE F434_k14.eq_1 := CEM F434_k14.eq_1
def F434_k15 : ACode := .loop F434_k14
@[go_sem] theorem F434_k15_r : CE F434_k15.eq_1 := CEM F434_k15.eq_1
def F434_k16 : ACode := .blk 0 F434_k15
@[go_sem] theorem F434_k16_r : CE F434_k16.eq_1 := CEM F434_k16.eq_1
def F434_k17 : ACode := .seq (.reg true [⟨0, some 5, none, .mov (.c (.int .i64 0)), []⟩]) F434_k16
@[go_sem] theorem F434_k17_r : CE F434_k17.eq_1 := CEM F434_k17.eq_1
def F434_k18 : ACode := .seq F434_k17 (.seq (.reg true [⟨0, some 30, none, .mov (.t 1), []⟩,
⟨1, some 4, none, .mov (.t 30), []⟩]) (.ret))
@[go_sem] theorem F434_k18_r : CE F434_k18.eq_1 := CEM F434_k18.eq_1
def F434 : AFun := ⟨2, 31, [.t 4], .seq (.reg true [⟨0, some 4, none, .mov (.c (.int .i64 0)), []⟩]) F434_k18⟩
def F435_r0 : List AOper := [⟨0, some 6, none, .mov (.t 5), []⟩,
⟨1, some 7, none, .mov (.t 0), []⟩,
⟨2, some 8, none, .len (.t 7), []⟩,
⟨3, some 9, none, .bin .lss (.t 6) (.t 8), []⟩]
@[go_sem] theorem F435_r0_r : OE F435_r0.eq_1 := OEM F435_r0.eq_1
def F435_k1 : ACode := .seq (.reg true F435_r0) (.cond (.t 9) (.skip) (.exit 0))
@[go_sem] theorem F435_k1_r : CE F435_k1.eq_1 := CEM F435_k1.eq_1
def F435_r2 : List AOper := [⟨0, some 12, none, .mov (.t 0), []⟩,
⟨1, some 13, none, .mov (.t 5), []⟩,
⟨2, some 14, none, .iaddr 3 (.t 12) (.t 13), []⟩,
⟨3, some 15, none, .faddr 0 (.t 14), []⟩,
⟨4, some 16, none, .load none (.t 15), []⟩,
⟨5, some 17, none, .mov (.t 1), []⟩,
⟨6, some 18, none, .bin .neq (.t 16) (.t 17), []⟩]
@[go_sem] theorem F435_r2_r : OE F435_r2.eq_1 := OEM F435_r2.eq_1
def F435_k3 : ACode := .seq (.reg true F435_r2) (.cond (.t 18) (.seq (.reg true [⟨0, some 4, none, .mov (.c (.int .i64 (-1))), []⟩]) (.ret)) (.skip))
@[go_sem] theorem F435_k3_r : CE F435_k3.eq_1 := CEM F435_k3.eq_1
def F435_r4 : List AOper := [⟨0, some 19, none, .mov (.t 1), []⟩,
⟨1, some 20, none, .bin .add (.t 19) (.c (.int .i64 1)), []⟩,
⟨2, some 1, none, .mov (.t 20), []⟩]
@[go_sem] theorem F435_r4_r : OE F435_r4.eq_1 := OEM F435_r4.eq_1
def F435_r5 : List AOper := [⟨0, some 21, none, .mov (.t 0), []⟩,
⟨1, some 22, none, .mov (.t 5), []⟩,
⟨2, some 23, none, .iaddr 3 (.t 21) (.t 22), []⟩,
⟨3, some 24, none, .faddr 1 (.t 23), []⟩,
⟨4, some 25, none, .faddr 0 (.t 24), []⟩,
⟨5, some 26, none, .load none (.t 25), []⟩,
⟨6, some 27, none, .mov (.t 1), []⟩,
⟨7, some 28, none, .call 525 [.t 26, .t 27], []⟩,
⟨8, some 1, none, .mov (.t 28), []⟩]
@[go_sem] theorem F435_r5_r : OE F435_r5.eq_1 := OEM F435_r5.eq_1
def F435_k6 : ACode := .seq (.reg true [⟨0, some 29, none, .mov (.t 1), []⟩,
⟨1, some 30, none, .bin .lss (.t 29) (.c (.int .i64 0)), []⟩]) (.cond (.t 30) (.seq (.reg true [⟨0, some 4, none, .mov (.c (.int .i64 (-1))), []⟩]) (.ret)) (.skip))
@[go_sem] theorem F435_k6_r : CE F435_k6.eq_1 := CEM F435_k6.eq_1
def F435_r7 : List AOper := [⟨0, some 31, none, .mov (.t 0), []⟩,
⟨1, some 32, none, .mov (.t 5), []⟩,
⟨2, some 33, none, .iaddr 3 (.t 31) (.t 32), []⟩,
⟨3, some 34, none, .faddr 2 (.t 33), []⟩,
⟨4, some 35, none, .load none (.t 34), []⟩,
⟨5, some 36, none, .mov (.t 1), []⟩,
⟨6, some 37, none, .call 433 [.t 35, .t 36], []⟩,
⟨7, some 1, none, .mov (.t 37), []⟩]
@[go_sem] theorem F435_r7_r : OE F435_r7.eq_1 := OEM F435_r7.eq_1
def F435_k8 : ACode := .seq (.reg true [⟨0, some 38, none, .mov (.t 1), []⟩,
⟨1, some 39, none, .bin .lss (.t 38) (.c (.int .i64 0)), []⟩]) (.cond (.t 39) (.seq (.reg true [⟨0, some 4, none, .mov (.c (.int .i64 (-1))), []⟩]) (.ret)) (.skip))
@[go_sem] theorem F435_k8_r : CE F435_k8.eq_1 := CEM F435_k8.eq_1
def F435_k9 : ACode := .seq (.reg true F435_r7) F435_k8
@[go_sem] theorem F435_k9_r : CE F435_k9.eq_1 := CEM F435_k9.eq_1
def F435_k10 : ACode := .seq F435_k6 F435_k9
@[go_sem] theorem F435_k10_r : CE F435_k10.eq_1 := CEM F435_k10.eq_1
def F435_k11 : ACode := .seq (.reg true F435_r5) F435_k10
@[go_sem] theorem F435_k11_r : CE F435_k11.eq_1 := CEM F435_k11.eq_1
def F435_k12 : ACode := .seq (.reg true F435_r4) F435_k11
@[go_sem] theorem F435_k12_r : CE F435_k12.eq_1 := CEM F435_k12.eq_1
def F435_k13 : ACode := .seq F435_k3 F435_k12
@[go_sem] theorem F435_k13_r : CE F435_k13.eq_1 := CEM F435_k13.eq_1
def F435_k14 : ACode := .blk 1 F435_k13
@[go_sem] theorem F435_k14_r : CE F435_k14.eq_1 := CEM F435_k14.eq_1
def F435_r15 : List AOper := [⟨0, some 10, none, .mov (.t 5), []⟩,
⟨1, some 11, none, .bin .add (.t 10) (.c (.int .i64 1)), []⟩,
⟨2, some 5, none, .mov (.t 11), []⟩]
@[go_sem] theorem F435_r15_r : OE F435_r15.eq_1 := OEM F435_r15.eq_1
def F435_k16 : ACode := .seq F435_k14 (.reg true F435_r15)
@[go_sem] theorem F435_k16_r : CE F435_k16.eq_1 := CEM F435_k16.eq_1
def F435_k17 : ACode := .seq F435_k1 F435_k16
@[go_sem] theorem F435_k17_r : CE F435_k17.eq_1 := CEM F435_k17.eq_1
def F435_k18 : ACode := .loop F435_k17
@[go_sem] theorem F435_k18_r : CE F435_k18.eq_1 := CEM F435_k18.eq_1
def F435_k19 : ACode := .blk 0 F435_k18
@[go_sem] theorem F435_k19_r : CE F435_k19.eq_1 := CEM F435_k19.eq_1
def F435_k20 : ACode := .seq (.reg true [⟨0, some 5, none, .mov (.c (.int .i64 0)), []⟩]) F435_k19
@[go_sem] theorem F435_k20_r : CE F435_k20.eq_1 := CEM F435_k20.eq_1
def F435_k21 : ACode := .seq F435_k20 (.seq (.reg true [⟨0, some 40, none, .mov (.t 1), []⟩,
⟨1, some 4, none, .mov (.t 40), []⟩]) (.ret))
@[go_sem] theorem F435_k21_r : CE F435_k21.eq_1 := CEM F435_k21.eq_1
def F435 : AFun := ⟨2, 41, [.t 4], .seq (.reg true [⟨0, some 4, none, .mov (.c (.int .i64 0)), []⟩]) F435_k21⟩
def F137_r0 : List AOper := [⟨0, some 5, none, .nop 2, []⟩,
⟨1, some 6, none, .lload 2 0 none, []⟩,
⟨2, some 7, none, .mov (.t 1), []⟩,
⟨3, some 8, none, .call 230 [.t 6, .t 7], []⟩,
⟨4, some 1, none, .mov (.t 8), []⟩]
@[go_sem] theorem F137_r0_r : OE F137_r0.eq_1 := OEM F137_r0.eq_1
def F137_k1 : ACode := .seq (.reg true [⟨0, some 9, none, .mov (.t 1), []⟩,
⟨1, some 10, none, .bin .lss (.t 9) (.c (.int .i64 0)), []⟩]) (.cond (.t 10) (.seq (.reg true [⟨0, some 4, none, .mov (.c (.int .i64 (-1))), []⟩]) (.ret)) (.skip))
@[go_sem] theorem F137_k1_r : CE F137_k1.eq_1 := CEM F137_k1.eq_1
def F137_r2 : List AOper := [⟨0, some 11, none, .nop 2, []⟩,
⟨1, some 12, none, .lload 2 1 none, []⟩,
⟨2, some 13, none, .mov (.t 1), []⟩,
⟨3, some 14, none, .call 92 [.t 12, .t 13], []⟩,
⟨4, some 1, none, .mov (.t 14), []⟩]
@[go_sem] theorem F137_r2_r : OE F137_r2.eq_1 := OEM F137_r2.eq_1
def F137_k3 : ACode := .seq (.reg true [⟨0, some 15, none, .mov (.t 1), []⟩,
⟨1, some 16, none, .bin .lss (.t 15) (.c (.int .i64 0)), []⟩]) (.cond (.t 16) (.seq (.reg true [⟨0, some 4, none, .mov (.c (.int .i64 (-1))), []⟩]) (.ret)) (.skip))
@[go_sem] theorem F137_k3_r : CE F137_k3.eq_1 := CEM F137_k3.eq_1
def F137_r4 : List AOper := [⟨0, some 17, none, .nop 2, []⟩,
⟨1, some 18, none, .lload 2 4 (some 1), []⟩,
⟨2, some 19, none, .mov (.t 1), []⟩,
⟨3, some 20, none, .call 199 [.t 18, .t 19], []⟩,
⟨4, some 1, none, .mov (.t 20), []⟩]
@[go_sem] theorem F137_r4_r : OE F137_r4.eq_1 := OEM F137_r4.eq_1
def F137_k5 : ACode := .seq (.reg true [⟨0, some 21, none, .mov (.t 1), []⟩,
⟨1, some 22, none, .bin .lss (.t 21) (.c (.int .i64 0)), []⟩]) (.cond (.t 22) (.seq (.reg true [⟨0, some 4, none, .mov (.c (.int .i64 (-1))), []⟩]) (.ret)) (.skip))
@[go_sem] theorem F137_k5_r : CE F137_k5.eq_1 := CEM F137_k5.eq_1
def F137_r6 : List AOper := [⟨0, some 23, none, .nop 2, []⟩,
⟨1, some 24, none, .lload 2 5 none, []⟩,
⟨2, some 25, none, .mov (.t 1), []⟩,
⟨3, some 26, none, .call 433 [.t 24, .t 25], []⟩,
⟨4, some 1, none, .mov (.t 26), []⟩]
@[go_sem] theorem F137_r6_r : OE F137_r6.eq_1 := OEM F137_r6.eq_1
def F137_k7 : ACode := .seq (.reg true [⟨0, some 27, none, .mov (.t 1), []⟩,
⟨1, some 28, none, .bin .lss (.t 27) (.c (.int .i64 0)), []⟩]) (.cond (.t 28) (.seq (.reg true [⟨0, some 4, none, .mov (.c (.int .i64 (-1))), []⟩]) (.ret)) (.skip))
@[go_sem] theorem F137_k7_r : CE F137_k7.eq_1 := CEM F137_k7.eq_1
def F137_r8 : List AOper := [⟨0, some 29, none, .nop 2, []⟩,
⟨1, some 30, none, .lload 2 6 none, []⟩,
⟨2, some 31, none, .mov (.t 1), []⟩,
⟨3, some 32, none, .call 434 [.t 30, .t 31], []⟩,
⟨4, some 1, none, .mov (.t 32), []⟩]
@[go_sem] theorem F137_r8_r : OE F137_r8.eq_1 := OEM F137_r8.eq_1
def F137_k9 : ACode := .seq (.reg true [⟨0, some 33, none, .mov (.t 1), []⟩,
⟨1, some 34, none, .bin .lss (.t 33) (.c (.int .i64 0)), []⟩]) (.cond (.t 34) (.seq (.reg true [⟨0, some 4, none, .mov (.c (.int .i64 (-1))), []⟩]) (.ret)) (.skip))
@[go_sem] theorem F137_k9_r : CE F137_k9.eq_1 := CEM F137_k9.eq_1
def F137_r10 : List AOper := [⟨0, some 35, none, .nop 2, []⟩,
⟨1, some 36, none, .lload 2 7 none, []⟩,
⟨2, some 37, none, .mov (.t 1), []⟩,
⟨3, some 38, none, .call 435 [.t 36, .t 37], []⟩,
⟨4, some 1, none, .mov (.t 38), []⟩]
@[go_sem] theorem F137_r10_r : OE F137_r10.eq_1 := OEM F137_r10.eq_1
def F137_k11 : ACode := .seq (.reg true [⟨0, some 39, none, .mov (.t 1), []⟩,
⟨1, some 40, none, .bin .lss (.t 39) (.c (.int .i64 0)), []⟩]) (.cond (.t 40) (.seq (.reg true [⟨0, some 4, none, .mov (.c (.int .i64 (-1))), []⟩]) (.ret)) (.skip))
@[go_sem] theorem F137_k11_r : CE F137_k11.eq_1 := CEM F137_k11.eq_1
def F137_k12 : ACode := .seq F137_k11 (.seq (.reg true [⟨0, some 41, none, .mov (.t 1), []⟩,
⟨1, some 4, none, .mov (.t 41), []⟩]) (.ret))
@[go_sem] theorem F137_k12_r : CE F137_k12.eq_1 := CEM F137_k12.eq_1
def F137_k13 : ACode := .seq (.reg true F137_r10) F137_k12
@[go_sem] theorem F137_k13_r : CE F137_k13.eq_1 := CEM F137_k13.eq_1
def F137_k14 : ACode := .seq F137_k9 F137_k13
@[go_sem] theorem F137_k14_r : CE F137_k14.eq_1 := CEM F137_k14.eq_1
def F137_k15 : ACode := .seq (.reg true F137_r8) F137_k14
@[go_sem] theorem F137_k15_r : CE F137_k15.eq_1 := CEM F137_k15.eq_1
def F137_k16 : ACode := .seq F137_k7 F137_k15
@[go_sem] theorem F137_k16_r : CE F137_k16.eq_1 := CEM F137_k16.eq_1
def F137_k17 : ACode := .seq (.reg true F137_r6) F137_k16
@[go_sem] theorem F137_k17_r : CE F137_k17.eq_1 := CEM F137_k17.eq_1
def F137_k18 : ACode := .seq F137_k5 F137_k17
@[go_sem] theorem F137_k18_r : CE F137_k18.eq_1 := CEM F137_k18.eq_1
def F137_k19 : ACode := .seq (.reg true F137_r4) F137_k18
@[go_sem] theorem F137_k19_r : CE F137_k19.eq_1 := CEM F137_k19.eq_1
def F137_k20 : ACode := .seq F137_k3 F137_k19
@[go_sem] theorem F137_k20_r : CE F137_k20.eq_1 := CEM F137_k20.eq_1
def F137_k21 : ACode := .seq (.reg true F137_r2) F137_k20
@[go_sem] theorem F137_k21_r : CE F137_k21.eq_1 := CEM F137_k21.eq_1
def F137_k22 : ACode := .seq F137_k1 F137_k21
@[go_sem] theorem F137_k22_r : CE F137_k22.eq_1 := CEM F137_k22.eq_1
def F137_k23 : ACode := .seq (.reg true F137_r0) F137_k22
@[go_sem] theorem F137_k23_r : CE F137_k23.eq_1 := CEM F137_k23.eq_1
def F137 : AFun := ⟨2, 42, [.t 4], .seq (.reg true [⟨0, some 2, none, .lbox 8 (.t 0), []⟩,
⟨1, some 4, none, .mov (.c (.int .i64 0)), []⟩]) F137_k23⟩
end Go.Ab
