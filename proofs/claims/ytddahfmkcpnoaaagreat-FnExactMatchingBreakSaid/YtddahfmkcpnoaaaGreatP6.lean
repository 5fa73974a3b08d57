/- Texts Dbg1 .. Dbg1: the abstract machine, its laws and contracts of functions: lemmas for the statement. No condition. -/
import Derived.Test.YtddahfmkcpnoaaaGreatP5
namespace Go.Ab
open Go
set_option maxRecDepth 10000
def F338 : AFun := szS0 
def F1173 : AFun := szS0 
def F852_r0 : List AOper := [⟨0, some 5, none, .nop 2, []⟩,
⟨1, some 6, none, .lload 2 3 none, []⟩,
⟨2, some 7, none, .mov (.t 1), []⟩,
⟨3, some 8, none, .call 338 [.t 6, .t 7], []⟩,
⟨4, some 1, none, .mov (.t 8), []⟩]
@[go_sem] theorem F852_r0_r {E ks st Q} : type_of% (@opsE E ks st Q _ _ F852_r0.eq_1) := opsE F852_r0.eq_1
def F852_k1 : ACode := .seq (.reg true [⟨0, some 9, none, .mov (.t 1), []⟩,
⟨1, some 10, none, .bin .lss (.t 9) (.c (.int .i64 0)), []⟩]) (.cond (.t 10) (.seq (.reg true [⟨0, some 4, none, .mov (.c (.int .i64 (-1))), []⟩]) (.ret)) (.skip))
@[go_sem] theorem F852_k1_r {E ks st Q} : type_of% (@codeE E ks st Q _ _ F852_k1.eq_1) := codeE F852_k1.eq_1
def F852_r2 : List AOper := [⟨0, some 11, none, .nop 2, []⟩,
⟨1, some 12, none, .lload 2 4 none, []⟩,
⟨2, some 13, none, .mov (.t 1), []⟩,
⟨3, some 14, none, .call 1173 [.t 12, .t 13], []⟩,
⟨4, some 1, none, .mov (.t 14), []⟩]
@[go_sem] theorem F852_r2_r {E ks st Q} : type_of% (@opsE E ks st Q _ _ F852_r2.eq_1) := opsE F852_r2.eq_1
def F852_k3 : ACode := .seq (.reg true [⟨0, some 15, none, .mov (.t 1), []⟩,
⟨1, some 16, none, .bin .lss (.t 15) (.c (.int .i64 0)), []⟩]) (.cond (.t 16) (.seq (.reg true [⟨0, some 4, none, .mov (.c (.int .i64 (-1))), []⟩]) (.ret)) (.skip))
@[go_sem] theorem F852_k3_r {E ks st Q} : type_of% (@codeE E ks st Q _ _ F852_k3.eq_1) := codeE F852_k3.eq_1
def F852_k4 : ACode := .seq F852_k3 (.seq (.reg true [⟨0, some 17, none, .mov (.t 1), []⟩,
⟨1, some 4, none, .mov (.t 17), []⟩]) (.ret))
@[go_sem] theorem F852_k4_r {E ks st Q} : type_of% (@codeE E ks st Q _ _ F852_k4.eq_1) := codeE F852_k4.eq_1
def F852_k5 : ACode := .seq (.reg true F852_r2) F852_k4
@[go_sem] theorem F852_k5_r {E ks st Q} : type_of% (@codeE E ks st Q _ _ F852_k5.eq_1) := codeE F852_k5.eq_1
def F852_k6 : ACode := .seq F852_k1 F852_k5
@[go_sem] theorem F852_k6_r {E ks st Q} : type_of% (@codeE E ks st Q _ _ F852_k6.eq_1) := codeE F852_k6.eq_1
def F852_k7 : ACode := .seq (.reg true F852_r0) F852_k6
@[go_sem] theorem F852_k7_r {E ks st Q} : type_of% (@codeE E ks st Q _ _ F852_k7.eq_1) := codeE F852_k7.eq_1
def F852 : AFun := ⟨2, 18, [.t 4], .seq (.reg true [⟨0, some 2, none, .lbox 5 (.t 0), []⟩,
⟨1, some 4, none, .mov (.c (.int .i64 0)), []⟩]) F852_k7⟩
def F501 : AFun := szS 5 (some 5) 852
def F182_r0 : List AOper := [⟨0, some 5, none, .nop 2, []⟩,
⟨1, some 6, none, .lload 2 0 none, []⟩,
⟨2, some 7, none, .mov (.t 1), []⟩,
⟨3, some 8, none, .call 501 [.t 6, .t 7], []⟩,
⟨4, some 1, none, .mov (.t 8), []⟩]
@[go_sem] theorem F182_r0_r {E ks st Q} : type_of% (@opsE E ks st Q _ _ F182_r0.eq_1) := opsE F182_r0.eq_1
def F182_k1 : ACode := .seq (.reg true [⟨0, some 9, none, .mov (.t 1), []⟩,
⟨1, some 10, none, .bin .lss (.t 9) (.c (.int .i64 0)), []⟩]) (.cond (.t 10) (.seq (.reg true [⟨0, some 4, none, .mov (.c (.int .i64 (-1))), []⟩]) (.ret)) (.skip))
@[go_sem] theorem F182_k1_r {E ks st Q} : type_of% (@codeE E ks st Q _ _ F182_k1.eq_1) := codeE F182_k1.eq_1
def F182_k2 : ACode := .seq F182_k1 (.seq (.reg true [⟨0, some 11, none, .mov (.t 1), []⟩,
⟨1, some 4, none, .mov (.t 11), []⟩]) (.ret))
@[go_sem] theorem F182_k2_r {E ks st Q} : type_of% (@codeE E ks st Q _ _ F182_k2.eq_1) := codeE F182_k2.eq_1
def F182_k3 : ACode := .seq (.reg true F182_r0) F182_k2
@[go_sem] theorem F182_k3_r {E ks st Q} : type_of% (@codeE E ks st Q _ _ F182_k3.eq_1) := codeE F182_k3.eq_1
def F182 : AFun := ⟨2, 12, [.t 4], .seq (.reg true [⟨0, some 2, none, .lbox 1 (.t 0), []⟩,
⟨1, some 4, none, .mov (.c (.int .i64 0)), []⟩]) F182_k3⟩
def F181 : AFun := szS 1 (some 1) 182
def F364 : AFun := szS0 
def F365 : AFun := szS0 
def F740_r0 : List AOper := [⟨0, some 5, none, .nop 2, []⟩,
⟨1, some 6, none, .lload 2 1 (some 1), []⟩,
⟨2, some 7, none, .mov (.t 1), []⟩,
⟨3, some 8, none, .call 182 [.t 6, .t 7], []⟩,
⟨4, some 1, none, .mov (.t 8), []⟩]
@[go_sem] theorem F740_r0_r {E ks st Q} : type_of% (@opsE E ks st Q _ _ F740_r0.eq_1) := opsE F740_r0.eq_1
def F740_k1 : ACode := .seq (.reg true [⟨0, some 9, none, .mov (.t 1), []⟩,
⟨1, some 10, none, .bin .lss (.t 9) (.c (.int .i64 0)), []⟩]) (.cond (.t 10) (.seq (.reg true [⟨0, some 4, none, .mov (.c (.int .i64 (-1))), []⟩]) (.ret)) (.skip))
@[go_sem] theorem F740_k1_r {E ks st Q} : type_of% (@codeE E ks st Q _ _ F740_k1.eq_1) := codeE F740_k1.eq_1
def F740_r2 : List AOper := [⟨0, some 11, none, .nop 2, []⟩,
⟨1, some 12, none, .lload 2 2 none, []⟩,
⟨2, some 13, none, .mov (.t 1), []⟩,
⟨3, some 14, none, .call 364 [.t 12, .t 13], []⟩,
⟨4, some 1, none, .mov (.t 14), []⟩]
@[go_sem] theorem F740_r2_r {E ks st Q} : type_of% (@opsE E ks st Q _ _ F740_r2.eq_1) := opsE F740_r2.eq_1
def F740_k3 : ACode := .seq (.reg true [⟨0, some 15, none, .mov (.t 1), []⟩,
⟨1, some 16, none, .bin .lss (.t 15) (.c (.int .i64 0)), []⟩]) (.cond (.t 16) (.seq (.reg true [⟨0, some 4, none, .mov (.c (.int .i64 (-1))), []⟩]) (.ret)) (.skip))
@[go_sem] theorem F740_k3_r {E ks st Q} : type_of% (@codeE E ks st Q _ _ F740_k3.eq_1) := codeE F740_k3.eq_1
def F740_k4 : ACode := .seq F740_k3 (.seq (.reg true [⟨0, some 17, none, .mov (.t 1), []⟩,
⟨1, some 4, none, .mov (.t 17), []⟩]) (.ret))
@[go_sem] theorem F740_k4_r {E ks st Q} : type_of% (@codeE E ks st Q _ _ F740_k4.eq_1) := codeE F740_k4.eq_1
def F740_k5 : ACode := .seq (.reg true F740_r2) F740_k4
@[go_sem] theorem F740_k5_r {E ks st Q} : type_of% (@codeE E ks st Q _ _ F740_k5.eq_1) := codeE F740_k5.eq_1
def F740_k6 : ACode := .seq F740_k1 F740_k5
@[go_sem] theorem F740_k6_r {E ks st Q} : type_of% (@codeE E ks st Q _ _ F740_k6.eq_1) := codeE F740_k6.eq_1
def F740_k7 : ACode := .seq (.reg true F740_r0) F740_k6
@[go_sem] theorem F740_k7_r {E ks st Q} : type_of% (@codeE E ks st Q _ _ F740_k7.eq_1) := codeE F740_k7.eq_1
def F740 : AFun := ⟨2, 18, [.t 4], .seq (.reg true [⟨0, some 2, none, .lbox 3 (.t 0), []⟩,
⟨1, some 4, none, .mov (.c (.int .i64 0)), []⟩]) F740_k7⟩
def F366 : AFun := szS 3 (some 3) 740
def F104_r0 : List AOper := [⟨0, some 5, none, .nop 2, []⟩,
⟨1, some 6, none, .lload 2 0 none, []⟩,
⟨2, some 7, none, .mov (.t 1), []⟩,
⟨3, some 8, none, .call 181 [.t 6, .t 7], []⟩,
⟨4, some 1, none, .mov (.t 8), []⟩]
@[go_sem] theorem F104_r0_r {E ks st Q} : type_of% (@opsE E ks st Q _ _ F104_r0.eq_1) := opsE F104_r0.eq_1
def F104_k1 : ACode := .seq (.reg true [⟨0, some 9, none, .mov (.t 1), []⟩,
⟨1, some 10, none, .bin .lss (.t 9) (.c (.int .i64 0)), []⟩]) (.cond (.t 10) (.seq (.reg true [⟨0, some 4, none, .mov (.c (.int .i64 (-1))), []⟩]) (.ret)) (.skip))
@[go_sem] theorem F104_k1_r {E ks st Q} : type_of% (@codeE E ks st Q _ _ F104_k1.eq_1) := codeE F104_k1.eq_1
def F104_r2 : List AOper := [⟨0, some 11, none, .nop 2, []⟩,
⟨1, some 12, none, .lload 2 1 none, []⟩,
⟨2, some 13, none, .mov (.t 1), []⟩,
⟨3, some 14, none, .call 338 [.t 12, .t 13], []⟩,
⟨4, some 1, none, .mov (.t 14), []⟩]
@[go_sem] theorem F104_r2_r {E ks st Q} : type_of% (@opsE E ks st Q _ _ F104_r2.eq_1) := opsE F104_r2.eq_1
def F104_k3 : ACode := .seq (.reg true [⟨0, some 15, none, .mov (.t 1), []⟩,
⟨1, some 16, none, .bin .lss (.t 15) (.c (.int .i64 0)), []⟩]) (.cond (.t 16) (.seq (.reg true [⟨0, some 4, none, .mov (.c (.int .i64 (-1))), []⟩]) (.ret)) (.skip))
@[go_sem] theorem F104_k3_r {E ks st Q} : type_of% (@codeE E ks st Q _ _ F104_k3.eq_1) := codeE F104_k3.eq_1
def F104_r4 : List AOper := [⟨0, some 17, none, .nop 2, []⟩,
⟨1, some 18, none, .lload 2 4 (some 1), []⟩,
⟨2, some 19, none, .mov (.t 1), []⟩,
⟨3, some 20, none, .call 182 [.t 18, .t 19], []⟩,
⟨4, some 1, none, .mov (.t 20), []⟩]
@[go_sem] theorem F104_r4_r {E ks st Q} : type_of% (@opsE E ks st Q _ _ F104_r4.eq_1) := opsE F104_r4.eq_1
def F104_k5 : ACode := .seq (.reg true [⟨0, some 21, none, .mov (.t 1), []⟩,
⟨1, some 22, none, .bin .lss (.t 21) (.c (.int .i64 0)), []⟩]) (.cond (.t 22) (.seq (.reg true [⟨0, some 4, none, .mov (.c (.int .i64 (-1))), []⟩]) (.ret)) (.skip))
@[go_sem] theorem F104_k5_r {E ks st Q} : type_of% (@codeE E ks st Q _ _ F104_k5.eq_1) := codeE F104_k5.eq_1
def F104_r6 : List AOper := [⟨0, some 23, none, .nop 2, []⟩,
⟨1, some 24, none, .lload 2 5 none, []⟩,
⟨2, some 25, none, .mov (.t 1), []⟩,
⟨3, some 26, none, .call 364 [.t 24, .t 25], []⟩,
⟨4, some 1, none, .mov (.t 26), []⟩]
@[go_sem] theorem F104_r6_r {E ks st Q} : type_of% (@opsE E ks st Q _ _ F104_r6.eq_1) := opsE F104_r6.eq_1
def F104_k7 : ACode := .seq (.reg true [⟨0, some 27, none, .mov (.t 1), []⟩,
⟨1, some 28, none, .bin .lss (.t 27) (.c (.int .i64 0)), []⟩]) (.cond (.t 28) (.seq (.reg true [⟨0, some 4, none, .mov (.c (.int .i64 (-1))), []⟩]) (.ret)) (.skip))
@[go_sem] theorem F104_k7_r {E ks st Q} : type_of% (@codeE E ks st Q _ _ F104_k7.eq_1) := codeE F104_k7.eq_1
def F104_r8 : List AOper := [⟨0, some 29, none, .nop 2, []⟩,
⟨1, some 30, none, .lload 2 6 none, []⟩,
⟨2, some 31, none, .mov (.t 1), []⟩,
⟨3, some 32, none, .call 365 [.t 30, .t 31], []⟩,
⟨4, some 1, none, .mov (.t 32), []⟩]
@[go_sem] theorem F104_r8_r {E ks st Q} : type_of% (@opsE E ks st Q _ _ F104_r8.eq_1) := opsE F104_r8.eq_1
def F104_k9 : ACode := .seq (.reg true [⟨0, some 33, none, .mov (.t 1), []⟩,
⟨1, some 34, none, .bin .lss (.t 33) (.c (.int .i64 0)), []⟩]) (.cond (.t 34) (.seq (.reg true [⟨0, some 4, none, .mov (.c (.int .i64 (-1))), []⟩]) (.ret)) (.skip))
@[go_sem] theorem F104_k9_r {E ks st Q} : type_of% (@codeE E ks st Q _ _ F104_k9.eq_1) := codeE F104_k9.eq_1
def F104_r10 : List AOper := [⟨0, some 35, none, .nop 2, []⟩,
⟨1, some 36, none, .lload 2 7 none, []⟩,
⟨2, some 37, none, .mov (.t 1), []⟩,
⟨3, some 38, none, .call 366 [.t 36, .t 37], []⟩,
⟨4, some 1, none, .mov (.t 38), []⟩]
@[go_sem] theorem F104_r10_r {E ks st Q} : type_of% (@opsE E ks st Q _ _ F104_r10.eq_1) := opsE F104_r10.eq_1
def F104_k11 : ACode := .seq (.reg true [⟨0, some 39, none, .mov (.t 1), []⟩,
⟨1, some 40, none, .bin .lss (.t 39) (.c (.int .i64 0)), []⟩]) (.cond (.t 40) (.seq (.reg true [⟨0, some 4, none, .mov (.c (.int .i64 (-1))), []⟩]) (.ret)) (.skip))
@[go_sem] theorem F104_k11_r {E ks st Q} : type_of% (@codeE E ks st Q _ _ F104_k11.eq_1) := codeE F104_k11.eq_1
def F104_k12 : ACode := .seq F104_k11 (.seq (.reg true [⟨0, some 41, none, .mov (.t 1), []⟩,
⟨1, some 4, none, .mov (.t 41), []⟩]) (.ret))
@[go_sem] theorem F104_k12_r {E ks st Q} : type_of% (@codeE E ks st Q _ _ F104_k12.eq_1) := codeE F104_k12.eq_1
def F104_k13 : ACode := .seq (.reg true F104_r10) F104_k12
@[go_sem] theorem F104_k13_r {E ks st Q} : type_of% (@codeE E ks st Q _ _ F104_k13.eq_1) := codeE F104_k13.eq_1
def F104_k14 : ACode := .seq F104_k9 F104_k13
@[go_sem] theorem F104_k14_r {E ks st Q} : type_of% (@codeE E ks st Q _ _ F104_k14.eq_1) := codeE F104_k14.eq_1
def F104_k15 : ACode := .seq (.reg true F104_r8) F104_k14
@[go_sem] theorem F104_k15_r {E ks st Q} : type_of% (@codeE E ks st Q _ _ F104_k15.eq_1) := codeE F104_k15.eq_1
def F104_k16 : ACode := .seq F104_k7 F104_k15
@[go_sem] theorem F104_k16_r {E ks st Q} : type_of% (@codeE E ks st Q _ _ F104_k16.eq_1) := codeE F104_k16.eq_1
def F104_k17 : ACode := .seq (.reg true F104_r6) F104_k16
@[go_sem] theorem F104_k17_r {E ks st Q} : type_of% (@codeE E ks st Q _ _ F104_k17.eq_1) := codeE F104_k17.eq_1
def F104_k18 : ACode := .seq F104_k5 F104_k17
@[go_sem] theorem F104_k18_r {E ks st Q} : type_of% (@codeE E ks st Q _ _ F104_k18.eq_1) := codeE F104_k18.eq_1
def F104_k19 : ACode := .seq (.reg true F104_r4) F104_k18
@[go_sem] theorem F104_k19_r {E ks st Q} : type_of% (@codeE E ks st Q _ _ F104_k19.eq_1) := codeE F104_k19.eq_1
def F104_k20 : ACode := .seq F104_k3 F104_k19
@[go_sem] theorem F104_k20_r {E ks st Q} : type_of% (@codeE E ks st Q _ _ F104_k20.eq_1) := codeE F104_k20.eq_1
def F104_k21 : ACode := .seq (.reg true F104_r2) F104_k20
@[go_sem] theorem F104_k21_r {E ks st Q} : type_of% (@codeE E ks st Q _ _ F104_k21.eq_1) := codeE F104_k21.eq_1
def F104_k22 : ACode := .seq F104_k1 F104_k21
@[go_sem] theorem F104_k22_r {E ks st Q} : type_of% (@codeE E ks st Q _ _ F104_k22.eq_1) := codeE F104_k22.eq_1
def F104_k23 : ACode := .seq (.reg true F104_r0) F104_k22
@[go_sem] theorem F104_k23_r {E ks st Q} : type_of% (@codeE E ks st Q _ _ F104_k23.eq_1) := codeE F104_k23.eq_1
def F104 : AFun := ⟨2, 42, [.t 4], .seq (.reg true [⟨0, some 2, none, .lbox 8 (.t 0), []⟩,
⟨1, some 4, none, .mov (.c (.int .i64 0)), []⟩]) F104_k23⟩
def F340_r0 : List AOper := [⟨0, some 7, none, .mov (.t 0), []⟩,
⟨1, some 8, none, .mov (.t 1), []⟩,
⟨2, some 9, none, .bin .geq (.t 7) (.t 8), []⟩,
⟨3, some 10, none, .mov (.t 9), []⟩,
⟨4, some 11, (some (10, true)), .mov (.t 0), []⟩,
⟨5, some 12, (some (10, true)), .mov (.t 2), []⟩,
⟨6, some 13, (some (10, true)), .bin .leq (.t 11) (.t 12), []⟩,
⟨7, some 14, none, .pick (.t 10) (.t 13) (.c (.bool false)), []⟩,
⟨8, some 6, none, .mov (.t 14), []⟩]
@[go_sem] theorem F340_r0_r {E ks st Q} : type_of% (@opsE E ks st Q _ _ F340_r0.eq_1) := opsE F340_r0.eq_1
def F340_k1 : ACode := .seq (.reg true F340_r0) (.ret)
@[go_sem] theorem F340_k1_r {E ks st Q} : type_of% (@codeE E ks st Q _ _ F340_k1.eq_1) := codeE F340_k1.eq_1
def F340 : AFun := ⟨3, 15, [.t 6], .seq (.reg true [⟨0, some 6, none, .mov (.c (.bool false)), []⟩]) F340_k1⟩
def F412_r0 : List AOper := [⟨0, some 4, none, .mov (.t 0), []⟩,
⟨1, some 5, none, .len (.t 4), []⟩,
⟨2, some 6, none, .bin .gtr (.t 5) (.c (.int .i64 200)), []⟩]
@[go_sem] theorem F412_r0_r {E ks st Q} : type_of% (@opsE E ks st Q _ _ F412_r0.eq_1) := opsE F412_r0.eq_1
def F412_k1 : ACode := .seq (.reg true F412_r0) (.cond (.t 6) (.seq (.reg true [⟨0, some 2, none, .mov (.c (.bool false)), []⟩]) (.ret)) (.skip))
@[go_sem] theorem F412_k1_r {E ks st Q} : type_of% (@codeE E ks st Q _ _ F412_k1.eq_1) := codeE F412_k1.eq_1
def F412_r2 : List AOper := [⟨0, some 7, none, .mov (.t 3), []⟩,
⟨1, some 8, none, .mov (.t 0), []⟩,
⟨2, some 9, none, .len (.t 8), []⟩,
⟨3, some 10, none, .bin .lss (.t 7) (.t 9), []⟩]
@[go_sem] theorem F412_r2_r {E ks st Q} : type_of% (@opsE E ks st Q _ _ F412_r2.eq_1) := opsE F412_r2.eq_1
def F412_k3 : ACode := .seq (.reg true F412_r2) (.cond (.t 10) (.skip) (.exit 0))
@[go_sem] theorem F412_k3_r {E ks st Q} : type_of% (@codeE E ks st Q _ _ F412_k3.eq_1) := codeE F412_k3.eq_1
def F412_r4 : List AOper := [⟨0, some 13, none, .mov (.t 0), []⟩,
⟨1, some 14, none, .mov (.t 3), []⟩,
⟨2, some 15, none, .iaddr 1 (.t 13) (.t 14), []⟩,
⟨3, some 16, none, .load none (.t 15), []⟩,
⟨4, some 17, none, .call 340 [.t 16, .c (.int .i64 0), .c (.int .i64 600)], []⟩,
⟨5, some 18, none, .not (.t 17), []⟩]
@[go_sem] theorem F412_r4_r {E ks st Q} : type_of% (@opsE E ks st Q _ _ F412_r4.eq_1) := opsE F412_r4.eq_1
def F412_k5 : ACode := .seq (.reg true F412_r4) (.cond (.t 18) (.seq (.reg true [⟨0, some 2, none, .mov (.c (.bool false)), []⟩]) (.ret)) (.skip))
@[go_sem] theorem F412_k5_r {E ks st Q} : type_of% (@codeE E ks st Q _ _ F412_k5.eq_1) := codeE F412_k5.eq_1
def F412_k6 : ACode := .blk 1 F412_k5
@[go_sem] theorem F412_k6_r {E ks st Q} : type_of% (@codeE E ks st Q _ _ F412_k6.eq_1) := codeE F412_k6.eq_1
def F412_r7 : List AOper := [⟨0, some 11, none, .mov (.t 3), []⟩,
⟨1, some 12, none, .bin .add (.t 11) (.c (.int .i64 1)), []⟩,
⟨2, some 3, none, .mov (.t 12), []⟩]
@[go_sem] theorem F412_r7_r {E ks st Q} : type_of% (@opsE E ks st Q _ _ F412_r7.eq_1) := opsE F412_r7.eq_1
def F412_k8 : ACode := .seq F412_k6 (.reg true F412_r7)
@[go_sem] theorem F412_k8_r {E ks st Q} : type_of% (@codeE E ks st Q _ _ F412_k8.eq_1) := codeE F412_k8.eq_1
def F412_k9 : ACode := .seq F412_k3 F412_k8
@[go_sem] theorem F412_k9_r {E ks st Q} : type_of% (@codeE E ks st Q _ _ F412_k9.eq_1) := codeE F412_k9.eq_1
def F412_k10 : ACode := .loop F412_k9
@[go_sem] theorem F412_k10_r {E ks st Q} : type_of% (@codeE E ks st Q _ _ F412_k10.eq_1) := codeE F412_k10.eq_1
def F412_k11 : ACode := .blk 0 F412_k10
@[go_sem] theorem F412_k11_r {E ks st Q} : type_of% (@codeE E ks st Q _ _ F412_k11.eq_1) := codeE F412_k11.eq_1
def F412_k12 : ACode := .seq (.reg true [⟨0, some 3, none, .mov (.c (.int .i64 0)), []⟩]) F412_k11
@[go_sem] theorem F412_k12_r {E ks st Q} : type_of% (@codeE E ks st Q _ _ F412_k12.eq_1) := codeE F412_k12.eq_1
def F412_k13 : ACode := .seq F412_k12 (.seq (.reg true [⟨0, some 2, none, .mov (.c (.bool true)), []⟩]) (.ret))
@[go_sem] theorem F412_k13_r {E ks st Q} : type_of% (@codeE E ks st Q _ _ F412_k13.eq_1) := codeE F412_k13.eq_1
def F412_k14 : ACode := .seq F412_k1 F412_k13
@[go_sem] theorem F412_k14_r {E ks st Q} : type_of% (@codeE E ks st Q _ _ F412_k14.eq_1) := codeE F412_k14.eq_1
def F412 : AFun := ⟨1, 19, [.t 2], .seq (.reg true [⟨0, some 2, none, .mov (.c (.bool false)), []⟩]) F412_k14⟩
def F426_r0 : List AOper := [⟨0, some 3, none, .mov (.t 0), []⟩,
⟨1, some 4, none, .nilchk (.t 3), []⟩,
⟨2, some 5, none, .faddr 0 (.t 4), []⟩,
⟨3, some 6, none, .load none (.t 5), []⟩]
@[go_sem] theorem F426_r0_r {E ks st Q} : type_of% (@opsE E ks st Q _ _ F426_r0.eq_1) := opsE F426_r0.eq_1
def F426_r1 : List AOper := [⟨0, some 9, none, .mov (.t 0), []⟩,
⟨1, some 10, none, .nilchk (.t 9), []⟩,
⟨2, some 11, none, .faddr 1 (.t 10), []⟩,
⟨3, some 12, none, .load none (.t 11), []⟩,
⟨4, some 13, none, .call 340 [.t 12, .c (.int .i64 1), .c (.int .i64 8)], []⟩,
⟨5, some 2, none, .mov (.t 13), []⟩]
@[go_sem] theorem F426_r1_r {E ks st Q} : type_of% (@opsE E ks st Q _ _ F426_r1.eq_1) := opsE F426_r1.eq_1
def F426_k2 : ACode := .seq (.reg true F426_r1) (.ret)
@[go_sem] theorem F426_k2_r {E ks st Q} : type_of% (@codeE E ks st Q _ _ F426_k2.eq_1) := codeE F426_k2.eq_1
def F426_r3 : List AOper := [⟨0, some 16, none, .mov (.t 0), []⟩,
⟨1, some 17, none, .nilchk (.t 16), []⟩,
⟨2, some 18, none, .faddr 1 (.t 17), []⟩,
⟨3, some 19, none, .load none (.t 18), []⟩,
⟨4, some 20, none, .call 340 [.t 19, .c (.int .i64 0), .c (.int .i64 23)], []⟩,
⟨5, some 2, none, .mov (.t 20), []⟩]
@[go_sem] theorem F426_r3_r {E ks st Q} : type_of% (@opsE E ks st Q _ _ F426_r3.eq_1) := opsE F426_r3.eq_1
def F426_k4 : ACode := .seq (.reg true F426_r3) (.ret)
@[go_sem] theorem F426_k4_r {E ks st Q} : type_of% (@codeE E ks st Q _ _ F426_k4.eq_1) := codeE F426_k4.eq_1
def F426_r5 : List AOper := [⟨0, some 23, none, .mov (.t 0), []⟩,
⟨1, some 24, none, .nilchk (.t 23), []⟩,
⟨2, some 25, none, .faddr 1 (.t 24), []⟩,
⟨3, some 26, none, .load none (.t 25), []⟩,
⟨4, some 27, none, .call 340 [.t 26, .c (.int .i64 1), .c (.int .i64 600)], []⟩,
⟨5, some 2, none, .mov (.t 27), []⟩]
@[go_sem] theorem F426_r5_r {E ks st Q} : type_of% (@opsE E ks st Q _ _ F426_r5.eq_1) := opsE F426_r5.eq_1
def F426_k6 : ACode := .seq (.reg true F426_r5) (.ret)
@[go_sem] theorem F426_k6_r {E ks st Q} : type_of% (@codeE E ks st Q _ _ F426_k6.eq_1) := codeE F426_k6.eq_1
def F426_k7 : ACode := .cond (.t 21) F426_k6 (.skip)
@[go_sem] theorem F426_k7_r {E ks st Q} : type_of% (@codeE E ks st Q _ _ F426_k7.eq_1) := codeE F426_k7.eq_1
def F426_k8 : ACode := .seq (.reg true [⟨0, some 22, none, .bin .eql (.t 6) (.c (.int .i64 3)), []⟩,
⟨1, some 21, none, .mov (.t 22), []⟩]) F426_k7
@[go_sem] theorem F426_k8_r {E ks st Q} : type_of% (@codeE E ks st Q _ _ F426_k8.eq_1) := codeE F426_k8.eq_1
def F426_k9 : ACode := .cond (.t 14) F426_k4 F426_k8
@[go_sem] theorem F426_k9_r {E ks st Q} : type_of% (@codeE E ks st Q _ _ F426_k9.eq_1) := codeE F426_k9.eq_1
def F426_k10 : ACode := .seq (.reg true [⟨0, some 15, none, .bin .eql (.t 6) (.c (.int .i64 2)), []⟩,
⟨1, some 14, none, .mov (.t 15), []⟩]) F426_k9
@[go_sem] theorem F426_k10_r {E ks st Q} : type_of% (@codeE E ks st Q _ _ F426_k10.eq_1) := codeE F426_k10.eq_1
def F426_k11 : ACode := .cond (.t 7) F426_k2 F426_k10
@[go_sem] theorem F426_k11_r {E ks st Q} : type_of% (@codeE E ks st Q _ _ F426_k11.eq_1) := codeE F426_k11.eq_1
def F426_k12 : ACode := .seq (.reg true [⟨0, some 8, none, .bin .eql (.t 6) (.c (.int .i64 1)), []⟩,
⟨1, some 7, none, .mov (.t 8), []⟩]) F426_k11
@[go_sem] theorem F426_k12_r {E ks st Q} : type_of% (@codeE E ks st Q _ _ F426_k12.eq_1) := codeE F426_k12.eq_1
def F426_k13 : ACode := .blk 0 F426_k12
@[go_sem] theorem F426_k13_r {E ks st Q} : type_of% (@codeE E ks st Q _ _ F426_k13.eq_1) := codeE F426_k13.eq_1
def F426_k14 : ACode := .seq (.reg true F426_r0) F426_k13
@[go_sem] theorem F426_k14_r {E ks st Q} : type_of% (@codeE E ks st Q _ _ F426_k14.eq_1) := codeE F426_k14.eq_1
def F426_k15 : ACode := .seq F426_k14 (.seq (.reg true [⟨0, some 2, none, .mov (.c (.bool false)), []⟩]) (.ret))
@[go_sem] theorem F426_k15_r {E ks st Q} : type_of% (@codeE E ks st Q _ _ F426_k15.eq_1) := codeE F426_k15.eq_1
def F426 : AFun := ⟨1, 28, [.t 2], .seq (.reg true [⟨0, some 2, none, .mov (.c (.bool false)), []⟩]) F426_k15⟩
def F488_r0 : List AOper := [⟨0, some 5, none, .nop 3, []⟩,
⟨1, some 6, none, .lload 3 0 none, []⟩,
⟨2, some 7, none, .mov (.t 0), []⟩,
⟨3, some 8, none, .len (.t 7), []⟩,
⟨4, some 9, none, .bin .sub (.t 8) (.c (.int .i64 1)), []⟩,
⟨5, some 10, none, .call 340 [.t 6, .c (.int .i64 0), .t 9], []⟩,
⟨6, some 11, none, .mov (.t 10), []⟩,
⟨7, some 12, (some (11, true)), .nop 3, []⟩,
⟨8, some 13, (some (11, true)), .lload 3 1 none, []⟩,
⟨9, some 14, (some (11, true)), .mov (.t 0), []⟩,
⟨10, some 15, (some (11, true)), .nop 3, []⟩,
⟨11, some 16, (some (11, true)), .lload 3 0 none, []⟩,
⟨12, some 17, (some (11, true)), .iaddr 5 (.t 14) (.t 16), []⟩,
⟨13, some 18, (some (11, true)), .faddr 4 (.t 17), []⟩,
⟨14, some 19, (some (11, true)), .load none (.t 18), []⟩,
⟨15, some 20, (some (11, true)), .len (.t 19), []⟩,
⟨16, some 21, (some (11, true)), .bin .sub (.t 20) (.c (.int .i64 1)), []⟩,
⟨17, some 22, (some (11, true)), .call 340 [.t 13, .c (.int .i64 0), .t 21], []⟩,
⟨18, some 23, none, .pick (.t 11) (.t 22) (.c (.bool false)), []⟩,
⟨19, some 4, none, .mov (.t 23), []⟩]
@[go_sem] theorem F488_r0_r {E ks st Q} : type_of% (@opsE E ks st Q _ _ F488_r0.eq_1) := opsE F488_r0.eq_1
def F488_k1 : ACode := .seq (.reg true F488_r0) (.ret)
@[go_sem] theorem F488_k1_r {E ks st Q} : type_of% (@codeE E ks st Q _ _ F488_k1.eq_1) := codeE F488_k1.eq_1
def F488 : AFun := ⟨2, 24, [.t 4], .seq (.reg true [⟨0, some 3, none, .lbox 2 (.t 1), []⟩,
⟨1, some 4, none, .mov (.c (.bool false)), []⟩]) F488_k1⟩
def F1371_r0 : List AOper := [⟨0, some 9, none, .mov (.t 1), []⟩,
⟨1, some 10, none, .bin .add (.c (.int .i64 1)) (.t 9), []⟩,
⟨2, some 4, none, .mov (.t 10), []⟩]
@[go_sem] theorem F1371_r0_r {E ks st Q} : type_of% (@opsE E ks st Q _ _ F1371_r0.eq_1) := opsE F1371_r0.eq_1
def F1371_k1 : ACode := .cond (.t 8) (.seq (.reg true F1371_r0) (.ret)) (.skip)
@[go_sem] theorem F1371_k1_r {E ks st Q} : type_of% (@codeE E ks st Q _ _ F1371_k1.eq_1) := codeE F1371_k1.eq_1
def F1371_k2 : ACode := .seq (.reg true [⟨0, some 7, none, .mov (.t 1), []⟩,
⟨1, some 8, none, .call 340 [.t 7, .c (.int .i64 0), .c (.int .i64 3)], []⟩]) F1371_k1
@[go_sem] theorem F1371_k2_r {E ks st Q} : type_of% (@codeE E ks st Q _ _ F1371_k2.eq_1) := codeE F1371_k2.eq_1
def F1371_k3 : ACode := .seq F1371_k2 (.seq (.reg true [⟨0, some 4, none, .mov (.c (.int .i64 0)), []⟩]) (.ret))
@[go_sem] theorem F1371_k3_r {E ks st Q} : type_of% (@codeE E ks st Q _ _ F1371_k3.eq_1) := codeE F1371_k3.eq_1
def F1371_k4 : ACode := .cond (.t 6) F1371_k3 (.skip)
@[go_sem] theorem F1371_k4_r {E ks st Q} : type_of% (@codeE E ks st Q _ _ F1371_k4.eq_1) := codeE F1371_k4.eq_1
def F1371_k5 : ACode := .seq (.reg true [⟨0, some 5, none, .mov (.t 0), []⟩,
⟨1, some 6, none, .bin .eql (.t 5) (.c (.int .i64 9)), []⟩]) F1371_k4
@[go_sem] theorem F1371_k5_r {E ks st Q} : type_of% (@codeE E ks st Q _ _ F1371_k5.eq_1) := codeE F1371_k5.eq_1
def F1371_k6 : ACode := .seq (.reg true [⟨0, some 11, none, .mov (.t 1), []⟩,
⟨1, some 12, none, .bin .neq (.t 11) (.c (.int .i64 0)), []⟩]) (.cond (.t 12) (.seq (.reg true [⟨0, some 4, none, .mov (.c (.int .i64 0)), []⟩]) (.ret)) (.skip))
@[go_sem] theorem F1371_k6_r {E ks st Q} : type_of% (@codeE E ks st Q _ _ F1371_k6.eq_1) := codeE F1371_k6.eq_1
def F1371_k7 : ACode := .seq (.reg true [⟨0, some 17, none, .bin .eql (.t 13) (.c (.int .i64 6)), []⟩,
⟨1, some 14, none, .mov (.t 17), []⟩]) (.cond (.t 14) (.skip) (.reg true [⟨0, some 18, none, .bin .eql (.t 13) (.c (.int .i64 12)), []⟩,
⟨1, some 14, none, .mov (.t 18), []⟩]))
@[go_sem] theorem F1371_k7_r {E ks st Q} : type_of% (@codeE E ks st Q _ _ F1371_k7.eq_1) := codeE F1371_k7.eq_1
def F1371_k8 : ACode := .cond (.t 14) (.skip) F1371_k7
@[go_sem] theorem F1371_k8_r {E ks st Q} : type_of% (@codeE E ks st Q _ _ F1371_k8.eq_1) := codeE F1371_k8.eq_1
def F1371_k9 : ACode := .seq (.reg true [⟨0, some 16, none, .bin .eql (.t 13) (.c (.int .i64 5)), []⟩,
⟨1, some 14, none, .mov (.t 16), []⟩]) F1371_k8
@[go_sem] theorem F1371_k9_r {E ks st Q} : type_of% (@codeE E ks st Q _ _ F1371_k9.eq_1) := codeE F1371_k9.eq_1
def F1371_k10 : ACode := .cond (.t 14) (.skip) F1371_k9
@[go_sem] theorem F1371_k10_r {E ks st Q} : type_of% (@codeE E ks st Q _ _ F1371_k10.eq_1) := codeE F1371_k10.eq_1
def F1371_k11 : ACode := .seq (.reg true [⟨0, some 15, none, .bin .eql (.t 13) (.c (.int .i64 1)), []⟩,
⟨1, some 14, none, .mov (.t 15), []⟩]) F1371_k10
@[go_sem] theorem F1371_k11_r {E ks st Q} : type_of% (@codeE E ks st Q _ _ F1371_k11.eq_1) := codeE F1371_k11.eq_1
def F1371_k12 : ACode := .seq (.reg true [⟨0, some 21, none, .bin .eql (.t 13) (.c (.int .i64 10)), []⟩,
⟨1, some 19, none, .mov (.t 21), []⟩]) (.cond (.t 19) (.skip) (.reg true [⟨0, some 22, none, .bin .eql (.t 13) (.c (.int .i64 11)), []⟩,
⟨1, some 19, none, .mov (.t 22), []⟩]))
@[go_sem] theorem F1371_k12_r {E ks st Q} : type_of% (@codeE E ks st Q _ _ F1371_k12.eq_1) := codeE F1371_k12.eq_1
def F1371_k13 : ACode := .cond (.t 19) (.skip) F1371_k12
@[go_sem] theorem F1371_k13_r {E ks st Q} : type_of% (@codeE E ks st Q _ _ F1371_k13.eq_1) := codeE F1371_k13.eq_1
def F1371_k14 : ACode := .seq (.reg true [⟨0, some 20, none, .bin .eql (.t 13) (.c (.int .i64 8)), []⟩,
⟨1, some 19, none, .mov (.t 20), []⟩]) F1371_k13
@[go_sem] theorem F1371_k14_r {E ks st Q} : type_of% (@codeE E ks st Q _ _ F1371_k14.eq_1) := codeE F1371_k14.eq_1
def F1371_k15 : ACode := .seq (.reg true [⟨0, some 26, none, .bin .eql (.t 13) (.c (.int .i64 4)), []⟩,
⟨1, some 23, none, .mov (.t 26), []⟩]) (.cond (.t 23) (.skip) (.reg true [⟨0, some 27, none, .bin .eql (.t 13) (.c (.int .i64 7)), []⟩,
⟨1, some 23, none, .mov (.t 27), []⟩]))
@[go_sem] theorem F1371_k15_r {E ks st Q} : type_of% (@codeE E ks st Q _ _ F1371_k15.eq_1) := codeE F1371_k15.eq_1
def F1371_k16 : ACode := .cond (.t 23) (.skip) F1371_k15
@[go_sem] theorem F1371_k16_r {E ks st Q} : type_of% (@codeE E ks st Q _ _ F1371_k16.eq_1) := codeE F1371_k16.eq_1
def F1371_k17 : ACode := .seq (.reg true [⟨0, some 25, none, .bin .eql (.t 13) (.c (.int .i64 3)), []⟩,
⟨1, some 23, none, .mov (.t 25), []⟩]) F1371_k16
@[go_sem] theorem F1371_k17_r {E ks st Q} : type_of% (@codeE E ks st Q _ _ F1371_k17.eq_1) := codeE F1371_k17.eq_1
def F1371_k18 : ACode := .cond (.t 23) (.skip) F1371_k17
@[go_sem] theorem F1371_k18_r {E ks st Q} : type_of% (@codeE E ks st Q _ _ F1371_k18.eq_1) := codeE F1371_k18.eq_1
def F1371_k19 : ACode := .seq (.reg true [⟨0, some 24, none, .bin .eql (.t 13) (.c (.int .i64 2)), []⟩,
⟨1, some 23, none, .mov (.t 24), []⟩]) F1371_k18
@[go_sem] theorem F1371_k19_r {E ks st Q} : type_of% (@codeE E ks st Q _ _ F1371_k19.eq_1) := codeE F1371_k19.eq_1
def F1371_k20 : ACode := .seq F1371_k19 (.cond (.t 23) (.seq (.reg true [⟨0, some 4, none, .mov (.c (.int .i64 3)), []⟩]) (.ret)) (.skip))
@[go_sem] theorem F1371_k20_r {E ks st Q} : type_of% (@codeE E ks st Q _ _ F1371_k20.eq_1) := codeE F1371_k20.eq_1
def F1371_k21 : ACode := .cond (.t 19) (.seq (.reg true [⟨0, some 4, none, .mov (.c (.int .i64 2)), []⟩]) (.ret)) F1371_k20
@[go_sem] theorem F1371_k21_r {E ks st Q} : type_of% (@codeE E ks st Q _ _ F1371_k21.eq_1) := codeE F1371_k21.eq_1
def F1371_k22 : ACode := .seq F1371_k14 F1371_k21
@[go_sem] theorem F1371_k22_r {E ks st Q} : type_of% (@codeE E ks st Q _ _ F1371_k22.eq_1) := codeE F1371_k22.eq_1
def F1371_k23 : ACode := .cond (.t 14) (.seq (.reg true [⟨0, some 4, none, .mov (.c (.int .i64 1)), []⟩]) (.ret)) F1371_k22
@[go_sem] theorem F1371_k23_r {E ks st Q} : type_of% (@codeE E ks st Q _ _ F1371_k23.eq_1) := codeE F1371_k23.eq_1
def F1371_k24 : ACode := .seq F1371_k11 F1371_k23
@[go_sem] theorem F1371_k24_r {E ks st Q} : type_of% (@codeE E ks st Q _ _ F1371_k24.eq_1) := codeE F1371_k24.eq_1
def F1371_k25 : ACode := .blk 0 F1371_k24
@[go_sem] theorem F1371_k25_r {E ks st Q} : type_of% (@codeE E ks st Q _ _ F1371_k25.eq_1) := codeE F1371_k25.eq_1
def F1371_k26 : ACode := .seq (.reg true [⟨0, some 13, none, .mov (.t 0), []⟩]) F1371_k25
@[go_sem] theorem F1371_k26_r {E ks st Q} : type_of% (@codeE E ks st Q _ _ F1371_k26.eq_1) := codeE F1371_k26.eq_1
def F1371_k27 : ACode := .seq F1371_k26 (.seq (.reg true [⟨0, some 4, none, .mov (.c (.int .i64 0)), []⟩]) (.ret))
@[go_sem] theorem F1371_k27_r {E ks st Q} : type_of% (@codeE E ks st Q _ _ F1371_k27.eq_1) := codeE F1371_k27.eq_1
def F1371_k28 : ACode := .seq F1371_k6 F1371_k27
@[go_sem] theorem F1371_k28_r {E ks st Q} : type_of% (@codeE E ks st Q _ _ F1371_k28.eq_1) := codeE F1371_k28.eq_1
def F1371_k29 : ACode := .seq F1371_k5 F1371_k28
@[go_sem] theorem F1371_k29_r {E ks st Q} : type_of% (@codeE E ks st Q _ _ F1371_k29.eq_1) := codeE F1371_k29.eq_1
def F1371 : AFun := ⟨2, 28, [.t 4], .seq (.reg true [⟨0, some 4, none, .mov (.c (.int .i64 0)), []⟩]) F1371_k29⟩
def F1384_r0 : List AOper := [⟨0, some 3, none, .mov (.t 0), []⟩,
⟨1, some 4, none, .nilchk (.t 3), []⟩,
⟨2, some 5, none, .faddr 0 (.t 4), []⟩,
⟨3, some 6, none, .load none (.t 5), []⟩,
⟨4, some 7, none, .bin .eql (.t 6) (.c (.int .i64 9)), []⟩]
@[go_sem] theorem F1384_r0_r {E ks st Q} : type_of% (@opsE E ks st Q _ _ F1384_r0.eq_1) := opsE F1384_r0.eq_1
def F1384_r1 : List AOper := [⟨0, some 8, none, .mov (.t 0), []⟩,
⟨1, some 9, none, .nilchk (.t 8), []⟩,
⟨2, some 10, none, .faddr 4 (.t 9), []⟩,
⟨3, some 11, none, .load none (.t 10), []⟩,
⟨4, some 12, none, .len (.t 11), []⟩,
⟨5, some 13, none, .bin .sub (.t 12) (.c (.int .i64 1)), []⟩,
⟨6, some 2, none, .mov (.t 13), []⟩]
@[go_sem] theorem F1384_r1_r {E ks st Q} : type_of% (@opsE E ks st Q _ _ F1384_r1.eq_1) := opsE F1384_r1.eq_1
def F1384_k2 : ACode := .seq (.reg true F1384_r1) (.ret)
@[go_sem] theorem F1384_k2_r {E ks st Q} : type_of% (@codeE E ks st Q _ _ F1384_k2.eq_1) := codeE F1384_k2.eq_1
def F1384_k3 : ACode := .cond (.t 7) F1384_k2 (.skip)
@[go_sem] theorem F1384_k3_r {E ks st Q} : type_of% (@codeE E ks st Q _ _ F1384_k3.eq_1) := codeE F1384_k3.eq_1
def F1384_k4 : ACode := .seq (.reg true F1384_r0) F1384_k3
@[go_sem] theorem F1384_k4_r {E ks st Q} : type_of% (@codeE E ks st Q _ _ F1384_k4.eq_1) := codeE F1384_k4.eq_1
def F1384_k5 : ACode := .seq F1384_k4 (.seq (.reg true [⟨0, some 2, none, .mov (.c (.int .i64 0)), []⟩]) (.ret))
@[go_sem] theorem F1384_k5_r {E ks st Q} : type_of% (@codeE E ks st Q _ _ F1384_k5.eq_1) := codeE F1384_k5.eq_1
def F1384 : AFun := ⟨1, 14, [.t 2], .seq (.reg true [⟨0, some 2, none, .mov (.c (.int .i64 0)), []⟩]) F1384_k5⟩
def F1372_k0 : ACode := .seq (.reg true [⟨0, some 12, none, .bin .eql (.t 3) (.c (.int .i64 11)), []⟩,
⟨1, some 4, none, .mov (.t 12), []⟩]) (.cond (.t 4) (.skip) (.reg true [⟨0, some 13, none, .bin .eql (.t 3) (.c (.int .i64 12)), []⟩,
⟨1, some 4, none, .mov (.t 13), []⟩]))
@[go_sem] theorem F1372_k0_r {E ks st Q} : type_of% (@codeE E ks st Q _ _ F1372_k0.eq_1) := codeE F1372_k0.eq_1
def F1372_k1 : ACode := .cond (.t 4) (.skip) F1372_k0
@[go_sem] theorem F1372_k1_r {E ks st Q} : type_of% (@codeE E ks st Q _ _ F1372_k1.eq_1) := codeE F1372_k1.eq_1
def F1372_k2 : ACode := .seq (.reg true [⟨0, some 11, none, .bin .eql (.t 3) (.c (.int .i64 10)), []⟩,
⟨1, some 4, none, .mov (.t 11), []⟩]) F1372_k1
@[go_sem] theorem F1372_k2_r {E ks st Q} : type_of% (@codeE E ks st Q _ _ F1372_k2.eq_1) := codeE F1372_k2.eq_1
def F1372_k3 : ACode := .cond (.t 4) (.skip) F1372_k2
@[go_sem] theorem F1372_k3_r {E ks st Q} : type_of% (@codeE E ks st Q _ _ F1372_k3.eq_1) := codeE F1372_k3.eq_1
def F1372_k4 : ACode := .seq (.reg true [⟨0, some 10, none, .bin .eql (.t 3) (.c (.int .i64 9)), []⟩,
⟨1, some 4, none, .mov (.t 10), []⟩]) F1372_k3
@[go_sem] theorem F1372_k4_r {E ks st Q} : type_of% (@codeE E ks st Q _ _ F1372_k4.eq_1) := codeE F1372_k4.eq_1
def F1372_k5 : ACode := .cond (.t 4) (.skip) F1372_k4
@[go_sem] theorem F1372_k5_r {E ks st Q} : type_of% (@codeE E ks st Q _ _ F1372_k5.eq_1) := codeE F1372_k5.eq_1
def F1372_k6 : ACode := .seq (.reg true [⟨0, some 9, none, .bin .eql (.t 3) (.c (.int .i64 8)), []⟩,
⟨1, some 4, none, .mov (.t 9), []⟩]) F1372_k5
@[go_sem] theorem F1372_k6_r {E ks st Q} : type_of% (@codeE E ks st Q _ _ F1372_k6.eq_1) := codeE F1372_k6.eq_1
def F1372_k7 : ACode := .cond (.t 4) (.skip) F1372_k6
@[go_sem] theorem F1372_k7_r {E ks st Q} : type_of% (@codeE E ks st Q _ _ F1372_k7.eq_1) := codeE F1372_k7.eq_1
def F1372_k8 : ACode := .seq (.reg true [⟨0, some 8, none, .bin .eql (.t 3) (.c (.int .i64 7)), []⟩,
⟨1, some 4, none, .mov (.t 8), []⟩]) F1372_k7
@[go_sem] theorem F1372_k8_r {E ks st Q} : type_of% (@codeE E ks st Q _ _ F1372_k8.eq_1) := codeE F1372_k8.eq_1
def F1372_k9 : ACode := .cond (.t 4) (.skip) F1372_k8
@[go_sem] theorem F1372_k9_r {E ks st Q} : type_of% (@codeE E ks st Q _ _ F1372_k9.eq_1) := codeE F1372_k9.eq_1
def F1372_k10 : ACode := .seq (.reg true [⟨0, some 7, none, .bin .eql (.t 3) (.c (.int .i64 4)), []⟩,
⟨1, some 4, none, .mov (.t 7), []⟩]) F1372_k9
@[go_sem] theorem F1372_k10_r {E ks st Q} : type_of% (@codeE E ks st Q _ _ F1372_k10.eq_1) := codeE F1372_k10.eq_1
def F1372_k11 : ACode := .cond (.t 4) (.skip) F1372_k10
@[go_sem] theorem F1372_k11_r {E ks st Q} : type_of% (@codeE E ks st Q _ _ F1372_k11.eq_1) := codeE F1372_k11.eq_1
def F1372_k12 : ACode := .seq (.reg true [⟨0, some 6, none, .bin .eql (.t 3) (.c (.int .i64 3)), []⟩,
⟨1, some 4, none, .mov (.t 6), []⟩]) F1372_k11
@[go_sem] theorem F1372_k12_r {E ks st Q} : type_of% (@codeE E ks st Q _ _ F1372_k12.eq_1) := codeE F1372_k12.eq_1
def F1372_k13 : ACode := .cond (.t 4) (.skip) F1372_k12
@[go_sem] theorem F1372_k13_r {E ks st Q} : type_of% (@codeE E ks st Q _ _ F1372_k13.eq_1) := codeE F1372_k13.eq_1
def F1372_k14 : ACode := .seq (.reg true [⟨0, some 5, none, .bin .eql (.t 3) (.c (.int .i64 2)), []⟩,
⟨1, some 4, none, .mov (.t 5), []⟩]) F1372_k13
@[go_sem] theorem F1372_k14_r {E ks st Q} : type_of% (@codeE E ks st Q _ _ F1372_k14.eq_1) := codeE F1372_k14.eq_1
def F1372_k15 : ACode := .seq F1372_k14 (.cond (.t 4) (.seq (.reg true [⟨0, some 2, none, .mov (.c (.bool true)), []⟩]) (.ret)) (.skip))
@[go_sem] theorem F1372_k15_r {E ks st Q} : type_of% (@codeE E ks st Q _ _ F1372_k15.eq_1) := codeE F1372_k15.eq_1
def F1372_k16 : ACode := .blk 0 F1372_k15
@[go_sem] theorem F1372_k16_r {E ks st Q} : type_of% (@codeE E ks st Q _ _ F1372_k16.eq_1) := codeE F1372_k16.eq_1
def F1372_k17 : ACode := .seq (.reg true [⟨0, some 3, none, .mov (.t 0), []⟩]) F1372_k16
@[go_sem] theorem F1372_k17_r {E ks st Q} : type_of% (@codeE E ks st Q _ _ F1372_k17.eq_1) := codeE F1372_k17.eq_1
def F1372_k18 : ACode := .seq F1372_k17 (.seq (.reg true [⟨0, some 2, none, .mov (.c (.bool false)), []⟩]) (.ret))
@[go_sem] theorem F1372_k18_r {E ks st Q} : type_of% (@codeE E ks st Q _ _ F1372_k18.eq_1) := codeE F1372_k18.eq_1
def F1372 : AFun := ⟨1, 14, [.t 2], .seq (.reg true [⟨0, some 2, none, .mov (.c (.bool false)), []⟩]) F1372_k18⟩
def F1489_r0 : List AOper := [⟨0, some 3, none, .mov (.t 0), []⟩,
⟨1, some 4, none, .call 340 [.t 3, .c (.int .i64 1), .c (.int .i64 12)], []⟩,
⟨2, some 2, none, .mov (.t 4), []⟩]
@[go_sem] theorem F1489_r0_r {E ks st Q} : type_of% (@opsE E ks st Q _ _ F1489_r0.eq_1) := opsE F1489_r0.eq_1
def F1489 : AFun := ⟨1, 5, [.t 2], .seq (.reg true [⟨0, some 2, none, .mov (.c (.bool false)), []⟩]) (.seq (.reg true F1489_r0) (.ret))⟩
def F1385_r0 : List AOper := [⟨0, some 7, none, .mov (.t 1), []⟩,
⟨1, some 8, none, .call 340 [.t 7, .c (.int .i64 0), .c (.int .i64 8)], []⟩,
⟨2, some 4, none, .mov (.t 8), []⟩]
@[go_sem] theorem F1385_r0_r {E ks st Q} : type_of% (@opsE E ks st Q _ _ F1385_r0.eq_1) := opsE F1385_r0.eq_1
def F1385_k1 : ACode := .cond (.t 6) (.seq (.reg true F1385_r0) (.ret)) (.skip)
@[go_sem] theorem F1385_k1_r {E ks st Q} : type_of% (@codeE E ks st Q _ _ F1385_k1.eq_1) := codeE F1385_k1.eq_1
def F1385_k2 : ACode := .seq (.reg true [⟨0, some 5, none, .mov (.t 0), []⟩,
⟨1, some 6, none, .call 1372 [.t 5], []⟩]) F1385_k1
@[go_sem] theorem F1385_k2_r {E ks st Q} : type_of% (@codeE E ks st Q _ _ F1385_k2.eq_1) := codeE F1385_k2.eq_1
def F1385_r3 : List AOper := [⟨0, some 9, none, .mov (.t 0), []⟩,
⟨1, some 10, none, .call 1489 [.t 9], []⟩,
⟨2, some 11, none, .mov (.t 10), []⟩,
⟨3, some 12, (some (11, true)), .mov (.t 1), []⟩,
⟨4, some 13, (some (11, true)), .bin .eql (.t 12) (.c (.int .i64 0)), []⟩,
⟨5, some 14, none, .pick (.t 11) (.t 13) (.c (.bool false)), []⟩,
⟨6, some 4, none, .mov (.t 14), []⟩]
@[go_sem] theorem F1385_r3_r {E ks st Q} : type_of% (@opsE E ks st Q _ _ F1385_r3.eq_1) := opsE F1385_r3.eq_1
def F1385_k4 : ACode := .seq (.reg true F1385_r3) (.ret)
@[go_sem] theorem F1385_k4_r {E ks st Q} : type_of% (@codeE E ks st Q _ _ F1385_k4.eq_1) := codeE F1385_k4.eq_1
def F1385_k5 : ACode := .seq F1385_k2 F1385_k4
@[go_sem] theorem F1385_k5_r {E ks st Q} : type_of% (@codeE E ks st Q _ _ F1385_k5.eq_1) := codeE F1385_k5.eq_1
def F1385 : AFun := ⟨2, 15, [.t 4], .seq (.reg true [⟨0, some 4, none, .mov (.c (.bool false)), []⟩]) F1385_k5⟩
def F1494_r0 : List AOper := [⟨0, some 3, none, .mov (.t 0), []⟩,
⟨1, some 4, none, .call 340 [.t 3, .c (.int .i64 0), .c (.int .i64 23)], []⟩,
⟨2, some 2, none, .mov (.t 4), []⟩]
@[go_sem] theorem F1494_r0_r {E ks st Q} : type_of% (@opsE E ks st Q _ _ F1494_r0.eq_1) := opsE F1494_r0.eq_1
def F1494 : AFun := ⟨1, 5, [.t 2], .seq (.reg true [⟨0, some 2, none, .mov (.c (.bool false)), []⟩]) (.seq (.reg true F1494_r0) (.ret))⟩
def F1386_r0 : List AOper := [⟨0, some 4, none, .mov (.t 0), []⟩,
⟨1, some 5, none, .nilchk (.t 4), []⟩,
⟨2, some 6, none, .faddr 0 (.t 5), []⟩,
⟨3, some 7, none, .load none (.t 6), []⟩]
@[go_sem] theorem F1386_r0_r {E ks st Q} : type_of% (@opsE E ks st Q _ _ F1386_r0.eq_1) := opsE F1386_r0.eq_1
def F1386_r1 : List AOper := [⟨0, some 10, none, .mov (.t 0), []⟩,
⟨1, some 11, none, .nilchk (.t 10), []⟩,
⟨2, some 12, none, .faddr 3 (.t 11), []⟩,
⟨3, some 13, none, .load none (.t 12), []⟩,
⟨4, some 14, none, .len (.t 13), []⟩,
⟨5, some 15, none, .bin .eql (.t 14) (.c (.int .i64 0)), []⟩,
⟨6, some 16, none, .mov (.t 15), []⟩,
⟨7, some 17, (some (16, true)), .mov (.t 0), []⟩,
⟨8, some 18, (some (16, true)), .nilchk (.t 17), []⟩,
⟨9, some 19, (some (16, true)), .faddr 2 (.t 18), []⟩,
⟨10, some 20, (some (16, true)), .load none (.t 19), []⟩,
⟨11, some 21, (some (16, true)), .call 340 [.t 20, .c (.int .i64 (-2147483648)), .c (.int .i64 2147483647)], []⟩,
⟨12, some 22, none, .pick (.t 16) (.t 21) (.c (.bool false)), []⟩,
⟨13, some 2, none, .mov (.t 22), []⟩]
@[go_sem] theorem F1386_r1_r {E ks st Q} : type_of% (@opsE E ks st Q _ _ F1386_r1.eq_1) := opsE F1386_r1.eq_1
def F1386_k2 : ACode := .seq (.reg true F1386_r1) (.ret)
@[go_sem] theorem F1386_k2_r {E ks st Q} : type_of% (@codeE E ks st Q _ _ F1386_k2.eq_1) := codeE F1386_k2.eq_1
def F1386_r3 : List AOper := [⟨0, some 25, none, .mov (.t 0), []⟩,
⟨1, some 26, none, .nilchk (.t 25), []⟩,
⟨2, some 27, none, .faddr 3 (.t 26), []⟩,
⟨3, some 28, none, .load none (.t 27), []⟩,
⟨4, some 29, none, .len (.t 28), []⟩,
⟨5, some 30, none, .bin .eql (.t 29) (.c (.int .i64 0)), []⟩,
⟨6, some 31, none, .mov (.t 30), []⟩,
⟨7, some 32, (some (31, true)), .mov (.t 0), []⟩,
⟨8, some 33, (some (31, true)), .nilchk (.t 32), []⟩,
⟨9, some 34, (some (31, true)), .faddr 2 (.t 33), []⟩,
⟨10, some 35, (some (31, true)), .load none (.t 34), []⟩,
⟨11, some 36, (some (31, true)), .call 340 [.t 35, .c (.int .i64 1), .c (.int .i64 6)], []⟩,
⟨12, some 37, none, .pick (.t 31) (.t 36) (.c (.bool false)), []⟩,
⟨13, some 2, none, .mov (.t 37), []⟩]
@[go_sem] theorem F1386_r3_r {E ks st Q} : type_of% (@opsE E ks st Q _ _ F1386_r3.eq_1) := opsE F1386_r3.eq_1
def F1386_k4 : ACode := .seq (.reg true F1386_r3) (.ret)
@[go_sem] theorem F1386_k4_r {E ks st Q} : type_of% (@codeE E ks st Q _ _ F1386_k4.eq_1) := codeE F1386_k4.eq_1
def F1386_r5 : List AOper := [⟨0, some 40, none, .mov (.t 0), []⟩,
⟨1, some 41, none, .nilchk (.t 40), []⟩,
⟨2, some 42, none, .faddr 3 (.t 41), []⟩,
⟨3, some 43, none, .load none (.t 42), []⟩,
⟨4, some 44, none, .len (.t 43), []⟩,
⟨5, some 45, none, .bin .eql (.t 44) (.c (.int .i64 1)), []⟩,
⟨6, some 46, none, .mov (.t 45), []⟩,
⟨7, some 47, (some (46, true)), .mov (.t 0), []⟩,
⟨8, some 48, (some (46, true)), .nilchk (.t 47), []⟩,
⟨9, some 49, (some (46, true)), .faddr 2 (.t 48), []⟩,
⟨10, some 50, (some (46, true)), .load none (.t 49), []⟩,
⟨11, some 51, (some (46, true)), .call 340 [.t 50, .c (.int .i64 1), .c (.int .i64 6)], []⟩,
⟨12, some 52, none, .pick (.t 46) (.t 51) (.c (.bool false)), []⟩,
⟨13, some 53, none, .mov (.t 52), []⟩,
⟨14, some 54, (some (53, true)), .mov (.t 0), []⟩,
⟨15, some 55, (some (53, true)), .nilchk (.t 54), []⟩,
⟨16, some 56, (some (53, true)), .faddr 3 (.t 55), []⟩,
⟨17, some 57, (some (53, true)), .load none (.t 56), []⟩,
⟨18, some 58, (some (53, true)), .iaddr 1 (.t 57) (.c (.int .i64 0)), []⟩,
⟨19, some 59, (some (53, true)), .load none (.t 58), []⟩,
⟨20, some 60, (some (53, true)), .call 340 [.t 59, .c (.int .i64 (-2147483648)), .c (.int .i64 2147483647)], []⟩,
⟨21, some 61, none, .pick (.t 53) (.t 60) (.c (.bool false)), []⟩,
⟨22, some 2, none, .mov (.t 61), []⟩]
@[go_sem] theorem F1386_r5_r {E ks st Q} : type_of% (@opsE E ks st Q _ _ F1386_r5.eq_1) := opsE F1386_r5.eq_1
def F1386_k6 : ACode := .seq (.reg true F1386_r5) (.ret)
@[go_sem] theorem F1386_k6_r {E ks st Q} : type_of% (@codeE E ks st Q _ _ F1386_k6.eq_1) := codeE F1386_k6.eq_1
def F1386_r7 : List AOper := [⟨0, some 64, none, .mov (.t 0), []⟩,
⟨1, some 65, none, .nilchk (.t 64), []⟩,
⟨2, some 66, none, .faddr 3 (.t 65), []⟩,
⟨3, some 67, none, .load none (.t 66), []⟩,
⟨4, some 68, none, .len (.t 67), []⟩,
⟨5, some 69, none, .bin .eql (.t 68) (.c (.int .i64 0)), []⟩,
⟨6, some 70, none, .mov (.t 69), []⟩,
⟨7, some 71, (some (70, true)), .mov (.t 0), []⟩,
⟨8, some 72, (some (70, true)), .nilchk (.t 71), []⟩,
⟨9, some 73, (some (70, true)), .faddr 2 (.t 72), []⟩,
⟨10, some 74, (some (70, true)), .load none (.t 73), []⟩,
⟨11, some 75, (some (70, true)), .call 340 [.t 74, .c (.int .i64 0), .c (.int .i64 3)], []⟩,
⟨12, some 76, none, .pick (.t 70) (.t 75) (.c (.bool false)), []⟩,
⟨13, some 2, none, .mov (.t 76), []⟩]
@[go_sem] theorem F1386_r7_r {E ks st Q} : type_of% (@opsE E ks st Q _ _ F1386_r7.eq_1) := opsE F1386_r7.eq_1
def F1386_k8 : ACode := .seq (.reg true F1386_r7) (.ret)
@[go_sem] theorem F1386_k8_r {E ks st Q} : type_of% (@codeE E ks st Q _ _ F1386_k8.eq_1) := codeE F1386_k8.eq_1
def F1386_r9 : List AOper := [⟨0, some 79, none, .mov (.t 0), []⟩,
⟨1, some 80, none, .nilchk (.t 79), []⟩,
⟨2, some 81, none, .faddr 3 (.t 80), []⟩,
⟨3, some 82, none, .load none (.t 81), []⟩,
⟨4, some 83, none, .len (.t 82), []⟩,
⟨5, some 84, none, .bin .eql (.t 83) (.c (.int .i64 0)), []⟩,
⟨6, some 85, none, .mov (.t 84), []⟩,
⟨7, some 86, (some (85, true)), .mov (.t 0), []⟩,
⟨8, some 87, (some (85, true)), .nilchk (.t 86), []⟩,
⟨9, some 88, (some (85, true)), .faddr 2 (.t 87), []⟩,
⟨10, some 89, (some (85, true)), .load none (.t 88), []⟩,
⟨11, some 90, (some (85, true)), .call 1494 [.t 89], []⟩,
⟨12, some 91, none, .pick (.t 85) (.t 90) (.c (.bool false)), []⟩,
⟨13, some 2, none, .mov (.t 91), []⟩]
@[go_sem] theorem F1386_r9_r {E ks st Q} : type_of% (@opsE E ks st Q _ _ F1386_r9.eq_1) := opsE F1386_r9.eq_1
def F1386_k10 : ACode := .seq (.reg true F1386_r9) (.ret)
@[go_sem] theorem F1386_k10_r {E ks st Q} : type_of% (@codeE E ks st Q _ _ F1386_k10.eq_1) := codeE F1386_k10.eq_1
def F1386_k11 : ACode := .seq (.reg true [⟨0, some 93, none, .bin .eql (.t 7) (.c (.int .i64 10)), []⟩,
⟨1, some 92, none, .mov (.t 93), []⟩]) (.cond (.t 92) (.skip) (.reg true [⟨0, some 94, none, .bin .eql (.t 7) (.c (.int .i64 11)), []⟩,
⟨1, some 92, none, .mov (.t 94), []⟩]))
@[go_sem] theorem F1386_k11_r {E ks st Q} : type_of% (@codeE E ks st Q _ _ F1386_k11.eq_1) := codeE F1386_k11.eq_1
def F1386_r12 : List AOper := [⟨0, some 95, none, .mov (.t 0), []⟩,
⟨1, some 96, none, .nilchk (.t 95), []⟩,
⟨2, some 97, none, .faddr 2 (.t 96), []⟩,
⟨3, some 98, none, .load none (.t 97), []⟩,
⟨4, some 99, none, .bin .neq (.t 98) (.c (.int .i64 0)), []⟩,
⟨5, some 100, none, .mov (.t 99), []⟩,
⟨6, some 101, (some (100, false)), .mov (.t 0), []⟩,
⟨7, some 102, (some (100, false)), .nilchk (.t 101), []⟩,
⟨8, some 103, (some (100, false)), .faddr 0 (.t 102), []⟩,
⟨9, some 104, (some (100, false)), .load none (.t 103), []⟩,
⟨10, some 105, (some (100, false)), .bin .eql (.t 104) (.c (.int .i64 11)), []⟩,
⟨11, some 106, (some (100, false)), .mov (.t 105), []⟩,
⟨12, some 107, (some (106, true)), .mov (.t 0), []⟩,
⟨13, some 108, (some (106, true)), .nilchk (.t 107), []⟩,
⟨14, some 109, (some (106, true)), .faddr 3 (.t 108), []⟩,
⟨15, some 110, (some (106, true)), .load none (.t 109), []⟩,
⟨16, some 111, (some (106, true)), .len (.t 110), []⟩,
⟨17, some 112, (some (106, true)), .bin .neq (.t 111) (.c (.int .i64 2)), []⟩,
⟨18, some 113, (some (100, false)), .pick (.t 106) (.t 112) (.c (.bool false)), []⟩,
⟨19, some 114, none, .pick (.t 100) (.c (.bool true)) (.t 113), []⟩,
⟨20, some 115, none, .mov (.t 114), []⟩,
⟨21, some 116, (some (115, false)), .mov (.t 0), []⟩,
⟨22, some 117, (some (115, false)), .nilchk (.t 116), []⟩,
⟨23, some 118, (some (115, false)), .faddr 0 (.t 117), []⟩,
⟨24, some 119, (some (115, false)), .load none (.t 118), []⟩,
⟨25, some 120, (some (115, false)), .bin .eql (.t 119) (.c (.int .i64 10)), []⟩,
⟨26, some 121, (some (115, false)), .mov (.t 120), []⟩,
⟨27, some 122, (some (121, true)), .mov (.t 0), []⟩,
⟨28, some 123, (some (121, true)), .nilchk (.t 122), []⟩,
⟨29, some 124, (some (121, true)), .faddr 3 (.t 123), []⟩,
⟨30, some 125, (some (121, true)), .load none (.t 124), []⟩,
⟨31, some 126, (some (121, true)), .len (.t 125), []⟩,
⟨32, some 127, (some (121, true)), .call 340 [.t 126, .c (.int .i64 1), .c (.int .i64 4)], []⟩,
⟨33, some 128, (some (121, true)), .not (.t 127), []⟩,
⟨34, some 129, (some (115, false)), .pick (.t 121) (.t 128) (.c (.bool false)), []⟩,
⟨35, some 130, none, .pick (.t 115) (.c (.bool true)) (.t 129), []⟩]
@[go_sem] theorem F1386_r12_r {E ks st Q} : type_of% (@opsE E ks st Q _ _ F1386_r12.eq_1) := opsE F1386_r12.eq_1
def F1386_k13 : ACode := .seq (.reg true F1386_r12) (.cond (.t 130) (.seq (.reg true [⟨0, some 2, none, .mov (.c (.bool false)), []⟩]) (.ret)) (.skip))
@[go_sem] theorem F1386_k13_r {E ks st Q} : type_of% (@codeE E ks st Q _ _ F1386_k13.eq_1) := codeE F1386_k13.eq_1
def F1386_r14 : List AOper := [⟨0, some 131, none, .mov (.t 3), []⟩,
⟨1, some 132, none, .mov (.t 0), []⟩,
⟨2, some 133, none, .nilchk (.t 132), []⟩,
⟨3, some 134, none, .faddr 3 (.t 133), []⟩,
⟨4, some 135, none, .load none (.t 134), []⟩,
⟨5, some 136, none, .len (.t 135), []⟩,
⟨6, some 137, none, .bin .lss (.t 131) (.t 136), []⟩]
@[go_sem] theorem F1386_r14_r {E ks st Q} : type_of% (@opsE E ks st Q _ _ F1386_r14.eq_1) := opsE F1386_r14.eq_1
def F1386_k15 : ACode := .seq (.reg true F1386_r14) (.cond (.t 137) (.skip) (.exit 1))
@[go_sem] theorem F1386_k15_r {E ks st Q} : type_of% (@codeE E ks st Q _ _ F1386_k15.eq_1) := codeE F1386_k15.eq_1
def F1386_r16 : List AOper := [⟨0, some 140, none, .mov (.t 0), []⟩,
⟨1, some 141, none, .nilchk (.t 140), []⟩,
⟨2, some 142, none, .faddr 3 (.t 141), []⟩,
⟨3, some 143, none, .load none (.t 142), []⟩,
⟨4, some 144, none, .mov (.t 3), []⟩,
⟨5, some 145, none, .iaddr 1 (.t 143) (.t 144), []⟩,
⟨6, some 146, none, .load none (.t 145), []⟩,
⟨7, some 147, none, .call 1494 [.t 146], []⟩,
⟨8, some 148, none, .not (.t 147), []⟩]
@[go_sem] theorem F1386_r16_r {E ks st Q} : type_of% (@opsE E ks st Q _ _ F1386_r16.eq_1) := opsE F1386_r16.eq_1
def F1386_k17 : ACode := .seq (.reg true F1386_r16) (.cond (.t 148) (.seq (.reg true [⟨0, some 2, none, .mov (.c (.bool false)), []⟩]) (.ret)) (.skip))
@[go_sem] theorem F1386_k17_r {E ks st Q} : type_of% (@codeE E ks st Q _ _ F1386_k17.eq_1) := codeE F1386_k17.eq_1
def F1386_k18 : ACode := .blk 2 F1386_k17
@[go_sem] theorem F1386_k18_r {E ks st Q} : type_of% (@codeE E ks st Q _ _ F1386_k18.eq_1) := codeE F1386_k18.eq_1
def F1386_r19 : List AOper := [⟨0, some 138, none, .mov (.t 3), []⟩,
⟨1, some 139, none, .bin .add (.t 138) (.c (.int .i64 1)), []⟩,
⟨2, some 3, none, .mov (.t 139), []⟩]
@[go_sem] theorem F1386_r19_r {E ks st Q} : type_of% (@opsE E ks st Q _ _ F1386_r19.eq_1) := opsE F1386_r19.eq_1
def F1386_k20 : ACode := .seq F1386_k18 (.reg true F1386_r19)
@[go_sem] theorem F1386_k20_r {E ks st Q} : type_of% (@codeE E ks st Q _ _ F1386_k20.eq_1) := codeE F1386_k20.eq_1
def F1386_k21 : ACode := .seq F1386_k15 F1386_k20
@[go_sem] theorem F1386_k21_r {E ks st Q} : type_of% (@codeE E ks st Q _ _ F1386_k21.eq_1) := codeE F1386_k21.eq_1
def F1386_k22 : ACode := .loop F1386_k21
@[go_sem] theorem F1386_k22_r {E ks st Q} : type_of% (@codeE E ks st Q _ _ F1386_k22.eq_1) := codeE F1386_k22.eq_1
def F1386_k23 : ACode := .blk 1 F1386_k22
@[go_sem] theorem F1386_k23_r {E ks st Q} : type_of% (@codeE E ks st Q _ _ F1386_k23.eq_1) := codeE F1386_k23.eq_1
def F1386_k24 : ACode := .seq (.reg true [⟨0, some 3, none, .mov (.c (.int .i64 0)), []⟩]) F1386_k23
@[go_sem] theorem F1386_k24_r {E ks st Q} : type_of% (@codeE E ks st Q _ _ F1386_k24.eq_1) := codeE F1386_k24.eq_1
def F1386_k25 : ACode := .seq F1386_k24 (.seq (.reg true [⟨0, some 2, none, .mov (.c (.bool true)), []⟩]) (.ret))
@[go_sem] theorem F1386_k25_r {E ks st Q} : type_of% (@codeE E ks st Q _ _ F1386_k25.eq_1) := codeE F1386_k25.eq_1
def F1386_k26 : ACode := .seq F1386_k13 F1386_k25
@[go_sem] theorem F1386_k26_r {E ks st Q} : type_of% (@codeE E ks st Q _ _ F1386_k26.eq_1) := codeE F1386_k26.eq_1
def F1386_k27 : ACode := .cond (.t 92) F1386_k26 (.skip)
@[go_sem] theorem F1386_k27_r {E ks st Q} : type_of% (@codeE E ks st Q _ _ F1386_k27.eq_1) := codeE F1386_k27.eq_1
def F1386_k28 : ACode := .seq F1386_k11 F1386_k27
@[go_sem] theorem F1386_k28_r {E ks st Q} : type_of% (@codeE E ks st Q _ _ F1386_k28.eq_1) := codeE F1386_k28.eq_1
def F1386_k29 : ACode := .cond (.t 77) F1386_k10 F1386_k28
@[go_sem] theorem F1386_k29_r {E ks st Q} : type_of% (@codeE E ks st Q _ _ F1386_k29.eq_1) := codeE F1386_k29.eq_1
def F1386_k30 : ACode := .seq (.reg true [⟨0, some 78, none, .bin .eql (.t 7) (.c (.int .i64 12)), []⟩,
⟨1, some 77, none, .mov (.t 78), []⟩]) F1386_k29
@[go_sem] theorem F1386_k30_r {E ks st Q} : type_of% (@codeE E ks st Q _ _ F1386_k30.eq_1) := codeE F1386_k30.eq_1
def F1386_k31 : ACode := .cond (.t 62) F1386_k8 F1386_k30
@[go_sem] theorem F1386_k31_r {E ks st Q} : type_of% (@codeE E ks st Q _ _ F1386_k31.eq_1) := codeE F1386_k31.eq_1
def F1386_k32 : ACode := .seq (.reg true [⟨0, some 63, none, .bin .eql (.t 7) (.c (.int .i64 9)), []⟩,
⟨1, some 62, none, .mov (.t 63), []⟩]) F1386_k31
@[go_sem] theorem F1386_k32_r {E ks st Q} : type_of% (@codeE E ks st Q _ _ F1386_k32.eq_1) := codeE F1386_k32.eq_1
def F1386_k33 : ACode := .cond (.t 38) F1386_k6 F1386_k32
@[go_sem] theorem F1386_k33_r {E ks st Q} : type_of% (@codeE E ks st Q _ _ F1386_k33.eq_1) := codeE F1386_k33.eq_1
def F1386_k34 : ACode := .seq (.reg true [⟨0, some 39, none, .bin .eql (.t 7) (.c (.int .i64 8)), []⟩,
⟨1, some 38, none, .mov (.t 39), []⟩]) F1386_k33
@[go_sem] theorem F1386_k34_r {E ks st Q} : type_of% (@codeE E ks st Q _ _ F1386_k34.eq_1) := codeE F1386_k34.eq_1
def F1386_k35 : ACode := .cond (.t 23) F1386_k4 F1386_k34
@[go_sem] theorem F1386_k35_r {E ks st Q} : type_of% (@codeE E ks st Q _ _ F1386_k35.eq_1) := codeE F1386_k35.eq_1
def F1386_k36 : ACode := .seq (.reg true [⟨0, some 24, none, .bin .eql (.t 7) (.c (.int .i64 7)), []⟩,
⟨1, some 23, none, .mov (.t 24), []⟩]) F1386_k35
@[go_sem] theorem F1386_k36_r {E ks st Q} : type_of% (@codeE E ks st Q _ _ F1386_k36.eq_1) := codeE F1386_k36.eq_1
def F1386_k37 : ACode := .cond (.t 8) F1386_k2 F1386_k36
@[go_sem] theorem F1386_k37_r {E ks st Q} : type_of% (@codeE E ks st Q _ _ F1386_k37.eq_1) := codeE F1386_k37.eq_1
def F1386_k38 : ACode := .seq (.reg true [⟨0, some 9, none, .bin .eql (.t 7) (.c (.int .i64 6)), []⟩,
⟨1, some 8, none, .mov (.t 9), []⟩]) F1386_k37
@[go_sem] theorem F1386_k38_r {E ks st Q} : type_of% (@codeE E ks st Q _ _ F1386_k38.eq_1) := codeE F1386_k38.eq_1
def F1386_k39 : ACode := .blk 0 F1386_k38
@[go_sem] theorem F1386_k39_r {E ks st Q} : type_of% (@codeE E ks st Q _ _ F1386_k39.eq_1) := codeE F1386_k39.eq_1
def F1386_k40 : ACode := .seq (.reg true F1386_r0) F1386_k39
@[go_sem] theorem F1386_k40_r {E ks st Q} : type_of% (@codeE E ks st Q _ _ F1386_k40.eq_1) := codeE F1386_k40.eq_1
def F1386_r41 : List AOper := [⟨0, some 149, none, .mov (.t 0), []⟩,
⟨1, some 150, none, .nilchk (.t 149), []⟩,
⟨2, some 151, none, .faddr 2 (.t 150), []⟩,
⟨3, some 152, none, .load none (.t 151), []⟩,
⟨4, some 153, none, .bin .eql (.t 152) (.c (.int .i64 0)), []⟩,
⟨5, some 154, none, .mov (.t 153), []⟩,
⟨6, some 155, (some (154, true)), .mov (.t 0), []⟩,
⟨7, some 156, (some (154, true)), .nilchk (.t 155), []⟩,
⟨8, some 157, (some (154, true)), .faddr 3 (.t 156), []⟩,
⟨9, some 158, (some (154, true)), .load none (.t 157), []⟩,
⟨10, some 159, (some (154, true)), .len (.t 158), []⟩,
⟨11, some 160, (some (154, true)), .bin .eql (.t 159) (.c (.int .i64 0)), []⟩,
⟨12, some 161, none, .pick (.t 154) (.t 160) (.c (.bool false)), []⟩,
⟨13, some 2, none, .mov (.t 161), []⟩]
@[go_sem] theorem F1386_r41_r {E ks st Q} : type_of% (@opsE E ks st Q _ _ F1386_r41.eq_1) := opsE F1386_r41.eq_1
def F1386_k42 : ACode := .seq (.reg true F1386_r41) (.ret)
@[go_sem] theorem F1386_k42_r {E ks st Q} : type_of% (@codeE E ks st Q _ _ F1386_k42.eq_1) := codeE F1386_k42.eq_1
def F1386_k43 : ACode := .seq F1386_k40 F1386_k42
@[go_sem] theorem F1386_k43_r {E ks st Q} : type_of% (@codeE E ks st Q _ _ F1386_k43.eq_1) := codeE F1386_k43.eq_1
def F1386 : AFun := ⟨1, 162, [.t 2], .seq (.reg true [⟨0, some 2, none, .mov (.c (.bool false)), []⟩]) F1386_k43⟩
def F1096_r0 : List AOper := [⟨0, some 4, none, .mov (.t 0), []⟩,
⟨1, some 5, none, .nilchk (.t 4), []⟩,
⟨2, some 6, none, .faddr 0 (.t 5), []⟩,
⟨3, some 7, none, .load none (.t 6), []⟩,
⟨4, some 8, none, .mov (.t 0), []⟩,
⟨5, some 9, none, .call 1384 [.t 8], [⟨3, some 7, none, .load none (.t 6), []⟩]⟩,
⟨6, some 10, none, .call 1371 [.t 7, .t 9], []⟩,
⟨7, some 3, none, .mov (.t 10), []⟩]
@[go_sem] theorem F1096_r0_r {E ks st Q} : type_of% (@opsE E ks st Q _ _ F1096_r0.eq_1) := opsE F1096_r0.eq_1
def F1096_r1 : List AOper := [⟨0, some 11, none, .mov (.t 3), []⟩,
⟨1, some 12, none, .bin .gtr (.t 11) (.c (.int .i64 0)), []⟩,
⟨2, some 13, none, .mov (.t 12), []⟩,
⟨3, some 14, (some (13, true)), .mov (.t 0), []⟩,
⟨4, some 15, (some (13, true)), .nilchk (.t 14), []⟩,
⟨5, some 16, (some (13, true)), .faddr 4 (.t 15), []⟩,
⟨6, some 17, (some (13, true)), .load none (.t 16), []⟩,
⟨7, some 18, (some (13, true)), .len (.t 17), []⟩,
⟨8, some 19, (some (13, true)), .mov (.t 3), []⟩,
⟨9, some 20, (some (13, true)), .bin .eql (.t 18) (.t 19), []⟩,
⟨10, some 21, none, .pick (.t 13) (.t 20) (.c (.bool false)), []⟩,
⟨11, some 22, none, .mov (.t 21), []⟩,
⟨12, some 23, (some (22, true)), .mov (.t 0), []⟩,
⟨13, some 24, (some (22, true)), .nilchk (.t 23), []⟩,
⟨14, some 25, (some (22, true)), .faddr 0 (.t 24), []⟩,
⟨15, some 26, (some (22, true)), .load none (.t 25), []⟩,
⟨16, some 27, (some (22, true)), .mov (.t 0), []⟩,
⟨17, some 28, (some (22, true)), .nilchk (.t 27), []⟩,
⟨18, some 29, (some (22, true)), .faddr 1 (.t 28), []⟩,
⟨19, some 30, (some (22, true)), .load none (.t 29), []⟩,
⟨20, some 31, (some (22, true)), .call 1385 [.t 26, .t 30], []⟩,
⟨21, some 32, none, .pick (.t 22) (.t 31) (.c (.bool false)), []⟩,
⟨22, some 33, none, .mov (.t 32), []⟩,
⟨23, some 34, (some (33, true)), .mov (.t 0), []⟩,
⟨24, some 35, (some (33, true)), .call 1386 [.t 34], []⟩,
⟨25, some 36, none, .pick (.t 33) (.t 35) (.c (.bool false)), []⟩,
⟨26, some 2, none, .mov (.t 36), []⟩]
@[go_sem] theorem F1096_r1_r {E ks st Q} : type_of% (@opsE E ks st Q _ _ F1096_r1.eq_1) := opsE F1096_r1.eq_1
def F1096_k2 : ACode := .seq (.reg true F1096_r1) (.ret)
@[go_sem] theorem F1096_k2_r {E ks st Q} : type_of% (@codeE E ks st Q _ _ F1096_k2.eq_1) := codeE F1096_k2.eq_1
def F1096_k3 : ACode := .seq (.reg true F1096_r0) F1096_k2
@[go_sem] theorem F1096_k3_r {E ks st Q} : type_of% (@codeE E ks st Q _ _ F1096_k3.eq_1) := codeE F1096_k3.eq_1
def F1096 : AFun := ⟨1, 37, [.t 2], .seq (.reg true [⟨0, some 2, none, .mov (.c (.bool false)), []⟩]) F1096_k3⟩
def F710_r0 : List AOper := [⟨0, some 4, none, .mov (.t 0), []⟩,
⟨1, some 5, none, .len (.t 4), []⟩,
⟨2, some 6, none, .call 340 [.t 5, .c (.int .i64 1), .c (.int .i64 600)], []⟩,
⟨3, some 7, none, .not (.t 6), []⟩]
@[go_sem] theorem F710_r0_r {E ks st Q} : type_of% (@opsE E ks st Q _ _ F710_r0.eq_1) := opsE F710_r0.eq_1
def F710_k1 : ACode := .seq (.reg true F710_r0) (.cond (.t 7) (.seq (.reg true [⟨0, some 2, none, .mov (.c (.bool false)), []⟩]) (.ret)) (.skip))
@[go_sem] theorem F710_k1_r {E ks st Q} : type_of% (@codeE E ks st Q _ _ F710_k1.eq_1) := codeE F710_k1.eq_1
def F710_r2 : List AOper := [⟨0, some 8, none, .mov (.t 3), []⟩,
⟨1, some 9, none, .mov (.t 0), []⟩,
⟨2, some 10, none, .len (.t 9), []⟩,
⟨3, some 11, none, .bin .lss (.t 8) (.t 10), []⟩]
@[go_sem] theorem F710_r2_r {E ks st Q} : type_of% (@opsE E ks st Q _ _ F710_r2.eq_1) := opsE F710_r2.eq_1
def F710_k3 : ACode := .seq (.reg true F710_r2) (.cond (.t 11) (.skip) (.exit 0))
@[go_sem] theorem F710_k3_r {E ks st Q} : type_of% (@codeE E ks st Q _ _ F710_k3.eq_1) := codeE F710_k3.eq_1
def F710_r4 : List AOper := [⟨0, some 14, none, .mov (.t 0), []⟩,
⟨1, some 15, none, .mov (.t 3), []⟩,
⟨2, some 16, none, .iaddr 5 (.t 14) (.t 15), []⟩,
⟨3, some 17, none, .call 1096 [.t 16], []⟩,
⟨4, some 18, none, .not (.t 17), []⟩,
⟨5, some 19, none, .mov (.t 18), []⟩,
⟨6, some 20, (some (19, false)), .mov (.t 0), []⟩,
⟨7, some 21, (some (19, false)), .mov (.t 3), []⟩,
⟨8, some 22, (some (19, false)), .iaddr 5 (.t 20) (.t 21), []⟩,
⟨9, some 23, (some (19, false)), .faddr 0 (.t 22), []⟩,
⟨10, some 24, (some (19, false)), .load none (.t 23), []⟩,
⟨11, some 25, (some (19, false)), .bin .eql (.t 24) (.c (.int .i64 1)), []⟩,
⟨12, some 26, (some (19, false)), .mov (.t 3), []⟩,
⟨13, some 27, (some (19, false)), .bin .eql (.t 26) (.c (.int .i64 0)), []⟩,
⟨14, some 28, (some (19, false)), .beq true (.t 25) (.t 27), []⟩,
⟨15, some 29, none, .pick (.t 19) (.c (.bool true)) (.t 28), []⟩]
@[go_sem] theorem F710_r4_r {E ks st Q} : type_of% (@opsE E ks st Q _ _ F710_r4.eq_1) := opsE F710_r4.eq_1
def F710_k5 : ACode := .seq (.reg true F710_r4) (.cond (.t 29) (.seq (.reg true [⟨0, some 2, none, .mov (.c (.bool false)), []⟩]) (.ret)) (.skip))
@[go_sem] theorem F710_k5_r {E ks st Q} : type_of% (@codeE E ks st Q _ _ F710_k5.eq_1) := codeE F710_k5.eq_1
def F710_k6 : ACode := .blk 1 F710_k5
@[go_sem] theorem F710_k6_r {E ks st Q} : type_of% (@codeE E ks st Q _ _ F710_k6.eq_1) := codeE F710_k6.eq_1
def F710_r7 : List AOper := [⟨0, some 12, none, .mov (.t 3), []⟩,
⟨1, some 13, none, .bin .add (.t 12) (.c (.int .i64 1)), []⟩,
⟨2, some 3, none, .mov (.t 13), []⟩]
@[go_sem] theorem F710_r7_r {E ks st Q} : type_of% (@opsE E ks st Q _ _ F710_r7.eq_1) := opsE F710_r7.eq_1
def F710_k8 : ACode := .seq F710_k6 (.reg true F710_r7)
@[go_sem] theorem F710_k8_r {E ks st Q} : type_of% (@codeE E ks st Q _ _ F710_k8.eq_1) := codeE F710_k8.eq_1
def F710_k9 : ACode := .seq F710_k3 F710_k8
@[go_sem] theorem F710_k9_r {E ks st Q} : type_of% (@codeE E ks st Q _ _ F710_k9.eq_1) := codeE F710_k9.eq_1
def F710_k10 : ACode := .loop F710_k9
@[go_sem] theorem F710_k10_r {E ks st Q} : type_of% (@codeE E ks st Q _ _ F710_k10.eq_1) := codeE F710_k10.eq_1
def F710_k11 : ACode := .blk 0 F710_k10
@[go_sem] theorem F710_k11_r {E ks st Q} : type_of% (@codeE E ks st Q _ _ F710_k11.eq_1) := codeE F710_k11.eq_1
def F710_k12 : ACode := .seq (.reg true [⟨0, some 3, none, .mov (.c (.int .i64 0)), []⟩]) F710_k11
@[go_sem] theorem F710_k12_r {E ks st Q} : type_of% (@codeE E ks st Q _ _ F710_k12.eq_1) := codeE F710_k12.eq_1
def F710_k13 : ACode := .seq F710_k12 (.seq (.reg true [⟨0, some 2, none, .mov (.c (.bool true)), []⟩]) (.ret))
@[go_sem] theorem F710_k13_r {E ks st Q} : type_of% (@codeE E ks st Q _ _ F710_k13.eq_1) := codeE F710_k13.eq_1
def F710_k14 : ACode := .seq F710_k1 F710_k13
@[go_sem] theorem F710_k14_r {E ks st Q} : type_of% (@codeE E ks st Q _ _ F710_k14.eq_1) := codeE F710_k14.eq_1
def F710 : AFun := ⟨1, 30, [.t 2], .seq (.reg true [⟨0, some 2, none, .mov (.c (.bool false)), []⟩]) F710_k14⟩
def F318_r0 : List AOper := [⟨0, some 8, none, .mov (.t 0), []⟩,
⟨1, some 9, none, .nilchk (.t 8), []⟩,
⟨2, some 10, none, .faddr 0 (.t 9), []⟩,
⟨3, some 11, none, .load none (.t 10), []⟩,
⟨4, some 12, none, .call 710 [.t 11], []⟩,
⟨5, some 13, none, .not (.t 12), []⟩]
@[go_sem] theorem F318_r0_r {E ks st Q} : type_of% (@opsE E ks st Q _ _ F318_r0.eq_1) := opsE F318_r0.eq_1
def F318_k1 : ACode := .seq (.reg true F318_r0) (.cond (.t 13) (.seq (.reg true [⟨0, some 2, none, .mov (.c (.bool false)), []⟩]) (.ret)) (.skip))
@[go_sem] theorem F318_k1_r {E ks st Q} : type_of% (@codeE E ks st Q _ _ F318_k1.eq_1) := codeE F318_k1.eq_1
def F318_r2 : List AOper := [⟨0, some 14, none, .mov (.t 3), []⟩,
⟨1, some 15, none, .mov (.t 0), []⟩,
⟨2, some 16, none, .nilchk (.t 15), []⟩,
⟨3, some 17, none, .faddr 0 (.t 16), []⟩,
⟨4, some 18, none, .load none (.t 17), []⟩,
⟨5, some 19, none, .len (.t 18), []⟩,
⟨6, some 20, none, .bin .lss (.t 14) (.t 19), []⟩]
@[go_sem] theorem F318_r2_r {E ks st Q} : type_of% (@opsE E ks st Q _ _ F318_r2.eq_1) := opsE F318_r2.eq_1
def F318_k3 : ACode := .seq (.reg true F318_r2) (.cond (.t 20) (.skip) (.exit 0))
@[go_sem] theorem F318_k3_r {E ks st Q} : type_of% (@codeE E ks st Q _ _ F318_k3.eq_1) := codeE F318_k3.eq_1
def F318_r4 : List AOper := [⟨0, some 23, none, .mov (.t 0), []⟩,
⟨1, some 24, none, .nilchk (.t 23), []⟩,
⟨2, some 25, none, .faddr 0 (.t 24), []⟩,
⟨3, some 26, none, .load none (.t 25), []⟩,
⟨4, some 27, none, .mov (.t 3), []⟩,
⟨5, some 28, none, .iaddr 5 (.t 26) (.t 27), []⟩,
⟨6, some 4, none, .mov (.t 28), []⟩]
@[go_sem] theorem F318_r4_r {E ks st Q} : type_of% (@opsE E ks st Q _ _ F318_r4.eq_1) := opsE F318_r4.eq_1
def F318_r5 : List AOper := [⟨0, some 29, none, .mov (.t 5), []⟩,
⟨1, some 30, none, .mov (.t 4), []⟩,
⟨2, some 31, none, .nilchk (.t 30), []⟩,
⟨3, some 32, none, .faddr 4 (.t 31), []⟩,
⟨4, some 33, none, .load none (.t 32), []⟩,
⟨5, some 34, none, .len (.t 33), []⟩,
⟨6, some 35, none, .bin .lss (.t 29) (.t 34), []⟩]
@[go_sem] theorem F318_r5_r {E ks st Q} : type_of% (@opsE E ks st Q _ _ F318_r5.eq_1) := opsE F318_r5.eq_1
def F318_k6 : ACode := .seq (.reg true F318_r5) (.cond (.t 35) (.skip) (.exit 2))
@[go_sem] theorem F318_k6_r {E ks st Q} : type_of% (@codeE E ks st Q _ _ F318_k6.eq_1) := codeE F318_k6.eq_1
def F318_r7 : List AOper := [⟨0, some 38, none, .mov (.t 3), []⟩,
⟨1, some 39, none, .mov (.t 5), []⟩,
⟨2, some 40, none, .build (.agg [.int .i64 0, .int .i64 0]) [(0, 1, .t 38), (1, 1, .t 39)], []⟩,
⟨3, some 6, none, .lalloc (.agg [.int .i64 0, .int .i64 0]), []⟩,
⟨4, none, none, .lstore 6 0 2 (.t 40), []⟩]
@[go_sem] theorem F318_r7_r {E ks st Q} : type_of% (@opsE E ks st Q _ _ F318_r7.eq_1) := opsE F318_r7.eq_1
def F318_r8 : List AOper := [⟨0, some 41, none, .mov (.t 4), []⟩,
⟨1, some 42, none, .nilchk (.t 41), []⟩,
⟨2, some 43, none, .faddr 4 (.t 42), []⟩,
⟨3, some 44, none, .load none (.t 43), []⟩,
⟨4, some 45, none, .mov (.t 5), []⟩,
⟨5, some 46, none, .iaddr 2 (.t 44) (.t 45), []⟩,
⟨6, some 47, none, .load (some 2) (.t 46), []⟩,
⟨7, some 7, none, .lalloc (.agg [.int .i64 0, .int .i64 0]), []⟩,
⟨8, none, none, .lstore 7 0 2 (.t 47), []⟩]
@[go_sem] theorem F318_r8_r {E ks st Q} : type_of% (@opsE E ks st Q _ _ F318_r8.eq_1) := opsE F318_r8.eq_1
def F318_r9 : List AOper := [⟨0, some 48, none, .lload 7 0 (some 2), []⟩,
⟨1, some 49, none, .lload 6 0 (some 2), []⟩,
⟨2, some 50, none, .seq false [1, 1] (.t 48) (.t 49), []⟩,
⟨3, some 51, none, .mov (.t 50), []⟩,
⟨4, some 52, (some (51, false)), .mov (.t 0), []⟩,
⟨5, some 53, (some (51, false)), .nilchk (.t 52), []⟩,
⟨6, some 54, (some (51, false)), .faddr 0 (.t 53), []⟩,
⟨7, some 55, (some (51, false)), .load none (.t 54), []⟩,
⟨8, some 56, (some (51, false)), .lload 7 0 (some 2), []⟩,
⟨9, some 57, (some (51, false)), .call 488 [.t 55, .t 56], []⟩,
⟨10, some 58, (some (51, false)), .not (.t 57), []⟩,
⟨11, some 59, none, .pick (.t 51) (.c (.bool true)) (.t 58), []⟩,
⟨12, some 60, none, .mov (.t 59), []⟩,
⟨13, some 61, (some (60, false)), .mov (.t 0), []⟩,
⟨14, some 62, (some (60, false)), .nilchk (.t 61), []⟩,
⟨15, some 63, (some (60, false)), .faddr 0 (.t 62), []⟩,
⟨16, some 64, (some (60, false)), .load none (.t 63), []⟩,
⟨17, some 65, (some (60, false)), .nop 7, []⟩,
⟨18, some 66, (some (60, false)), .lload 7 0 none, []⟩,
⟨19, some 67, (some (60, false)), .iaddr 5 (.t 64) (.t 66), []⟩,
⟨20, some 68, (some (60, false)), .faddr 4 (.t 67), []⟩,
⟨21, some 69, (some (60, false)), .load none (.t 68), []⟩,
⟨22, some 70, (some (60, false)), .nop 7, []⟩,
⟨23, some 71, (some (60, false)), .lload 7 1 none, []⟩,
⟨24, some 72, (some (60, false)), .iaddr 2 (.t 69) (.t 71), []⟩,
⟨25, some 73, (some (60, false)), .load (some 2) (.t 72), []⟩,
⟨26, some 74, (some (60, false)), .lload 6 0 (some 2), []⟩,
⟨27, some 75, (some (60, false)), .seq true [1, 1] (.t 73) (.t 74), []⟩,
⟨28, some 76, none, .pick (.t 60) (.c (.bool true)) (.t 75), []⟩]
@[go_sem] theorem F318_r9_r {E ks st Q} : type_of% (@opsE E ks st Q _ _ F318_r9.eq_1) := opsE F318_r9.eq_1
def F318_k10 : ACode := .seq (.reg true F318_r9) (.cond (.t 76) (.seq (.reg true [⟨0, some 2, none, .mov (.c (.bool false)), []⟩]) (.ret)) (.skip))
@[go_sem] theorem F318_k10_r {E ks st Q} : type_of% (@codeE E ks st Q _ _ F318_k10.eq_1) := codeE F318_k10.eq_1
def F318_k11 : ACode := .seq (.reg true F318_r8) F318_k10
@[go_sem] theorem F318_k11_r {E ks st Q} : type_of% (@codeE E ks st Q _ _ F318_k11.eq_1) := codeE F318_k11.eq_1
def F318_k12 : ACode := .seq (.reg true F318_r7) F318_k11
@[go_sem] theorem F318_k12_r {E ks st Q} : type_of% (@codeE E ks st Q _ _ F318_k12.eq_1) := codeE F318_k12.eq_1
def F318_k13 : ACode := .blk 3 F318_k12
@[go_sem] theorem F318_k13_r {E ks st Q} : type_of% (@codeE E ks st Q _ _ F318_k13.eq_1) := codeE F318_k13.eq_1
def F318_r14 : List AOper := [⟨0, some 36, none, .mov (.t 5), []⟩,
⟨1, some 37, none, .bin .add (.t 36) (.c (.int .i64 1)), []⟩,
⟨2, some 5, none, .mov (.t 37), []⟩]
@[go_sem] theorem F318_r14_r {E ks st Q} : type_of% (@opsE E ks st Q _ _ F318_r14.eq_1) := opsE F318_r14.eq_1
def F318_k15 : ACode := .seq F318_k13 (.reg true F318_r14)
@[go_sem] theorem F318_k15_r {E ks st Q} : type_of% (@codeE E ks st Q _ _ F318_k15.eq_1) := codeE F318_k15.eq_1
def F318_k16 : ACode := .seq F318_k6 F318_k15
@[go_sem] theorem F318_k16_r {E ks st Q} : type_of% (@codeE E ks st Q _ _ F318_k16.eq_1) := codeE F318_k16.eq_1
def F318_k17 : ACode := .loop F318_k16
@[go_sem] theorem F318_k17_r {E ks st Q} : type_of% (@codeE E ks st Q _ _ F318_k17.eq_1) := codeE F318_k17.eq_1
def F318_k18 : ACode := .blk 2 F318_k17
@[go_sem] theorem F318_k18_r {E ks st Q} : type_of% (@codeE E ks st Q _ _ F318_k18.eq_1) := codeE F318_k18.eq_1
def F318_k19 : ACode := .seq (.reg true [⟨0, some 5, none, .mov (.c (.int .i64 0)), []⟩]) F318_k18
@[go_sem] theorem F318_k19_r {E ks st Q} : type_of% (@codeE E ks st Q _ _ F318_k19.eq_1) := codeE F318_k19.eq_1
def F318_k20 : ACode := .seq (.reg true F318_r4) F318_k19
@[go_sem] theorem F318_k20_r {E ks st Q} : type_of% (@codeE E ks st Q _ _ F318_k20.eq_1) := codeE F318_k20.eq_1
def F318_k21 : ACode := .blk 1 F318_k20
@[go_sem] theorem F318_k21_r {E ks st Q} : type_of% (@codeE E ks st Q _ _ F318_k21.eq_1) := codeE F318_k21.eq_1
def F318_r22 : List AOper := [⟨0, some 21, none, .mov (.t 3), []⟩,
⟨1, some 22, none, .bin .add (.t 21) (.c (.int .i64 1)), []⟩,
⟨2, some 3, none, .mov (.t 22), []⟩]
@[go_sem] theorem F318_r22_r {E ks st Q} : type_of% (@opsE E ks st Q _ _ F318_r22.eq_1) := opsE F318_r22.eq_1
def F318_k23 : ACode := .seq F318_k21 (.reg true F318_r22)
@[go_sem] theorem F318_k23_r {E ks st Q} : type_of% (@codeE E ks st Q _ _ F318_k23.eq_1) := codeE F318_k23.eq_1
def F318_k24 : ACode := .seq F318_k3 F318_k23
@[go_sem] theorem F318_k24_r {E ks st Q} : type_of% (@codeE E ks st Q _ _ F318_k24.eq_1) := codeE F318_k24.eq_1
def F318_k25 : ACode := .loop F318_k24
@[go_sem] theorem F318_k25_r {E ks st Q} : type_of% (@codeE E ks st Q _ _ F318_k25.eq_1) := codeE F318_k25.eq_1
def F318_k26 : ACode := .blk 0 F318_k25
@[go_sem] theorem F318_k26_r {E ks st Q} : type_of% (@codeE E ks st Q _ _ F318_k26.eq_1) := codeE F318_k26.eq_1
def F318_k27 : ACode := .seq (.reg true [⟨0, some 3, none, .mov (.c (.int .i64 0)), []⟩]) F318_k26
@[go_sem] theorem F318_k27_r {E ks st Q} : type_of% (@codeE E ks st Q _ _ F318_k27.eq_1) := codeE F318_k27.eq_1
def F318_k28 : ACode := .seq F318_k27 (.seq (.reg true [⟨0, some 2, none, .mov (.c (.bool true)), []⟩]) (.ret))
@[go_sem] theorem F318_k28_r {E ks st Q} : type_of% (@codeE E ks st Q _ _ F318_k28.eq_1) := codeE F318_k28.eq_1
def F318_k29 : ACode := .seq F318_k1 F318_k28
@[go_sem] theorem F318_k29_r {E ks st Q} : type_of% (@codeE E ks st Q _ _ F318_k29.eq_1) := codeE F318_k29.eq_1
def F318 : AFun := ⟨1, 77, [.t 2], .seq (.reg true [⟨0, some 2, none, .mov (.c (.bool false)), []⟩]) F318_k29⟩
def F598_r0 : List AOper := [⟨0, some 4, none, .mov (.t 0), []⟩,
⟨1, some 5, none, .len (.t 4), []⟩,
⟨2, some 6, none, .bin .gtr (.t 5) (.c (.int .i64 24)), []⟩]
@[go_sem] theorem F598_r0_r {E ks st Q} : type_of% (@opsE E ks st Q _ _ F598_r0.eq_1) := opsE F598_r0.eq_1
def F598_k1 : ACode := .seq (.reg true F598_r0) (.cond (.t 6) (.seq (.reg true [⟨0, some 2, none, .mov (.c (.bool false)), []⟩]) (.ret)) (.skip))
@[go_sem] theorem F598_k1_r {E ks st Q} : type_of% (@codeE E ks st Q _ _ F598_k1.eq_1) := codeE F598_k1.eq_1
def F598_r2 : List AOper := [⟨0, some 7, none, .mov (.t 3), []⟩,
⟨1, some 8, none, .mov (.t 0), []⟩,
⟨2, some 9, none, .len (.t 8), []⟩,
⟨3, some 10, none, .bin .lss (.t 7) (.t 9), []⟩]
@[go_sem] theorem F598_r2_r {E ks st Q} : type_of% (@opsE E ks st Q _ _ F598_r2.eq_1) := opsE F598_r2.eq_1
def F598_k3 : ACode := .seq (.reg true F598_r2) (.cond (.t 10) (.skip) (.exit 0))
@[go_sem] theorem F598_k3_r {E ks st Q} : type_of% (@codeE E ks st Q _ _ F598_k3.eq_1) := codeE F598_k3.eq_1
def F598_r4 : List AOper := [⟨0, some 13, none, .mov (.t 0), []⟩,
⟨1, some 14, none, .mov (.t 3), []⟩,
⟨2, some 15, none, .iaddr 1 (.t 13) (.t 14), []⟩,
⟨3, some 16, none, .call 318 [.t 15], []⟩,
⟨4, some 17, none, .not (.t 16), []⟩]
@[go_sem] theorem F598_r4_r {E ks st Q} : type_of% (@opsE E ks st Q _ _ F598_r4.eq_1) := opsE F598_r4.eq_1
def F598_k5 : ACode := .seq (.reg true F598_r4) (.cond (.t 17) (.seq (.reg true [⟨0, some 2, none, .mov (.c (.bool false)), []⟩]) (.ret)) (.skip))
@[go_sem] theorem F598_k5_r {E ks st Q} : type_of% (@codeE E ks st Q _ _ F598_k5.eq_1) := codeE F598_k5.eq_1
def F598_k6 : ACode := .blk 1 F598_k5
@[go_sem] theorem F598_k6_r {E ks st Q} : type_of% (@codeE E ks st Q _ _ F598_k6.eq_1) := codeE F598_k6.eq_1
def F598_r7 : List AOper := [⟨0, some 11, none, .mov (.t 3), []⟩,
⟨1, some 12, none, .bin .add (.t 11) (.c (.int .i64 1)), []⟩,
⟨2, some 3, none, .mov (.t 12), []⟩]
@[go_sem] theorem F598_r7_r {E ks st Q} : type_of% (@opsE E ks st Q _ _ F598_r7.eq_1) := opsE F598_r7.eq_1
def F598_k8 : ACode := .seq F598_k6 (.reg true F598_r7)
@[go_sem] theorem F598_k8_r {E ks st Q} : type_of% (@codeE E ks st Q _ _ F598_k8.eq_1) := codeE F598_k8.eq_1
def F598_k9 : ACode := .seq F598_k3 F598_k8
@[go_sem] theorem F598_k9_r {E ks st Q} : type_of% (@codeE E ks st Q _ _ F598_k9.eq_1) := codeE F598_k9.eq_1
def F598_k10 : ACode := .loop F598_k9
@[go_sem] theorem F598_k10_r {E ks st Q} : type_of% (@codeE E ks st Q _ _ F598_k10.eq_1) := codeE F598_k10.eq_1
def F598_k11 : ACode := .blk 0 F598_k10
@[go_sem] theorem F598_k11_r {E ks st Q} : type_of% (@codeE E ks st Q _ _ F598_k11.eq_1) := codeE F598_k11.eq_1
def F598_k12 : ACode := .seq (.reg true [⟨0, some 3, none, .mov (.c (.int .i64 0)), []⟩]) F598_k11
@[go_sem] theorem F598_k12_r {E ks st Q} : type_of% (@codeE E ks st Q _ _ F598_k12.eq_1) := codeE F598_k12.eq_1
def F598_k13 : ACode := .seq F598_k12 (.seq (.reg true [⟨0, some 2, none, .mov (.c (.bool true)), []⟩]) (.ret))
@[go_sem] theorem F598_k13_r {E ks st Q} : type_of% (@codeE E ks st Q _ _ F598_k13.eq_1) := codeE F598_k13.eq_1
def F598_k14 : ACode := .seq F598_k1 F598_k13
@[go_sem] theorem F598_k14_r {E ks st Q} : type_of% (@codeE E ks st Q _ _ F598_k14.eq_1) := codeE F598_k14.eq_1
def F598 : AFun := ⟨1, 18, [.t 2], .seq (.reg true [⟨0, some 2, none, .mov (.c (.bool false)), []⟩]) F598_k14⟩
def F1109_r0 : List AOper := [⟨0, some 5, none, .mov (.t 0), []⟩,
⟨1, some 6, none, .nilchk (.t 5), []⟩,
⟨2, some 7, none, .faddr 0 (.t 6), []⟩,
⟨3, some 8, none, .load none (.t 7), []⟩,
⟨4, some 9, none, .mov (.t 1), []⟩,
⟨5, some 10, none, .call 340 [.t 8, .c (.int .i64 0), .t 9], []⟩,
⟨6, some 11, none, .mov (.t 10), []⟩,
⟨7, some 12, (some (11, true)), .mov (.t 0), []⟩,
⟨8, some 13, (some (11, true)), .nilchk (.t 12), []⟩,
⟨9, some 14, (some (11, true)), .faddr 1 (.t 13), []⟩,
⟨10, some 15, (some (11, true)), .load none (.t 14), []⟩,
⟨11, some 16, (some (11, true)), .call 340 [.t 15, .c (.int .i64 (-1)), .c (.int .i64 23)], []⟩,
⟨12, some 17, none, .pick (.t 11) (.t 16) (.c (.bool false)), []⟩,
⟨13, some 18, none, .mov (.t 17), []⟩,
⟨14, some 19, (some (18, true)), .mov (.t 0), []⟩,
⟨15, some 20, (some (18, true)), .nilchk (.t 19), []⟩,
⟨16, some 21, (some (18, true)), .faddr 2 (.t 20), []⟩,
⟨17, some 22, (some (18, true)), .load none (.t 21), []⟩,
⟨18, some 23, (some (18, true)), .call 340 [.t 22, .c (.int .i64 (-1)), .c (.int .i64 599)], []⟩,
⟨19, some 24, none, .pick (.t 18) (.t 23) (.c (.bool false)), []⟩,
⟨20, some 25, none, .mov (.t 24), []⟩,
⟨21, some 26, (some (25, true)), .mov (.t 0), []⟩,
⟨22, some 27, (some (25, true)), .nilchk (.t 26), []⟩,
⟨23, some 28, (some (25, true)), .faddr 2 (.t 27), []⟩,
⟨24, some 29, (some (25, true)), .load none (.t 28), []⟩,
⟨25, some 30, (some (25, true)), .bin .geq (.t 29) (.c (.int .i64 0)), []⟩,
⟨26, some 31, (some (25, true)), .mov (.t 30), []⟩,
⟨27, some 32, (some (31, false)), .mov (.t 0), []⟩,
⟨28, some 33, (some (31, false)), .nilchk (.t 32), []⟩,
⟨29, some 34, (some (31, false)), .faddr 1 (.t 33), []⟩,
⟨30, some 35, (some (31, false)), .load none (.t 34), []⟩,
⟨31, some 36, (some (31, false)), .bin .lss (.t 35) (.c (.int .i64 0)), []⟩,
⟨32, some 37, (some (25, true)), .pick (.t 31) (.c (.bool true)) (.t 36), []⟩,
⟨33, some 38, none, .pick (.t 25) (.t 37) (.c (.bool false)), []⟩,
⟨34, some 4, none, .mov (.t 38), []⟩]
@[go_sem] theorem F1109_r0_r {E ks st Q} : type_of% (@opsE E ks st Q _ _ F1109_r0.eq_1) := opsE F1109_r0.eq_1
def F1109_k1 : ACode := .seq (.reg true F1109_r0) (.ret)
@[go_sem] theorem F1109_k1_r {E ks st Q} : type_of% (@codeE E ks st Q _ _ F1109_k1.eq_1) := codeE F1109_k1.eq_1
def F1109 : AFun := ⟨2, 39, [.t 4], .seq (.reg true [⟨0, some 4, none, .mov (.c (.bool false)), []⟩]) F1109_k1⟩
def F741_r0 : List AOper := [⟨0, some 8, none, .mov (.t 0), []⟩,
⟨1, some 9, none, .call 318 [.t 8], []⟩,
⟨2, some 10, none, .not (.t 9), []⟩,
⟨3, some 11, none, .mov (.t 10), []⟩,
⟨4, some 12, (some (11, false)), .mov (.t 1), []⟩,
⟨5, some 13, (some (11, false)), .len (.t 12), []⟩,
⟨6, some 14, (some (11, false)), .mov (.t 0), []⟩,
⟨7, some 15, (some (11, false)), .nilchk (.t 14), []⟩,
⟨8, some 16, (some (11, false)), .faddr 0 (.t 15), []⟩,
⟨9, some 17, (some (11, false)), .load none (.t 16), []⟩,
⟨10, some 18, (some (11, false)), .len (.t 17), []⟩,
⟨11, some 19, (some (11, false)), .bin .neq (.t 13) (.t 18), []⟩,
⟨12, some 20, none, .pick (.t 11) (.c (.bool true)) (.t 19), []⟩]
@[go_sem] theorem F741_r0_r {E ks st Q} : type_of% (@opsE E ks st Q _ _ F741_r0.eq_1) := opsE F741_r0.eq_1
def F741_k1 : ACode := .seq (.reg true F741_r0) (.cond (.t 20) (.seq (.reg true [⟨0, some 6, none, .mov (.c (.bool false)), []⟩]) (.ret)) (.skip))
@[go_sem] theorem F741_k1_r {E ks st Q} : type_of% (@codeE E ks st Q _ _ F741_k1.eq_1) := codeE F741_k1.eq_1
def F741_r2 : List AOper := [⟨0, some 21, none, .mov (.t 7), []⟩,
⟨1, some 22, none, .mov (.t 1), []⟩,
⟨2, some 23, none, .len (.t 22), []⟩,
⟨3, some 24, none, .bin .lss (.t 21) (.t 23), []⟩]
@[go_sem] theorem F741_r2_r {E ks st Q} : type_of% (@opsE E ks st Q _ _ F741_r2.eq_1) := opsE F741_r2.eq_1
def F741_k3 : ACode := .seq (.reg true F741_r2) (.cond (.t 24) (.skip) (.exit 0))
@[go_sem] theorem F741_k3_r {E ks st Q} : type_of% (@codeE E ks st Q _ _ F741_k3.eq_1) := codeE F741_k3.eq_1
def F741_r4 : List AOper := [⟨0, some 27, none, .mov (.t 1), []⟩,
⟨1, some 28, none, .mov (.t 7), []⟩,
⟨2, some 29, none, .iaddr 3 (.t 27) (.t 28), []⟩,
⟨3, some 30, none, .mov (.t 2), []⟩,
⟨4, some 31, none, .call 1109 [.t 29, .t 30], []⟩,
⟨5, some 32, none, .not (.t 31), []⟩]
@[go_sem] theorem F741_r4_r {E ks st Q} : type_of% (@opsE E ks st Q _ _ F741_r4.eq_1) := opsE F741_r4.eq_1
def F741_k5 : ACode := .seq (.reg true F741_r4) (.cond (.t 32) (.seq (.reg true [⟨0, some 6, none, .mov (.c (.bool false)), []⟩]) (.ret)) (.skip))
@[go_sem] theorem F741_k5_r {E ks st Q} : type_of% (@codeE E ks st Q _ _ F741_k5.eq_1) := codeE F741_k5.eq_1
def F741_k6 : ACode := .blk 1 F741_k5
@[go_sem] theorem F741_k6_r {E ks st Q} : type_of% (@codeE E ks st Q _ _ F741_k6.eq_1) := codeE F741_k6.eq_1
def F741_r7 : List AOper := [⟨0, some 25, none, .mov (.t 7), []⟩,
⟨1, some 26, none, .bin .add (.t 25) (.c (.int .i64 1)), []⟩,
⟨2, some 7, none, .mov (.t 26), []⟩]
@[go_sem] theorem F741_r7_r {E ks st Q} : type_of% (@opsE E ks st Q _ _ F741_r7.eq_1) := opsE F741_r7.eq_1
def F741_k8 : ACode := .seq F741_k6 (.reg true F741_r7)
@[go_sem] theorem F741_k8_r {E ks st Q} : type_of% (@codeE E ks st Q _ _ F741_k8.eq_1) := codeE F741_k8.eq_1
def F741_k9 : ACode := .seq F741_k3 F741_k8
@[go_sem] theorem F741_k9_r {E ks st Q} : type_of% (@codeE E ks st Q _ _ F741_k9.eq_1) := codeE F741_k9.eq_1
def F741_k10 : ACode := .loop F741_k9
@[go_sem] theorem F741_k10_r {E ks st Q} : type_of% (@codeE E ks st Q _ _ F741_k10.eq_1) := codeE F741_k10.eq_1
def F741_k11 : ACode := .blk 0 F741_k10
@[go_sem] theorem F741_k11_r {E ks st Q} : type_of% (@codeE E ks st Q _ _ F741_k11.eq_1) := codeE F741_k11.eq_1
def F741_k12 : ACode := .seq (.reg true [⟨0, some 7, none, .mov (.c (.int .i64 0)), []⟩]) F741_k11
@[go_sem] theorem F741_k12_r {E ks st Q} : type_of% (@codeE E ks st Q _ _ F741_k12.eq_1) := codeE F741_k12.eq_1
def F741_k13 : ACode := .seq F741_k12 (.seq (.reg true [⟨0, some 6, none, .mov (.c (.bool true)), []⟩]) (.ret))
@[go_sem] theorem F741_k13_r {E ks st Q} : type_of% (@codeE E ks st Q _ _ F741_k13.eq_1) := codeE F741_k13.eq_1
def F741_k14 : ACode := .seq F741_k1 F741_k13
@[go_sem] theorem F741_k14_r {E ks st Q} : type_of% (@codeE E ks st Q _ _ F741_k14.eq_1) := codeE F741_k14.eq_1
def F741 : AFun := ⟨3, 33, [.t 6], .seq (.reg true [⟨0, some 6, none, .mov (.c (.bool false)), []⟩]) F741_k14⟩
def F367_r0 : List AOper := [⟨0, some 6, none, .mov (.t 0), []⟩,
⟨1, some 7, none, .nilchk (.t 6), []⟩,
⟨2, some 8, none, .faddr 0 (.t 7), []⟩,
⟨3, some 9, none, .load none (.t 8), []⟩,
⟨4, some 10, none, .call 598 [.t 9], []⟩,
⟨5, some 11, none, .not (.t 10), []⟩,
⟨6, some 12, none, .mov (.t 11), []⟩,
⟨7, some 13, (some (12, false)), .mov (.t 0), []⟩,
⟨8, some 14, (some (12, false)), .nilchk (.t 13), []⟩,
⟨9, some 15, (some (12, false)), .faddr 1 (.t 14), []⟩,
⟨10, some 16, (some (12, false)), .load none (.t 15), []⟩,
⟨11, some 17, (some (12, false)), .call 412 [.t 16], []⟩,
⟨12, some 18, (some (12, false)), .not (.t 17), []⟩,
⟨13, some 19, none, .pick (.t 12) (.c (.bool true)) (.t 18), []⟩,
⟨14, some 20, none, .mov (.t 19), []⟩,
⟨15, some 21, (some (20, false)), .mov (.t 0), []⟩,
⟨16, some 22, (some (20, false)), .nilchk (.t 21), []⟩,
⟨17, some 23, (some (20, false)), .faddr 2 (.t 22), []⟩,
⟨18, some 24, (some (20, false)), .load none (.t 23), []⟩,
⟨19, some 25, (some (20, false)), .call 340 [.t 24, .c (.int .i64 1), .c (.int .i64 50)], []⟩,
⟨20, some 26, (some (20, false)), .not (.t 25), []⟩,
⟨21, some 27, none, .pick (.t 20) (.c (.bool true)) (.t 26), []⟩,
⟨22, some 28, none, .mov (.t 27), []⟩,
⟨23, some 29, (some (28, false)), .mov (.t 0), []⟩,
⟨24, some 30, (some (28, false)), .nilchk (.t 29), []⟩,
⟨25, some 31, (some (28, false)), .faddr 3 (.t 30), []⟩,
⟨26, some 32, (some (28, false)), .load none (.t 31), []⟩,
⟨27, some 33, (some (28, false)), .call 340 [.t 32, .c (.int .i64 0), .c (.int .i64 4000)], []⟩,
⟨28, some 34, (some (28, false)), .not (.t 33), []⟩,
⟨29, some 35, none, .pick (.t 28) (.c (.bool true)) (.t 34), []⟩,
⟨30, some 36, none, .mov (.t 35), []⟩,
⟨31, some 37, (some (36, false)), .mov (.t 0), []⟩,
⟨32, some 38, (some (36, false)), .nilchk (.t 37), []⟩,
⟨33, some 39, (some (36, false)), .faddr 4 (.t 38), []⟩,
⟨34, some 40, (some (36, false)), .mov (.t 0), []⟩,
⟨35, some 41, (some (36, false)), .nilchk (.t 40), []⟩,
⟨36, some 42, (some (36, false)), .faddr 5 (.t 41), []⟩,
⟨37, some 43, (some (36, false)), .load none (.t 42), []⟩,
⟨38, some 44, (some (36, false)), .mov (.t 0), []⟩,
⟨39, some 45, (some (36, false)), .nilchk (.t 44), []⟩,
⟨40, some 46, (some (36, false)), .faddr 3 (.t 45), []⟩,
⟨41, some 47, (some (36, false)), .load none (.t 46), []⟩,
⟨42, some 48, (some (36, false)), .call 741 [.t 39, .t 43, .t 47], []⟩,
⟨43, some 49, (some (36, false)), .not (.t 48), []⟩,
⟨44, some 50, none, .pick (.t 36) (.c (.bool true)) (.t 49), []⟩,
⟨45, some 51, none, .mov (.t 50), []⟩,
⟨46, some 52, (some (51, false)), .mov (.t 0), []⟩,
⟨47, some 53, (some (51, false)), .nilchk (.t 52), []⟩,
⟨48, some 54, (some (51, false)), .faddr 6 (.t 53), []⟩,
⟨49, some 55, (some (51, false)), .load none (.t 54), []⟩,
⟨50, some 56, (some (51, false)), .len (.t 55), []⟩,
⟨51, some 57, (some (51, false)), .bin .gtr (.t 56) (.c (.int .i64 8)), []⟩,
⟨52, some 58, none, .pick (.t 51) (.c (.bool true)) (.t 57), []⟩]
@[go_sem] theorem F367_r0_r {E ks st Q} : type_of% (@opsE E ks st Q _ _ F367_r0.eq_1) := opsE F367_r0.eq_1
def F367_k1 : ACode := .seq (.reg true F367_r0) (.cond (.t 58) (.seq (.reg true [⟨0, some 2, none, .mov (.c (.bool false)), []⟩]) (.ret)) (.skip))
@[go_sem] theorem F367_k1_r {E ks st Q} : type_of% (@codeE E ks st Q _ _ F367_k1.eq_1) := codeE F367_k1.eq_1
def F367_r2 : List AOper := [⟨0, some 59, none, .mov (.t 3), []⟩,
⟨1, some 60, none, .mov (.t 0), []⟩,
⟨2, some 61, none, .nilchk (.t 60), []⟩,
⟨3, some 62, none, .faddr 6 (.t 61), []⟩,
⟨4, some 63, none, .load none (.t 62), []⟩,
⟨5, some 64, none, .len (.t 63), []⟩,
⟨6, some 65, none, .bin .lss (.t 59) (.t 64), []⟩]
@[go_sem] theorem F367_r2_r {E ks st Q} : type_of% (@opsE E ks st Q _ _ F367_r2.eq_1) := opsE F367_r2.eq_1
def F367_k3 : ACode := .seq (.reg true F367_r2) (.cond (.t 65) (.skip) (.exit 0))
@[go_sem] theorem F367_k3_r {E ks st Q} : type_of% (@codeE E ks st Q _ _ F367_k3.eq_1) := codeE F367_k3.eq_1
def F367_r4 : List AOper := [⟨0, some 68, none, .mov (.t 0), []⟩,
⟨1, some 69, none, .nilchk (.t 68), []⟩,
⟨2, some 70, none, .faddr 6 (.t 69), []⟩,
⟨3, some 71, none, .load none (.t 70), []⟩,
⟨4, some 72, none, .mov (.t 3), []⟩,
⟨5, some 73, none, .iaddr 2 (.t 71) (.t 72), []⟩,
⟨6, some 74, none, .call 426 [.t 73], []⟩,
⟨7, some 75, none, .not (.t 74), []⟩]
@[go_sem] theorem F367_r4_r {E ks st Q} : type_of% (@opsE E ks st Q _ _ F367_r4.eq_1) := opsE F367_r4.eq_1
def F367_k5 : ACode := .seq (.reg true F367_r4) (.cond (.t 75) (.seq (.reg true [⟨0, some 2, none, .mov (.c (.bool false)), []⟩]) (.ret)) (.skip))
@[go_sem] theorem F367_k5_r {E ks st Q} : type_of% (@codeE E ks st Q _ _ F367_k5.eq_1) := codeE F367_k5.eq_1
def F367_k6 : ACode := .blk 1 F367_k5
@[go_sem] theorem F367_k6_r {E ks st Q} : type_of% (@codeE E ks st Q _ _ F367_k6.eq_1) := codeE F367_k6.eq_1
def F367_r7 : List AOper := [⟨0, some 66, none, .mov (.t 3), []⟩,
⟨1, some 67, none, .bin .add (.t 66) (.c (.int .i64 1)), []⟩,
⟨2, some 3, none, .mov (.t 67), []⟩]
@[go_sem] theorem F367_r7_r {E ks st Q} : type_of% (@opsE E ks st Q _ _ F367_r7.eq_1) := opsE F367_r7.eq_1
def F367_k8 : ACode := .seq F367_k6 (.reg true F367_r7)
@[go_sem] theorem F367_k8_r {E ks st Q} : type_of% (@codeE E ks st Q _ _ F367_k8.eq_1) := codeE F367_k8.eq_1
def F367_k9 : ACode := .seq F367_k3 F367_k8
@[go_sem] theorem F367_k9_r {E ks st Q} : type_of% (@codeE E ks st Q _ _ F367_k9.eq_1) := codeE F367_k9.eq_1
def F367_k10 : ACode := .loop F367_k9
@[go_sem] theorem F367_k10_r {E ks st Q} : type_of% (@codeE E ks st Q _ _ F367_k10.eq_1) := codeE F367_k10.eq_1
def F367_k11 : ACode := .blk 0 F367_k10
@[go_sem] theorem F367_k11_r {E ks st Q} : type_of% (@codeE E ks st Q _ _ F367_k11.eq_1) := codeE F367_k11.eq_1
def F367_k12 : ACode := .seq (.reg true [⟨0, some 3, none, .mov (.c (.int .i64 0)), []⟩]) F367_k11
@[go_sem] theorem F367_k12_r {E ks st Q} : type_of% (@codeE E ks st Q _ _ F367_k12.eq_1) := codeE F367_k12.eq_1
def F367_r13 : List AOper := [⟨0, some 76, none, .mov (.t 0), []⟩,
⟨1, some 77, none, .nilchk (.t 76), []⟩,
⟨2, some 78, none, .faddr 7 (.t 77), []⟩,
⟨3, some 79, none, .load none (.t 78), []⟩,
⟨4, some 80, none, .len (.t 79), []⟩,
⟨5, some 81, none, .mov (.t 0), []⟩,
⟨6, some 82, none, .nilchk (.t 81), []⟩,
⟨7, some 83, none, .faddr 3 (.t 82), []⟩,
⟨8, some 84, none, .load none (.t 83), []⟩,
⟨9, some 85, none, .mov (.t 0), []⟩,
⟨10, some 86, none, .nilchk (.t 85), []⟩,
⟨11, some 87, none, .faddr 2 (.t 86), []⟩,
⟨12, some 88, none, .load none (.t 87), []⟩,
⟨13, some 89, none, .bin .quo (.t 84) (.t 88), []⟩,
⟨14, some 90, none, .bin .add (.t 89) (.c (.int .i64 1)), []⟩,
⟨15, some 91, none, .mov (.t 0), []⟩,
⟨16, some 92, none, .nilchk (.t 91), []⟩,
⟨17, some 93, none, .faddr 2 (.t 92), []⟩,
⟨18, some 94, none, .load none (.t 93), []⟩,
⟨19, some 95, none, .bin .quo (.c (.int .i64 4000)) (.t 94), []⟩,
⟨20, some 96, none, .bin .add (.t 95) (.c (.int .i64 1)), []⟩,
⟨21, some 97, none, .call 340 [.t 80, .t 90, .t 96], []⟩,
⟨22, some 98, none, .not (.t 97), []⟩]
@[go_sem] theorem F367_r13_r {E ks st Q} : type_of% (@opsE E ks st Q _ _ F367_r13.eq_1) := opsE F367_r13.eq_1
def F367_k14 : ACode := .seq (.reg true F367_r13) (.cond (.t 98) (.seq (.reg true [⟨0, some 2, none, .mov (.c (.bool false)), []⟩]) (.ret)) (.skip))
@[go_sem] theorem F367_k14_r {E ks st Q} : type_of% (@codeE E ks st Q _ _ F367_k14.eq_1) := codeE F367_k14.eq_1
def F367_r15 : List AOper := [⟨0, some 99, none, .mov (.t 4), []⟩,
⟨1, some 100, none, .mov (.t 0), []⟩,
⟨2, some 101, none, .nilchk (.t 100), []⟩,
⟨3, some 102, none, .faddr 7 (.t 101), []⟩,
⟨4, some 103, none, .load none (.t 102), []⟩,
⟨5, some 104, none, .len (.t 103), []⟩,
⟨6, some 105, none, .bin .lss (.t 99) (.t 104), []⟩]
@[go_sem] theorem F367_r15_r {E ks st Q} : type_of% (@opsE E ks st Q _ _ F367_r15.eq_1) := opsE F367_r15.eq_1
def F367_k16 : ACode := .seq (.reg true F367_r15) (.cond (.t 105) (.skip) (.exit 2))
@[go_sem] theorem F367_k16_r {E ks st Q} : type_of% (@codeE E ks st Q _ _ F367_k16.eq_1) := codeE F367_k16.eq_1
def F367_r17 : List AOper := [⟨0, some 108, none, .mov (.t 0), []⟩,
⟨1, some 109, none, .nilchk (.t 108), []⟩,
⟨2, some 110, none, .faddr 7 (.t 109), []⟩,
⟨3, some 111, none, .load none (.t 110), []⟩,
⟨4, some 112, none, .mov (.t 4), []⟩,
⟨5, some 113, none, .iaddr 3 (.t 111) (.t 112), []⟩,
⟨6, some 5, none, .mov (.t 113), []⟩]
@[go_sem] theorem F367_r17_r {E ks st Q} : type_of% (@opsE E ks st Q _ _ F367_r17.eq_1) := opsE F367_r17.eq_1
def F367_r18 : List AOper := [⟨0, some 114, none, .mov (.t 5), []⟩,
⟨1, some 115, none, .nilchk (.t 114), []⟩,
⟨2, some 116, none, .faddr 0 (.t 115), []⟩,
⟨3, some 117, none, .load none (.t 116), []⟩,
⟨4, some 118, none, .mov (.t 4), []⟩,
⟨5, some 119, none, .mov (.t 0), []⟩,
⟨6, some 120, none, .nilchk (.t 119), []⟩,
⟨7, some 121, none, .faddr 2 (.t 120), []⟩,
⟨8, some 122, none, .load none (.t 121), []⟩,
⟨9, some 123, none, .bin .mul (.t 118) (.t 122), []⟩,
⟨10, some 124, none, .bin .neq (.t 117) (.t 123), []⟩,
⟨11, some 125, none, .mov (.t 124), []⟩,
⟨12, some 126, (some (125, false)), .mov (.t 5), []⟩,
⟨13, some 127, (some (125, false)), .nilchk (.t 126), []⟩,
⟨14, some 128, (some (125, false)), .faddr 1 (.t 127), []⟩,
⟨15, some 129, (some (125, false)), .mov (.t 5), []⟩,
⟨16, some 130, (some (125, false)), .nilchk (.t 129), []⟩,
⟨17, some 131, (some (125, false)), .faddr 2 (.t 130), []⟩,
⟨18, some 132, (some (125, false)), .load none (.t 131), []⟩,
⟨19, some 133, (some (125, false)), .mov (.t 5), []⟩,
⟨20, some 134, (some (125, false)), .nilchk (.t 133), []⟩,
⟨21, some 135, (some (125, false)), .faddr 0 (.t 134), []⟩,
⟨22, some 136, (some (125, false)), .load none (.t 135), []⟩,
⟨23, some 137, (some (125, false)), .call 741 [.t 128, .t 132, .t 136], []⟩,
⟨24, some 138, (some (125, false)), .not (.t 137), []⟩,
⟨25, some 139, none, .pick (.t 125) (.c (.bool true)) (.t 138), []⟩]
@[go_sem] theorem F367_r18_r {E ks st Q} : type_of% (@opsE E ks st Q _ _ F367_r18.eq_1) := opsE F367_r18.eq_1
def F367_k19 : ACode := .seq (.reg true F367_r18) (.cond (.t 139) (.seq (.reg true [⟨0, some 2, none, .mov (.c (.bool false)), []⟩]) (.ret)) (.skip))
@[go_sem] theorem F367_k19_r {E ks st Q} : type_of% (@codeE E ks st Q _ _ F367_k19.eq_1) := codeE F367_k19.eq_1
def F367_k20 : ACode := .seq (.reg true F367_r17) F367_k19
@[go_sem] theorem F367_k20_r {E ks st Q} : type_of% (@codeE E ks st Q _ _ F367_k20.eq_1) := codeE F367_k20.eq_1
def F367_k21 : ACode := .blk 3 F367_k20
@[go_sem] theorem F367_k21_r {E ks st Q} : type_of% (@codeE E ks st Q _ _ F367_k21.eq_1) := codeE F367_k21.eq_1
def F367_r22 : List AOper := [⟨0, some 106, none, .mov (.t 4), []⟩,
⟨1, some 107, none, .bin .add (.t 106) (.c (.int .i64 1)), []⟩,
⟨2, some 4, none, .mov (.t 107), []⟩]
@[go_sem] theorem F367_r22_r {E ks st Q} : type_of% (@opsE E ks st Q _ _ F367_r22.eq_1) := opsE F367_r22.eq_1
def F367_k23 : ACode := .seq F367_k21 (.reg true F367_r22)
@[go_sem] theorem F367_k23_r {E ks st Q} : type_of% (@codeE E ks st Q _ _ F367_k23.eq_1) := codeE F367_k23.eq_1
def F367_k24 : ACode := .seq F367_k16 F367_k23
@[go_sem] theorem F367_k24_r {E ks st Q} : type_of% (@codeE E ks st Q _ _ F367_k24.eq_1) := codeE F367_k24.eq_1
def F367_k25 : ACode := .loop F367_k24
@[go_sem] theorem F367_k25_r {E ks st Q} : type_of% (@codeE E ks st Q _ _ F367_k25.eq_1) := codeE F367_k25.eq_1
def F367_k26 : ACode := .blk 2 F367_k25
@[go_sem] theorem F367_k26_r {E ks st Q} : type_of% (@codeE E ks st Q _ _ F367_k26.eq_1) := codeE F367_k26.eq_1
def F367_k27 : ACode := .seq (.reg true [⟨0, some 4, none, .mov (.c (.int .i64 0)), []⟩]) F367_k26
@[go_sem] theorem F367_k27_r {E ks st Q} : type_of% (@codeE E ks st Q _ _ F367_k27.eq_1) := codeE F367_k27.eq_1
def F367_k28 : ACode := .seq F367_k27 (.seq (.reg true [⟨0, some 2, none, .mov (.c (.bool true)), []⟩]) (.ret))
@[go_sem] theorem F367_k28_r {E ks st Q} : type_of% (@codeE E ks st Q _ _ F367_k28.eq_1) := codeE F367_k28.eq_1
def F367_k29 : ACode := .seq F367_k14 F367_k28
@[go_sem] theorem F367_k29_r {E ks st Q} : type_of% (@codeE E ks st Q _ _ F367_k29.eq_1) := codeE F367_k29.eq_1
def F367_k30 : ACode := .seq F367_k12 F367_k29
@[go_sem] theorem F367_k30_r {E ks st Q} : type_of% (@codeE E ks st Q _ _ F367_k30.eq_1) := codeE F367_k30.eq_1
def F367_k31 : ACode := .seq F367_k1 F367_k30
@[go_sem] theorem F367_k31_r {E ks st Q} : type_of% (@codeE E ks st Q _ _ F367_k31.eq_1) := codeE F367_k31.eq_1
def F367 : AFun := ⟨1, 140, [.t 2], .seq (.reg true [⟨0, some 2, none, .mov (.c (.bool false)), []⟩]) F367_k31⟩
def F742_r0 : List AOper := [⟨0, some 7, none, .mov (.t 4), []⟩,
⟨1, some 8, none, .mov (.t 0), []⟩,
⟨2, some 9, none, .nilchk (.t 8), []⟩,
⟨3, some 10, none, .faddr 0 (.t 9), []⟩,
⟨4, some 11, none, .load none (.t 10), []⟩,
⟨5, some 12, none, .len (.t 11), []⟩,
⟨6, some 13, none, .bin .lss (.t 7) (.t 12), []⟩]
@[go_sem] theorem F742_r0_r {E ks st Q} : type_of% (@opsE E ks st Q _ _ F742_r0.eq_1) := opsE F742_r0.eq_1
def F742_k1 : ACode := .seq (.reg true F742_r0) (.cond (.t 13) (.skip) (.exit 0))
@[go_sem] theorem F742_k1_r {E ks st Q} : type_of% (@codeE E ks st Q _ _ F742_k1.eq_1) := codeE F742_k1.eq_1
def F742_r2 : List AOper := [⟨0, some 16, none, .mov (.t 0), []⟩,
⟨1, some 17, none, .nilchk (.t 16), []⟩,
⟨2, some 18, none, .faddr 0 (.t 17), []⟩,
⟨3, some 19, none, .load none (.t 18), []⟩,
⟨4, some 20, none, .mov (.t 4), []⟩,
⟨5, some 21, none, .iaddr 5 (.t 19) (.t 20), []⟩,
⟨6, some 22, none, .faddr 0 (.t 21), []⟩,
⟨7, some 23, none, .load none (.t 22), []⟩,
⟨8, some 24, none, .bin .eql (.t 23) (.c (.int .i64 0)), []⟩]
@[go_sem] theorem F742_r2_r {E ks st Q} : type_of% (@opsE E ks st Q _ _ F742_r2.eq_1) := opsE F742_r2.eq_1
def F742_k3 : ACode := .seq (.reg true F742_r2) (.cond (.t 24) (.exit 1) (.skip))
@[go_sem] theorem F742_k3_r {E ks st Q} : type_of% (@codeE E ks st Q _ _ F742_k3.eq_1) := codeE F742_k3.eq_1
def F742_r4 : List AOper := [⟨0, some 25, none, .mov (.t 0), []⟩,
⟨1, some 26, none, .nilchk (.t 25), []⟩,
⟨2, some 27, none, .faddr 0 (.t 26), []⟩,
⟨3, some 28, none, .load none (.t 27), []⟩,
⟨4, some 29, none, .mov (.t 4), []⟩,
⟨5, some 30, none, .iaddr 5 (.t 28) (.t 29), []⟩,
⟨6, some 31, none, .faddr 4 (.t 30), []⟩,
⟨7, some 32, none, .load none (.t 31), []⟩,
⟨8, some 33, none, .iaddr 2 (.t 32) (.c (.int .i64 0)), []⟩,
⟨9, some 34, none, .load (some 2) (.t 33), []⟩,
⟨10, some 5, none, .lalloc (.agg [.int .i64 0, .int .i64 0]), []⟩,
⟨11, none, none, .lstore 5 0 2 (.t 34), []⟩]
@[go_sem] theorem F742_r4_r {E ks st Q} : type_of% (@opsE E ks st Q _ _ F742_r4.eq_1) := opsE F742_r4.eq_1
def F742_r5 : List AOper := [⟨0, some 35, none, .nop 5, []⟩,
⟨1, some 36, none, .lload 5 1 none, []⟩,
⟨2, some 37, none, .bin .eql (.t 36) (.c (.int .i64 0)), []⟩,
⟨3, some 38, none, .mov (.t 37), []⟩,
⟨4, some 39, (some (38, true)), .nop 5, []⟩,
⟨5, some 40, (some (38, true)), .lload 5 0 none, []⟩,
⟨6, some 41, (some (38, true)), .mov (.t 4), []⟩,
⟨7, some 42, (some (38, true)), .bin .gtr (.t 40) (.t 41), []⟩,
⟨8, some 43, none, .pick (.t 38) (.t 42) (.c (.bool false)), []⟩]
@[go_sem] theorem F742_r5_r {E ks st Q} : type_of% (@opsE E ks st Q _ _ F742_r5.eq_1) := opsE F742_r5.eq_1
def F742_r6 : List AOper := [⟨0, some 44, none, .mov (.t 3), []⟩,
⟨1, some 45, none, .mov (.t 4), []⟩,
⟨2, some 46, none, .nop 5, []⟩,
⟨3, some 47, none, .lload 5 0 none, []⟩,
⟨4, some 48, none, .build (.agg [.int .i64 0, .int .i64 0]) [(0, 1, .t 45), (1, 1, .t 47)], []⟩,
⟨5, some 49, none, .bslice 2 (.agg [.int .i64 0, .int .i64 0]) 1 [(0, .t 48)], []⟩,
⟨6, some 50, none, .app 2 (.t 44) (.t 49), []⟩,
⟨7, some 3, none, .mov (.t 50), []⟩]
@[go_sem] theorem F742_r6_r {E ks st Q} : type_of% (@opsE E ks st Q _ _ F742_r6.eq_1) := opsE F742_r6.eq_1
def F742_k7 : ACode := .cond (.t 43) (.reg true F742_r6) (.skip)
@[go_sem] theorem F742_k7_r {E ks st Q} : type_of% (@codeE E ks st Q _ _ F742_k7.eq_1) := codeE F742_k7.eq_1
def F742_k8 : ACode := .seq (.reg true F742_r5) F742_k7
@[go_sem] theorem F742_k8_r {E ks st Q} : type_of% (@codeE E ks st Q _ _ F742_k8.eq_1) := codeE F742_k8.eq_1
def F742_k9 : ACode := .seq (.reg true F742_r4) F742_k8
@[go_sem] theorem F742_k9_r {E ks st Q} : type_of% (@codeE E ks st Q _ _ F742_k9.eq_1) := codeE F742_k9.eq_1
def F742_k10 : ACode := .seq F742_k3 F742_k9
@[go_sem] theorem F742_k10_r {E ks st Q} : type_of% (@codeE E ks st Q _ _ F742_k10.eq_1) := codeE F742_k10.eq_1
def F742_k11 : ACode := .blk 1 F742_k10
@[go_sem] theorem F742_k11_r {E ks st Q} : type_of% (@codeE E ks st Q _ _ F742_k11.eq_1) := codeE F742_k11.eq_1
def F742_r12 : List AOper := [⟨0, some 14, none, .mov (.t 4), []⟩,
⟨1, some 15, none, .bin .add (.t 14) (.c (.int .i64 1)), []⟩,
⟨2, some 4, none, .mov (.t 15), []⟩]
@[go_sem] theorem F742_r12_r {E ks st Q} : type_of% (@opsE E ks st Q _ _ F742_r12.eq_1) := opsE F742_r12.eq_1
def F742_k13 : ACode := .seq F742_k11 (.reg true F742_r12)
@[go_sem] theorem F742_k13_r {E ks st Q} : type_of% (@codeE E ks st Q _ _ F742_k13.eq_1) := codeE F742_k13.eq_1
def F742_k14 : ACode := .seq F742_k1 F742_k13
@[go_sem] theorem F742_k14_r {E ks st Q} : type_of% (@codeE E ks st Q _ _ F742_k14.eq_1) := codeE F742_k14.eq_1
def F742_k15 : ACode := .loop F742_k14
@[go_sem] theorem F742_k15_r {E ks st Q} : type_of% (@codeE E ks st Q _ _ F742_k15.eq_1) := codeE F742_k15.eq_1
def F742_k16 : ACode := .blk 0 F742_k15
@[go_sem] theorem F742_k16_r {E ks st Q} : type_of% (@codeE E ks st Q _ _ F742_k16.eq_1) := codeE F742_k16.eq_1
def F742_k17 : ACode := .seq (.reg true [⟨0, some 4, none, .mov (.c (.int .i64 1)), []⟩]) F742_k16
@[go_sem] theorem F742_k17_r {E ks st Q} : type_of% (@codeE E ks st Q _ _ F742_k17.eq_1) := codeE F742_k17.eq_1
def F742_k18 : ACode := .seq F742_k17 (.seq (.reg true [⟨0, some 51, none, .mov (.t 3), []⟩,
⟨1, some 2, none, .mov (.t 51), []⟩]) (.ret))
@[go_sem] theorem F742_k18_r {E ks st Q} : type_of% (@codeE E ks st Q _ _ F742_k18.eq_1) := codeE F742_k18.eq_1
def F742_k19 : ACode := .seq (.reg true [⟨0, some 6, none, .bslice 2 (.agg [.int .i64 0, .int .i64 0]) 0 [], []⟩,
⟨1, some 3, none, .mov (.t 6), []⟩]) F742_k18
@[go_sem] theorem F742_k19_r {E ks st Q} : type_of% (@codeE E ks st Q _ _ F742_k19.eq_1) := codeE F742_k19.eq_1
def F742 : AFun := ⟨1, 52, [.t 2], .seq (.reg true [⟨0, some 2, none, .mov (.c (.nils)), []⟩]) F742_k19⟩
def F1395_r0 : List AOper := [⟨0, some 9, none, .mov (.t 0), []⟩,
⟨1, some 10, none, .mov (.t 1), []⟩,
⟨2, some 11, none, .call 1385 [.t 9, .t 10], []⟩,
⟨3, some 12, none, .mov (.t 11), []⟩,
⟨4, some 13, (some (12, true)), .mov (.t 2), []⟩,
⟨5, some 14, (some (12, true)), .mov (.t 3), []⟩,
⟨6, some 15, (some (12, true)), .call 1385 [.t 13, .t 14], []⟩,
⟨7, some 16, none, .pick (.t 12) (.t 15) (.c (.bool false)), []⟩,
⟨8, some 17, none, .mov (.t 16), []⟩,
⟨9, some 18, (some (17, true)), .mov (.t 0), []⟩,
⟨10, some 19, (some (17, true)), .bin .neq (.t 18) (.c (.int .i64 1)), []⟩,
⟨11, some 20, none, .pick (.t 17) (.t 19) (.c (.bool false)), []⟩,
⟨12, some 21, none, .mov (.t 20), []⟩,
⟨13, some 22, (some (21, true)), .mov (.t 2), []⟩,
⟨14, some 23, (some (21, true)), .bin .neq (.t 22) (.c (.int .i64 1)), []⟩,
⟨15, some 24, none, .pick (.t 21) (.t 23) (.c (.bool false)), []⟩,
⟨16, some 8, none, .mov (.t 24), []⟩]
@[go_sem] theorem F1395_r0_r {E ks st Q} : type_of% (@opsE E ks st Q _ _ F1395_r0.eq_1) := opsE F1395_r0.eq_1
def F1395_k1 : ACode := .seq (.reg true F1395_r0) (.ret)
@[go_sem] theorem F1395_k1_r {E ks st Q} : type_of% (@codeE E ks st Q _ _ F1395_k1.eq_1) := codeE F1395_k1.eq_1
def F1395 : AFun := ⟨4, 25, [.t 8], .seq (.reg true [⟨0, some 8, none, .mov (.c (.bool false)), []⟩]) F1395_k1⟩
def F1499_r0 : List AOper := [⟨0, some 7, none, .mov (.t 0), []⟩,
⟨1, some 8, none, .call 340 [.t 7, .c (.int .i64 0), .c (.int .i64 8)], []⟩,
⟨2, some 9, none, .not (.t 8), []⟩,
⟨3, some 10, none, .mov (.t 9), []⟩,
⟨4, some 11, (some (10, false)), .mov (.t 1), []⟩,
⟨5, some 12, (some (10, false)), .mov (.t 2), []⟩,
⟨6, some 13, (some (10, false)), .call 1385 [.t 11, .t 12], []⟩,
⟨7, some 14, (some (10, false)), .not (.t 13), []⟩,
⟨8, some 15, none, .pick (.t 10) (.c (.bool true)) (.t 14), []⟩]
@[go_sem] theorem F1499_r0_r {E ks st Q} : type_of% (@opsE E ks st Q _ _ F1499_r0.eq_1) := opsE F1499_r0.eq_1
def F1499_k1 : ACode := .seq (.reg true F1499_r0) (.cond (.t 15) (.seq (.reg true [⟨0, some 6, none, .mov (.c (.bool false)), []⟩]) (.ret)) (.skip))
@[go_sem] theorem F1499_k1_r {E ks st Q} : type_of% (@codeE E ks st Q _ _ F1499_k1.eq_1) := codeE F1499_k1.eq_1
def F1499_r2 : List AOper := [⟨0, some 16, none, .mov (.t 1), []⟩,
⟨1, some 17, none, .bin .eql (.t 16) (.c (.int .i64 6)), []⟩,
⟨2, some 18, none, .mov (.t 17), []⟩,
⟨3, some 19, (some (18, false)), .mov (.t 1), []⟩,
⟨4, some 20, (some (18, false)), .bin .eql (.t 19) (.c (.int .i64 12)), []⟩,
⟨5, some 21, none, .pick (.t 18) (.c (.bool true)) (.t 20), []⟩]
@[go_sem] theorem F1499_r2_r {E ks st Q} : type_of% (@opsE E ks st Q _ _ F1499_r2.eq_1) := opsE F1499_r2.eq_1
def F1499_k3 : ACode := .seq (.reg true F1499_r2) (.cond (.t 21) (.seq (.reg true [⟨0, some 6, none, .mov (.c (.bool true)), []⟩]) (.ret)) (.skip))
@[go_sem] theorem F1499_k3_r {E ks st Q} : type_of% (@codeE E ks st Q _ _ F1499_k3.eq_1) := codeE F1499_k3.eq_1
def F1499_r4 : List AOper := [⟨0, some 22, none, .mov (.t 1), []⟩,
⟨1, some 23, none, .call 1372 [.t 22], []⟩,
⟨2, some 24, none, .mov (.t 23), []⟩,
⟨3, some 25, (some (24, true)), .mov (.t 2), []⟩,
⟨4, some 26, (some (24, true)), .mov (.t 0), []⟩,
⟨5, some 27, (some (24, true)), .bin .gtr (.t 25) (.t 26), []⟩,
⟨6, some 28, none, .pick (.t 24) (.t 27) (.c (.bool false)), []⟩,
⟨7, some 6, none, .mov (.t 28), []⟩]
@[go_sem] theorem F1499_r4_r {E ks st Q} : type_of% (@opsE E ks st Q _ _ F1499_r4.eq_1) := opsE F1499_r4.eq_1
def F1499_k5 : ACode := .seq (.reg true F1499_r4) (.ret)
@[go_sem] theorem F1499_k5_r {E ks st Q} : type_of% (@codeE E ks st Q _ _ F1499_k5.eq_1) := codeE F1499_k5.eq_1
def F1499_k6 : ACode := .seq F1499_k3 F1499_k5
@[go_sem] theorem F1499_k6_r {E ks st Q} : type_of% (@codeE E ks st Q _ _ F1499_k6.eq_1) := codeE F1499_k6.eq_1
def F1499_k7 : ACode := .seq F1499_k1 F1499_k6
@[go_sem] theorem F1499_k7_r {E ks st Q} : type_of% (@codeE E ks st Q _ _ F1499_k7.eq_1) := codeE F1499_k7.eq_1
def F1499 : AFun := ⟨3, 29, [.t 6], .seq (.reg true [⟨0, some 6, none, .mov (.c (.bool false)), []⟩]) F1499_k7⟩
def F1500_k0 : ACode := .seq (.reg true [⟨0, some 8, none, .bin .eql (.t 3) (.c (.int .i64 10)), []⟩,
⟨1, some 4, none, .mov (.t 8), []⟩]) (.cond (.t 4) (.skip) (.reg true [⟨0, some 9, none, .bin .eql (.t 3) (.c (.int .i64 11)), []⟩,
⟨1, some 4, none, .mov (.t 9), []⟩]))
@[go_sem] theorem F1500_k0_r {E ks st Q} : type_of% (@codeE E ks st Q _ _ F1500_k0.eq_1) := codeE F1500_k0.eq_1
def F1500_k1 : ACode := .cond (.t 4) (.skip) F1500_k0
@[go_sem] theorem F1500_k1_r {E ks st Q} : type_of% (@codeE E ks st Q _ _ F1500_k1.eq_1) := codeE F1500_k1.eq_1
def F1500_k2 : ACode := .seq (.reg true [⟨0, some 7, none, .bin .eql (.t 3) (.c (.int .i64 8)), []⟩,
⟨1, some 4, none, .mov (.t 7), []⟩]) F1500_k1
@[go_sem] theorem F1500_k2_r {E ks st Q} : type_of% (@codeE E ks st Q _ _ F1500_k2.eq_1) := codeE F1500_k2.eq_1
def F1500_k3 : ACode := .cond (.t 4) (.skip) F1500_k2
@[go_sem] theorem F1500_k3_r {E ks st Q} : type_of% (@codeE E ks st Q _ _ F1500_k3.eq_1) := codeE F1500_k3.eq_1
def F1500_k4 : ACode := .seq (.reg true [⟨0, some 6, none, .bin .eql (.t 3) (.c (.int .i64 7)), []⟩,
⟨1, some 4, none, .mov (.t 6), []⟩]) F1500_k3
@[go_sem] theorem F1500_k4_r {E ks st Q} : type_of% (@codeE E ks st Q _ _ F1500_k4.eq_1) := codeE F1500_k4.eq_1
def F1500_k5 : ACode := .cond (.t 4) (.skip) F1500_k4
@[go_sem] theorem F1500_k5_r {E ks st Q} : type_of% (@codeE E ks st Q _ _ F1500_k5.eq_1) := codeE F1500_k5.eq_1
def F1500_k6 : ACode := .seq (.reg true [⟨0, some 5, none, .bin .eql (.t 3) (.c (.int .i64 3)), []⟩,
⟨1, some 4, none, .mov (.t 5), []⟩]) F1500_k5
@[go_sem] theorem F1500_k6_r {E ks st Q} : type_of% (@codeE E ks st Q _ _ F1500_k6.eq_1) := codeE F1500_k6.eq_1
def F1500_k7 : ACode := .seq F1500_k6 (.cond (.t 4) (.seq (.reg true [⟨0, some 2, none, .mov (.c (.bool true)), []⟩]) (.ret)) (.skip))
@[go_sem] theorem F1500_k7_r {E ks st Q} : type_of% (@codeE E ks st Q _ _ F1500_k7.eq_1) := codeE F1500_k7.eq_1
def F1500_k8 : ACode := .blk 0 F1500_k7
@[go_sem] theorem F1500_k8_r {E ks st Q} : type_of% (@codeE E ks st Q _ _ F1500_k8.eq_1) := codeE F1500_k8.eq_1
def F1500_k9 : ACode := .seq (.reg true [⟨0, some 3, none, .mov (.t 0), []⟩]) F1500_k8
@[go_sem] theorem F1500_k9_r {E ks st Q} : type_of% (@codeE E ks st Q _ _ F1500_k9.eq_1) := codeE F1500_k9.eq_1
def F1500_k10 : ACode := .seq F1500_k9 (.seq (.reg true [⟨0, some 2, none, .mov (.c (.bool false)), []⟩]) (.ret))
@[go_sem] theorem F1500_k10_r {E ks st Q} : type_of% (@codeE E ks st Q _ _ F1500_k10.eq_1) := codeE F1500_k10.eq_1
def F1500 : AFun := ⟨1, 10, [.t 2], .seq (.reg true [⟨0, some 2, none, .mov (.c (.bool false)), []⟩]) F1500_k10⟩
def F1396_r0 : List AOper := [⟨0, some 14, none, .mov (.t 2), []⟩,
⟨1, some 15, none, .bin .eql (.t 14) (.c (.int .i64 4)), []⟩,
⟨2, some 16, none, .mov (.t 15), []⟩,
⟨3, some 17, (some (16, true)), .mov (.t 1), []⟩,
⟨4, some 18, (some (16, true)), .mov (.t 3), []⟩,
⟨5, some 19, (some (16, true)), .bin .eql (.t 17) (.t 18), []⟩,
⟨6, some 20, none, .pick (.t 16) (.t 19) (.c (.bool false)), []⟩]
@[go_sem] theorem F1396_r0_r {E ks st Q} : type_of% (@opsE E ks st Q _ _ F1396_r0.eq_1) := opsE F1396_r0.eq_1
def F1396_k1 : ACode := .seq (.reg true F1396_r0) (.cond (.t 20) (.seq (.reg true [⟨0, some 8, none, .mov (.c (.int .i64 2)), []⟩]) (.ret)) (.skip))
@[go_sem] theorem F1396_k1_r {E ks st Q} : type_of% (@codeE E ks st Q _ _ F1396_k1.eq_1) := codeE F1396_k1.eq_1
def F1396_r2 : List AOper := [⟨0, some 21, none, .mov (.t 1), []⟩,
⟨1, some 22, none, .mov (.t 2), []⟩,
⟨2, some 23, none, .mov (.t 3), []⟩,
⟨3, some 24, none, .call 1499 [.t 21, .t 22, .t 23], []⟩]
@[go_sem] theorem F1396_r2_r {E ks st Q} : type_of% (@opsE E ks st Q _ _ F1396_r2.eq_1) := opsE F1396_r2.eq_1
def F1396_k3 : ACode := .seq (.reg true F1396_r2) (.cond (.t 24) (.seq (.reg true [⟨0, some 8, none, .mov (.c (.int .i64 3)), []⟩]) (.ret)) (.skip))
@[go_sem] theorem F1396_k3_r {E ks st Q} : type_of% (@codeE E ks st Q _ _ F1396_k3.eq_1) := codeE F1396_k3.eq_1
def F1396_k4 : ACode := .seq F1396_k1 F1396_k3
@[go_sem] theorem F1396_k4_r {E ks st Q} : type_of% (@codeE E ks st Q _ _ F1396_k4.eq_1) := codeE F1396_k4.eq_1
def F1396_r5 : List AOper := [⟨0, some 27, none, .mov (.t 2), []⟩,
⟨1, some 28, none, .bin .eql (.t 27) (.c (.int .i64 3)), []⟩,
⟨2, some 29, none, .mov (.t 28), []⟩,
⟨3, some 30, (some (29, true)), .mov (.t 1), []⟩,
⟨4, some 31, (some (29, true)), .mov (.t 3), []⟩,
⟨5, some 32, (some (29, true)), .bin .eql (.t 30) (.t 31), []⟩,
⟨6, some 33, none, .pick (.t 29) (.t 32) (.c (.bool false)), []⟩]
@[go_sem] theorem F1396_r5_r {E ks st Q} : type_of% (@opsE E ks st Q _ _ F1396_r5.eq_1) := opsE F1396_r5.eq_1
def F1396_k6 : ACode := .seq (.reg true F1396_r5) (.cond (.t 33) (.seq (.reg true [⟨0, some 8, none, .mov (.c (.int .i64 1)), []⟩]) (.ret)) (.skip))
@[go_sem] theorem F1396_k6_r {E ks st Q} : type_of% (@codeE E ks st Q _ _ F1396_k6.eq_1) := codeE F1396_k6.eq_1
def F1396_k7 : ACode := .seq (.reg true [⟨0, some 38, none, .bin .eql (.t 36) (.c (.int .i64 7)), []⟩,
⟨1, some 37, none, .mov (.t 38), []⟩]) (.cond (.t 37) (.skip) (.reg true [⟨0, some 39, none, .bin .eql (.t 36) (.c (.int .i64 8)), []⟩,
⟨1, some 37, none, .mov (.t 39), []⟩]))
@[go_sem] theorem F1396_k7_r {E ks st Q} : type_of% (@codeE E ks st Q _ _ F1396_k7.eq_1) := codeE F1396_k7.eq_1
def F1396_k8 : ACode := .seq (.reg true [⟨0, some 41, none, .bin .eql (.t 36) (.c (.int .i64 11)), []⟩,
⟨1, some 40, none, .mov (.t 41), []⟩]) (.cond (.t 40) (.seq (.reg true [⟨0, some 8, none, .mov (.c (.int .i64 6)), []⟩]) (.ret)) (.skip))
@[go_sem] theorem F1396_k8_r {E ks st Q} : type_of% (@codeE E ks st Q _ _ F1396_k8.eq_1) := codeE F1396_k8.eq_1
def F1396_k9 : ACode := .cond (.t 37) (.seq (.reg true [⟨0, some 8, none, .mov (.c (.int .i64 5)), []⟩]) (.ret)) F1396_k8
@[go_sem] theorem F1396_k9_r {E ks st Q} : type_of% (@codeE E ks st Q _ _ F1396_k9.eq_1) := codeE F1396_k9.eq_1
def F1396_k10 : ACode := .seq F1396_k7 F1396_k9
@[go_sem] theorem F1396_k10_r {E ks st Q} : type_of% (@codeE E ks st Q _ _ F1396_k10.eq_1) := codeE F1396_k10.eq_1
def F1396_k11 : ACode := .blk 1 F1396_k10
@[go_sem] theorem F1396_k11_r {E ks st Q} : type_of% (@codeE E ks st Q _ _ F1396_k11.eq_1) := codeE F1396_k11.eq_1
def F1396_k12 : ACode := .seq (.reg true [⟨0, some 36, none, .mov (.t 2), []⟩]) F1396_k11
@[go_sem] theorem F1396_k12_r {E ks st Q} : type_of% (@codeE E ks st Q _ _ F1396_k12.eq_1) := codeE F1396_k12.eq_1
def F1396_k13 : ACode := .seq (.reg true [⟨0, some 44, none, .mov (.t 2), []⟩,
⟨1, some 45, none, .bin .eql (.t 44) (.c (.int .i64 10)), []⟩]) (.cond (.t 45) (.seq (.reg true [⟨0, some 8, none, .mov (.c (.int .i64 6)), []⟩]) (.ret)) (.skip))
@[go_sem] theorem F1396_k13_r {E ks st Q} : type_of% (@codeE E ks st Q _ _ F1396_k13.eq_1) := codeE F1396_k13.eq_1
def F1396_k14 : ACode := .seq (.reg true [⟨0, some 48, none, .mov (.t 2), []⟩,
⟨1, some 49, none, .call 1500 [.t 48], []⟩]) (.cond (.t 49) (.seq (.reg true [⟨0, some 8, none, .mov (.c (.int .i64 7)), []⟩]) (.ret)) (.skip))
@[go_sem] theorem F1396_k14_r {E ks st Q} : type_of% (@codeE E ks st Q _ _ F1396_k14.eq_1) := codeE F1396_k14.eq_1
def F1396_k15 : ACode := .cond (.t 46) F1396_k14 (.skip)
@[go_sem] theorem F1396_k15_r {E ks st Q} : type_of% (@codeE E ks st Q _ _ F1396_k15.eq_1) := codeE F1396_k15.eq_1
def F1396_k16 : ACode := .seq (.reg true [⟨0, some 47, none, .bin .eql (.t 9) (.c (.int .i64 12)), []⟩,
⟨1, some 46, none, .mov (.t 47), []⟩]) F1396_k15
@[go_sem] theorem F1396_k16_r {E ks st Q} : type_of% (@codeE E ks st Q _ _ F1396_k16.eq_1) := codeE F1396_k16.eq_1
def F1396_k17 : ACode := .cond (.t 42) F1396_k13 F1396_k16
@[go_sem] theorem F1396_k17_r {E ks st Q} : type_of% (@codeE E ks st Q _ _ F1396_k17.eq_1) := codeE F1396_k17.eq_1
def F1396_k18 : ACode := .seq (.reg true [⟨0, some 43, none, .bin .eql (.t 9) (.c (.int .i64 9)), []⟩,
⟨1, some 42, none, .mov (.t 43), []⟩]) F1396_k17
@[go_sem] theorem F1396_k18_r {E ks st Q} : type_of% (@codeE E ks st Q _ _ F1396_k18.eq_1) := codeE F1396_k18.eq_1
def F1396_k19 : ACode := .cond (.t 34) F1396_k12 F1396_k18
@[go_sem] theorem F1396_k19_r {E ks st Q} : type_of% (@codeE E ks st Q _ _ F1396_k19.eq_1) := codeE F1396_k19.eq_1
def F1396_k20 : ACode := .seq (.reg true [⟨0, some 35, none, .bin .eql (.t 9) (.c (.int .i64 6)), []⟩,
⟨1, some 34, none, .mov (.t 35), []⟩]) F1396_k19
@[go_sem] theorem F1396_k20_r {E ks st Q} : type_of% (@codeE E ks st Q _ _ F1396_k20.eq_1) := codeE F1396_k20.eq_1
def F1396_k21 : ACode := .cond (.t 25) F1396_k6 F1396_k20
@[go_sem] theorem F1396_k21_r {E ks st Q} : type_of% (@codeE E ks st Q _ _ F1396_k21.eq_1) := codeE F1396_k21.eq_1
def F1396_k22 : ACode := .seq (.reg true [⟨0, some 26, none, .bin .eql (.t 9) (.c (.int .i64 2)), []⟩,
⟨1, some 25, none, .mov (.t 26), []⟩]) F1396_k21
@[go_sem] theorem F1396_k22_r {E ks st Q} : type_of% (@codeE E ks st Q _ _ F1396_k22.eq_1) := codeE F1396_k22.eq_1
def F1396_k23 : ACode := .cond (.t 12) F1396_k4 F1396_k22
@[go_sem] theorem F1396_k23_r {E ks st Q} : type_of% (@codeE E ks st Q _ _ F1396_k23.eq_1) := codeE F1396_k23.eq_1
def F1396_k24 : ACode := .seq (.reg true [⟨0, some 13, none, .bin .eql (.t 9) (.c (.int .i64 4)), []⟩,
⟨1, some 12, none, .mov (.t 13), []⟩]) F1396_k23
@[go_sem] theorem F1396_k24_r {E ks st Q} : type_of% (@codeE E ks st Q _ _ F1396_k24.eq_1) := codeE F1396_k24.eq_1
def F1396_k25 : ACode := .cond (.t 10) (.seq (.reg true [⟨0, some 8, none, .mov (.c (.int .i64 4)), []⟩]) (.ret)) F1396_k24
@[go_sem] theorem F1396_k25_r {E ks st Q} : type_of% (@codeE E ks st Q _ _ F1396_k25.eq_1) := codeE F1396_k25.eq_1
def F1396_k26 : ACode := .seq (.reg true [⟨0, some 11, none, .bin .eql (.t 9) (.c (.int .i64 5)), []⟩,
⟨1, some 10, none, .mov (.t 11), []⟩]) F1396_k25
@[go_sem] theorem F1396_k26_r {E ks st Q} : type_of% (@codeE E ks st Q _ _ F1396_k26.eq_1) := codeE F1396_k26.eq_1
def F1396_k27 : ACode := .blk 0 F1396_k26
@[go_sem] theorem F1396_k27_r {E ks st Q} : type_of% (@codeE E ks st Q _ _ F1396_k27.eq_1) := codeE F1396_k27.eq_1
def F1396_k28 : ACode := .seq (.reg true [⟨0, some 9, none, .mov (.t 0), []⟩]) F1396_k27
@[go_sem] theorem F1396_k28_r {E ks st Q} : type_of% (@codeE E ks st Q _ _ F1396_k28.eq_1) := codeE F1396_k28.eq_1
def F1396_k29 : ACode := .seq F1396_k28 (.seq (.reg true [⟨0, some 8, none, .mov (.c (.int .i64 0)), []⟩]) (.ret))
@[go_sem] theorem F1396_k29_r {E ks st Q} : type_of% (@codeE E ks st Q _ _ F1396_k29.eq_1) := codeE F1396_k29.eq_1
def F1396 : AFun := ⟨4, 50, [.t 8], .seq (.reg true [⟨0, some 8, none, .mov (.c (.int .i64 0)), []⟩]) F1396_k29⟩
def F1110_r0 : List AOper := [⟨0, some 9, none, .mov (.t 0), []⟩,
⟨1, some 10, none, .mov (.t 1), []⟩,
⟨2, some 11, none, .mov (.t 2), []⟩,
⟨3, some 12, none, .mov (.t 3), []⟩,
⟨4, some 13, none, .call 1395 [.t 9, .t 10, .t 11, .t 12], []⟩,
⟨5, some 14, none, .not (.t 13), []⟩]
@[go_sem] theorem F1110_r0_r {E ks st Q} : type_of% (@opsE E ks st Q _ _ F1110_r0.eq_1) := opsE F1110_r0.eq_1
def F1110_k1 : ACode := .seq (.reg true F1110_r0) (.cond (.t 14) (.seq (.reg true [⟨0, some 8, none, .mov (.c (.int .i64 0)), []⟩]) (.ret)) (.skip))
@[go_sem] theorem F1110_k1_r {E ks st Q} : type_of% (@codeE E ks st Q _ _ F1110_k1.eq_1) := codeE F1110_k1.eq_1
def F1110_r2 : List AOper := [⟨0, some 15, none, .mov (.t 0), []⟩,
⟨1, some 16, none, .mov (.t 1), []⟩,
⟨2, some 17, none, .mov (.t 2), []⟩,
⟨3, some 18, none, .mov (.t 3), []⟩,
⟨4, some 19, none, .call 1396 [.t 15, .t 16, .t 17, .t 18], []⟩,
⟨5, some 20, none, .bin .neq (.t 19) (.c (.int .i64 0)), []⟩]
@[go_sem] theorem F1110_r2_r {E ks st Q} : type_of% (@opsE E ks st Q _ _ F1110_r2.eq_1) := opsE F1110_r2.eq_1
def F1110_k3 : ACode := .seq (.reg true F1110_r2) (.cond (.t 20) (.seq (.reg true [⟨0, some 8, none, .mov (.c (.int .i64 1)), []⟩]) (.ret)) (.skip))
@[go_sem] theorem F1110_k3_r {E ks st Q} : type_of% (@codeE E ks st Q _ _ F1110_k3.eq_1) := codeE F1110_k3.eq_1
def F1110_r4 : List AOper := [⟨0, some 21, none, .mov (.t 2), []⟩,
⟨1, some 22, none, .mov (.t 3), []⟩,
⟨2, some 23, none, .mov (.t 0), []⟩,
⟨3, some 24, none, .mov (.t 1), []⟩,
⟨4, some 25, none, .call 1396 [.t 21, .t 22, .t 23, .t 24], []⟩,
⟨5, some 26, none, .bin .neq (.t 25) (.c (.int .i64 0)), []⟩]
@[go_sem] theorem F1110_r4_r {E ks st Q} : type_of% (@opsE E ks st Q _ _ F1110_r4.eq_1) := opsE F1110_r4.eq_1
def F1110_k5 : ACode := .seq (.reg true F1110_r4) (.cond (.t 26) (.seq (.reg true [⟨0, some 8, none, .mov (.c (.int .i64 2)), []⟩]) (.ret)) (.skip))
@[go_sem] theorem F1110_k5_r {E ks st Q} : type_of% (@codeE E ks st Q _ _ F1110_k5.eq_1) := codeE F1110_k5.eq_1
def F1110_k6 : ACode := .seq F1110_k5 (.seq (.reg true [⟨0, some 8, none, .mov (.c (.int .i64 0)), []⟩]) (.ret))
@[go_sem] theorem F1110_k6_r {E ks st Q} : type_of% (@codeE E ks st Q _ _ F1110_k6.eq_1) := codeE F1110_k6.eq_1
def F1110_k7 : ACode := .seq F1110_k3 F1110_k6
@[go_sem] theorem F1110_k7_r {E ks st Q} : type_of% (@codeE E ks st Q _ _ F1110_k7.eq_1) := codeE F1110_k7.eq_1
def F1110_k8 : ACode := .seq F1110_k1 F1110_k7
@[go_sem] theorem F1110_k8_r {E ks st Q} : type_of% (@codeE E ks st Q _ _ F1110_k8.eq_1) := codeE F1110_k8.eq_1
def F1110 : AFun := ⟨4, 27, [.t 8], .seq (.reg true [⟨0, some 8, none, .mov (.c (.int .i64 0)), []⟩]) F1110_k8⟩
def F743_r0 : List AOper := [⟨0, some 10, none, .mov (.t 0), []⟩,
⟨1, some 11, none, .nilchk (.t 10), []⟩,
⟨2, some 12, none, .faddr 0 (.t 11), []⟩,
⟨3, some 13, none, .load none (.t 12), []⟩,
⟨4, some 14, none, .mov (.t 1), []⟩,
⟨5, some 15, none, .iaddr 5 (.t 13) (.t 14), []⟩,
⟨6, some 8, none, .mov (.t 15), []⟩]
@[go_sem] theorem F743_r0_r {E ks st Q} : type_of% (@opsE E ks st Q _ _ F743_r0.eq_1) := opsE F743_r0.eq_1
def F743_r1 : List AOper := [⟨0, some 16, none, .mov (.t 0), []⟩,
⟨1, some 17, none, .nilchk (.t 16), []⟩,
⟨2, some 18, none, .faddr 0 (.t 17), []⟩,
⟨3, some 19, none, .load none (.t 18), []⟩,
⟨4, some 20, none, .mov (.t 2), []⟩,
⟨5, some 21, none, .iaddr 5 (.t 19) (.t 20), []⟩,
⟨6, some 9, none, .mov (.t 21), []⟩]
@[go_sem] theorem F743_r1_r {E ks st Q} : type_of% (@opsE E ks st Q _ _ F743_r1.eq_1) := opsE F743_r1.eq_1
def F743_r2 : List AOper := [⟨0, some 22, none, .mov (.t 8), []⟩,
⟨1, some 23, none, .nilchk (.t 22), []⟩,
⟨2, some 24, none, .faddr 0 (.t 23), []⟩,
⟨3, some 25, none, .load none (.t 24), []⟩,
⟨4, some 26, none, .mov (.t 8), []⟩,
⟨5, some 27, none, .nilchk (.t 26), []⟩,
⟨6, some 28, none, .faddr 1 (.t 27), []⟩,
⟨7, some 29, none, .load none (.t 28), []⟩,
⟨8, some 30, none, .mov (.t 9), []⟩,
⟨9, some 31, none, .nilchk (.t 30), []⟩,
⟨10, some 32, none, .faddr 0 (.t 31), []⟩,
⟨11, some 33, none, .load none (.t 32), []⟩,
⟨12, some 34, none, .mov (.t 9), []⟩,
⟨13, some 35, none, .nilchk (.t 34), []⟩,
⟨14, some 36, none, .faddr 1 (.t 35), []⟩,
⟨15, some 37, none, .load none (.t 36), []⟩,
⟨16, some 38, none, .call 1110 [.t 25, .t 29, .t 33, .t 37], []⟩,
⟨17, some 39, none, .bin .eql (.t 38) (.c (.int .i64 2)), []⟩]
@[go_sem] theorem F743_r2_r {E ks st Q} : type_of% (@opsE E ks st Q _ _ F743_r2.eq_1) := opsE F743_r2.eq_1
def F743_r3 : List AOper := [⟨0, some 40, none, .mov (.t 2), []⟩,
⟨1, some 41, none, .mov (.t 1), []⟩,
⟨2, some 6, none, .mov (.t 40), []⟩,
⟨3, some 7, none, .mov (.t 41), []⟩]
@[go_sem] theorem F743_r3_r {E ks st Q} : type_of% (@opsE E ks st Q _ _ F743_r3.eq_1) := opsE F743_r3.eq_1
def F743_k4 : ACode := .seq (.reg true F743_r3) (.ret)
@[go_sem] theorem F743_k4_r {E ks st Q} : type_of% (@codeE E ks st Q _ _ F743_k4.eq_1) := codeE F743_k4.eq_1
def F743_k5 : ACode := .cond (.t 39) F743_k4 (.skip)
@[go_sem] theorem F743_k5_r {E ks st Q} : type_of% (@codeE E ks st Q _ _ F743_k5.eq_1) := codeE F743_k5.eq_1
def F743_k6 : ACode := .seq (.reg true F743_r2) F743_k5
@[go_sem] theorem F743_k6_r {E ks st Q} : type_of% (@codeE E ks st Q _ _ F743_k6.eq_1) := codeE F743_k6.eq_1
def F743_r7 : List AOper := [⟨0, some 42, none, .mov (.t 1), []⟩,
⟨1, some 43, none, .mov (.t 2), []⟩,
⟨2, some 6, none, .mov (.t 42), []⟩,
⟨3, some 7, none, .mov (.t 43), []⟩]
@[go_sem] theorem F743_r7_r {E ks st Q} : type_of% (@opsE E ks st Q _ _ F743_r7.eq_1) := opsE F743_r7.eq_1
def F743_k8 : ACode := .seq (.reg true F743_r7) (.ret)
@[go_sem] theorem F743_k8_r {E ks st Q} : type_of% (@codeE E ks st Q _ _ F743_k8.eq_1) := codeE F743_k8.eq_1
def F743_k9 : ACode := .seq F743_k6 F743_k8
@[go_sem] theorem F743_k9_r {E ks st Q} : type_of% (@codeE E ks st Q _ _ F743_k9.eq_1) := codeE F743_k9.eq_1
def F743_k10 : ACode := .seq (.reg true F743_r1) F743_k9
@[go_sem] theorem F743_k10_r {E ks st Q} : type_of% (@codeE E ks st Q _ _ F743_k10.eq_1) := codeE F743_k10.eq_1
def F743_k11 : ACode := .seq (.reg true F743_r0) F743_k10
@[go_sem] theorem F743_k11_r {E ks st Q} : type_of% (@codeE E ks st Q _ _ F743_k11.eq_1) := codeE F743_k11.eq_1
def F743 : AFun := ⟨3, 44, [.t 6, .t 7], .seq (.reg true [⟨0, some 6, none, .mov (.c (.int .i64 0)), []⟩,
⟨1, some 7, none, .mov (.c (.int .i64 0)), []⟩]) F743_k11⟩
def F1111_r0 : List AOper := [⟨0, some 10, none, .mov (.t 0), []⟩,
⟨1, some 11, none, .mov (.t 1), []⟩,
⟨2, some 12, none, .mov (.t 2), []⟩,
⟨3, some 13, none, .mov (.t 3), []⟩,
⟨4, some 14, none, .call 1395 [.t 10, .t 11, .t 12, .t 13], []⟩,
⟨5, some 15, none, .not (.t 14), []⟩]
@[go_sem] theorem F1111_r0_r {E ks st Q} : type_of% (@opsE E ks st Q _ _ F1111_r0.eq_1) := opsE F1111_r0.eq_1
def F1111_k1 : ACode := .seq (.reg true F1111_r0) (.cond (.t 15) (.seq (.reg true [⟨0, some 8, none, .mov (.c (.int .i64 0)), []⟩]) (.ret)) (.skip))
@[go_sem] theorem F1111_k1_r {E ks st Q} : type_of% (@codeE E ks st Q _ _ F1111_k1.eq_1) := codeE F1111_k1.eq_1
def F1111_r2 : List AOper := [⟨0, some 16, none, .mov (.t 0), []⟩,
⟨1, some 17, none, .mov (.t 1), []⟩,
⟨2, some 18, none, .mov (.t 2), []⟩,
⟨3, some 19, none, .mov (.t 3), []⟩,
⟨4, some 20, none, .call 1396 [.t 16, .t 17, .t 18, .t 19], []⟩,
⟨5, some 9, none, .mov (.t 20), []⟩]
@[go_sem] theorem F1111_r2_r {E ks st Q} : type_of% (@opsE E ks st Q _ _ F1111_r2.eq_1) := opsE F1111_r2.eq_1
def F1111_r3 : List AOper := [⟨0, some 23, none, .mov (.t 2), []⟩,
⟨1, some 24, none, .mov (.t 3), []⟩,
⟨2, some 25, none, .mov (.t 0), []⟩,
⟨3, some 26, none, .mov (.t 1), []⟩,
⟨4, some 27, none, .call 1396 [.t 23, .t 24, .t 25, .t 26], []⟩,
⟨5, some 9, none, .mov (.t 27), []⟩]
@[go_sem] theorem F1111_r3_r {E ks st Q} : type_of% (@opsE E ks st Q _ _ F1111_r3.eq_1) := opsE F1111_r3.eq_1
def F1111_k4 : ACode := .cond (.t 22) (.reg true F1111_r3) (.skip)
@[go_sem] theorem F1111_k4_r {E ks st Q} : type_of% (@codeE E ks st Q _ _ F1111_k4.eq_1) := codeE F1111_k4.eq_1
def F1111_k5 : ACode := .seq (.reg true [⟨0, some 21, none, .mov (.t 9), []⟩,
⟨1, some 22, none, .bin .eql (.t 21) (.c (.int .i64 0)), []⟩]) F1111_k4
@[go_sem] theorem F1111_k5_r {E ks st Q} : type_of% (@codeE E ks st Q _ _ F1111_k5.eq_1) := codeE F1111_k5.eq_1
def F1111_k6 : ACode := .seq (.reg true [⟨0, some 28, none, .mov (.t 9), []⟩,
⟨1, some 29, none, .bin .eql (.t 28) (.c (.int .i64 0)), []⟩]) (.cond (.t 29) (.seq (.reg true [⟨0, some 8, none, .mov (.c (.int .i64 8)), []⟩]) (.ret)) (.skip))
@[go_sem] theorem F1111_k6_r {E ks st Q} : type_of% (@codeE E ks st Q _ _ F1111_k6.eq_1) := codeE F1111_k6.eq_1
def F1111_k7 : ACode := .seq F1111_k6 (.seq (.reg true [⟨0, some 30, none, .mov (.t 9), []⟩,
⟨1, some 8, none, .mov (.t 30), []⟩]) (.ret))
@[go_sem] theorem F1111_k7_r {E ks st Q} : type_of% (@codeE E ks st Q _ _ F1111_k7.eq_1) := codeE F1111_k7.eq_1
def F1111_k8 : ACode := .seq F1111_k5 F1111_k7
@[go_sem] theorem F1111_k8_r {E ks st Q} : type_of% (@codeE E ks st Q _ _ F1111_k8.eq_1) := codeE F1111_k8.eq_1
def F1111_k9 : ACode := .seq (.reg true F1111_r2) F1111_k8
@[go_sem] theorem F1111_k9_r {E ks st Q} : type_of% (@codeE E ks st Q _ _ F1111_k9.eq_1) := codeE F1111_k9.eq_1
def F1111_k10 : ACode := .seq F1111_k1 F1111_k9
@[go_sem] theorem F1111_k10_r {E ks st Q} : type_of% (@codeE E ks st Q _ _ F1111_k10.eq_1) := codeE F1111_k10.eq_1
def F1111 : AFun := ⟨4, 31, [.t 8], .seq (.reg true [⟨0, some 8, none, .mov (.c (.int .i64 0)), []⟩]) F1111_k10⟩
def F744_r0 : List AOper := [⟨0, some 5, none, .mov (.t 0), []⟩,
⟨1, some 6, none, .nilchk (.t 5), []⟩,
⟨2, some 7, none, .faddr 0 (.t 6), []⟩,
⟨3, some 8, none, .load none (.t 7), []⟩,
⟨4, some 9, none, .bin .eql (.t 8) (.c (.int .i64 9)), []⟩,
⟨5, some 10, none, .mov (.t 9), []⟩,
⟨6, some 11, (some (10, true)), .mov (.t 1), []⟩,
⟨7, some 12, (some (10, true)), .nilchk (.t 11), []⟩,
⟨8, some 13, (some (10, true)), .faddr 0 (.t 12), []⟩,
⟨9, some 14, (some (10, true)), .load none (.t 13), []⟩,
⟨10, some 15, (some (10, true)), .bin .eql (.t 14) (.c (.int .i64 10)), []⟩,
⟨11, some 16, none, .pick (.t 10) (.t 15) (.c (.bool false)), []⟩,
⟨12, some 17, none, .mov (.t 16), []⟩,
⟨13, some 18, (some (17, true)), .mov (.t 0), []⟩,
⟨14, some 19, (some (17, true)), .nilchk (.t 18), []⟩,
⟨15, some 20, (some (17, true)), .faddr 2 (.t 19), []⟩,
⟨16, some 21, (some (17, true)), .load none (.t 20), []⟩,
⟨17, some 22, (some (17, true)), .mov (.t 1), []⟩,
⟨18, some 23, (some (17, true)), .nilchk (.t 22), []⟩,
⟨19, some 24, (some (17, true)), .faddr 3 (.t 23), []⟩,
⟨20, some 25, (some (17, true)), .load none (.t 24), []⟩,
⟨21, some 26, (some (17, true)), .len (.t 25), []⟩,
⟨22, some 27, (some (17, true)), .bin .geq (.t 21) (.t 26), []⟩,
⟨23, some 28, none, .pick (.t 17) (.t 27) (.c (.bool false)), []⟩]
@[go_sem] theorem F744_r0_r {E ks st Q} : type_of% (@opsE E ks st Q _ _ F744_r0.eq_1) := opsE F744_r0.eq_1
def F744_k1 : ACode := .seq (.reg true F744_r0) (.cond (.t 28) (.seq (.reg true [⟨0, some 4, none, .mov (.c (.int .i64 8)), []⟩]) (.ret)) (.skip))
@[go_sem] theorem F744_k1_r {E ks st Q} : type_of% (@codeE E ks st Q _ _ F744_k1.eq_1) := codeE F744_k1.eq_1
def F744_r2 : List AOper := [⟨0, some 29, none, .mov (.t 0), []⟩,
⟨1, some 30, none, .nilchk (.t 29), []⟩,
⟨2, some 31, none, .faddr 0 (.t 30), []⟩,
⟨3, some 32, none, .load none (.t 31), []⟩,
⟨4, some 33, none, .bin .eql (.t 32) (.c (.int .i64 10)), []⟩,
⟨5, some 34, none, .mov (.t 33), []⟩,
⟨6, some 35, (some (34, true)), .mov (.t 1), []⟩,
⟨7, some 36, (some (34, true)), .nilchk (.t 35), []⟩,
⟨8, some 37, (some (34, true)), .faddr 0 (.t 36), []⟩,
⟨9, some 38, (some (34, true)), .load none (.t 37), []⟩,
⟨10, some 39, (some (34, true)), .bin .eql (.t 38) (.c (.int .i64 9)), []⟩,
⟨11, some 40, none, .pick (.t 34) (.t 39) (.c (.bool false)), []⟩,
⟨12, some 41, none, .mov (.t 40), []⟩,
⟨13, some 42, (some (41, true)), .mov (.t 1), []⟩,
⟨14, some 43, (some (41, true)), .nilchk (.t 42), []⟩,
⟨15, some 44, (some (41, true)), .faddr 2 (.t 43), []⟩,
⟨16, some 45, (some (41, true)), .load none (.t 44), []⟩,
⟨17, some 46, (some (41, true)), .mov (.t 0), []⟩,
⟨18, some 47, (some (41, true)), .nilchk (.t 46), []⟩,
⟨19, some 48, (some (41, true)), .faddr 3 (.t 47), []⟩,
⟨20, some 49, (some (41, true)), .load none (.t 48), []⟩,
⟨21, some 50, (some (41, true)), .len (.t 49), []⟩,
⟨22, some 51, (some (41, true)), .bin .geq (.t 45) (.t 50), []⟩,
⟨23, some 52, none, .pick (.t 41) (.t 51) (.c (.bool false)), []⟩]
@[go_sem] theorem F744_r2_r {E ks st Q} : type_of% (@opsE E ks st Q _ _ F744_r2.eq_1) := opsE F744_r2.eq_1
def F744_k3 : ACode := .seq (.reg true F744_r2) (.cond (.t 52) (.seq (.reg true [⟨0, some 4, none, .mov (.c (.int .i64 8)), []⟩]) (.ret)) (.skip))
@[go_sem] theorem F744_k3_r {E ks st Q} : type_of% (@codeE E ks st Q _ _ F744_k3.eq_1) := codeE F744_k3.eq_1
def F744_r4 : List AOper := [⟨0, some 53, none, .mov (.t 0), []⟩,
⟨1, some 54, none, .nilchk (.t 53), []⟩,
⟨2, some 55, none, .faddr 0 (.t 54), []⟩,
⟨3, some 56, none, .load none (.t 55), []⟩,
⟨4, some 57, none, .mov (.t 0), []⟩,
⟨5, some 58, none, .nilchk (.t 57), []⟩,
⟨6, some 59, none, .faddr 1 (.t 58), []⟩,
⟨7, some 60, none, .load none (.t 59), []⟩,
⟨8, some 61, none, .mov (.t 1), []⟩,
⟨9, some 62, none, .nilchk (.t 61), []⟩,
⟨10, some 63, none, .faddr 0 (.t 62), []⟩,
⟨11, some 64, none, .load none (.t 63), []⟩,
⟨12, some 65, none, .mov (.t 1), []⟩,
⟨13, some 66, none, .nilchk (.t 65), []⟩,
⟨14, some 67, none, .faddr 1 (.t 66), []⟩,
⟨15, some 68, none, .load none (.t 67), []⟩,
⟨16, some 69, none, .call 1111 [.t 56, .t 60, .t 64, .t 68], []⟩,
⟨17, some 4, none, .mov (.t 69), []⟩]
@[go_sem] theorem F744_r4_r {E ks st Q} : type_of% (@opsE E ks st Q _ _ F744_r4.eq_1) := opsE F744_r4.eq_1
def F744_k5 : ACode := .seq (.reg true F744_r4) (.ret)
@[go_sem] theorem F744_k5_r {E ks st Q} : type_of% (@codeE E ks st Q _ _ F744_k5.eq_1) := codeE F744_k5.eq_1
def F744_k6 : ACode := .seq F744_k3 F744_k5
@[go_sem] theorem F744_k6_r {E ks st Q} : type_of% (@codeE E ks st Q _ _ F744_k6.eq_1) := codeE F744_k6.eq_1
def F744_k7 : ACode := .seq F744_k1 F744_k6
@[go_sem] theorem F744_k7_r {E ks st Q} : type_of% (@codeE E ks st Q _ _ F744_k7.eq_1) := codeE F744_k7.eq_1
def F744 : AFun := ⟨2, 70, [.t 4], .seq (.reg true [⟨0, some 4, none, .mov (.c (.int .i64 0)), []⟩]) F744_k7⟩
def F368_r0 : List AOper := [⟨0, some 2, none, .mov (.c (.int .i64 0)), []⟩,
⟨1, some 3, none, .lalloc (.agg [.int .i64 0, .int .i64 0]), []⟩,
⟨2, some 4, none, .mov (.c (.int .i64 0)), []⟩,
⟨3, some 5, none, .mov (.c (.bool false)), []⟩]
@[go_sem] theorem F368_r0_r {E ks st Q} : type_of% (@opsE E ks st Q _ _ F368_r0.eq_1) := opsE F368_r0.eq_1
def F368_r1 : List AOper := [⟨0, some 10, none, .mov (.t 0), []⟩,
⟨1, some 11, none, .nilchk (.t 10), []⟩,
⟨2, some 12, none, .faddr 4 (.t 11), []⟩,
⟨3, some 13, none, .call 742 [.t 12], []⟩,
⟨4, some 6, none, .mov (.t 13), []⟩]
@[go_sem] theorem F368_r1_r {E ks st Q} : type_of% (@opsE E ks st Q _ _ F368_r1.eq_1) := opsE F368_r1.eq_1
def F368_r2 : List AOper := [⟨0, some 14, none, .mov (.t 6), []⟩,
⟨1, some 15, none, .len (.t 14), []⟩,
⟨2, some 16, none, .bin .eql (.t 15) (.c (.int .i64 0)), []⟩]
@[go_sem] theorem F368_r2_r {E ks st Q} : type_of% (@opsE E ks st Q _ _ F368_r2.eq_1) := opsE F368_r2.eq_1
def F368_r3 : List AOper := [⟨0, some 17, none, .build (.agg [.int .i64 0, .int .i64 0]) [], []⟩,
⟨1, some 2, none, .mov (.c (.int .i64 0)), []⟩,
⟨2, none, none, .lstore 3 0 2 (.t 17), []⟩,
⟨3, some 4, none, .mov (.c (.int .i64 0)), []⟩,
⟨4, some 5, none, .mov (.c (.bool false)), []⟩]
@[go_sem] theorem F368_r3_r {E ks st Q} : type_of% (@opsE E ks st Q _ _ F368_r3.eq_1) := opsE F368_r3.eq_1
def F368_k4 : ACode := .seq (.reg true F368_r3) (.ret)
@[go_sem] theorem F368_k4_r {E ks st Q} : type_of% (@codeE E ks st Q _ _ F368_k4.eq_1) := codeE F368_k4.eq_1
def F368_k5 : ACode := .cond (.t 16) F368_k4 (.skip)
@[go_sem] theorem F368_k5_r {E ks st Q} : type_of% (@codeE E ks st Q _ _ F368_k5.eq_1) := codeE F368_k5.eq_1
def F368_k6 : ACode := .seq (.reg true F368_r2) F368_k5
@[go_sem] theorem F368_k6_r {E ks st Q} : type_of% (@codeE E ks st Q _ _ F368_k6.eq_1) := codeE F368_k6.eq_1
def F368_r7 : List AOper := [⟨0, some 18, none, .mov (.t 0), []⟩,
⟨1, some 19, none, .nilchk (.t 18), []⟩,
⟨2, some 20, none, .faddr 1 (.t 19), []⟩,
⟨3, some 21, none, .load none (.t 20), []⟩,
⟨4, some 22, none, .len (.t 21), []⟩,
⟨5, some 23, none, .bin .gtr (.t 22) (.c (.int .i64 0)), []⟩]
@[go_sem] theorem F368_r7_r {E ks st Q} : type_of% (@opsE E ks st Q _ _ F368_r7.eq_1) := opsE F368_r7.eq_1
def F368_r8 : List AOper := [⟨0, some 24, none, .mov (.t 0), []⟩,
⟨1, some 25, none, .nilchk (.t 24), []⟩,
⟨2, some 26, none, .faddr 1 (.t 25), []⟩,
⟨3, some 27, none, .load none (.t 26), []⟩,
⟨4, some 28, none, .mov (.t 0), []⟩,
⟨5, some 29, none, .nilchk (.t 28), []⟩,
⟨6, some 30, none, .faddr 3 (.t 29), []⟩,
⟨7, some 31, none, .load none (.t 30), []⟩,
⟨8, some 32, none, .mov (.t 0), []⟩,
⟨9, some 33, none, .nilchk (.t 32), []⟩,
⟨10, some 34, none, .faddr 1 (.t 33), []⟩,
⟨11, some 35, none, .load none (.t 34), []⟩,
⟨12, some 36, none, .len (.t 35), []⟩,
⟨13, some 37, none, .bin .rem (.t 31) (.t 36), []⟩,
⟨14, some 38, none, .iaddr 1 (.t 27) (.t 37), []⟩,
⟨15, some 39, none, .load none (.t 38), []⟩,
⟨16, some 40, none, .mov (.t 6), []⟩,
⟨17, some 41, none, .len (.t 40), []⟩,
⟨18, some 42, none, .bin .rem (.t 39) (.t 41), []⟩,
⟨19, some 7, none, .mov (.t 42), []⟩]
@[go_sem] theorem F368_r8_r {E ks st Q} : type_of% (@opsE E ks st Q _ _ F368_r8.eq_1) := opsE F368_r8.eq_1
def F368_k9 : ACode := .cond (.t 23) (.reg true F368_r8) (.skip)
@[go_sem] theorem F368_k9_r {E ks st Q} : type_of% (@codeE E ks st Q _ _ F368_k9.eq_1) := codeE F368_k9.eq_1
def F368_k10 : ACode := .seq (.reg true F368_r7) F368_k9
@[go_sem] theorem F368_k10_r {E ks st Q} : type_of% (@codeE E ks st Q _ _ F368_k10.eq_1) := codeE F368_k10.eq_1
def F368_r11 : List AOper := [⟨0, some 44, none, .mov (.t 0), []⟩,
⟨1, some 45, none, .nilchk (.t 44), []⟩,
⟨2, some 46, none, .faddr 4 (.t 45), []⟩,
⟨3, some 47, none, .mov (.t 6), []⟩,
⟨4, some 48, none, .mov (.t 7), []⟩,
⟨5, some 49, none, .iaddr 2 (.t 47) (.t 48), []⟩,
⟨6, some 50, none, .faddr 0 (.t 49), []⟩,
⟨7, some 51, none, .load none (.t 50), []⟩,
⟨8, some 52, none, .mov (.t 6), []⟩,
⟨9, some 53, none, .mov (.t 7), []⟩,
⟨10, some 54, none, .iaddr 2 (.t 52) (.t 53), []⟩,
⟨11, some 55, none, .faddr 1 (.t 54), []⟩,
⟨12, some 56, none, .load none (.t 55), []⟩,
⟨13, some 57, none, .call 743 [.t 46, .t 51, .t 56], []⟩,
⟨14, some 43, none, .mov (.t 57), []⟩,
⟨15, some 58, none, .ext (.t 43) 0, []⟩,
⟨16, some 59, none, .ext (.t 43) 1, []⟩,
⟨17, some 8, none, .mov (.t 58), []⟩,
⟨18, some 9, none, .mov (.t 59), []⟩]
@[go_sem] theorem F368_r11_r {E ks st Q} : type_of% (@opsE E ks st Q _ _ F368_r11.eq_1) := opsE F368_r11.eq_1
def F368_r12 : List AOper := [⟨0, some 60, none, .mov (.t 7), []⟩,
⟨1, some 61, none, .mov (.t 8), []⟩,
⟨2, some 62, none, .mov (.t 9), []⟩,
⟨3, some 63, none, .build (.agg [.int .i64 0, .int .i64 0]) [(0, 1, .t 61), (1, 1, .t 62)], []⟩,
⟨4, some 64, none, .mov (.t 0), []⟩,
⟨5, some 65, none, .nilchk (.t 64), []⟩,
⟨6, some 66, none, .faddr 4 (.t 65), []⟩,
⟨7, some 67, none, .faddr 0 (.t 66), []⟩,
⟨8, some 68, none, .load none (.t 67), []⟩,
⟨9, some 69, none, .mov (.t 8), []⟩,
⟨10, some 70, none, .iaddr 5 (.t 68) (.t 69), []⟩,
⟨11, some 71, none, .mov (.t 0), []⟩,
⟨12, some 72, none, .nilchk (.t 71), []⟩,
⟨13, some 73, none, .faddr 4 (.t 72), []⟩,
⟨14, some 74, none, .faddr 0 (.t 73), []⟩,
⟨15, some 75, none, .load none (.t 74), []⟩,
⟨16, some 76, none, .mov (.t 9), []⟩,
⟨17, some 77, none, .iaddr 5 (.t 75) (.t 76), []⟩,
⟨18, some 78, none, .call 744 [.t 70, .t 77], []⟩,
⟨19, some 2, none, .mov (.t 60), []⟩,
⟨20, none, none, .lstore 3 0 2 (.t 63), []⟩,
⟨21, some 4, none, .mov (.t 78), []⟩,
⟨22, some 5, none, .mov (.c (.bool true)), []⟩]
@[go_sem] theorem F368_r12_r {E ks st Q} : type_of% (@opsE E ks st Q _ _ F368_r12.eq_1) := opsE F368_r12.eq_1
def F368_k13 : ACode := .seq (.reg true F368_r12) (.ret)
@[go_sem] theorem F368_k13_r {E ks st Q} : type_of% (@codeE E ks st Q _ _ F368_k13.eq_1) := codeE F368_k13.eq_1
def F368_k14 : ACode := .seq (.reg true F368_r11) F368_k13
@[go_sem] theorem F368_k14_r {E ks st Q} : type_of% (@codeE E ks st Q _ _ F368_k14.eq_1) := codeE F368_k14.eq_1
def F368_k15 : ACode := .seq F368_k10 F368_k14
@[go_sem] theorem F368_k15_r {E ks st Q} : type_of% (@codeE E ks st Q _ _ F368_k15.eq_1) := codeE F368_k15.eq_1
def F368_k16 : ACode := .seq (.reg true [⟨0, some 7, none, .mov (.c (.int .i64 0)), []⟩]) F368_k15
@[go_sem] theorem F368_k16_r {E ks st Q} : type_of% (@codeE E ks st Q _ _ F368_k16.eq_1) := codeE F368_k16.eq_1
def F368_k17 : ACode := .seq F368_k6 F368_k16
@[go_sem] theorem F368_k17_r {E ks st Q} : type_of% (@codeE E ks st Q _ _ F368_k17.eq_1) := codeE F368_k17.eq_1
def F368_k18 : ACode := .seq (.reg true F368_r1) F368_k17
@[go_sem] theorem F368_k18_r {E ks st Q} : type_of% (@codeE E ks st Q _ _ F368_k18.eq_1) := codeE F368_k18.eq_1
def F368 : AFun := ⟨1, 79, [.t 2, .l 3 (some 2), .t 4, .t 5], .seq (.reg true F368_r0) F368_k18⟩
def F369_r0 : List AOper := [⟨0, some 9, none, .mov (.t 0), []⟩,
⟨1, some 10, none, .nilchk (.t 9), []⟩,
⟨2, some 11, none, .faddr 4 (.t 10), []⟩,
⟨3, some 12, none, .faddr 0 (.t 11), []⟩,
⟨4, some 13, none, .load none (.t 12), []⟩,
⟨5, some 14, none, .nop 4, []⟩,
⟨6, some 15, none, .lload 4 0 none, []⟩,
⟨7, some 16, none, .iaddr 5 (.t 13) (.t 15), []⟩,
⟨8, some 17, none, .faddr 2 (.t 16), []⟩,
⟨9, some 18, none, .load none (.t 17), []⟩,
⟨10, some 6, none, .mov (.t 18), []⟩]
@[go_sem] theorem F369_r0_r {E ks st Q} : type_of% (@opsE E ks st Q _ _ F369_r0.eq_1) := opsE F369_r0.eq_1
def F369_k1 : ACode := .seq (.reg true F369_r0) (.ret)
@[go_sem] theorem F369_k1_r {E ks st Q} : type_of% (@codeE E ks st Q _ _ F369_k1.eq_1) := codeE F369_k1.eq_1
def F369_k2 : ACode := .cond (.t 8) F369_k1 (.skip)
@[go_sem] theorem F369_k2_r {E ks st Q} : type_of% (@codeE E ks st Q _ _ F369_k2.eq_1) := codeE F369_k2.eq_1
def F369_k3 : ACode := .seq (.reg true [⟨0, some 7, none, .mov (.t 2), []⟩,
⟨1, some 8, none, .bin .eql (.t 7) (.c (.int .i64 7)), []⟩]) F369_k2
@[go_sem] theorem F369_k3_r {E ks st Q} : type_of% (@codeE E ks st Q _ _ F369_k3.eq_1) := codeE F369_k3.eq_1
def F369_k4 : ACode := .seq F369_k3 (.seq (.reg true [⟨0, some 6, none, .mov (.c (.int .i64 (-1))), []⟩]) (.ret))
@[go_sem] theorem F369_k4_r {E ks st Q} : type_of% (@codeE E ks st Q _ _ F369_k4.eq_1) := codeE F369_k4.eq_1
def F369 : AFun := ⟨3, 19, [.t 6], .seq (.reg true [⟨0, some 4, none, .lbox 2 (.t 1), []⟩,
⟨1, some 6, none, .mov (.c (.int .i64 0)), []⟩]) F369_k4⟩
def F105_r0 : List AOper := [⟨0, some 1, none, .hbox 8 (.t 0), []⟩,
⟨1, some 2, none, .mov (.c (.int .i64 0)), []⟩,
⟨2, some 3, none, .mov (.c (.int .i64 0)), []⟩,
⟨3, some 4, none, .mov (.c (.int .i64 0)), []⟩,
⟨4, some 5, none, .mov (.c (.int .i64 0)), []⟩]
@[go_sem] theorem F105_r0_r {E ks st Q} : type_of% (@opsE E ks st Q _ _ F105_r0.eq_1) := opsE F105_r0.eq_1
def F105_r1 : List AOper := [⟨0, some 2, none, .mov (.c (.int .i64 0)), []⟩,
⟨1, some 3, none, .mov (.c (.int .i64 0)), []⟩,
⟨2, some 4, none, .mov (.c (.int .i64 0)), []⟩,
⟨3, some 5, none, .mov (.c (.int .i64 1)), []⟩]
@[go_sem] theorem F105_r1_r {E ks st Q} : type_of% (@opsE E ks st Q _ _ F105_r1.eq_1) := opsE F105_r1.eq_1
def F105_k2 : ACode := .seq (.reg true F105_r1) (.ret)
@[go_sem] theorem F105_k2_r {E ks st Q} : type_of% (@codeE E ks st Q _ _ F105_k2.eq_1) := codeE F105_k2.eq_1
def F105_k3 : ACode := .cond (.t 11) F105_k2 (.skip)
@[go_sem] theorem F105_k3_r {E ks st Q} : type_of% (@codeE E ks st Q _ _ F105_k3.eq_1) := codeE F105_k3.eq_1
def F105_k4 : ACode := .seq (.reg true [⟨0, some 10, none, .call 367 [.t 1], []⟩,
⟨1, some 11, none, .not (.t 10), []⟩]) F105_k3
@[go_sem] theorem F105_k4_r {E ks st Q} : type_of% (@codeE E ks st Q _ _ F105_k4.eq_1) := codeE F105_k4.eq_1
def F105_r5 : List AOper := [⟨0, some 13, none, .call 368 [.t 1], []⟩,
⟨1, some 12, none, .mov (.t 13), []⟩,
⟨2, some 14, none, .ext (.t 12) 0, []⟩,
⟨3, some 15, none, .ext (.t 12) 1, []⟩,
⟨4, some 16, none, .ext (.t 12) 2, []⟩,
⟨5, some 17, none, .ext (.t 12) 3, []⟩,
⟨6, some 7, none, .lalloc (.agg [.int .i64 0, .int .i64 0]), []⟩,
⟨7, some 6, none, .mov (.t 14), []⟩,
⟨8, none, none, .lstore 7 0 2 (.t 15), []⟩,
⟨9, some 8, none, .mov (.t 16), []⟩,
⟨10, some 9, none, .mov (.t 17), []⟩]
@[go_sem] theorem F105_r5_r {E ks st Q} : type_of% (@opsE E ks st Q _ _ F105_r5.eq_1) := opsE F105_r5.eq_1
def F105_r6 : List AOper := [⟨0, some 2, none, .mov (.c (.int .i64 0)), []⟩,
⟨1, some 3, none, .mov (.c (.int .i64 0)), []⟩,
⟨2, some 4, none, .mov (.c (.int .i64 0)), []⟩,
⟨3, some 5, none, .mov (.c (.int .i64 3)), []⟩]
@[go_sem] theorem F105_r6_r {E ks st Q} : type_of% (@opsE E ks st Q _ _ F105_r6.eq_1) := opsE F105_r6.eq_1
def F105_k7 : ACode := .seq (.reg true F105_r6) (.ret)
@[go_sem] theorem F105_k7_r {E ks st Q} : type_of% (@codeE E ks st Q _ _ F105_k7.eq_1) := codeE F105_k7.eq_1
def F105_k8 : ACode := .cond (.t 19) F105_k7 (.skip)
@[go_sem] theorem F105_k8_r {E ks st Q} : type_of% (@codeE E ks st Q _ _ F105_k8.eq_1) := codeE F105_k8.eq_1
def F105_k9 : ACode := .seq (.reg true [⟨0, some 18, none, .mov (.t 9), []⟩,
⟨1, some 19, none, .not (.t 18), []⟩]) F105_k8
@[go_sem] theorem F105_k9_r {E ks st Q} : type_of% (@codeE E ks st Q _ _ F105_k9.eq_1) := codeE F105_k9.eq_1
def F105_r10 : List AOper := [⟨0, some 20, none, .mov (.t 6), []⟩,
⟨1, some 21, none, .mov (.t 8), []⟩,
⟨2, some 22, none, .lload 7 0 (some 2), []⟩,
⟨3, some 23, none, .mov (.t 8), []⟩,
⟨4, some 24, none, .call 369 [.t 1, .t 22, .t 23], []⟩,
⟨5, some 2, none, .mov (.t 20), []⟩,
⟨6, some 3, none, .mov (.t 21), []⟩,
⟨7, some 4, none, .mov (.t 24), []⟩,
⟨8, some 5, none, .mov (.c (.int .i64 0)), []⟩]
@[go_sem] theorem F105_r10_r {E ks st Q} : type_of% (@opsE E ks st Q _ _ F105_r10.eq_1) := opsE F105_r10.eq_1
def F105_k11 : ACode := .seq (.reg true F105_r10) (.ret)
@[go_sem] theorem F105_k11_r {E ks st Q} : type_of% (@codeE E ks st Q _ _ F105_k11.eq_1) := codeE F105_k11.eq_1
def F105_k12 : ACode := .seq F105_k9 F105_k11
@[go_sem] theorem F105_k12_r {E ks st Q} : type_of% (@codeE E ks st Q _ _ F105_k12.eq_1) := codeE F105_k12.eq_1
def F105_k13 : ACode := .seq (.reg true F105_r5) F105_k12
@[go_sem] theorem F105_k13_r {E ks st Q} : type_of% (@codeE E ks st Q _ _ F105_k13.eq_1) := codeE F105_k13.eq_1
def F105_k14 : ACode := .seq F105_k4 F105_k13
@[go_sem] theorem F105_k14_r {E ks st Q} : type_of% (@codeE E ks st Q _ _ F105_k14.eq_1) := codeE F105_k14.eq_1
def F105 : AFun := ⟨1, 25, [.t 2, .t 3, .t 4, .t 5], .seq (.reg true F105_r0) F105_k14⟩
def F147 : AFun := toS0 
def F1419_r0 : List AOper := [⟨0, some 4, none, .nop 1, []⟩,
⟨1, some 5, none, .lload 1 0 none, []⟩,
⟨2, some 6, none, .nop 3, []⟩,
⟨3, none, none, .lstore 3 0 1 (.t 5), []⟩]
@[go_sem] theorem F1419_r0_r {E ks st Q} : type_of% (@opsE E ks st Q _ _ F1419_r0.eq_1) := opsE F1419_r0.eq_1
def F1419_r1 : List AOper := [⟨0, some 7, none, .nop 1, []⟩,
⟨1, some 8, none, .lload 1 1 none, []⟩,
⟨2, some 9, none, .nop 3, []⟩,
⟨3, none, none, .lstore 3 1 1 (.t 8), []⟩]
@[go_sem] theorem F1419_r1_r {E ks st Q} : type_of% (@opsE E ks st Q _ _ F1419_r1.eq_1) := opsE F1419_r1.eq_1
def F1419_k2 : ACode := .seq (.reg true F1419_r1) (.seq (.reg true [⟨0, some 10, none, .lload 3 0 (some 2), []⟩,
⟨1, none, none, .lstore 2 0 2 (.t 10), []⟩]) (.ret))
@[go_sem] theorem F1419_k2_r {E ks st Q} : type_of% (@codeE E ks st Q _ _ F1419_k2.eq_1) := codeE F1419_k2.eq_1
def F1419_k3 : ACode := .seq (.reg true F1419_r0) F1419_k2
@[go_sem] theorem F1419_k3_r {E ks st Q} : type_of% (@codeE E ks st Q _ _ F1419_k3.eq_1) := codeE F1419_k3.eq_1
def F1419_k4 : ACode := .seq (.reg true [⟨0, some 3, none, .lalloc (.agg [.int .i64 0, .int .i64 0]), []⟩]) F1419_k3
@[go_sem] theorem F1419_k4_r {E ks st Q} : type_of% (@codeE E ks st Q _ _ F1419_k4.eq_1) := codeE F1419_k4.eq_1
def F1419 : AFun := ⟨1, 11, [.l 2 (some 2)], .seq (.reg true [⟨0, some 1, none, .lbox 2 (.t 0), []⟩,
⟨1, some 2, none, .lalloc (.agg [.int .i64 0, .int .i64 0]), []⟩]) F1419_k4⟩
def F1178 : AFun := toS 2 (some 2) (.agg [.int .i64 0, .int .i64 0]) 1419
def F858_r0 : List AOper := [⟨0, some 4, none, .nop 1, []⟩,
⟨1, some 5, none, .lload 1 0 none, []⟩,
⟨2, some 6, none, .nop 3, []⟩,
⟨3, none, none, .lstore 3 0 1 (.t 5), []⟩]
@[go_sem] theorem F858_r0_r {E ks st Q} : type_of% (@opsE E ks st Q _ _ F858_r0.eq_1) := opsE F858_r0.eq_1
def F858_r1 : List AOper := [⟨0, some 7, none, .nop 1, []⟩,
⟨1, some 8, none, .lload 1 1 none, []⟩,
⟨2, some 9, none, .nop 3, []⟩,
⟨3, none, none, .lstore 3 1 1 (.t 8), []⟩]
@[go_sem] theorem F858_r1_r {E ks st Q} : type_of% (@opsE E ks st Q _ _ F858_r1.eq_1) := opsE F858_r1.eq_1
def F858_r2 : List AOper := [⟨0, some 10, none, .nop 1, []⟩,
⟨1, some 11, none, .lload 1 2 none, []⟩,
⟨2, some 12, none, .nop 3, []⟩,
⟨3, none, none, .lstore 3 2 1 (.t 11), []⟩]
@[go_sem] theorem F858_r2_r {E ks st Q} : type_of% (@opsE E ks st Q _ _ F858_r2.eq_1) := opsE F858_r2.eq_1
def F858_r3 : List AOper := [⟨0, some 13, none, .nop 1, []⟩,
⟨1, some 14, none, .lload 1 3 none, []⟩,
⟨2, some 15, none, .call 147 [.t 14], []⟩,
⟨3, some 16, none, .nop 3, []⟩,
⟨4, none, none, .lstore 3 3 1 (.t 15), []⟩]
@[go_sem] theorem F858_r3_r {E ks st Q} : type_of% (@opsE E ks st Q _ _ F858_r3.eq_1) := opsE F858_r3.eq_1
def F858_r4 : List AOper := [⟨0, some 17, none, .nop 1, []⟩,
⟨1, some 18, none, .lload 1 4 none, []⟩,
⟨2, some 19, none, .call 1178 [.t 18], []⟩,
⟨3, some 20, none, .nop 3, []⟩,
⟨4, none, none, .lstore 3 4 1 (.t 19), []⟩]
@[go_sem] theorem F858_r4_r {E ks st Q} : type_of% (@opsE E ks st Q _ _ F858_r4.eq_1) := opsE F858_r4.eq_1
def F858_k5 : ACode := .seq (.reg true F858_r4) (.seq (.reg true [⟨0, some 21, none, .lload 3 0 (some 5), []⟩,
⟨1, none, none, .lstore 2 0 5 (.t 21), []⟩]) (.ret))
@[go_sem] theorem F858_k5_r {E ks st Q} : type_of% (@codeE E ks st Q _ _ F858_k5.eq_1) := codeE F858_k5.eq_1
def F858_k6 : ACode := .seq (.reg true F858_r3) F858_k5
@[go_sem] theorem F858_k6_r {E ks st Q} : type_of% (@codeE E ks st Q _ _ F858_k6.eq_1) := codeE F858_k6.eq_1
def F858_k7 : ACode := .seq (.reg true F858_r2) F858_k6
@[go_sem] theorem F858_k7_r {E ks st Q} : type_of% (@codeE E ks st Q _ _ F858_k7.eq_1) := codeE F858_k7.eq_1
def F858_k8 : ACode := .seq (.reg true F858_r1) F858_k7
@[go_sem] theorem F858_k8_r {E ks st Q} : type_of% (@codeE E ks st Q _ _ F858_k8.eq_1) := codeE F858_k8.eq_1
def F858_k9 : ACode := .seq (.reg true F858_r0) F858_k8
@[go_sem] theorem F858_k9_r {E ks st Q} : type_of% (@codeE E ks st Q _ _ F858_k9.eq_1) := codeE F858_k9.eq_1
def F858_k10 : ACode := .seq (.reg true [⟨0, some 3, none, .lalloc (.agg [.int .i64 0, .int .i64 0, .int .i64 0, .nils, .nils]), []⟩]) F858_k9
@[go_sem] theorem F858_k10_r {E ks st Q} : type_of% (@codeE E ks st Q _ _ F858_k10.eq_1) := codeE F858_k10.eq_1
def F858 : AFun := ⟨1, 22, [.l 2 (some 5)], .seq (.reg true [⟨0, some 1, none, .lbox 5 (.t 0), []⟩,
⟨1, some 2, none, .lalloc (.agg [.int .i64 0, .int .i64 0, .int .i64 0, .nils, .nils]), []⟩]) F858_k10⟩
def F504 : AFun := toS 5 (some 5) (.agg [.int .i64 0, .int .i64 0, .int .i64 0, .nils, .nils]) 858
def F185_r0 : List AOper := [⟨0, some 4, none, .nop 1, []⟩,
⟨1, some 5, none, .lload 1 0 none, []⟩,
⟨2, some 6, none, .call 504 [.t 5], []⟩,
⟨3, some 7, none, .nop 3, []⟩,
⟨4, none, none, .lstore 3 0 1 (.t 6), []⟩]
@[go_sem] theorem F185_r0_r {E ks st Q} : type_of% (@opsE E ks st Q _ _ F185_r0.eq_1) := opsE F185_r0.eq_1
def F185_k1 : ACode := .seq (.reg true F185_r0) (.seq (.reg true [⟨0, some 8, none, .lload 3 0 (some 1), []⟩,
⟨1, none, none, .lstore 2 0 1 (.t 8), []⟩]) (.ret))
@[go_sem] theorem F185_k1_r {E ks st Q} : type_of% (@codeE E ks st Q _ _ F185_k1.eq_1) := codeE F185_k1.eq_1
def F185_k2 : ACode := .seq (.reg true [⟨0, some 3, none, .lalloc (.agg [.nils]), []⟩]) F185_k1
@[go_sem] theorem F185_k2_r {E ks st Q} : type_of% (@codeE E ks st Q _ _ F185_k2.eq_1) := codeE F185_k2.eq_1
def F185 : AFun := ⟨1, 9, [.l 2 (some 1)], .seq (.reg true [⟨0, some 1, none, .lbox 1 (.t 0), []⟩,
⟨1, some 2, none, .lalloc (.agg [.nils]), []⟩]) F185_k2⟩
def F184 : AFun := toS 1 (some 1) (.agg [.nils]) 185
def F745_r0 : List AOper := [⟨0, some 4, none, .nop 1, []⟩,
⟨1, some 5, none, .lload 1 0 none, []⟩,
⟨2, some 6, none, .nop 3, []⟩,
⟨3, none, none, .lstore 3 0 1 (.t 5), []⟩]
@[go_sem] theorem F745_r0_r {E ks st Q} : type_of% (@opsE E ks st Q _ _ F745_r0.eq_1) := opsE F745_r0.eq_1
def F745_r1 : List AOper := [⟨0, some 7, none, .nop 1, []⟩,
⟨1, some 8, none, .lload 1 1 none, []⟩,
⟨2, some 9, none, .nop 3, []⟩,
⟨3, none, none, .lstore 3 1 1 (.t 8), []⟩]
@[go_sem] theorem F745_r1_r {E ks st Q} : type_of% (@opsE E ks st Q _ _ F745_r1.eq_1) := opsE F745_r1.eq_1
def F745_r2 : List AOper := [⟨0, some 10, none, .nop 1, []⟩,
⟨1, some 11, none, .lload 1 2 none, []⟩,
⟨2, some 12, none, .nop 3, []⟩,
⟨3, none, none, .lstore 3 2 1 (.t 11), []⟩]
@[go_sem] theorem F745_r2_r {E ks st Q} : type_of% (@opsE E ks st Q _ _ F745_r2.eq_1) := opsE F745_r2.eq_1
def F745_k3 : ACode := .seq (.reg true F745_r2) (.seq (.reg true [⟨0, some 13, none, .lload 3 0 (some 3), []⟩,
⟨1, none, none, .lstore 2 0 3 (.t 13), []⟩]) (.ret))
@[go_sem] theorem F745_k3_r {E ks st Q} : type_of% (@codeE E ks st Q _ _ F745_k3.eq_1) := codeE F745_k3.eq_1
def F745_k4 : ACode := .seq (.reg true F745_r1) F745_k3
@[go_sem] theorem F745_k4_r {E ks st Q} : type_of% (@codeE E ks st Q _ _ F745_k4.eq_1) := codeE F745_k4.eq_1
def F745_k5 : ACode := .seq (.reg true F745_r0) F745_k4
@[go_sem] theorem F745_k5_r {E ks st Q} : type_of% (@codeE E ks st Q _ _ F745_k5.eq_1) := codeE F745_k5.eq_1
def F745_k6 : ACode := .seq (.reg true [⟨0, some 3, none, .lalloc (.agg [.int .i64 0, .int .i64 0, .int .i64 0]), []⟩]) F745_k5
@[go_sem] theorem F745_k6_r {E ks st Q} : type_of% (@codeE E ks st Q _ _ F745_k6.eq_1) := codeE F745_k6.eq_1
def F745 : AFun := ⟨1, 14, [.l 2 (some 3)], .seq (.reg true [⟨0, some 1, none, .lbox 3 (.t 0), []⟩,
⟨1, some 2, none, .lalloc (.agg [.int .i64 0, .int .i64 0, .int .i64 0]), []⟩]) F745_k6⟩
def F370 : AFun := toS 3 (some 3) (.agg [.int .i64 0, .int .i64 0, .int .i64 0]) 745
def F134_r0 : List AOper := [⟨0, some 4, none, .nop 1, []⟩,
⟨1, some 5, none, .lload 1 0 none, []⟩,
⟨2, some 6, none, .nop 3, []⟩,
⟨3, none, none, .lstore 3 0 1 (.t 5), []⟩]
@[go_sem] theorem F134_r0_r {E ks st Q} : type_of% (@opsE E ks st Q _ _ F134_r0.eq_1) := opsE F134_r0.eq_1
def F134_r1 : List AOper := [⟨0, some 7, none, .nop 1, []⟩,
⟨1, some 8, none, .lload 1 1 none, []⟩,
⟨2, some 9, none, .nop 3, []⟩,
⟨3, none, none, .lstore 3 1 1 (.t 8), []⟩]
@[go_sem] theorem F134_r1_r {E ks st Q} : type_of% (@opsE E ks st Q _ _ F134_r1.eq_1) := opsE F134_r1.eq_1
def F134_k2 : ACode := .seq (.reg true F134_r1) (.seq (.reg true [⟨0, some 10, none, .lload 3 0 (some 2), []⟩,
⟨1, none, none, .lstore 2 0 2 (.t 10), []⟩]) (.ret))
@[go_sem] theorem F134_k2_r {E ks st Q} : type_of% (@codeE E ks st Q _ _ F134_k2.eq_1) := codeE F134_k2.eq_1
def F134_k3 : ACode := .seq (.reg true F134_r0) F134_k2
@[go_sem] theorem F134_k3_r {E ks st Q} : type_of% (@codeE E ks st Q _ _ F134_k3.eq_1) := codeE F134_k3.eq_1
def F134_k4 : ACode := .seq (.reg true [⟨0, some 3, none, .lalloc (.agg [.int .i64 0, .int .i64 0]), []⟩]) F134_k3
@[go_sem] theorem F134_k4_r {E ks st Q} : type_of% (@codeE E ks st Q _ _ F134_k4.eq_1) := codeE F134_k4.eq_1
def F134 : AFun := ⟨1, 11, [.l 2 (some 2)], .seq (.reg true [⟨0, some 1, none, .lbox 2 (.t 0), []⟩,
⟨1, some 2, none, .lalloc (.agg [.int .i64 0, .int .i64 0]), []⟩]) F134_k4⟩
def F371 : AFun := toS 2 (some 2) (.agg [.int .i64 0, .int .i64 0]) 134
def F746_r0 : List AOper := [⟨0, some 4, none, .nop 1, []⟩,
⟨1, some 5, none, .lload 1 0 none, []⟩,
⟨2, some 6, none, .nop 3, []⟩,
⟨3, none, none, .lstore 3 0 1 (.t 5), []⟩]
@[go_sem] theorem F746_r0_r {E ks st Q} : type_of% (@opsE E ks st Q _ _ F746_r0.eq_1) := opsE F746_r0.eq_1
def F746_r1 : List AOper := [⟨0, some 7, none, .nop 1, []⟩,
⟨1, some 8, none, .lload 1 1 (some 1), []⟩,
⟨2, some 9, none, .call 185 [.t 8], []⟩,
⟨3, some 10, none, .nop 3, []⟩,
⟨4, none, none, .lstore 3 1 1 (.t 9), []⟩]
@[go_sem] theorem F746_r1_r {E ks st Q} : type_of% (@opsE E ks st Q _ _ F746_r1.eq_1) := opsE F746_r1.eq_1
def F746_r2 : List AOper := [⟨0, some 11, none, .nop 1, []⟩,
⟨1, some 12, none, .lload 1 2 none, []⟩,
⟨2, some 13, none, .call 370 [.t 12], []⟩,
⟨3, some 14, none, .nop 3, []⟩,
⟨4, none, none, .lstore 3 2 1 (.t 13), []⟩]
@[go_sem] theorem F746_r2_r {E ks st Q} : type_of% (@opsE E ks st Q _ _ F746_r2.eq_1) := opsE F746_r2.eq_1
def F746_k3 : ACode := .seq (.reg true F746_r2) (.seq (.reg true [⟨0, some 15, none, .lload 3 0 (some 3), []⟩,
⟨1, none, none, .lstore 2 0 3 (.t 15), []⟩]) (.ret))
@[go_sem] theorem F746_k3_r {E ks st Q} : type_of% (@codeE E ks st Q _ _ F746_k3.eq_1) := codeE F746_k3.eq_1
def F746_k4 : ACode := .seq (.reg true F746_r1) F746_k3
@[go_sem] theorem F746_k4_r {E ks st Q} : type_of% (@codeE E ks st Q _ _ F746_k4.eq_1) := codeE F746_k4.eq_1
def F746_k5 : ACode := .seq (.reg true F746_r0) F746_k4
@[go_sem] theorem F746_k5_r {E ks st Q} : type_of% (@codeE E ks st Q _ _ F746_k5.eq_1) := codeE F746_k5.eq_1
def F746_k6 : ACode := .seq (.reg true [⟨0, some 3, none, .lalloc (.agg [.int .i64 0, .nils, .nils]), []⟩]) F746_k5
@[go_sem] theorem F746_k6_r {E ks st Q} : type_of% (@codeE E ks st Q _ _ F746_k6.eq_1) := codeE F746_k6.eq_1
def F746 : AFun := ⟨1, 16, [.l 2 (some 3)], .seq (.reg true [⟨0, some 1, none, .lbox 3 (.t 0), []⟩,
⟨1, some 2, none, .lalloc (.agg [.int .i64 0, .nils, .nils]), []⟩]) F746_k6⟩
def F372 : AFun := toS 3 (some 3) (.agg [.int .i64 0, .nils, .nils]) 746
def F106_r0 : List AOper := [⟨0, some 4, none, .nop 1, []⟩,
⟨1, some 5, none, .lload 1 0 none, []⟩,
⟨2, some 6, none, .call 184 [.t 5], []⟩,
⟨3, some 7, none, .nop 3, []⟩,
⟨4, none, none, .lstore 3 0 1 (.t 6), []⟩]
@[go_sem] theorem F106_r0_r {E ks st Q} : type_of% (@opsE E ks st Q _ _ F106_r0.eq_1) := opsE F106_r0.eq_1
def F106_r1 : List AOper := [⟨0, some 8, none, .nop 1, []⟩,
⟨1, some 9, none, .lload 1 1 none, []⟩,
⟨2, some 10, none, .call 147 [.t 9], []⟩,
⟨3, some 11, none, .nop 3, []⟩,
⟨4, none, none, .lstore 3 1 1 (.t 10), []⟩]
@[go_sem] theorem F106_r1_r {E ks st Q} : type_of% (@opsE E ks st Q _ _ F106_r1.eq_1) := opsE F106_r1.eq_1
def F106_r2 : List AOper := [⟨0, some 12, none, .nop 1, []⟩,
⟨1, some 13, none, .lload 1 2 none, []⟩,
⟨2, some 14, none, .nop 3, []⟩,
⟨3, none, none, .lstore 3 2 1 (.t 13), []⟩]
@[go_sem] theorem F106_r2_r {E ks st Q} : type_of% (@opsE E ks st Q _ _ F106_r2.eq_1) := opsE F106_r2.eq_1
def F106_r3 : List AOper := [⟨0, some 15, none, .nop 1, []⟩,
⟨1, some 16, none, .lload 1 3 none, []⟩,
⟨2, some 17, none, .nop 3, []⟩,
⟨3, none, none, .lstore 3 3 1 (.t 16), []⟩]
@[go_sem] theorem F106_r3_r {E ks st Q} : type_of% (@opsE E ks st Q _ _ F106_r3.eq_1) := opsE F106_r3.eq_1
def F106_r4 : List AOper := [⟨0, some 18, none, .nop 1, []⟩,
⟨1, some 19, none, .lload 1 4 (some 1), []⟩,
⟨2, some 20, none, .call 185 [.t 19], []⟩,
⟨3, some 21, none, .nop 3, []⟩,
⟨4, none, none, .lstore 3 4 1 (.t 20), []⟩]
@[go_sem] theorem F106_r4_r {E ks st Q} : type_of% (@opsE E ks st Q _ _ F106_r4.eq_1) := opsE F106_r4.eq_1
def F106_r5 : List AOper := [⟨0, some 22, none, .nop 1, []⟩,
⟨1, some 23, none, .lload 1 5 none, []⟩,
⟨2, some 24, none, .call 370 [.t 23], []⟩,
⟨3, some 25, none, .nop 3, []⟩,
⟨4, none, none, .lstore 3 5 1 (.t 24), []⟩]
@[go_sem] theorem F106_r5_r {E ks st Q} : type_of% (@opsE E ks st Q _ _ F106_r5.eq_1) := opsE F106_r5.eq_1
def F106_r6 : List AOper := [⟨0, some 26, none, .nop 1, []⟩,
⟨1, some 27, none, .lload 1 6 none, []⟩,
⟨2, some 28, none, .call 371 [.t 27], []⟩,
⟨3, some 29, none, .nop 3, []⟩,
⟨4, none, none, .lstore 3 6 1 (.t 28), []⟩]
@[go_sem] theorem F106_r6_r {E ks st Q} : type_of% (@opsE E ks st Q _ _ F106_r6.eq_1) := opsE F106_r6.eq_1
def F106_r7 : List AOper := [⟨0, some 30, none, .nop 1, []⟩,
⟨1, some 31, none, .lload 1 7 none, []⟩,
⟨2, some 32, none, .call 372 [.t 31], []⟩,
⟨3, some 33, none, .nop 3, []⟩,
⟨4, none, none, .lstore 3 7 1 (.t 32), []⟩]
@[go_sem] theorem F106_r7_r {E ks st Q} : type_of% (@opsE E ks st Q _ _ F106_r7.eq_1) := opsE F106_r7.eq_1
def F106_k8 : ACode := .seq (.reg true F106_r7) (.seq (.reg true [⟨0, some 34, none, .lload 3 0 (some 8), []⟩,
⟨1, none, none, .lstore 2 0 8 (.t 34), []⟩]) (.ret))
@[go_sem] theorem F106_k8_r {E ks st Q} : type_of% (@codeE E ks st Q _ _ F106_k8.eq_1) := codeE F106_k8.eq_1
def F106_k9 : ACode := .seq (.reg true F106_r6) F106_k8
@[go_sem] theorem F106_k9_r {E ks st Q} : type_of% (@codeE E ks st Q _ _ F106_k9.eq_1) := codeE F106_k9.eq_1
def F106_k10 : ACode := .seq (.reg true F106_r5) F106_k9
@[go_sem] theorem F106_k10_r {E ks st Q} : type_of% (@codeE E ks st Q _ _ F106_k10.eq_1) := codeE F106_k10.eq_1
def F106_k11 : ACode := .seq (.reg true F106_r4) F106_k10
@[go_sem] theorem F106_k11_r {E ks st Q} : type_of% (@codeE E ks st Q _ _ F106_k11.eq_1) := codeE F106_k11.eq_1
def F106_k12 : ACode := .seq (.reg true F106_r3) F106_k11
@[go_sem] theorem F106_k12_r {E ks st Q} : type_of% (@codeE E ks st Q _ _ F106_k12.eq_1) := codeE F106_k12.eq_1
def F106_k13 : ACode := .seq (.reg true F106_r2) F106_k12
@[go_sem] theorem F106_k13_r {E ks st Q} : type_of% (@codeE E ks st Q _ _ F106_k13.eq_1) := codeE F106_k13.eq_1
def F106_k14 : ACode := .seq (.reg true F106_r1) F106_k13
@[go_sem] theorem F106_k14_r {E ks st Q} : type_of% (@codeE E ks st Q _ _ F106_k14.eq_1) := codeE F106_k14.eq_1
def F106_k15 : ACode := .seq (.reg true F106_r0) F106_k14
@[go_sem] theorem F106_k15_r {E ks st Q} : type_of% (@codeE E ks st Q _ _ F106_k15.eq_1) := codeE F106_k15.eq_1
def F106_k16 : ACode := .seq (.reg true [⟨0, some 3, none, .lalloc (.agg [.nils, .nils, .int .i64 0, .int .i64 0, .nils, .nils, .nils, .nils]), []⟩]) F106_k15
@[go_sem] theorem F106_k16_r {E ks st Q} : type_of% (@codeE E ks st Q _ _ F106_k16.eq_1) := codeE F106_k16.eq_1
def F106 : AFun := ⟨1, 35, [.l 2 (some 8)], .seq (.reg true [⟨0, some 1, none, .lbox 8 (.t 0), []⟩,
⟨1, some 2, none, .lalloc (.agg [.nils, .nils, .int .i64 0, .int .i64 0, .nils, .nils, .nils, .nils]), []⟩]) F106_k16⟩
def F774 : AFun := idxF 1 none
def F397 : AFun := ctnF 774
def F775_r0 : List AOper := [⟨0, some 3, none, .mov (.t 0), []⟩,
⟨1, some 4, none, .bin .lss (.t 3) (.c (.int .i64 0)), []⟩,
⟨2, some 5, none, .mov (.t 4), []⟩,
⟨3, some 6, (some (5, false)), .mov (.t 0), []⟩,
⟨4, some 7, (some (5, false)), .bin .gtr (.t 6) (.c (.int .i64 600)), []⟩,
⟨5, some 8, none, .pick (.t 5) (.c (.bool true)) (.t 7), []⟩,
⟨6, some 2, none, .mov (.t 8), []⟩]
@[go_sem] theorem F775_r0_r {E ks st Q} : type_of% (@opsE E ks st Q _ _ F775_r0.eq_1) := opsE F775_r0.eq_1
def F775_k1 : ACode := .seq (.reg true F775_r0) (.ret)
@[go_sem] theorem F775_k1_r {E ks st Q} : type_of% (@codeE E ks st Q _ _ F775_k1.eq_1) := codeE F775_k1.eq_1
def F775 : AFun := ⟨1, 9, [.t 2], .seq (.reg true [⟨0, some 2, none, .mov (.c (.bool false)), []⟩]) F775_k1⟩
def F406_r0 : List AOper := [⟨0, some 3, none, .mov (.t 0), []⟩,
⟨1, some 4, none, .len (.t 3), []⟩,
⟨2, some 5, none, .bin .leq (.t 4) (.c (.int .i64 200)), []⟩,
⟨3, some 6, none, .mov (.t 5), []⟩,
⟨4, some 7, (some (6, true)), .mov (.t 0), []⟩,
⟨5, some 8, (some (6, true)), .call 397 [.t 7, .f 775], []⟩,
⟨6, some 9, (some (6, true)), .not (.t 8), []⟩,
⟨7, some 10, none, .pick (.t 6) (.t 9) (.c (.bool false)), []⟩,
⟨8, some 2, none, .mov (.t 10), []⟩]
@[go_sem] theorem F406_r0_r {E ks st Q} : type_of% (@opsE E ks st Q _ _ F406_r0.eq_1) := opsE F406_r0.eq_1
def F406_k1 : ACode := .seq (.reg true F406_r0) (.ret)
@[go_sem] theorem F406_k1_r {E ks st Q} : type_of% (@codeE E ks st Q _ _ F406_k1.eq_1) := codeE F406_k1.eq_1
def F406 : AFun := ⟨1, 11, [.t 2], .seq (.reg true [⟨0, some 2, none, .mov (.c (.bool false)), []⟩]) F406_k1⟩
def F801_r0 : List AOper := [⟨0, some 4, none, .mov (.t 0), []⟩,
⟨1, some 5, none, .bin .lss (.t 4) (.c (.int .i64 0)), []⟩,
⟨2, some 6, none, .mov (.t 5), []⟩,
⟨3, some 7, (some (6, false)), .mov (.t 0), []⟩,
⟨4, some 8, (some (6, false)), .load none (.t 1), []⟩,
⟨5, some 9, (some (6, false)), .bin .gtr (.t 7) (.t 8), []⟩,
⟨6, some 10, none, .pick (.t 6) (.c (.bool true)) (.t 9), []⟩,
⟨7, some 3, none, .mov (.t 10), []⟩]
@[go_sem] theorem F801_r0_r {E ks st Q} : type_of% (@opsE E ks st Q _ _ F801_r0.eq_1) := opsE F801_r0.eq_1
def F801_k1 : ACode := .seq (.reg true F801_r0) (.ret)
@[go_sem] theorem F801_k1_r {E ks st Q} : type_of% (@codeE E ks st Q _ _ F801_k1.eq_1) := codeE F801_k1.eq_1
def F801 : AFun := ⟨2, 11, [.t 3], .seq (.reg true [⟨0, some 3, none, .mov (.c (.bool false)), []⟩]) F801_k1⟩
def F436_r0 : List AOper := [⟨0, some 5, none, .mov (.t 1), []⟩,
⟨1, some 6, none, .mkfn 801 [.t 2], []⟩,
⟨2, some 7, none, .call 397 [.t 5, .t 6], []⟩,
⟨3, some 8, none, .not (.t 7), []⟩,
⟨4, some 4, none, .mov (.t 8), []⟩]
@[go_sem] theorem F436_r0_r {E ks st Q} : type_of% (@opsE E ks st Q _ _ F436_r0.eq_1) := opsE F436_r0.eq_1
def F436_k1 : ACode := .seq (.reg true F436_r0) (.ret)
@[go_sem] theorem F436_k1_r {E ks st Q} : type_of% (@codeE E ks st Q _ _ F436_k1.eq_1) := codeE F436_k1.eq_1
def F436 : AFun := ⟨2, 9, [.t 4], .seq (.reg true [⟨0, some 2, none, .hbox 1 (.t 0), []⟩,
⟨1, some 4, none, .mov (.c (.bool false)), []⟩]) F436_k1⟩
def F1179 : AFun := idxF 1 (some 1)
def F859 : AFun := ctnF 1179
def F554_r0 : List AOper := [⟨0, some 7, none, .mov (.t 0), []⟩,
⟨1, some 8, none, .nilchk (.t 7), []⟩,
⟨2, some 9, none, .faddr 0 (.t 8), []⟩,
⟨3, some 10, none, .load none (.t 9), []⟩,
⟨4, some 11, none, .len (.t 10), []⟩,
⟨5, some 12, none, .mov (.c (.int .i64 0)), []⟩]
@[go_sem] theorem F554_r0_r {E ks st Q} : type_of% (@opsE E ks st Q _ _ F554_r0.eq_1) := opsE F554_r0.eq_1
def F554_r1 : List AOper := [⟨0, some 14, none, .mov (.t 12), []⟩,
⟨1, some 15, none, .iaddr 5 (.t 10) (.t 12), []⟩,
⟨2, some 16, none, .load (some 5) (.t 15), []⟩,
⟨3, some 5, none, .lalloc (.agg [.int .i64 0, .int .i64 0, .int .i64 0, .nils, .nils]), []⟩,
⟨4, some 4, none, .mov (.t 14), []⟩,
⟨5, none, none, .lstore 5 0 5 (.t 16), []⟩]
@[go_sem] theorem F554_r1_r {E ks st Q} : type_of% (@opsE E ks st Q _ _ F554_r1.eq_1) := opsE F554_r1.eq_1
def F554_r2 : List AOper := [⟨0, some 17, none, .nop 5, []⟩,
⟨1, some 18, none, .lload 5 4 none, []⟩,
⟨2, some 19, none, .len (.t 18), []⟩,
⟨3, some 20, none, .mov (.c (.int .i64 0)), []⟩]
@[go_sem] theorem F554_r2_r {E ks st Q} : type_of% (@opsE E ks st Q _ _ F554_r2.eq_1) := opsE F554_r2.eq_1
def F554_r3 : List AOper := [⟨0, some 23, none, .mov (.t 3), []⟩,
⟨1, some 24, none, .mov (.t 4), []⟩,
⟨2, some 25, none, .mov (.t 6), []⟩,
⟨3, some 26, none, .build (.agg [.int .i64 0, .int .i64 0]) [(0, 1, .t 24), (1, 1, .t 25)], []⟩,
⟨4, some 27, none, .bslice 2 (.agg [.int .i64 0, .int .i64 0]) 1 [(0, .t 26)], []⟩,
⟨5, some 28, none, .app 2 (.t 23) (.t 27), []⟩,
⟨6, some 3, none, .mov (.t 28), []⟩]
@[go_sem] theorem F554_r3_r {E ks st Q} : type_of% (@opsE E ks st Q _ _ F554_r3.eq_1) := opsE F554_r3.eq_1
def F554_k4 : ACode := .seq (.reg true [⟨0, some 22, none, .mov (.t 20), []⟩,
⟨1, some 6, none, .mov (.t 22), []⟩]) (.reg true F554_r3)
@[go_sem] theorem F554_k4_r {E ks st Q} : type_of% (@codeE E ks st Q _ _ F554_k4.eq_1) := codeE F554_k4.eq_1
def F554_k5 : ACode := .blk 3 F554_k4
@[go_sem] theorem F554_k5_r {E ks st Q} : type_of% (@codeE E ks st Q _ _ F554_k5.eq_1) := codeE F554_k5.eq_1
def F554_k6 : ACode := .seq F554_k5 (.reg true [⟨0, some 29, none, .bin .add (.t 20) (.c (.int .i64 1)), []⟩,
⟨1, some 20, none, .mov (.t 29), []⟩])
@[go_sem] theorem F554_k6_r {E ks st Q} : type_of% (@codeE E ks st Q _ _ F554_k6.eq_1) := codeE F554_k6.eq_1
def F554_k7 : ACode := .seq (.cond (.t 21) (.skip) (.exit 2)) F554_k6
@[go_sem] theorem F554_k7_r {E ks st Q} : type_of% (@codeE E ks st Q _ _ F554_k7.eq_1) := codeE F554_k7.eq_1
def F554_k8 : ACode := .seq (.reg true [⟨0, some 21, none, .bin .lss (.t 20) (.t 19), []⟩]) F554_k7
@[go_sem] theorem F554_k8_r {E ks st Q} : type_of% (@codeE E ks st Q _ _ F554_k8.eq_1) := codeE F554_k8.eq_1
def F554_k9 : ACode := .loop F554_k8
@[go_sem] theorem F554_k9_r {E ks st Q} : type_of% (@codeE E ks st Q _ _ F554_k9.eq_1) := codeE F554_k9.eq_1
def F554_k10 : ACode := .blk 2 F554_k9
@[go_sem] theorem F554_k10_r {E ks st Q} : type_of% (@codeE E ks st Q _ _ F554_k10.eq_1) := codeE F554_k10.eq_1
def F554_k11 : ACode := .seq (.reg true F554_r2) F554_k10
@[go_sem] theorem F554_k11_r {E ks st Q} : type_of% (@codeE E ks st Q _ _ F554_k11.eq_1) := codeE F554_k11.eq_1
def F554_k12 : ACode := .seq (.reg true F554_r1) F554_k11
@[go_sem] theorem F554_k12_r {E ks st Q} : type_of% (@codeE E ks st Q _ _ F554_k12.eq_1) := codeE F554_k12.eq_1
def F554_k13 : ACode := .blk 1 F554_k12
@[go_sem] theorem F554_k13_r {E ks st Q} : type_of% (@codeE E ks st Q _ _ F554_k13.eq_1) := codeE F554_k13.eq_1
def F554_k14 : ACode := .seq F554_k13 (.reg true [⟨0, some 30, none, .bin .add (.t 12) (.c (.int .i64 1)), []⟩,
⟨1, some 12, none, .mov (.t 30), []⟩])
@[go_sem] theorem F554_k14_r {E ks st Q} : type_of% (@codeE E ks st Q _ _ F554_k14.eq_1) := codeE F554_k14.eq_1
def F554_k15 : ACode := .seq (.cond (.t 13) (.skip) (.exit 0)) F554_k14
@[go_sem] theorem F554_k15_r {E ks st Q} : type_of% (@codeE E ks st Q _ _ F554_k15.eq_1) := codeE F554_k15.eq_1
def F554_k16 : ACode := .seq (.reg true [⟨0, some 13, none, .bin .lss (.t 12) (.t 11), []⟩]) F554_k15
@[go_sem] theorem F554_k16_r {E ks st Q} : type_of% (@codeE E ks st Q _ _ F554_k16.eq_1) := codeE F554_k16.eq_1
def F554_k17 : ACode := .loop F554_k16
@[go_sem] theorem F554_k17_r {E ks st Q} : type_of% (@codeE E ks st Q _ _ F554_k17.eq_1) := codeE F554_k17.eq_1
def F554_k18 : ACode := .blk 0 F554_k17
@[go_sem] theorem F554_k18_r {E ks st Q} : type_of% (@codeE E ks st Q _ _ F554_k18.eq_1) := codeE F554_k18.eq_1
def F554_k19 : ACode := .seq (.reg true F554_r0) F554_k18
@[go_sem] theorem F554_k19_r {E ks st Q} : type_of% (@codeE E ks st Q _ _ F554_k19.eq_1) := codeE F554_k19.eq_1
def F554_k20 : ACode := .seq F554_k19 (.seq (.reg true [⟨0, some 31, none, .mov (.t 3), []⟩,
⟨1, some 2, none, .mov (.t 31), []⟩]) (.ret))
@[go_sem] theorem F554_k20_r {E ks st Q} : type_of% (@codeE E ks st Q _ _ F554_k20.eq_1) := codeE F554_k20.eq_1
def F554_k21 : ACode := .seq (.reg true [⟨0, some 3, none, .mov (.c (.nils)), []⟩]) F554_k20
@[go_sem] theorem F554_k21_r {E ks st Q} : type_of% (@codeE E ks st Q _ _ F554_k21.eq_1) := codeE F554_k21.eq_1
def F554 : AFun := ⟨1, 32, [.t 2], .seq (.reg true [⟨0, some 2, none, .mov (.c (.nils)), []⟩]) F554_k21⟩
def F796_r0 : List AOper := [⟨0, some 3, none, .mov (.t 0), []⟩,
⟨1, some 4, none, .bin .geq (.t 3) (.c (.int .i64 0)), []⟩,
⟨2, some 5, none, .mov (.t 4), []⟩,
⟨3, some 6, (some (5, true)), .mov (.t 0), []⟩,
⟨4, some 7, (some (5, true)), .bin .lss (.t 6) (.c (.int .i64 24)), []⟩,
⟨5, some 8, none, .pick (.t 5) (.t 7) (.c (.bool false)), []⟩,
⟨6, some 2, none, .mov (.t 8), []⟩]
@[go_sem] theorem F796_r0_r {E ks st Q} : type_of% (@opsE E ks st Q _ _ F796_r0.eq_1) := opsE F796_r0.eq_1
def F796_k1 : ACode := .seq (.reg true F796_r0) (.ret)
@[go_sem] theorem F796_k1_r {E ks st Q} : type_of% (@codeE E ks st Q _ _ F796_k1.eq_1) := codeE F796_k1.eq_1
def F796 : AFun := ⟨1, 9, [.t 2], .seq (.reg true [⟨0, some 2, none, .mov (.c (.bool false)), []⟩]) F796_k1⟩
def F1050_r0 : List AOper := [⟨0, some 3, none, .mov (.t 0), []⟩,
⟨1, some 4, none, .bin .geq (.t 3) (.c (.int .i64 1)), []⟩,
⟨2, some 5, none, .mov (.t 4), []⟩,
⟨3, some 6, (some (5, true)), .mov (.t 0), []⟩,
⟨4, some 7, (some (5, true)), .bin .leq (.t 6) (.c (.int .i64 6)), []⟩,
⟨5, some 8, none, .pick (.t 5) (.t 7) (.c (.bool false)), []⟩,
⟨6, some 2, none, .mov (.t 8), []⟩]
@[go_sem] theorem F1050_r0_r {E ks st Q} : type_of% (@opsE E ks st Q _ _ F1050_r0.eq_1) := opsE F1050_r0.eq_1
def F1050_k1 : ACode := .seq (.reg true F1050_r0) (.ret)
@[go_sem] theorem F1050_k1_r {E ks st Q} : type_of% (@codeE E ks st Q _ _ F1050_k1.eq_1) := codeE F1050_k1.eq_1
def F1050 : AFun := ⟨1, 9, [.t 2], .seq (.reg true [⟨0, some 2, none, .mov (.c (.bool false)), []⟩]) F1050_k1⟩
def F1051_r0 : List AOper := [⟨0, some 3, none, .mov (.t 0), []⟩,
⟨1, some 4, none, .bin .geq (.t 3) (.c (.int .i64 (-2147483648))), []⟩,
⟨2, some 5, none, .mov (.t 4), []⟩,
⟨3, some 6, (some (5, true)), .mov (.t 0), []⟩,
⟨4, some 7, (some (5, true)), .bin .leq (.t 6) (.c (.int .i64 2147483647)), []⟩,
⟨5, some 8, none, .pick (.t 5) (.t 7) (.c (.bool false)), []⟩,
⟨6, some 2, none, .mov (.t 8), []⟩]
@[go_sem] theorem F1051_r0_r {E ks st Q} : type_of% (@opsE E ks st Q _ _ F1051_r0.eq_1) := opsE F1051_r0.eq_1
def F1051_k1 : ACode := .seq (.reg true F1051_r0) (.ret)
@[go_sem] theorem F1051_k1_r {E ks st Q} : type_of% (@codeE E ks st Q _ _ F1051_k1.eq_1) := codeE F1051_k1.eq_1
def F1051 : AFun := ⟨1, 9, [.t 2], .seq (.reg true [⟨0, some 2, none, .mov (.c (.bool false)), []⟩]) F1051_k1⟩
def F1487_r0 : List AOper := [⟨0, some 3, none, .mov (.t 0), []⟩,
⟨1, some 4, none, .bin .geq (.t 3) (.c (.int .i64 1)), []⟩,
⟨2, some 5, none, .mov (.t 4), []⟩,
⟨3, some 6, (some (5, true)), .mov (.t 0), []⟩,
⟨4, some 7, (some (5, true)), .bin .leq (.t 6) (.c (.int .i64 12)), []⟩,
⟨5, some 8, none, .pick (.t 5) (.t 7) (.c (.bool false)), []⟩,
⟨6, some 2, none, .mov (.t 8), []⟩]
@[go_sem] theorem F1487_r0_r {E ks st Q} : type_of% (@opsE E ks st Q _ _ F1487_r0.eq_1) := opsE F1487_r0.eq_1
def F1487_k1 : ACode := .seq (.reg true F1487_r0) (.ret)
@[go_sem] theorem F1487_k1_r {E ks st Q} : type_of% (@codeE E ks st Q _ _ F1487_k1.eq_1) := codeE F1487_k1.eq_1
def F1487 : AFun := ⟨1, 9, [.t 2], .seq (.reg true [⟨0, some 2, none, .mov (.c (.bool false)), []⟩]) F1487_k1⟩
def F1387_r0 : List AOper := [⟨0, some 6, none, .mov (.t 0), []⟩,
⟨1, some 7, none, .bin .eql (.t 6) (.c (.int .i64 9)), []⟩,
⟨2, some 8, none, .mov (.t 7), []⟩,
⟨3, some 9, (some (8, true)), .mov (.t 1), []⟩,
⟨4, some 10, (some (8, true)), .bin .geq (.t 9) (.c (.int .i64 0)), []⟩,
⟨5, some 11, none, .pick (.t 8) (.t 10) (.c (.bool false)), []⟩,
⟨6, some 12, none, .mov (.t 11), []⟩,
⟨7, some 13, (some (12, true)), .mov (.t 1), []⟩,
⟨8, some 14, (some (12, true)), .bin .leq (.t 13) (.c (.int .i64 3)), []⟩,
⟨9, some 15, none, .pick (.t 12) (.t 14) (.c (.bool false)), []⟩,
⟨10, some 5, none, .mov (.t 15), []⟩]
@[go_sem] theorem F1387_r0_r {E ks st Q} : type_of% (@opsE E ks st Q _ _ F1387_r0.eq_1) := opsE F1387_r0.eq_1
def F1387_r1 : List AOper := [⟨0, some 16, none, .mov (.t 1), []⟩,
⟨1, some 17, none, .bin .add (.t 16) (.c (.int .i64 1)), []⟩,
⟨2, some 4, none, .mov (.t 17), []⟩]
@[go_sem] theorem F1387_r1_r {E ks st Q} : type_of% (@opsE E ks st Q _ _ F1387_r1.eq_1) := opsE F1387_r1.eq_1
def F1387_r2 : List AOper := [⟨0, some 19, none, .mov (.t 0), []⟩,
⟨1, some 20, none, .call 1487 [.t 19], []⟩,
⟨2, some 21, none, .not (.t 20), []⟩,
⟨3, some 22, none, .mov (.t 21), []⟩,
⟨4, some 23, (some (22, false)), .mov (.t 0), []⟩,
⟨5, some 24, (some (22, false)), .bin .eql (.t 23) (.c (.int .i64 9)), []⟩,
⟨6, some 25, none, .pick (.t 22) (.c (.bool true)) (.t 24), []⟩,
⟨7, some 26, none, .mov (.t 25), []⟩,
⟨8, some 27, (some (26, false)), .mov (.t 1), []⟩,
⟨9, some 28, (some (26, false)), .bin .neq (.t 27) (.c (.int .i64 0)), []⟩,
⟨10, some 29, none, .pick (.t 26) (.c (.bool true)) (.t 28), []⟩,
⟨11, some 18, none, .mov (.t 29), []⟩]
@[go_sem] theorem F1387_r2_r {E ks st Q} : type_of% (@opsE E ks st Q _ _ F1387_r2.eq_1) := opsE F1387_r2.eq_1
def F1387_k3 : ACode := .seq (.reg true F1387_r2) (.cond (.t 18) (.seq (.reg true [⟨0, some 4, none, .mov (.c (.int .i64 0)), []⟩]) (.ret)) (.skip))
@[go_sem] theorem F1387_k3_r {E ks st Q} : type_of% (@codeE E ks st Q _ _ F1387_k3.eq_1) := codeE F1387_k3.eq_1
def F1387_k4 : ACode := .cond (.t 5) (.seq (.reg true F1387_r1) (.ret)) F1387_k3
@[go_sem] theorem F1387_k4_r {E ks st Q} : type_of% (@codeE E ks st Q _ _ F1387_k4.eq_1) := codeE F1387_k4.eq_1
def F1387_k5 : ACode := .seq (.reg true F1387_r0) F1387_k4
@[go_sem] theorem F1387_k5_r {E ks st Q} : type_of% (@codeE E ks st Q _ _ F1387_k5.eq_1) := codeE F1387_k5.eq_1
def F1387_k6 : ACode := .blk 0 F1387_k5
@[go_sem] theorem F1387_k6_r {E ks st Q} : type_of% (@codeE E ks st Q _ _ F1387_k6.eq_1) := codeE F1387_k6.eq_1
def F1387_r7 : List AOper := [⟨0, some 30, none, .build (.agg [.int .i64 0, .int .i64 0, .int .i64 0, .int .i64 0, .int .i64 0, .int .i64 0, .int .i64 0, .int .i64 0, .int .i64 0, .int .i64 0, .int .i64 0, .int .i64 0, .int .i64 0]) [(1, 1, .c (.int .i64 1)), (2, 1, .c (.int .i64 3)), (3, 1, .c (.int .i64 3)), (4, 1, .c (.int .i64 3)), (5, 1, .c (.int .i64 1)), (6, 1, .c (.int .i64 1)), (7, 1, .c (.int .i64 3)), (8, 1, .c (.int .i64 2)), (10, 1, .c (.int .i64 2)), (11, 1, .c (.int .i64 2)), (12, 1, .c (.int .i64 1))], []⟩,
⟨1, some 31, none, .mov (.t 0), []⟩,
⟨2, some 32, none, .aidx 13 1 none (.t 30) (.t 31), []⟩,
⟨3, some 4, none, .mov (.t 32), []⟩]
@[go_sem] theorem F1387_r7_r {E ks st Q} : type_of% (@opsE E ks st Q _ _ F1387_r7.eq_1) := opsE F1387_r7.eq_1
def F1387_k8 : ACode := .seq (.reg true F1387_r7) (.ret)
@[go_sem] theorem F1387_k8_r {E ks st Q} : type_of% (@codeE E ks st Q _ _ F1387_k8.eq_1) := codeE F1387_k8.eq_1
def F1387_k9 : ACode := .seq F1387_k6 F1387_k8
@[go_sem] theorem F1387_k9_r {E ks st Q} : type_of% (@codeE E ks st Q _ _ F1387_k9.eq_1) := codeE F1387_k9.eq_1
def F1387 : AFun := ⟨2, 33, [.t 4], .seq (.reg true [⟨0, some 4, none, .mov (.c (.int .i64 0)), []⟩]) F1387_k9⟩
def F1388_r0 : List AOper := [⟨0, some 7, none, .mov (.t 1), []⟩,
⟨1, some 8, none, .bin .sub (.t 7) (.c (.int .i64 1)), []⟩,
⟨2, some 4, none, .mov (.t 8), []⟩]
@[go_sem] theorem F1388_r0_r {E ks st Q} : type_of% (@opsE E ks st Q _ _ F1388_r0.eq_1) := opsE F1388_r0.eq_1
def F1388_k1 : ACode := .cond (.t 6) (.seq (.reg true F1388_r0) (.ret)) (.skip)
@[go_sem] theorem F1388_k1_r {E ks st Q} : type_of% (@codeE E ks st Q _ _ F1388_k1.eq_1) := codeE F1388_k1.eq_1
def F1388_k2 : ACode := .seq (.reg true [⟨0, some 5, none, .mov (.t 0), []⟩,
⟨1, some 6, none, .bin .eql (.t 5) (.c (.int .i64 9)), []⟩]) F1388_k1
@[go_sem] theorem F1388_k2_r {E ks st Q} : type_of% (@codeE E ks st Q _ _ F1388_k2.eq_1) := codeE F1388_k2.eq_1
def F1388_k3 : ACode := .seq F1388_k2 (.seq (.reg true [⟨0, some 4, none, .mov (.c (.int .i64 0)), []⟩]) (.ret))
@[go_sem] theorem F1388_k3_r {E ks st Q} : type_of% (@codeE E ks st Q _ _ F1388_k3.eq_1) := codeE F1388_k3.eq_1
def F1388 : AFun := ⟨2, 9, [.t 4], .seq (.reg true [⟨0, some 4, none, .mov (.c (.int .i64 0)), []⟩]) F1388_k3⟩
def F1375_r0 : List AOper := [⟨0, some 3, none, .mov (.t 0), []⟩,
⟨1, some 4, none, .call 1487 [.t 3], []⟩,
⟨2, some 5, none, .mov (.t 4), []⟩,
⟨3, some 6, (some (5, true)), .mov (.t 0), []⟩,
⟨4, some 7, (some (5, true)), .bin .neq (.t 6) (.c (.int .i64 1)), []⟩,
⟨5, some 8, none, .pick (.t 5) (.t 7) (.c (.bool false)), []⟩,
⟨6, some 9, none, .mov (.t 8), []⟩,
⟨7, some 10, (some (9, true)), .mov (.t 0), []⟩,
⟨8, some 11, (some (9, true)), .bin .neq (.t 10) (.c (.int .i64 5)), []⟩,
⟨9, some 12, none, .pick (.t 9) (.t 11) (.c (.bool false)), []⟩,
⟨10, some 13, none, .mov (.t 12), []⟩,
⟨11, some 14, (some (13, true)), .mov (.t 0), []⟩,
⟨12, some 15, (some (13, true)), .bin .neq (.t 14) (.c (.int .i64 6)), []⟩,
⟨13, some 16, none, .pick (.t 13) (.t 15) (.c (.bool false)), []⟩,
⟨14, some 2, none, .mov (.t 16), []⟩]
@[go_sem] theorem F1375_r0_r {E ks st Q} : type_of% (@opsE E ks st Q _ _ F1375_r0.eq_1) := opsE F1375_r0.eq_1
def F1375_k1 : ACode := .seq (.reg true F1375_r0) (.ret)
@[go_sem] theorem F1375_k1_r {E ks st Q} : type_of% (@codeE E ks st Q _ _ F1375_k1.eq_1) := codeE F1375_k1.eq_1
def F1375 : AFun := ⟨1, 17, [.t 2], .seq (.reg true [⟨0, some 2, none, .mov (.c (.bool false)), []⟩]) F1375_k1⟩
def F1495_r0 : List AOper := [⟨0, some 3, none, .mov (.t 0), []⟩,
⟨1, some 4, none, .bin .geq (.t 3) (.c (.int .i64 0)), []⟩,
⟨2, some 5, none, .mov (.t 4), []⟩,
⟨3, some 6, (some (5, true)), .mov (.t 0), []⟩,
⟨4, some 7, (some (5, true)), .bin .leq (.t 6) (.c (.int .i64 8)), []⟩,
⟨5, some 8, none, .pick (.t 5) (.t 7) (.c (.bool false)), []⟩,
⟨6, some 2, none, .mov (.t 8), []⟩]
@[go_sem] theorem F1495_r0_r {E ks st Q} : type_of% (@opsE E ks st Q _ _ F1495_r0.eq_1) := opsE F1495_r0.eq_1
def F1495_k1 : ACode := .seq (.reg true F1495_r0) (.ret)
@[go_sem] theorem F1495_k1_r {E ks st Q} : type_of% (@codeE E ks st Q _ _ F1495_k1.eq_1) := codeE F1495_k1.eq_1
def F1495 : AFun := ⟨1, 9, [.t 2], .seq (.reg true [⟨0, some 2, none, .mov (.c (.bool false)), []⟩]) F1495_k1⟩
def F1389_r0 : List AOper := [⟨0, some 5, none, .mov (.t 0), []⟩,
⟨1, some 6, none, .call 1487 [.t 5], []⟩,
⟨2, some 7, none, .mov (.t 6), []⟩,
⟨3, some 8, (some (7, true)), .mov (.t 1), []⟩,
⟨4, some 9, (some (7, true)), .bin .eql (.t 8) (.c (.int .i64 0)), []⟩,
⟨5, some 10, (some (7, true)), .mov (.t 9), []⟩,
⟨6, some 11, (some (10, false)), .mov (.t 0), []⟩,
⟨7, some 12, (some (10, false)), .call 1375 [.t 11], []⟩,
⟨8, some 13, (some (10, false)), .mov (.t 12), []⟩,
⟨9, some 14, (some (13, true)), .mov (.t 1), []⟩,
⟨10, some 15, (some (13, true)), .call 1495 [.t 14], []⟩,
⟨11, some 16, (some (10, false)), .pick (.t 13) (.t 15) (.c (.bool false)), []⟩,
⟨12, some 17, (some (7, true)), .pick (.t 10) (.c (.bool true)) (.t 16), []⟩,
⟨13, some 18, none, .pick (.t 7) (.t 17) (.c (.bool false)), []⟩,
⟨14, some 4, none, .mov (.t 18), []⟩]
@[go_sem] theorem F1389_r0_r {E ks st Q} : type_of% (@opsE E ks st Q _ _ F1389_r0.eq_1) := opsE F1389_r0.eq_1
def F1389_k1 : ACode := .seq (.reg true F1389_r0) (.ret)
@[go_sem] theorem F1389_k1_r {E ks st Q} : type_of% (@codeE E ks st Q _ _ F1389_k1.eq_1) := codeE F1389_k1.eq_1
def F1389 : AFun := ⟨2, 19, [.t 4], .seq (.reg true [⟨0, some 4, none, .mov (.c (.bool false)), []⟩]) F1389_k1⟩
def F1390_r0 : List AOper := [⟨0, some 3, none, .mov (.t 0), []⟩,
⟨1, some 4, none, .call 796 [.t 3], []⟩,
⟨2, some 5, none, .not (.t 4), []⟩,
⟨3, some 2, none, .mov (.t 5), []⟩]
@[go_sem] theorem F1390_r0_r {E ks st Q} : type_of% (@opsE E ks st Q _ _ F1390_r0.eq_1) := opsE F1390_r0.eq_1
def F1390_k1 : ACode := .seq (.reg true F1390_r0) (.ret)
@[go_sem] theorem F1390_k1_r {E ks st Q} : type_of% (@codeE E ks st Q _ _ F1390_k1.eq_1) := codeE F1390_k1.eq_1
def F1390 : AFun := ⟨1, 6, [.t 2], .seq (.reg true [⟨0, some 2, none, .mov (.c (.bool false)), []⟩]) F1390_k1⟩
def F1097_r0 : List AOper := [⟨0, some 6, none, .nop 1, []⟩,
⟨1, some 7, none, .lload 1 4 none, []⟩,
⟨2, some 8, none, .len (.t 7), []⟩,
⟨3, some 9, none, .bin .eql (.t 8) (.c (.int .i64 0)), []⟩,
⟨4, some 10, none, .mov (.t 9), []⟩,
⟨5, some 11, (some (10, false)), .nop 1, []⟩,
⟨6, some 12, (some (10, false)), .lload 1 0 none, []⟩,
⟨7, some 13, (some (10, false)), .nop 1, []⟩,
⟨8, some 14, (some (10, false)), .lload 1 0 none, []⟩,
⟨9, some 15, (some (10, false)), .nop 1, []⟩,
⟨10, some 16, (some (10, false)), .lload 1 4 none, []⟩,
⟨11, some 17, (some (10, false)), .len (.t 16), []⟩,
⟨14, some 20, (some (10, false)), .nop 1, []⟩,
⟨15, some 21, (some (10, false)), .lload 1 4 none, []⟩,
⟨16, some 22, (some (10, false)), .len (.t 21), []⟩,
⟨12, some 18, (some (10, false)), .call 1388 [.t 14, .t 17], []⟩,
⟨13, some 19, (some (10, false)), .call 1387 [.t 12, .t 18], []⟩,
⟨17, some 23, (some (10, false)), .bin .neq (.t 19) (.t 22), []⟩,
⟨18, some 24, none, .pick (.t 10) (.c (.bool true)) (.t 23), []⟩,
⟨19, some 25, none, .mov (.t 24), []⟩,
⟨20, some 26, (some (25, false)), .nop 1, []⟩,
⟨21, some 27, (some (25, false)), .lload 1 0 none, []⟩,
⟨22, some 28, (some (25, false)), .nop 1, []⟩,
⟨23, some 29, (some (25, false)), .lload 1 1 none, []⟩,
⟨24, some 30, (some (25, false)), .call 1389 [.t 27, .t 29], []⟩,
⟨25, some 31, (some (25, false)), .not (.t 30), []⟩,
⟨26, some 32, none, .pick (.t 25) (.c (.bool true)) (.t 31), []⟩]
@[go_sem] theorem F1097_r0_r {E ks st Q} : type_of% (@opsE E ks st Q _ _ F1097_r0.eq_1) := opsE F1097_r0.eq_1
def F1097_k1 : ACode := .seq (.reg true F1097_r0) (.cond (.t 32) (.seq (.reg true [⟨0, some 2, none, .mov (.c (.bool false)), []⟩]) (.ret)) (.skip))
@[go_sem] theorem F1097_k1_r {E ks st Q} : type_of% (@codeE E ks st Q _ _ F1097_k1.eq_1) := codeE F1097_k1.eq_1
def F1097_r2 : List AOper := [⟨0, some 33, none, .nop 1, []⟩,
⟨1, some 34, none, .lload 1 2 none, []⟩,
⟨2, some 35, none, .bin .eql (.t 34) (.c (.int .i64 0)), []⟩,
⟨3, some 36, none, .nop 1, []⟩,
⟨4, some 37, none, .lload 1 3 none, []⟩,
⟨5, some 38, none, .len (.t 37), []⟩,
⟨6, some 39, none, .bin .eql (.t 38) (.c (.int .i64 0)), []⟩,
⟨7, some 3, none, .mov (.t 35), []⟩,
⟨8, some 4, none, .mov (.t 39), []⟩]
@[go_sem] theorem F1097_r2_r {E ks st Q} : type_of% (@opsE E ks st Q _ _ F1097_r2.eq_1) := opsE F1097_r2.eq_1
def F1097_r3 : List AOper := [⟨0, some 40, none, .nop 1, []⟩,
⟨1, some 41, none, .lload 1 3 none, []⟩,
⟨2, some 42, none, .call 397 [.t 41, .f 1390], []⟩,
⟨3, some 43, none, .not (.t 42), []⟩,
⟨4, some 5, none, .mov (.t 43), []⟩]
@[go_sem] theorem F1097_r3_r {E ks st Q} : type_of% (@opsE E ks st Q _ _ F1097_r3.eq_1) := opsE F1097_r3.eq_1
def F1097_r4 : List AOper := [⟨0, some 48, none, .nop 1, []⟩,
⟨1, some 49, none, .lload 1 2 none, []⟩,
⟨2, some 50, none, .call 1051 [.t 49], []⟩,
⟨3, some 3, none, .mov (.t 50), []⟩]
@[go_sem] theorem F1097_r4_r {E ks st Q} : type_of% (@opsE E ks st Q _ _ F1097_r4.eq_1) := opsE F1097_r4.eq_1
def F1097_r5 : List AOper := [⟨0, some 53, none, .nop 1, []⟩,
⟨1, some 54, none, .lload 1 2 none, []⟩,
⟨2, some 55, none, .call 1050 [.t 54], []⟩,
⟨3, some 3, none, .mov (.t 55), []⟩]
@[go_sem] theorem F1097_r5_r {E ks st Q} : type_of% (@opsE E ks st Q _ _ F1097_r5.eq_1) := opsE F1097_r5.eq_1
def F1097_r6 : List AOper := [⟨0, some 58, none, .nop 1, []⟩,
⟨1, some 59, none, .lload 1 2 none, []⟩,
⟨2, some 60, none, .call 1050 [.t 59], []⟩,
⟨3, some 61, none, .mov (.t 60), []⟩,
⟨4, some 62, (some (61, true)), .nop 1, []⟩,
⟨5, some 63, (some (61, true)), .lload 1 3 none, []⟩,
⟨6, some 64, (some (61, true)), .len (.t 63), []⟩,
⟨7, some 65, (some (61, true)), .bin .eql (.t 64) (.c (.int .i64 1)), []⟩,
⟨8, some 66, none, .pick (.t 61) (.t 65) (.c (.bool false)), []⟩,
⟨9, some 67, none, .mov (.t 66), []⟩,
⟨10, some 68, (some (67, true)), .nop 1, []⟩,
⟨11, some 69, (some (67, true)), .lload 1 3 none, []⟩,
⟨12, some 70, (some (67, true)), .iaddr 1 (.t 69) (.c (.int .i64 0)), []⟩,
⟨13, some 71, (some (67, true)), .load none (.t 70), []⟩,
⟨14, some 72, (some (67, true)), .call 1051 [.t 71], []⟩,
⟨15, some 73, none, .pick (.t 67) (.t 72) (.c (.bool false)), []⟩,
⟨16, some 2, none, .mov (.t 73), []⟩]
@[go_sem] theorem F1097_r6_r {E ks st Q} : type_of% (@opsE E ks st Q _ _ F1097_r6.eq_1) := opsE F1097_r6.eq_1
def F1097_k7 : ACode := .seq (.reg true F1097_r6) (.ret)
@[go_sem] theorem F1097_k7_r {E ks st Q} : type_of% (@codeE E ks st Q _ _ F1097_k7.eq_1) := codeE F1097_k7.eq_1
def F1097_r8 : List AOper := [⟨0, some 76, none, .nop 1, []⟩,
⟨1, some 77, none, .lload 1 2 none, []⟩,
⟨2, some 78, none, .bin .geq (.t 77) (.c (.int .i64 0)), []⟩,
⟨3, some 79, none, .mov (.t 78), []⟩,
⟨4, some 80, (some (79, true)), .nop 1, []⟩,
⟨5, some 81, (some (79, true)), .lload 1 2 none, []⟩,
⟨6, some 82, (some (79, true)), .bin .lss (.t 81) (.c (.int .i64 4)), []⟩,
⟨7, some 83, none, .pick (.t 79) (.t 82) (.c (.bool false)), []⟩,
⟨8, some 3, none, .mov (.t 83), []⟩]
@[go_sem] theorem F1097_r8_r {E ks st Q} : type_of% (@opsE E ks st Q _ _ F1097_r8.eq_1) := opsE F1097_r8.eq_1
def F1097_r9 : List AOper := [⟨0, some 86, none, .nop 1, []⟩,
⟨1, some 87, none, .lload 1 3 none, []⟩,
⟨2, some 88, none, .len (.t 87), []⟩,
⟨3, some 89, none, .bin .geq (.t 88) (.c (.int .i64 1)), []⟩,
⟨4, some 90, none, .mov (.t 89), []⟩,
⟨5, some 91, (some (90, true)), .nop 1, []⟩,
⟨6, some 92, (some (90, true)), .lload 1 3 none, []⟩,
⟨7, some 93, (some (90, true)), .len (.t 92), []⟩,
⟨8, some 94, (some (90, true)), .bin .leq (.t 93) (.c (.int .i64 4)), []⟩,
⟨9, some 95, none, .pick (.t 90) (.t 94) (.c (.bool false)), []⟩,
⟨10, some 96, none, .mov (.t 95), []⟩,
⟨11, some 97, (some (96, true)), .mov (.t 5), []⟩,
⟨12, some 98, none, .pick (.t 96) (.t 97) (.c (.bool false)), []⟩,
⟨13, some 4, none, .mov (.t 98), []⟩]
@[go_sem] theorem F1097_r9_r {E ks st Q} : type_of% (@opsE E ks st Q _ _ F1097_r9.eq_1) := opsE F1097_r9.eq_1
def F1097_r10 : List AOper := [⟨0, some 101, none, .nop 1, []⟩,
⟨1, some 102, none, .lload 1 3 none, []⟩,
⟨2, some 103, none, .len (.t 102), []⟩,
⟨3, some 104, none, .bin .eql (.t 103) (.c (.int .i64 2)), []⟩,
⟨4, some 105, none, .mov (.t 104), []⟩,
⟨5, some 106, (some (105, true)), .mov (.t 5), []⟩,
⟨6, some 107, none, .pick (.t 105) (.t 106) (.c (.bool false)), []⟩,
⟨7, some 4, none, .mov (.t 107), []⟩]
@[go_sem] theorem F1097_r10_r {E ks st Q} : type_of% (@opsE E ks st Q _ _ F1097_r10.eq_1) := opsE F1097_r10.eq_1
def F1097_r11 : List AOper := [⟨0, some 110, none, .nop 1, []⟩,
⟨1, some 111, none, .lload 1 2 none, []⟩,
⟨2, some 112, none, .call 796 [.t 111], []⟩,
⟨3, some 3, none, .mov (.t 112), []⟩]
@[go_sem] theorem F1097_r11_r {E ks st Q} : type_of% (@opsE E ks st Q _ _ F1097_r11.eq_1) := opsE F1097_r11.eq_1
def F1097_k12 : ACode := .cond (.t 108) (.reg true F1097_r11) (.skip)
@[go_sem] theorem F1097_k12_r {E ks st Q} : type_of% (@codeE E ks st Q _ _ F1097_k12.eq_1) := codeE F1097_k12.eq_1
def F1097_k13 : ACode := .seq (.reg true [⟨0, some 109, none, .bin .eql (.t 45) (.c (.int .i64 12)), []⟩,
⟨1, some 108, none, .mov (.t 109), []⟩]) F1097_k12
@[go_sem] theorem F1097_k13_r {E ks st Q} : type_of% (@codeE E ks st Q _ _ F1097_k13.eq_1) := codeE F1097_k13.eq_1
def F1097_k14 : ACode := .cond (.t 99) (.reg true F1097_r10) F1097_k13
@[go_sem] theorem F1097_k14_r {E ks st Q} : type_of% (@codeE E ks st Q _ _ F1097_k14.eq_1) := codeE F1097_k14.eq_1
def F1097_k15 : ACode := .seq (.reg true [⟨0, some 100, none, .bin .eql (.t 45) (.c (.int .i64 11)), []⟩,
⟨1, some 99, none, .mov (.t 100), []⟩]) F1097_k14
@[go_sem] theorem F1097_k15_r {E ks st Q} : type_of% (@codeE E ks st Q _ _ F1097_k15.eq_1) := codeE F1097_k15.eq_1
def F1097_k16 : ACode := .cond (.t 84) (.reg true F1097_r9) F1097_k15
@[go_sem] theorem F1097_k16_r {E ks st Q} : type_of% (@codeE E ks st Q _ _ F1097_k16.eq_1) := codeE F1097_k16.eq_1
def F1097_k17 : ACode := .seq (.reg true [⟨0, some 85, none, .bin .eql (.t 45) (.c (.int .i64 10)), []⟩,
⟨1, some 84, none, .mov (.t 85), []⟩]) F1097_k16
@[go_sem] theorem F1097_k17_r {E ks st Q} : type_of% (@codeE E ks st Q _ _ F1097_k17.eq_1) := codeE F1097_k17.eq_1
def F1097_k18 : ACode := .cond (.t 74) (.reg true F1097_r8) F1097_k17
@[go_sem] theorem F1097_k18_r {E ks st Q} : type_of% (@codeE E ks st Q _ _ F1097_k18.eq_1) := codeE F1097_k18.eq_1
def F1097_k19 : ACode := .seq (.reg true [⟨0, some 75, none, .bin .eql (.t 45) (.c (.int .i64 9)), []⟩,
⟨1, some 74, none, .mov (.t 75), []⟩]) F1097_k18
@[go_sem] theorem F1097_k19_r {E ks st Q} : type_of% (@codeE E ks st Q _ _ F1097_k19.eq_1) := codeE F1097_k19.eq_1
def F1097_k20 : ACode := .cond (.t 56) F1097_k7 F1097_k19
@[go_sem] theorem F1097_k20_r {E ks st Q} : type_of% (@codeE E ks st Q _ _ F1097_k20.eq_1) := codeE F1097_k20.eq_1
def F1097_k21 : ACode := .seq (.reg true [⟨0, some 57, none, .bin .eql (.t 45) (.c (.int .i64 8)), []⟩,
⟨1, some 56, none, .mov (.t 57), []⟩]) F1097_k20
@[go_sem] theorem F1097_k21_r {E ks st Q} : type_of% (@codeE E ks st Q _ _ F1097_k21.eq_1) := codeE F1097_k21.eq_1
def F1097_k22 : ACode := .cond (.t 51) (.reg true F1097_r5) F1097_k21
@[go_sem] theorem F1097_k22_r {E ks st Q} : type_of% (@codeE E ks st Q _ _ F1097_k22.eq_1) := codeE F1097_k22.eq_1
def F1097_k23 : ACode := .seq (.reg true [⟨0, some 52, none, .bin .eql (.t 45) (.c (.int .i64 7)), []⟩,
⟨1, some 51, none, .mov (.t 52), []⟩]) F1097_k22
@[go_sem] theorem F1097_k23_r {E ks st Q} : type_of% (@codeE E ks st Q _ _ F1097_k23.eq_1) := codeE F1097_k23.eq_1
def F1097_k24 : ACode := .cond (.t 46) (.reg true F1097_r4) F1097_k23
@[go_sem] theorem F1097_k24_r {E ks st Q} : type_of% (@codeE E ks st Q _ _ F1097_k24.eq_1) := codeE F1097_k24.eq_1
def F1097_k25 : ACode := .seq (.reg true [⟨0, some 47, none, .bin .eql (.t 45) (.c (.int .i64 6)), []⟩,
⟨1, some 46, none, .mov (.t 47), []⟩]) F1097_k24
@[go_sem] theorem F1097_k25_r {E ks st Q} : type_of% (@codeE E ks st Q _ _ F1097_k25.eq_1) := codeE F1097_k25.eq_1
def F1097_k26 : ACode := .blk 0 F1097_k25
@[go_sem] theorem F1097_k26_r {E ks st Q} : type_of% (@codeE E ks st Q _ _ F1097_k26.eq_1) := codeE F1097_k26.eq_1
def F1097_k27 : ACode := .seq (.reg true [⟨0, some 44, none, .nop 1, []⟩,
⟨1, some 45, none, .lload 1 0 none, []⟩]) F1097_k26
@[go_sem] theorem F1097_k27_r {E ks st Q} : type_of% (@codeE E ks st Q _ _ F1097_k27.eq_1) := codeE F1097_k27.eq_1
def F1097_r28 : List AOper := [⟨0, some 113, none, .mov (.t 3), []⟩,
⟨1, some 114, none, .mov (.t 113), []⟩,
⟨2, some 115, (some (114, true)), .mov (.t 4), []⟩,
⟨3, some 116, none, .pick (.t 114) (.t 115) (.c (.bool false)), []⟩,
⟨4, some 2, none, .mov (.t 116), []⟩]
@[go_sem] theorem F1097_r28_r {E ks st Q} : type_of% (@opsE E ks st Q _ _ F1097_r28.eq_1) := opsE F1097_r28.eq_1
def F1097_k29 : ACode := .seq (.reg true F1097_r28) (.ret)
@[go_sem] theorem F1097_k29_r {E ks st Q} : type_of% (@codeE E ks st Q _ _ F1097_k29.eq_1) := codeE F1097_k29.eq_1
def F1097_k30 : ACode := .seq F1097_k27 F1097_k29
@[go_sem] theorem F1097_k30_r {E ks st Q} : type_of% (@codeE E ks st Q _ _ F1097_k30.eq_1) := codeE F1097_k30.eq_1
def F1097_k31 : ACode := .seq (.reg true F1097_r3) F1097_k30
@[go_sem] theorem F1097_k31_r {E ks st Q} : type_of% (@codeE E ks st Q _ _ F1097_k31.eq_1) := codeE F1097_k31.eq_1
def F1097_k32 : ACode := .seq (.reg true F1097_r2) F1097_k31
@[go_sem] theorem F1097_k32_r {E ks st Q} : type_of% (@codeE E ks st Q _ _ F1097_k32.eq_1) := codeE F1097_k32.eq_1
def F1097_k33 : ACode := .seq F1097_k1 F1097_k32
@[go_sem] theorem F1097_k33_r {E ks st Q} : type_of% (@codeE E ks st Q _ _ F1097_k33.eq_1) := codeE F1097_k33.eq_1
def F1097 : AFun := ⟨1, 117, [.t 2], .seq (.reg true [⟨0, some 1, none, .lbox 5 (.t 0), []⟩,
⟨1, some 2, none, .mov (.c (.bool false)), []⟩]) F1097_k33⟩
def F711_r0 : List AOper := [⟨0, some 5, none, .mov (.t 0), []⟩,
⟨1, some 6, none, .len (.t 5), []⟩,
⟨2, some 7, none, .bin .lss (.t 6) (.c (.int .i64 1)), []⟩,
⟨3, some 8, none, .mov (.t 7), []⟩,
⟨4, some 9, (some (8, false)), .mov (.t 0), []⟩,
⟨5, some 10, (some (8, false)), .len (.t 9), []⟩,
⟨6, some 11, (some (8, false)), .bin .gtr (.t 10) (.c (.int .i64 600)), []⟩,
⟨7, some 12, none, .pick (.t 8) (.c (.bool true)) (.t 11), []⟩]
@[go_sem] theorem F711_r0_r {E ks st Q} : type_of% (@opsE E ks st Q _ _ F711_r0.eq_1) := opsE F711_r0.eq_1
def F711_k1 : ACode := .seq (.reg true F711_r0) (.cond (.t 12) (.seq (.reg true [⟨0, some 2, none, .mov (.c (.bool false)), []⟩]) (.ret)) (.skip))
@[go_sem] theorem F711_k1_r {E ks st Q} : type_of% (@codeE E ks st Q _ _ F711_k1.eq_1) := codeE F711_k1.eq_1
def F711_r2 : List AOper := [⟨0, some 13, none, .mov (.t 0), []⟩,
⟨1, some 14, none, .len (.t 13), []⟩,
⟨2, some 15, none, .mov (.c (.int .i64 0)), []⟩]
@[go_sem] theorem F711_r2_r {E ks st Q} : type_of% (@opsE E ks st Q _ _ F711_r2.eq_1) := opsE F711_r2.eq_1
def F711_r3 : List AOper := [⟨0, some 17, none, .mov (.t 15), []⟩,
⟨1, some 18, none, .iaddr 5 (.t 13) (.t 15), []⟩,
⟨2, some 19, none, .load (some 5) (.t 18), []⟩,
⟨3, some 4, none, .lalloc (.agg [.int .i64 0, .int .i64 0, .int .i64 0, .nils, .nils]), []⟩,
⟨4, some 3, none, .mov (.t 17), []⟩,
⟨5, none, none, .lstore 4 0 5 (.t 19), []⟩]
@[go_sem] theorem F711_r3_r {E ks st Q} : type_of% (@opsE E ks st Q _ _ F711_r3.eq_1) := opsE F711_r3.eq_1
def F711_r4 : List AOper := [⟨0, some 20, none, .lload 4 0 (some 5), []⟩,
⟨1, some 21, none, .call 1097 [.t 20], []⟩,
⟨2, some 22, none, .not (.t 21), []⟩,
⟨3, some 23, none, .mov (.t 22), []⟩,
⟨4, some 24, (some (23, false)), .nop 4, []⟩,
⟨5, some 25, (some (23, false)), .lload 4 0 none, []⟩,
⟨6, some 26, (some (23, false)), .bin .eql (.t 25) (.c (.int .i64 1)), []⟩,
⟨7, some 27, (some (23, false)), .mov (.t 3), []⟩,
⟨8, some 28, (some (23, false)), .bin .eql (.t 27) (.c (.int .i64 0)), []⟩,
⟨9, some 29, (some (23, false)), .beq true (.t 26) (.t 28), []⟩,
⟨10, some 30, none, .pick (.t 23) (.c (.bool true)) (.t 29), []⟩]
@[go_sem] theorem F711_r4_r {E ks st Q} : type_of% (@opsE E ks st Q _ _ F711_r4.eq_1) := opsE F711_r4.eq_1
def F711_k5 : ACode := .seq (.reg true F711_r4) (.cond (.t 30) (.seq (.reg true [⟨0, some 2, none, .mov (.c (.bool false)), []⟩]) (.ret)) (.skip))
@[go_sem] theorem F711_k5_r {E ks st Q} : type_of% (@codeE E ks st Q _ _ F711_k5.eq_1) := codeE F711_k5.eq_1
def F711_k6 : ACode := .seq (.reg true F711_r3) F711_k5
@[go_sem] theorem F711_k6_r {E ks st Q} : type_of% (@codeE E ks st Q _ _ F711_k6.eq_1) := codeE F711_k6.eq_1
def F711_k7 : ACode := .blk 1 F711_k6
@[go_sem] theorem F711_k7_r {E ks st Q} : type_of% (@codeE E ks st Q _ _ F711_k7.eq_1) := codeE F711_k7.eq_1
def F711_k8 : ACode := .seq F711_k7 (.reg true [⟨0, some 31, none, .bin .add (.t 15) (.c (.int .i64 1)), []⟩,
⟨1, some 15, none, .mov (.t 31), []⟩])
@[go_sem] theorem F711_k8_r {E ks st Q} : type_of% (@codeE E ks st Q _ _ F711_k8.eq_1) := codeE F711_k8.eq_1
def F711_k9 : ACode := .seq (.cond (.t 16) (.skip) (.exit 0)) F711_k8
@[go_sem] theorem F711_k9_r {E ks st Q} : type_of% (@codeE E ks st Q _ _ F711_k9.eq_1) := codeE F711_k9.eq_1
def F711_k10 : ACode := .seq (.reg true [⟨0, some 16, none, .bin .lss (.t 15) (.t 14), []⟩]) F711_k9
@[go_sem] theorem F711_k10_r {E ks st Q} : type_of% (@codeE E ks st Q _ _ F711_k10.eq_1) := codeE F711_k10.eq_1
def F711_k11 : ACode := .loop F711_k10
@[go_sem] theorem F711_k11_r {E ks st Q} : type_of% (@codeE E ks st Q _ _ F711_k11.eq_1) := codeE F711_k11.eq_1
def F711_k12 : ACode := .blk 0 F711_k11
@[go_sem] theorem F711_k12_r {E ks st Q} : type_of% (@codeE E ks st Q _ _ F711_k12.eq_1) := codeE F711_k12.eq_1
def F711_k13 : ACode := .seq (.reg true F711_r2) F711_k12
@[go_sem] theorem F711_k13_r {E ks st Q} : type_of% (@codeE E ks st Q _ _ F711_k13.eq_1) := codeE F711_k13.eq_1
def F711_k14 : ACode := .seq F711_k13 (.seq (.reg true [⟨0, some 2, none, .mov (.c (.bool true)), []⟩]) (.ret))
@[go_sem] theorem F711_k14_r {E ks st Q} : type_of% (@codeE E ks st Q _ _ F711_k14.eq_1) := codeE F711_k14.eq_1
def F711_k15 : ACode := .seq F711_k1 F711_k14
@[go_sem] theorem F711_k15_r {E ks st Q} : type_of% (@codeE E ks st Q _ _ F711_k15.eq_1) := codeE F711_k15.eq_1
def F711 : AFun := ⟨1, 32, [.t 2], .seq (.reg true [⟨0, some 2, none, .mov (.c (.bool false)), []⟩]) F711_k15⟩
def F1098 : AFun := idxF 2 (some 2)
def F712 : AFun := ctnF 1098
def F555_r0 : List AOper := [⟨0, some 5, none, .mov (.t 0), []⟩,
⟨1, some 6, none, .nilchk (.t 5), []⟩,
⟨2, some 7, none, .faddr 0 (.t 6), []⟩,
⟨3, some 8, none, .load none (.t 7), []⟩,
⟨4, some 9, none, .nop 3, []⟩,
⟨5, some 10, none, .lload 3 0 none, []⟩,
⟨6, some 11, none, .iaddr 5 (.t 8) (.t 10), []⟩,
⟨7, some 12, none, .faddr 4 (.t 11), []⟩,
⟨8, some 13, none, .load none (.t 12), []⟩,
⟨9, some 14, none, .nop 3, []⟩,
⟨10, some 15, none, .lload 3 1 none, []⟩,
⟨11, some 16, none, .iaddr 2 (.t 13) (.t 15), []⟩,
⟨12, some 17, none, .load (some 2) (.t 16), []⟩,
⟨13, none, none, .lstore 4 0 2 (.t 17), []⟩]
@[go_sem] theorem F555_r0_r {E ks st Q} : type_of% (@opsE E ks st Q _ _ F555_r0.eq_1) := opsE F555_r0.eq_1
def F555_k1 : ACode := .seq (.reg true F555_r0) (.ret)
@[go_sem] theorem F555_k1_r {E ks st Q} : type_of% (@codeE E ks st Q _ _ F555_k1.eq_1) := codeE F555_k1.eq_1
def F555 : AFun := ⟨2, 18, [.l 4 (some 2)], .seq (.reg true [⟨0, some 3, none, .lbox 2 (.t 1), []⟩,
⟨1, some 4, none, .lalloc (.agg [.int .i64 0, .int .i64 0]), []⟩]) F555_k1⟩
def F714_r0 : List AOper := [⟨0, some 5, none, .nop 3, []⟩,
⟨1, some 6, none, .lload 3 0 none, []⟩,
⟨2, some 7, none, .bin .geq (.t 6) (.c (.int .i64 0)), []⟩,
⟨3, some 8, none, .mov (.t 7), []⟩,
⟨4, some 9, (some (8, true)), .nop 3, []⟩,
⟨5, some 10, (some (8, true)), .lload 3 0 none, []⟩,
⟨6, some 11, (some (8, true)), .mov (.t 0), []⟩,
⟨7, some 12, (some (8, true)), .len (.t 11), []⟩,
⟨8, some 13, (some (8, true)), .bin .lss (.t 10) (.t 12), []⟩,
⟨9, some 14, none, .pick (.t 8) (.t 13) (.c (.bool false)), []⟩,
⟨10, some 15, none, .mov (.t 14), []⟩,
⟨11, some 16, (some (15, true)), .nop 3, []⟩,
⟨12, some 17, (some (15, true)), .lload 3 1 none, []⟩,
⟨13, some 18, (some (15, true)), .bin .geq (.t 17) (.c (.int .i64 0)), []⟩,
⟨14, some 19, none, .pick (.t 15) (.t 18) (.c (.bool false)), []⟩,
⟨15, some 20, none, .mov (.t 19), []⟩,
⟨16, some 21, (some (20, true)), .nop 3, []⟩,
⟨17, some 22, (some (20, true)), .lload 3 1 none, []⟩,
⟨18, some 23, (some (20, true)), .mov (.t 0), []⟩,
⟨19, some 24, (some (20, true)), .nop 3, []⟩,
⟨20, some 25, (some (20, true)), .lload 3 0 none, []⟩,
⟨21, some 26, (some (20, true)), .iaddr 5 (.t 23) (.t 25), []⟩,
⟨22, some 27, (some (20, true)), .faddr 4 (.t 26), []⟩,
⟨23, some 28, (some (20, true)), .load none (.t 27), []⟩,
⟨24, some 29, (some (20, true)), .len (.t 28), []⟩,
⟨25, some 30, (some (20, true)), .bin .lss (.t 22) (.t 29), []⟩,
⟨26, some 31, none, .pick (.t 20) (.t 30) (.c (.bool false)), []⟩,
⟨27, some 4, none, .mov (.t 31), []⟩]
@[go_sem] theorem F714_r0_r {E ks st Q} : type_of% (@opsE E ks st Q _ _ F714_r0.eq_1) := opsE F714_r0.eq_1
def F714_k1 : ACode := .seq (.reg true F714_r0) (.ret)
@[go_sem] theorem F714_k1_r {E ks st Q} : type_of% (@codeE E ks st Q _ _ F714_k1.eq_1) := codeE F714_k1.eq_1
def F714 : AFun := ⟨2, 32, [.t 4], .seq (.reg true [⟨0, some 3, none, .lbox 2 (.t 1), []⟩,
⟨1, some 4, none, .mov (.c (.bool false)), []⟩]) F714_k1⟩
def F713_r0 : List AOper := [⟨0, some 5, none, .lload 2 0 (some 2), []⟩,
⟨1, some 6, none, .call 555 [.t 1, .t 5], []⟩,
⟨2, some 4, none, .lalloc (.agg [.int .i64 0, .int .i64 0]), []⟩,
⟨3, none, none, .lstore 4 0 2 (.t 6), []⟩]
@[go_sem] theorem F713_r0_r {E ks st Q} : type_of% (@opsE E ks st Q _ _ F713_r0.eq_1) := opsE F713_r0.eq_1
def F713_r1 : List AOper := [⟨0, some 7, none, .lload 4 0 (some 2), []⟩,
⟨1, some 8, none, .lload 2 0 (some 2), []⟩,
⟨2, some 9, none, .seq false [1, 1] (.t 7) (.t 8), []⟩,
⟨3, some 10, none, .mov (.t 9), []⟩,
⟨4, some 11, (some (10, false)), .faddr 0 (.t 1), []⟩,
⟨5, some 12, (some (10, false)), .load none (.t 11), []⟩,
⟨6, some 13, (some (10, false)), .lload 4 0 (some 2), []⟩,
⟨7, some 14, (some (10, false)), .call 714 [.t 12, .t 13], []⟩,
⟨8, some 15, (some (10, false)), .not (.t 14), []⟩,
⟨9, some 16, none, .pick (.t 10) (.c (.bool true)) (.t 15), []⟩,
⟨10, some 17, none, .mov (.t 16), []⟩,
⟨11, some 18, (some (17, false)), .lload 4 0 (some 2), []⟩,
⟨13, some 20, (some (17, false)), .lload 2 0 (some 2), []⟩,
⟨12, some 19, (some (17, false)), .call 555 [.t 1, .t 18], []⟩,
⟨14, some 21, (some (17, false)), .seq true [1, 1] (.t 19) (.t 20), []⟩,
⟨15, some 22, none, .pick (.t 17) (.c (.bool true)) (.t 21), []⟩,
⟨16, some 3, none, .mov (.t 22), []⟩]
@[go_sem] theorem F713_r1_r {E ks st Q} : type_of% (@opsE E ks st Q _ _ F713_r1.eq_1) := opsE F713_r1.eq_1
def F713_k2 : ACode := .seq (.reg true F713_r1) (.ret)
@[go_sem] theorem F713_k2_r {E ks st Q} : type_of% (@codeE E ks st Q _ _ F713_k2.eq_1) := codeE F713_k2.eq_1
def F713_k3 : ACode := .seq (.reg true F713_r0) F713_k2
@[go_sem] theorem F713_k3_r {E ks st Q} : type_of% (@codeE E ks st Q _ _ F713_k3.eq_1) := codeE F713_k3.eq_1
def F713 : AFun := ⟨2, 23, [.t 3], .seq (.reg true [⟨0, some 2, none, .lbox 2 (.t 0), []⟩,
⟨1, some 3, none, .mov (.c (.bool false)), []⟩]) F713_k3⟩
def F319_r0 : List AOper := [⟨0, some 3, none, .faddr 0 (.t 1), []⟩,
⟨1, some 4, none, .load none (.t 3), []⟩,
⟨2, some 5, none, .call 711 [.t 4], []⟩,
⟨3, some 6, none, .not (.t 5), []⟩]
@[go_sem] theorem F319_r0_r {E ks st Q} : type_of% (@opsE E ks st Q _ _ F319_r0.eq_1) := opsE F319_r0.eq_1
def F319_k1 : ACode := .seq (.reg true F319_r0) (.cond (.t 6) (.seq (.reg true [⟨0, some 2, none, .mov (.c (.bool false)), []⟩]) (.ret)) (.skip))
@[go_sem] theorem F319_k1_r {E ks st Q} : type_of% (@codeE E ks st Q _ _ F319_k1.eq_1) := codeE F319_k1.eq_1
def F319_r2 : List AOper := [⟨0, some 7, none, .call 554 [.t 1], []⟩,
⟨1, some 8, none, .mkfn 713 [.t 1], []⟩,
⟨2, some 9, none, .call 712 [.t 7, .t 8], []⟩,
⟨3, some 10, none, .not (.t 9), []⟩,
⟨4, some 2, none, .mov (.t 10), []⟩]
@[go_sem] theorem F319_r2_r {E ks st Q} : type_of% (@opsE E ks st Q _ _ F319_r2.eq_1) := opsE F319_r2.eq_1
def F319_k3 : ACode := .seq (.reg true F319_r2) (.ret)
@[go_sem] theorem F319_k3_r {E ks st Q} : type_of% (@codeE E ks st Q _ _ F319_k3.eq_1) := codeE F319_k3.eq_1
def F319_k4 : ACode := .seq F319_k1 F319_k3
@[go_sem] theorem F319_k4_r {E ks st Q} : type_of% (@codeE E ks st Q _ _ F319_k4.eq_1) := codeE F319_k4.eq_1
def F319 : AFun := ⟨1, 11, [.t 2], .seq (.reg true [⟨0, some 1, none, .hbox 1 (.t 0), []⟩,
⟨1, some 2, none, .mov (.c (.bool false)), []⟩]) F319_k4⟩
def F860_r0 : List AOper := [⟨0, some 3, none, .lload 1 0 (some 1), []⟩,
⟨1, some 4, none, .call 319 [.t 3], []⟩,
⟨2, some 5, none, .not (.t 4), []⟩,
⟨3, some 2, none, .mov (.t 5), []⟩]
@[go_sem] theorem F860_r0_r {E ks st Q} : type_of% (@opsE E ks st Q _ _ F860_r0.eq_1) := opsE F860_r0.eq_1
def F860_k1 : ACode := .seq (.reg true F860_r0) (.ret)
@[go_sem] theorem F860_k1_r {E ks st Q} : type_of% (@codeE E ks st Q _ _ F860_k1.eq_1) := codeE F860_k1.eq_1
def F860 : AFun := ⟨1, 6, [.t 2], .seq (.reg true [⟨0, some 1, none, .lbox 1 (.t 0), []⟩,
⟨1, some 2, none, .mov (.c (.bool false)), []⟩]) F860_k1⟩
def F505_r0 : List AOper := [⟨0, some 3, none, .mov (.t 0), []⟩,
⟨1, some 4, none, .len (.t 3), []⟩,
⟨2, some 5, none, .bin .leq (.t 4) (.c (.int .i64 24)), []⟩,
⟨3, some 6, none, .mov (.t 5), []⟩,
⟨4, some 7, (some (6, true)), .mov (.t 0), []⟩,
⟨5, some 8, (some (6, true)), .call 859 [.t 7, .f 860], []⟩,
⟨6, some 9, (some (6, true)), .not (.t 8), []⟩,
⟨7, some 10, none, .pick (.t 6) (.t 9) (.c (.bool false)), []⟩,
⟨8, some 2, none, .mov (.t 10), []⟩]
@[go_sem] theorem F505_r0_r {E ks st Q} : type_of% (@opsE E ks st Q _ _ F505_r0.eq_1) := opsE F505_r0.eq_1
def F505_k1 : ACode := .seq (.reg true F505_r0) (.ret)
@[go_sem] theorem F505_k1_r {E ks st Q} : type_of% (@codeE E ks st Q _ _ F505_k1.eq_1) := codeE F505_k1.eq_1
def F505 : AFun := ⟨1, 11, [.t 2], .seq (.reg true [⟨0, some 2, none, .mov (.c (.bool false)), []⟩]) F505_k1⟩
def F1397 : AFun := idxF 3 (some 3)
def F1112 : AFun := ctnF 1397
def F1114_r0 : List AOper := [⟨0, some 5, none, .mov (.t 1), []⟩,
⟨1, some 6, none, .nop 2, []⟩,
⟨2, some 7, none, .lload 2 0 none, []⟩,
⟨3, some 8, none, .bslice 1 (.int .i64 0) 1 [(0, .t 7)], []⟩,
⟨4, some 9, none, .call 436 [.t 5, .t 8], []⟩,
⟨5, some 10, none, .mov (.t 9), []⟩,
⟨6, some 11, (some (10, true)), .nop 2, []⟩,
⟨7, some 12, (some (10, true)), .lload 2 1 none, []⟩,
⟨8, some 13, (some (10, true)), .bin .geq (.t 12) (.c (.int .i64 (-1))), []⟩,
⟨9, some 14, none, .pick (.t 10) (.t 13) (.c (.bool false)), []⟩,
⟨10, some 15, none, .mov (.t 14), []⟩,
⟨11, some 16, (some (15, true)), .nop 2, []⟩,
⟨12, some 17, (some (15, true)), .lload 2 1 none, []⟩,
⟨13, some 18, (some (15, true)), .bin .lss (.t 17) (.c (.int .i64 24)), []⟩,
⟨14, some 19, none, .pick (.t 15) (.t 18) (.c (.bool false)), []⟩,
⟨15, some 20, none, .mov (.t 19), []⟩,
⟨16, some 21, (some (20, true)), .nop 2, []⟩,
⟨17, some 22, (some (20, true)), .lload 2 2 none, []⟩,
⟨18, some 23, (some (20, true)), .bin .geq (.t 22) (.c (.int .i64 (-1))), []⟩,
⟨19, some 24, none, .pick (.t 20) (.t 23) (.c (.bool false)), []⟩,
⟨20, some 25, none, .mov (.t 24), []⟩,
⟨21, some 26, (some (25, true)), .nop 2, []⟩,
⟨22, some 27, (some (25, true)), .lload 2 2 none, []⟩,
⟨23, some 28, (some (25, true)), .bin .lss (.t 27) (.c (.int .i64 600)), []⟩,
⟨24, some 29, none, .pick (.t 25) (.t 28) (.c (.bool false)), []⟩,
⟨25, some 30, none, .mov (.t 29), []⟩,
⟨26, some 31, (some (30, true)), .nop 2, []⟩,
⟨27, some 32, (some (30, true)), .lload 2 2 none, []⟩,
⟨28, some 33, (some (30, true)), .bin .neq (.t 32) (.c (.int .i64 (-1))), []⟩,
⟨29, some 34, (some (30, true)), .mov (.t 33), []⟩,
⟨30, some 35, (some (34, false)), .nop 2, []⟩,
⟨31, some 36, (some (34, false)), .lload 2 1 none, []⟩,
⟨32, some 37, (some (34, false)), .bin .eql (.t 36) (.c (.int .i64 (-1))), []⟩,
⟨33, some 38, (some (30, true)), .pick (.t 34) (.c (.bool true)) (.t 37), []⟩,
⟨34, some 39, none, .pick (.t 30) (.t 38) (.c (.bool false)), []⟩,
⟨35, some 4, none, .mov (.t 39), []⟩]
@[go_sem] theorem F1114_r0_r {E ks st Q} : type_of% (@opsE E ks st Q _ _ F1114_r0.eq_1) := opsE F1114_r0.eq_1
def F1114_k1 : ACode := .seq (.reg true F1114_r0) (.ret)
@[go_sem] theorem F1114_k1_r {E ks st Q} : type_of% (@codeE E ks st Q _ _ F1114_k1.eq_1) := codeE F1114_k1.eq_1
def F1114 : AFun := ⟨2, 40, [.t 4], .seq (.reg true [⟨0, some 2, none, .lbox 3 (.t 0), []⟩,
⟨1, some 4, none, .mov (.c (.bool false)), []⟩]) F1114_k1⟩
def F1113_r0 : List AOper := [⟨0, some 4, none, .lload 2 0 (some 3), []⟩,
⟨1, some 5, none, .load none (.t 1), []⟩,
⟨2, some 6, none, .call 1114 [.t 4, .t 5], []⟩,
⟨3, some 7, none, .not (.t 6), []⟩,
⟨4, some 3, none, .mov (.t 7), []⟩]
@[go_sem] theorem F1113_r0_r {E ks st Q} : type_of% (@opsE E ks st Q _ _ F1113_r0.eq_1) := opsE F1113_r0.eq_1
def F1113_k1 : ACode := .seq (.reg true F1113_r0) (.ret)
@[go_sem] theorem F1113_k1_r {E ks st Q} : type_of% (@codeE E ks st Q _ _ F1113_k1.eq_1) := codeE F1113_k1.eq_1
def F1113 : AFun := ⟨2, 8, [.t 3], .seq (.reg true [⟨0, some 2, none, .lbox 3 (.t 0), []⟩,
⟨1, some 3, none, .mov (.c (.bool false)), []⟩]) F1113_k1⟩
def F747_r0 : List AOper := [⟨0, some 3, none, .lbox 1 (.t 0), []⟩,
⟨1, some 5, none, .hbox 1 (.t 2), []⟩,
⟨2, some 6, none, .mov (.c (.bool false)), []⟩]
@[go_sem] theorem F747_r0_r {E ks st Q} : type_of% (@opsE E ks st Q _ _ F747_r0.eq_1) := opsE F747_r0.eq_1
def F747_r1 : List AOper := [⟨0, some 7, none, .lload 3 0 (some 1), []⟩,
⟨1, some 8, none, .call 319 [.t 7], []⟩,
⟨2, some 9, none, .mov (.t 8), []⟩,
⟨3, some 10, (some (9, true)), .mov (.t 1), []⟩,
⟨4, some 11, (some (9, true)), .len (.t 10), []⟩,
⟨5, some 12, (some (9, true)), .nop 3, []⟩,
⟨6, some 13, (some (9, true)), .lload 3 0 none, []⟩,
⟨7, some 14, (some (9, true)), .len (.t 13), []⟩,
⟨8, some 15, (some (9, true)), .bin .eql (.t 11) (.t 14), []⟩,
⟨9, some 16, none, .pick (.t 9) (.t 15) (.c (.bool false)), []⟩,
⟨10, some 17, none, .mov (.t 16), []⟩,
⟨11, some 18, (some (17, true)), .mov (.t 1), []⟩,
⟨12, some 19, (some (17, true)), .mkfn 1113 [.t 5], []⟩,
⟨13, some 20, (some (17, true)), .call 1112 [.t 18, .t 19], []⟩,
⟨14, some 21, (some (17, true)), .not (.t 20), []⟩,
⟨15, some 22, none, .pick (.t 17) (.t 21) (.c (.bool false)), []⟩,
⟨16, some 6, none, .mov (.t 22), []⟩]
@[go_sem] theorem F747_r1_r {E ks st Q} : type_of% (@opsE E ks st Q _ _ F747_r1.eq_1) := opsE F747_r1.eq_1
def F747_k2 : ACode := .seq (.reg true F747_r1) (.ret)
@[go_sem] theorem F747_k2_r {E ks st Q} : type_of% (@codeE E ks st Q _ _ F747_k2.eq_1) := codeE F747_k2.eq_1
def F747 : AFun := ⟨3, 23, [.t 6], .seq (.reg true F747_r0) F747_k2⟩
def F771 : AFun := idxF 2 (some 2)
def F748 : AFun := ctnF 771
def F428_r0 : List AOper := [⟨0, some 7, none, .nop 1, []⟩,
⟨1, some 8, none, .lload 1 1 none, []⟩,
⟨2, some 9, none, .bin .geq (.t 8) (.c (.int .i64 1)), []⟩,
⟨3, some 10, none, .mov (.t 9), []⟩,
⟨4, some 11, (some (10, true)), .nop 1, []⟩,
⟨5, some 12, (some (10, true)), .lload 1 1 none, []⟩,
⟨6, some 13, (some (10, true)), .bin .leq (.t 12) (.c (.int .i64 8)), []⟩,
⟨7, some 14, none, .pick (.t 10) (.t 13) (.c (.bool false)), []⟩,
⟨8, some 2, none, .mov (.t 14), []⟩]
@[go_sem] theorem F428_r0_r {E ks st Q} : type_of% (@opsE E ks st Q _ _ F428_r0.eq_1) := opsE F428_r0.eq_1
def F428_k1 : ACode := .seq (.reg true F428_r0) (.ret)
@[go_sem] theorem F428_k1_r {E ks st Q} : type_of% (@codeE E ks st Q _ _ F428_k1.eq_1) := codeE F428_k1.eq_1
def F428_r2 : List AOper := [⟨0, some 17, none, .nop 1, []⟩,
⟨1, some 18, none, .lload 1 1 none, []⟩,
⟨2, some 19, none, .call 796 [.t 18], []⟩,
⟨3, some 2, none, .mov (.t 19), []⟩]
@[go_sem] theorem F428_r2_r {E ks st Q} : type_of% (@opsE E ks st Q _ _ F428_r2.eq_1) := opsE F428_r2.eq_1
def F428_k3 : ACode := .seq (.reg true F428_r2) (.ret)
@[go_sem] theorem F428_k3_r {E ks st Q} : type_of% (@codeE E ks st Q _ _ F428_k3.eq_1) := codeE F428_k3.eq_1
def F428_r4 : List AOper := [⟨0, some 22, none, .nop 1, []⟩,
⟨1, some 23, none, .lload 1 1 none, []⟩,
⟨2, some 24, none, .bin .geq (.t 23) (.c (.int .i64 1)), []⟩,
⟨3, some 25, none, .mov (.t 24), []⟩,
⟨4, some 26, (some (25, true)), .nop 1, []⟩,
⟨5, some 27, (some (25, true)), .lload 1 1 none, []⟩,
⟨6, some 28, (some (25, true)), .bin .leq (.t 27) (.c (.int .i64 600)), []⟩,
⟨7, some 29, none, .pick (.t 25) (.t 28) (.c (.bool false)), []⟩,
⟨8, some 2, none, .mov (.t 29), []⟩]
@[go_sem] theorem F428_r4_r {E ks st Q} : type_of% (@opsE E ks st Q _ _ F428_r4.eq_1) := opsE F428_r4.eq_1
def F428_k5 : ACode := .seq (.reg true F428_r4) (.ret)
@[go_sem] theorem F428_k5_r {E ks st Q} : type_of% (@codeE E ks st Q _ _ F428_k5.eq_1) := codeE F428_k5.eq_1
def F428_k6 : ACode := .cond (.t 20) F428_k5 (.skip)
@[go_sem] theorem F428_k6_r {E ks st Q} : type_of% (@codeE E ks st Q _ _ F428_k6.eq_1) := codeE F428_k6.eq_1
def F428_k7 : ACode := .seq (.reg true [⟨0, some 21, none, .bin .eql (.t 4) (.c (.int .i64 3)), []⟩,
⟨1, some 20, none, .mov (.t 21), []⟩]) F428_k6
@[go_sem] theorem F428_k7_r {E ks st Q} : type_of% (@codeE E ks st Q _ _ F428_k7.eq_1) := codeE F428_k7.eq_1
def F428_k8 : ACode := .cond (.t 15) F428_k3 F428_k7
@[go_sem] theorem F428_k8_r {E ks st Q} : type_of% (@codeE E ks st Q _ _ F428_k8.eq_1) := codeE F428_k8.eq_1
def F428_k9 : ACode := .seq (.reg true [⟨0, some 16, none, .bin .eql (.t 4) (.c (.int .i64 2)), []⟩,
⟨1, some 15, none, .mov (.t 16), []⟩]) F428_k8
@[go_sem] theorem F428_k9_r {E ks st Q} : type_of% (@codeE E ks st Q _ _ F428_k9.eq_1) := codeE F428_k9.eq_1
def F428_k10 : ACode := .cond (.t 5) F428_k1 F428_k9
@[go_sem] theorem F428_k10_r {E ks st Q} : type_of% (@codeE E ks st Q _ _ F428_k10.eq_1) := codeE F428_k10.eq_1
def F428_k11 : ACode := .seq (.reg true [⟨0, some 6, none, .bin .eql (.t 4) (.c (.int .i64 1)), []⟩,
⟨1, some 5, none, .mov (.t 6), []⟩]) F428_k10
@[go_sem] theorem F428_k11_r {E ks st Q} : type_of% (@codeE E ks st Q _ _ F428_k11.eq_1) := codeE F428_k11.eq_1
def F428_k12 : ACode := .blk 0 F428_k11
@[go_sem] theorem F428_k12_r {E ks st Q} : type_of% (@codeE E ks st Q _ _ F428_k12.eq_1) := codeE F428_k12.eq_1
def F428_k13 : ACode := .seq (.reg true [⟨0, some 3, none, .nop 1, []⟩,
⟨1, some 4, none, .lload 1 0 none, []⟩]) F428_k12
@[go_sem] theorem F428_k13_r {E ks st Q} : type_of% (@codeE E ks st Q _ _ F428_k13.eq_1) := codeE F428_k13.eq_1
def F428_k14 : ACode := .seq F428_k13 (.seq (.reg true [⟨0, some 2, none, .mov (.c (.bool false)), []⟩]) (.ret))
@[go_sem] theorem F428_k14_r {E ks st Q} : type_of% (@codeE E ks st Q _ _ F428_k14.eq_1) := codeE F428_k14.eq_1
def F428 : AFun := ⟨1, 30, [.t 2], .seq (.reg true [⟨0, some 1, none, .lbox 2 (.t 0), []⟩,
⟨1, some 2, none, .mov (.c (.bool false)), []⟩]) F428_k14⟩
def F749_r0 : List AOper := [⟨0, some 3, none, .lload 1 0 (some 2), []⟩,
⟨1, some 4, none, .call 428 [.t 3], []⟩,
⟨2, some 5, none, .not (.t 4), []⟩,
⟨3, some 2, none, .mov (.t 5), []⟩]
@[go_sem] theorem F749_r0_r {E ks st Q} : type_of% (@opsE E ks st Q _ _ F749_r0.eq_1) := opsE F749_r0.eq_1
def F749_k1 : ACode := .seq (.reg true F749_r0) (.ret)
@[go_sem] theorem F749_k1_r {E ks st Q} : type_of% (@codeE E ks st Q _ _ F749_k1.eq_1) := codeE F749_k1.eq_1
def F749 : AFun := ⟨1, 6, [.t 2], .seq (.reg true [⟨0, some 1, none, .lbox 2 (.t 0), []⟩,
⟨1, some 2, none, .mov (.c (.bool false)), []⟩]) F749_k1⟩
def F373_r0 : List AOper := [⟨0, some 6, none, .nop 1, []⟩,
⟨1, some 7, none, .lload 1 0 none, []⟩,
⟨2, some 8, none, .call 505 [.t 7], []⟩,
⟨3, some 9, none, .not (.t 8), []⟩,
⟨4, some 10, none, .mov (.t 9), []⟩,
⟨5, some 11, (some (10, false)), .nop 1, []⟩,
⟨6, some 12, (some (10, false)), .lload 1 1 none, []⟩,
⟨7, some 13, (some (10, false)), .call 406 [.t 12], []⟩,
⟨8, some 14, (some (10, false)), .not (.t 13), []⟩,
⟨9, some 15, none, .pick (.t 10) (.c (.bool true)) (.t 14), []⟩,
⟨10, some 16, none, .mov (.t 15), []⟩,
⟨11, some 17, (some (16, false)), .nop 1, []⟩,
⟨12, some 18, (some (16, false)), .lload 1 2 none, []⟩,
⟨13, some 19, (some (16, false)), .bin .lss (.t 18) (.c (.int .i64 1)), []⟩,
⟨14, some 20, none, .pick (.t 16) (.c (.bool true)) (.t 19), []⟩,
⟨15, some 21, none, .mov (.t 20), []⟩,
⟨16, some 22, (some (21, false)), .nop 1, []⟩,
⟨17, some 23, (some (21, false)), .lload 1 2 none, []⟩,
⟨18, some 24, (some (21, false)), .bin .gtr (.t 23) (.c (.int .i64 50)), []⟩,
⟨19, some 25, none, .pick (.t 21) (.c (.bool true)) (.t 24), []⟩,
⟨20, some 26, none, .mov (.t 25), []⟩,
⟨21, some 27, (some (26, false)), .nop 1, []⟩,
⟨22, some 28, (some (26, false)), .lload 1 3 none, []⟩,
⟨23, some 29, (some (26, false)), .bslice 1 (.int .i64 0) 1 [(0, .t 28)], []⟩,
⟨24, some 30, (some (26, false)), .call 436 [.c (.int .i64 4000), .t 29], []⟩,
⟨25, some 31, (some (26, false)), .not (.t 30), []⟩,
⟨26, some 32, none, .pick (.t 26) (.c (.bool true)) (.t 31), []⟩,
⟨27, some 33, none, .mov (.t 32), []⟩,
⟨28, some 34, (some (33, false)), .nop 1, []⟩,
⟨29, some 35, (some (33, false)), .lload 1 4 (some 1), []⟩,
⟨30, some 36, (some (33, false)), .nop 1, []⟩,
⟨31, some 37, (some (33, false)), .lload 1 5 none, []⟩,
⟨32, some 38, (some (33, false)), .nop 1, []⟩,
⟨33, some 39, (some (33, false)), .lload 1 3 none, []⟩,
⟨34, some 40, (some (33, false)), .call 747 [.t 35, .t 37, .t 39], []⟩,
⟨35, some 41, (some (33, false)), .not (.t 40), []⟩,
⟨36, some 42, none, .pick (.t 33) (.c (.bool true)) (.t 41), []⟩]
@[go_sem] theorem F373_r0_r {E ks st Q} : type_of% (@opsE E ks st Q _ _ F373_r0.eq_1) := opsE F373_r0.eq_1
def F373_k1 : ACode := .seq (.reg true F373_r0) (.cond (.t 42) (.seq (.reg true [⟨0, some 2, none, .mov (.c (.bool false)), []⟩]) (.ret)) (.skip))
@[go_sem] theorem F373_k1_r {E ks st Q} : type_of% (@codeE E ks st Q _ _ F373_k1.eq_1) := codeE F373_k1.eq_1
def F373_r2 : List AOper := [⟨0, some 43, none, .nop 1, []⟩,
⟨1, some 44, none, .lload 1 6 none, []⟩,
⟨2, some 45, none, .len (.t 44), []⟩,
⟨3, some 46, none, .bin .gtr (.t 45) (.c (.int .i64 8)), []⟩,
⟨4, some 47, none, .mov (.t 46), []⟩,
⟨5, some 48, (some (47, false)), .nop 1, []⟩,
⟨6, some 49, (some (47, false)), .lload 1 6 none, []⟩,
⟨7, some 50, (some (47, false)), .call 748 [.t 49, .f 749], []⟩,
⟨8, some 51, none, .pick (.t 47) (.c (.bool true)) (.t 50), []⟩]
@[go_sem] theorem F373_r2_r {E ks st Q} : type_of% (@opsE E ks st Q _ _ F373_r2.eq_1) := opsE F373_r2.eq_1
def F373_k3 : ACode := .seq (.reg true F373_r2) (.cond (.t 51) (.seq (.reg true [⟨0, some 2, none, .mov (.c (.bool false)), []⟩]) (.ret)) (.skip))
@[go_sem] theorem F373_k3_r {E ks st Q} : type_of% (@codeE E ks st Q _ _ F373_k3.eq_1) := codeE F373_k3.eq_1
def F373_r4 : List AOper := [⟨0, some 52, none, .nop 1, []⟩,
⟨1, some 53, none, .lload 1 7 none, []⟩,
⟨2, some 54, none, .len (.t 53), []⟩,
⟨3, some 3, none, .mov (.t 54), []⟩]
@[go_sem] theorem F373_r4_r {E ks st Q} : type_of% (@opsE E ks st Q _ _ F373_r4.eq_1) := opsE F373_r4.eq_1
def F373_r5 : List AOper := [⟨0, some 55, none, .mov (.t 3), []⟩,
⟨1, some 56, none, .nop 1, []⟩,
⟨2, some 57, none, .lload 1 3 none, []⟩,
⟨3, some 58, none, .nop 1, []⟩,
⟨4, some 59, none, .lload 1 2 none, []⟩,
⟨5, some 60, none, .bin .quo (.t 57) (.t 59), []⟩,
⟨6, some 61, none, .bin .add (.t 60) (.c (.int .i64 1)), []⟩,
⟨7, some 62, none, .bin .lss (.t 55) (.t 61), []⟩,
⟨8, some 63, none, .mov (.t 62), []⟩,
⟨9, some 64, (some (63, false)), .mov (.t 3), []⟩,
⟨10, some 65, (some (63, false)), .nop 1, []⟩,
⟨11, some 66, (some (63, false)), .lload 1 2 none, []⟩,
⟨12, some 67, (some (63, false)), .bin .quo (.c (.int .i64 4000)) (.t 66), []⟩,
⟨13, some 68, (some (63, false)), .bin .add (.t 67) (.c (.int .i64 1)), []⟩,
⟨14, some 69, (some (63, false)), .bin .gtr (.t 64) (.t 68), []⟩,
⟨15, some 70, none, .pick (.t 63) (.c (.bool true)) (.t 69), []⟩]
@[go_sem] theorem F373_r5_r {E ks st Q} : type_of% (@opsE E ks st Q _ _ F373_r5.eq_1) := opsE F373_r5.eq_1
def F373_k6 : ACode := .seq (.reg true F373_r5) (.cond (.t 70) (.seq (.reg true [⟨0, some 2, none, .mov (.c (.bool false)), []⟩]) (.ret)) (.skip))
@[go_sem] theorem F373_k6_r {E ks st Q} : type_of% (@codeE E ks st Q _ _ F373_k6.eq_1) := codeE F373_k6.eq_1
def F373_r7 : List AOper := [⟨0, some 71, none, .nop 1, []⟩,
⟨1, some 72, none, .lload 1 7 none, []⟩,
⟨2, some 73, none, .len (.t 72), []⟩,
⟨3, some 74, none, .mov (.c (.int .i64 0)), []⟩]
@[go_sem] theorem F373_r7_r {E ks st Q} : type_of% (@opsE E ks st Q _ _ F373_r7.eq_1) := opsE F373_r7.eq_1
def F373_r8 : List AOper := [⟨0, some 76, none, .mov (.t 74), []⟩,
⟨1, some 77, none, .iaddr 3 (.t 72) (.t 74), []⟩,
⟨2, some 78, none, .load (some 3) (.t 77), []⟩,
⟨3, some 5, none, .lalloc (.agg [.int .i64 0, .nils, .nils]), []⟩,
⟨4, some 4, none, .mov (.t 76), []⟩,
⟨5, none, none, .lstore 5 0 3 (.t 78), []⟩]
@[go_sem] theorem F373_r8_r {E ks st Q} : type_of% (@opsE E ks st Q _ _ F373_r8.eq_1) := opsE F373_r8.eq_1
def F373_r9 : List AOper := [⟨0, some 79, none, .nop 5, []⟩,
⟨1, some 80, none, .lload 5 0 none, []⟩,
⟨2, some 81, none, .mov (.t 4), []⟩,
⟨3, some 82, none, .nop 1, []⟩,
⟨4, some 83, none, .lload 1 2 none, []⟩,
⟨5, some 84, none, .bin .mul (.t 81) (.t 83), []⟩,
⟨6, some 85, none, .bin .neq (.t 80) (.t 84), []⟩,
⟨7, some 86, none, .mov (.t 85), []⟩,
⟨8, some 87, (some (86, false)), .nop 5, []⟩,
⟨9, some 88, (some (86, false)), .lload 5 1 (some 1), []⟩,
⟨10, some 89, (some (86, false)), .nop 5, []⟩,
⟨11, some 90, (some (86, false)), .lload 5 2 none, []⟩,
⟨12, some 91, (some (86, false)), .nop 5, []⟩,
⟨13, some 92, (some (86, false)), .lload 5 0 none, []⟩,
⟨14, some 93, (some (86, false)), .call 747 [.t 88, .t 90, .t 92], []⟩,
⟨15, some 94, (some (86, false)), .not (.t 93), []⟩,
⟨16, some 95, none, .pick (.t 86) (.c (.bool true)) (.t 94), []⟩]
@[go_sem] theorem F373_r9_r {E ks st Q} : type_of% (@opsE E ks st Q _ _ F373_r9.eq_1) := opsE F373_r9.eq_1
def F373_k10 : ACode := .seq (.reg true F373_r9) (.cond (.t 95) (.seq (.reg true [⟨0, some 2, none, .mov (.c (.bool false)), []⟩]) (.ret)) (.skip))
@[go_sem] theorem F373_k10_r {E ks st Q} : type_of% (@codeE E ks st Q _ _ F373_k10.eq_1) := codeE F373_k10.eq_1
def F373_k11 : ACode := .seq (.reg true F373_r8) F373_k10
@[go_sem] theorem F373_k11_r {E ks st Q} : type_of% (@codeE E ks st Q _ _ F373_k11.eq_1) := codeE F373_k11.eq_1
def F373_k12 : ACode := .blk 1 F373_k11
@[go_sem] theorem F373_k12_r {E ks st Q} : type_of% (@codeE E ks st Q _ _ F373_k12.eq_1) := codeE F373_k12.eq_1
def F373_k13 : ACode := .seq F373_k12 (.reg true [⟨0, some 96, none, .bin .add (.t 74) (.c (.int .i64 1)), []⟩,
⟨1, some 74, none, .mov (.t 96), []⟩])
@[go_sem] theorem F373_k13_r {E ks st Q} : type_of% (@codeE E ks st Q _ _ F373_k13.eq_1) := codeE F373_k13.eq_1
def F373_k14 : ACode := .seq (.cond (.t 75) (.skip) (.exit 0)) F373_k13
@[go_sem] theorem F373_k14_r {E ks st Q} : type_of% (@codeE E ks st Q _ _ F373_k14.eq_1) := codeE F373_k14.eq_1
def F373_k15 : ACode := .seq (.reg true [⟨0, some 75, none, .bin .lss (.t 74) (.t 73), []⟩]) F373_k14
@[go_sem] theorem F373_k15_r {E ks st Q} : type_of% (@codeE E ks st Q _ _ F373_k15.eq_1) := codeE F373_k15.eq_1
def F373_k16 : ACode := .loop F373_k15
@[go_sem] theorem F373_k16_r {E ks st Q} : type_of% (@codeE E ks st Q _ _ F373_k16.eq_1) := codeE F373_k16.eq_1
def F373_k17 : ACode := .blk 0 F373_k16
@[go_sem] theorem F373_k17_r {E ks st Q} : type_of% (@codeE E ks st Q _ _ F373_k17.eq_1) := codeE F373_k17.eq_1
def F373_k18 : ACode := .seq (.reg true F373_r7) F373_k17
@[go_sem] theorem F373_k18_r {E ks st Q} : type_of% (@codeE E ks st Q _ _ F373_k18.eq_1) := codeE F373_k18.eq_1
def F373_k19 : ACode := .seq F373_k18 (.seq (.reg true [⟨0, some 2, none, .mov (.c (.bool true)), []⟩]) (.ret))
@[go_sem] theorem F373_k19_r {E ks st Q} : type_of% (@codeE E ks st Q _ _ F373_k19.eq_1) := codeE F373_k19.eq_1
def F373_k20 : ACode := .seq F373_k6 F373_k19
@[go_sem] theorem F373_k20_r {E ks st Q} : type_of% (@codeE E ks st Q _ _ F373_k20.eq_1) := codeE F373_k20.eq_1
def F373_k21 : ACode := .seq (.reg true F373_r4) F373_k20
@[go_sem] theorem F373_k21_r {E ks st Q} : type_of% (@codeE E ks st Q _ _ F373_k21.eq_1) := codeE F373_k21.eq_1
def F373_k22 : ACode := .seq F373_k3 F373_k21
@[go_sem] theorem F373_k22_r {E ks st Q} : type_of% (@codeE E ks st Q _ _ F373_k22.eq_1) := codeE F373_k22.eq_1
def F373_k23 : ACode := .seq F373_k1 F373_k22
@[go_sem] theorem F373_k23_r {E ks st Q} : type_of% (@codeE E ks st Q _ _ F373_k23.eq_1) := codeE F373_k23.eq_1
def F373 : AFun := ⟨1, 97, [.t 2], .seq (.reg true [⟨0, some 1, none, .lbox 8 (.t 0), []⟩,
⟨1, some 2, none, .mov (.c (.bool false)), []⟩]) F373_k23⟩
def F376_r0 : List AOper := [⟨0, some 7, none, .mov (.t 0), []⟩,
⟨1, some 8, none, .nilchk (.t 7), []⟩,
⟨2, some 9, none, .faddr 0 (.t 8), []⟩,
⟨3, some 10, none, .load none (.t 9), []⟩,
⟨4, some 11, none, .len (.t 10), []⟩,
⟨5, some 12, none, .mov (.c (.int .i64 0)), []⟩]
@[go_sem] theorem F376_r0_r {E ks st Q} : type_of% (@opsE E ks st Q _ _ F376_r0.eq_1) := opsE F376_r0.eq_1
def F376_r1 : List AOper := [⟨0, some 14, none, .mov (.t 12), []⟩,
⟨1, some 15, none, .iaddr 5 (.t 10) (.t 12), []⟩,
⟨2, some 16, none, .load (some 5) (.t 15), []⟩,
⟨3, some 5, none, .lalloc (.agg [.int .i64 0, .int .i64 0, .int .i64 0, .nils, .nils]), []⟩,
⟨4, some 4, none, .mov (.t 14), []⟩,
⟨5, none, none, .lstore 5 0 5 (.t 16), []⟩]
@[go_sem] theorem F376_r1_r {E ks st Q} : type_of% (@opsE E ks st Q _ _ F376_r1.eq_1) := opsE F376_r1.eq_1
def F376_r2 : List AOper := [⟨0, some 17, none, .nop 5, []⟩,
⟨1, some 18, none, .lload 5 4 none, []⟩,
⟨2, some 19, none, .iaddr 2 (.t 18) (.c (.int .i64 0)), []⟩,
⟨3, some 20, none, .load (some 2) (.t 19), []⟩,
⟨4, some 6, none, .lalloc (.agg [.int .i64 0, .int .i64 0]), []⟩,
⟨5, none, none, .lstore 6 0 2 (.t 20), []⟩]
@[go_sem] theorem F376_r2_r {E ks st Q} : type_of% (@opsE E ks st Q _ _ F376_r2.eq_1) := opsE F376_r2.eq_1
def F376_r3 : List AOper := [⟨0, some 21, none, .nop 6, []⟩,
⟨1, some 22, none, .lload 6 1 none, []⟩,
⟨2, some 23, none, .bin .eql (.t 22) (.c (.int .i64 0)), []⟩,
⟨3, some 24, none, .mov (.t 23), []⟩,
⟨4, some 25, (some (24, true)), .nop 6, []⟩,
⟨5, some 26, (some (24, true)), .lload 6 0 none, []⟩,
⟨6, some 27, (some (24, true)), .mov (.t 4), []⟩,
⟨7, some 28, (some (24, true)), .bin .gtr (.t 26) (.t 27), []⟩,
⟨8, some 29, none, .pick (.t 24) (.t 28) (.c (.bool false)), []⟩,
⟨9, some 30, none, .mov (.t 29), []⟩,
⟨10, some 31, (some (30, true)), .nop 5, []⟩,
⟨11, some 32, (some (30, true)), .lload 5 0 none, []⟩,
⟨12, some 33, (some (30, true)), .bin .neq (.t 32) (.c (.int .i64 1)), []⟩,
⟨13, some 34, none, .pick (.t 30) (.t 33) (.c (.bool false)), []⟩]
@[go_sem] theorem F376_r3_r {E ks st Q} : type_of% (@opsE E ks st Q _ _ F376_r3.eq_1) := opsE F376_r3.eq_1
def F376_r4 : List AOper := [⟨0, some 35, none, .mov (.t 3), []⟩,
⟨1, some 36, none, .mov (.t 4), []⟩,
⟨2, some 37, none, .nop 6, []⟩,
⟨3, some 38, none, .lload 6 0 none, []⟩,
⟨4, some 39, none, .build (.agg [.int .i64 0, .int .i64 0]) [(0, 1, .t 36), (1, 1, .t 38)], []⟩,
⟨5, some 40, none, .bslice 2 (.agg [.int .i64 0, .int .i64 0]) 1 [(0, .t 39)], []⟩,
⟨6, some 41, none, .app 2 (.t 35) (.t 40), []⟩,
⟨7, some 3, none, .mov (.t 41), []⟩]
@[go_sem] theorem F376_r4_r {E ks st Q} : type_of% (@opsE E ks st Q _ _ F376_r4.eq_1) := opsE F376_r4.eq_1
def F376_k5 : ACode := .cond (.t 34) (.reg true F376_r4) (.skip)
@[go_sem] theorem F376_k5_r {E ks st Q} : type_of% (@codeE E ks st Q _ _ F376_k5.eq_1) := codeE F376_k5.eq_1
def F376_k6 : ACode := .seq (.reg true F376_r3) F376_k5
@[go_sem] theorem F376_k6_r {E ks st Q} : type_of% (@codeE E ks st Q _ _ F376_k6.eq_1) := codeE F376_k6.eq_1
def F376_k7 : ACode := .seq (.reg true F376_r2) F376_k6
@[go_sem] theorem F376_k7_r {E ks st Q} : type_of% (@codeE E ks st Q _ _ F376_k7.eq_1) := codeE F376_k7.eq_1
def F376_k8 : ACode := .seq (.reg true F376_r1) F376_k7
@[go_sem] theorem F376_k8_r {E ks st Q} : type_of% (@codeE E ks st Q _ _ F376_k8.eq_1) := codeE F376_k8.eq_1
def F376_k9 : ACode := .blk 1 F376_k8
@[go_sem] theorem F376_k9_r {E ks st Q} : type_of% (@codeE E ks st Q _ _ F376_k9.eq_1) := codeE F376_k9.eq_1
def F376_k10 : ACode := .seq F376_k9 (.reg true [⟨0, some 42, none, .bin .add (.t 12) (.c (.int .i64 1)), []⟩,
⟨1, some 12, none, .mov (.t 42), []⟩])
@[go_sem] theorem F376_k10_r {E ks st Q} : type_of% (@codeE E ks st Q _ _ F376_k10.eq_1) := codeE F376_k10.eq_1
def F376_k11 : ACode := .seq (.cond (.t 13) (.skip) (.exit 0)) F376_k10
@[go_sem] theorem F376_k11_r {E ks st Q} : type_of% (@codeE E ks st Q _ _ F376_k11.eq_1) := codeE F376_k11.eq_1
def F376_k12 : ACode := .seq (.reg true [⟨0, some 13, none, .bin .lss (.t 12) (.t 11), []⟩]) F376_k11
@[go_sem] theorem F376_k12_r {E ks st Q} : type_of% (@codeE E ks st Q _ _ F376_k12.eq_1) := codeE F376_k12.eq_1
def F376_k13 : ACode := .loop F376_k12
@[go_sem] theorem F376_k13_r {E ks st Q} : type_of% (@codeE E ks st Q _ _ F376_k13.eq_1) := codeE F376_k13.eq_1
def F376_k14 : ACode := .blk 0 F376_k13
@[go_sem] theorem F376_k14_r {E ks st Q} : type_of% (@codeE E ks st Q _ _ F376_k14.eq_1) := codeE F376_k14.eq_1
def F376_k15 : ACode := .seq (.reg true F376_r0) F376_k14
@[go_sem] theorem F376_k15_r {E ks st Q} : type_of% (@codeE E ks st Q _ _ F376_k15.eq_1) := codeE F376_k15.eq_1
def F376_k16 : ACode := .seq F376_k15 (.seq (.reg true [⟨0, some 43, none, .mov (.t 3), []⟩,
⟨1, some 2, none, .mov (.t 43), []⟩]) (.ret))
@[go_sem] theorem F376_k16_r {E ks st Q} : type_of% (@codeE E ks st Q _ _ F376_k16.eq_1) := codeE F376_k16.eq_1
def F376_k17 : ACode := .seq (.reg true [⟨0, some 3, none, .mov (.c (.nils)), []⟩]) F376_k16
@[go_sem] theorem F376_k17_r {E ks st Q} : type_of% (@codeE E ks st Q _ _ F376_k17.eq_1) := codeE F376_k17.eq_1
def F376 : AFun := ⟨1, 44, [.t 2], .seq (.reg true [⟨0, some 2, none, .mov (.c (.nils)), []⟩]) F376_k17⟩
def F750_r0 : List AOper := [⟨0, some 8, none, .mov (.t 0), []⟩,
⟨1, some 9, none, .len (.t 8), []⟩,
⟨2, some 10, none, .bin .gtr (.t 9) (.c (.int .i64 0)), []⟩]
@[go_sem] theorem F750_r0_r {E ks st Q} : type_of% (@opsE E ks st Q _ _ F750_r0.eq_1) := opsE F750_r0.eq_1
def F750_r1 : List AOper := [⟨0, some 11, none, .mov (.t 0), []⟩,
⟨1, some 12, none, .mov (.t 2), []⟩,
⟨2, some 13, none, .mov (.t 0), []⟩,
⟨3, some 14, none, .len (.t 13), []⟩,
⟨4, some 15, none, .bin .rem (.t 12) (.t 14), []⟩,
⟨5, some 16, none, .iaddr 1 (.t 11) (.t 15), []⟩,
⟨6, some 17, none, .load none (.t 16), []⟩,
⟨7, some 7, none, .mov (.t 17), []⟩]
@[go_sem] theorem F750_r1_r {E ks st Q} : type_of% (@opsE E ks st Q _ _ F750_r1.eq_1) := opsE F750_r1.eq_1
def F750_k2 : ACode := .cond (.t 10) (.reg true F750_r1) (.skip)
@[go_sem] theorem F750_k2_r {E ks st Q} : type_of% (@codeE E ks st Q _ _ F750_k2.eq_1) := codeE F750_k2.eq_1
def F750_k3 : ACode := .seq (.reg true F750_r0) F750_k2
@[go_sem] theorem F750_k3_r {E ks st Q} : type_of% (@codeE E ks st Q _ _ F750_k3.eq_1) := codeE F750_k3.eq_1
def F750_r4 : List AOper := [⟨0, some 18, none, .mov (.t 1), []⟩,
⟨1, some 19, none, .mov (.t 7), []⟩,
⟨2, some 20, none, .mov (.t 1), []⟩,
⟨3, some 21, none, .len (.t 20), []⟩,
⟨4, some 22, none, .bin .rem (.t 19) (.t 21), []⟩,
⟨5, some 23, none, .iaddr 2 (.t 18) (.t 22), []⟩,
⟨6, some 24, none, .load (some 2) (.t 23), []⟩,
⟨7, none, none, .lstore 6 0 2 (.t 24), []⟩]
@[go_sem] theorem F750_r4_r {E ks st Q} : type_of% (@opsE E ks st Q _ _ F750_r4.eq_1) := opsE F750_r4.eq_1
def F750_k5 : ACode := .seq (.reg true F750_r4) (.ret)
@[go_sem] theorem F750_k5_r {E ks st Q} : type_of% (@codeE E ks st Q _ _ F750_k5.eq_1) := codeE F750_k5.eq_1
def F750_k6 : ACode := .seq F750_k3 F750_k5
@[go_sem] theorem F750_k6_r {E ks st Q} : type_of% (@codeE E ks st Q _ _ F750_k6.eq_1) := codeE F750_k6.eq_1
def F750_k7 : ACode := .seq (.reg true [⟨0, some 7, none, .mov (.c (.int .i64 0)), []⟩]) F750_k6
@[go_sem] theorem F750_k7_r {E ks st Q} : type_of% (@codeE E ks st Q _ _ F750_k7.eq_1) := codeE F750_k7.eq_1
def F750 : AFun := ⟨3, 25, [.l 6 (some 2)], .seq (.reg true [⟨0, some 6, none, .lalloc (.agg [.int .i64 0, .int .i64 0]), []⟩]) F750_k7⟩
def F1501_r0 : List AOper := [⟨0, some 7, none, .mov (.t 0), []⟩,
⟨1, some 8, none, .call 1495 [.t 7], []⟩,
⟨2, some 9, none, .not (.t 8), []⟩,
⟨3, some 10, none, .mov (.t 9), []⟩,
⟨4, some 11, (some (10, false)), .mov (.t 1), []⟩,
⟨5, some 12, (some (10, false)), .mov (.t 2), []⟩,
⟨6, some 13, (some (10, false)), .call 1389 [.t 11, .t 12], []⟩,
⟨7, some 14, (some (10, false)), .not (.t 13), []⟩,
⟨8, some 15, none, .pick (.t 10) (.c (.bool true)) (.t 14), []⟩]
@[go_sem] theorem F1501_r0_r {E ks st Q} : type_of% (@opsE E ks st Q _ _ F1501_r0.eq_1) := opsE F1501_r0.eq_1
def F1501_k1 : ACode := .seq (.reg true F1501_r0) (.cond (.t 15) (.seq (.reg true [⟨0, some 6, none, .mov (.c (.bool false)), []⟩]) (.ret)) (.skip))
@[go_sem] theorem F1501_k1_r {E ks st Q} : type_of% (@codeE E ks st Q _ _ F1501_k1.eq_1) := codeE F1501_k1.eq_1
def F1501_r2 : List AOper := [⟨0, some 16, none, .mov (.t 1), []⟩,
⟨1, some 17, none, .bin .eql (.t 16) (.c (.int .i64 6)), []⟩,
⟨2, some 18, none, .mov (.t 17), []⟩,
⟨3, some 19, (some (18, false)), .mov (.t 1), []⟩,
⟨4, some 20, (some (18, false)), .bin .eql (.t 19) (.c (.int .i64 12)), []⟩,
⟨5, some 21, none, .pick (.t 18) (.c (.bool true)) (.t 20), []⟩,
⟨6, some 22, none, .mov (.t 21), []⟩,
⟨7, some 23, (some (22, false)), .mov (.t 1), []⟩,
⟨8, some 24, (some (22, false)), .call 1375 [.t 23], []⟩,
⟨9, some 25, (some (22, false)), .mov (.t 24), []⟩,
⟨10, some 26, (some (25, true)), .mov (.t 2), []⟩,
⟨11, some 27, (some (25, true)), .mov (.t 0), []⟩,
⟨12, some 28, (some (25, true)), .bin .gtr (.t 26) (.t 27), []⟩,
⟨13, some 29, (some (22, false)), .pick (.t 25) (.t 28) (.c (.bool false)), []⟩,
⟨14, some 30, none, .pick (.t 22) (.c (.bool true)) (.t 29), []⟩,
⟨15, some 6, none, .mov (.t 30), []⟩]
@[go_sem] theorem F1501_r2_r {E ks st Q} : type_of% (@opsE E ks st Q _ _ F1501_r2.eq_1) := opsE F1501_r2.eq_1
def F1501_k3 : ACode := .seq (.reg true F1501_r2) (.ret)
@[go_sem] theorem F1501_k3_r {E ks st Q} : type_of% (@codeE E ks st Q _ _ F1501_k3.eq_1) := codeE F1501_k3.eq_1
def F1501_k4 : ACode := .seq F1501_k1 F1501_k3
@[go_sem] theorem F1501_k4_r {E ks st Q} : type_of% (@codeE E ks st Q _ _ F1501_k4.eq_1) := codeE F1501_k4.eq_1
def F1501 : AFun := ⟨3, 31, [.t 6], .seq (.reg true [⟨0, some 6, none, .mov (.c (.bool false)), []⟩]) F1501_k4⟩
def F1502_r0 : List AOper := [⟨0, some 3, none, .mov (.t 0), []⟩,
⟨1, some 4, none, .bin .eql (.t 3) (.c (.int .i64 3)), []⟩,
⟨2, some 5, none, .mov (.t 4), []⟩,
⟨3, some 6, (some (5, false)), .mov (.t 0), []⟩,
⟨4, some 7, (some (5, false)), .bin .eql (.t 6) (.c (.int .i64 7)), []⟩,
⟨5, some 8, none, .pick (.t 5) (.c (.bool true)) (.t 7), []⟩,
⟨6, some 9, none, .mov (.t 8), []⟩,
⟨7, some 10, (some (9, false)), .mov (.t 0), []⟩,
⟨8, some 11, (some (9, false)), .bin .eql (.t 10) (.c (.int .i64 8)), []⟩,
⟨9, some 12, none, .pick (.t 9) (.c (.bool true)) (.t 11), []⟩,
⟨10, some 13, none, .mov (.t 12), []⟩,
⟨11, some 14, (some (13, false)), .mov (.t 0), []⟩,
⟨12, some 15, (some (13, false)), .bin .eql (.t 14) (.c (.int .i64 10)), []⟩,
⟨13, some 16, none, .pick (.t 13) (.c (.bool true)) (.t 15), []⟩,
⟨14, some 17, none, .mov (.t 16), []⟩,
⟨15, some 18, (some (17, false)), .mov (.t 0), []⟩,
⟨16, some 19, (some (17, false)), .bin .eql (.t 18) (.c (.int .i64 11)), []⟩,
⟨17, some 20, none, .pick (.t 17) (.c (.bool true)) (.t 19), []⟩,
⟨18, some 2, none, .mov (.t 20), []⟩]
@[go_sem] theorem F1502_r0_r {E ks st Q} : type_of% (@opsE E ks st Q _ _ F1502_r0.eq_1) := opsE F1502_r0.eq_1
def F1502_k1 : ACode := .seq (.reg true F1502_r0) (.ret)
@[go_sem] theorem F1502_k1_r {E ks st Q} : type_of% (@codeE E ks st Q _ _ F1502_k1.eq_1) := codeE F1502_k1.eq_1
def F1502 : AFun := ⟨1, 21, [.t 2], .seq (.reg true [⟨0, some 2, none, .mov (.c (.bool false)), []⟩]) F1502_k1⟩
def F1398_r0 : List AOper := [⟨0, some 15, none, .mov (.t 2), []⟩,
⟨1, some 16, none, .bin .eql (.t 15) (.c (.int .i64 4)), []⟩,
⟨2, some 17, none, .mov (.t 16), []⟩,
⟨3, some 18, (some (17, true)), .mov (.t 1), []⟩,
⟨4, some 19, (some (17, true)), .mov (.t 3), []⟩,
⟨5, some 20, (some (17, true)), .bin .eql (.t 18) (.t 19), []⟩,
⟨6, some 21, none, .pick (.t 17) (.t 20) (.c (.bool false)), []⟩,
⟨7, some 14, none, .mov (.t 21), []⟩]
@[go_sem] theorem F1398_r0_r {E ks st Q} : type_of% (@opsE E ks st Q _ _ F1398_r0.eq_1) := opsE F1398_r0.eq_1
def F1398_r1 : List AOper := [⟨0, some 23, none, .mov (.t 1), []⟩,
⟨1, some 24, none, .mov (.t 2), []⟩,
⟨2, some 25, none, .mov (.t 3), []⟩,
⟨3, some 26, none, .call 1501 [.t 23, .t 24, .t 25], []⟩,
⟨4, some 22, none, .mov (.t 26), []⟩]
@[go_sem] theorem F1398_r1_r {E ks st Q} : type_of% (@opsE E ks st Q _ _ F1398_r1.eq_1) := opsE F1398_r1.eq_1
def F1398_k2 : ACode := .seq (.reg true F1398_r1) (.cond (.t 22) (.seq (.reg true [⟨0, some 8, none, .mov (.c (.int .i64 3)), []⟩]) (.ret)) (.skip))
@[go_sem] theorem F1398_k2_r {E ks st Q} : type_of% (@codeE E ks st Q _ _ F1398_k2.eq_1) := codeE F1398_k2.eq_1
def F1398_k3 : ACode := .cond (.t 14) (.seq (.reg true [⟨0, some 8, none, .mov (.c (.int .i64 2)), []⟩]) (.ret)) F1398_k2
@[go_sem] theorem F1398_k3_r {E ks st Q} : type_of% (@codeE E ks st Q _ _ F1398_k3.eq_1) := codeE F1398_k3.eq_1
def F1398_k4 : ACode := .seq (.reg true F1398_r0) F1398_k3
@[go_sem] theorem F1398_k4_r {E ks st Q} : type_of% (@codeE E ks st Q _ _ F1398_k4.eq_1) := codeE F1398_k4.eq_1
def F1398_k5 : ACode := .blk 1 F1398_k4
@[go_sem] theorem F1398_k5_r {E ks st Q} : type_of% (@codeE E ks st Q _ _ F1398_k5.eq_1) := codeE F1398_k5.eq_1
def F1398_r6 : List AOper := [⟨0, some 29, none, .mov (.t 2), []⟩,
⟨1, some 30, none, .bin .eql (.t 29) (.c (.int .i64 3)), []⟩,
⟨2, some 31, none, .mov (.t 30), []⟩,
⟨3, some 32, (some (31, true)), .mov (.t 1), []⟩,
⟨4, some 33, (some (31, true)), .mov (.t 3), []⟩,
⟨5, some 34, (some (31, true)), .bin .eql (.t 32) (.t 33), []⟩,
⟨6, some 35, none, .pick (.t 31) (.t 34) (.c (.bool false)), []⟩]
@[go_sem] theorem F1398_r6_r {E ks st Q} : type_of% (@opsE E ks st Q _ _ F1398_r6.eq_1) := opsE F1398_r6.eq_1
def F1398_k7 : ACode := .seq (.reg true F1398_r6) (.cond (.t 35) (.seq (.reg true [⟨0, some 8, none, .mov (.c (.int .i64 1)), []⟩]) (.ret)) (.skip))
@[go_sem] theorem F1398_k7_r {E ks st Q} : type_of% (@codeE E ks st Q _ _ F1398_k7.eq_1) := codeE F1398_k7.eq_1
def F1398_k8 : ACode := .seq (.reg true [⟨0, some 40, none, .bin .eql (.t 38) (.c (.int .i64 7)), []⟩,
⟨1, some 39, none, .mov (.t 40), []⟩]) (.cond (.t 39) (.skip) (.reg true [⟨0, some 41, none, .bin .eql (.t 38) (.c (.int .i64 8)), []⟩,
⟨1, some 39, none, .mov (.t 41), []⟩]))
@[go_sem] theorem F1398_k8_r {E ks st Q} : type_of% (@codeE E ks st Q _ _ F1398_k8.eq_1) := codeE F1398_k8.eq_1
def F1398_k9 : ACode := .seq (.reg true [⟨0, some 43, none, .bin .eql (.t 38) (.c (.int .i64 11)), []⟩,
⟨1, some 42, none, .mov (.t 43), []⟩]) (.cond (.t 42) (.seq (.reg true [⟨0, some 8, none, .mov (.c (.int .i64 6)), []⟩]) (.ret)) (.skip))
@[go_sem] theorem F1398_k9_r {E ks st Q} : type_of% (@codeE E ks st Q _ _ F1398_k9.eq_1) := codeE F1398_k9.eq_1
def F1398_k10 : ACode := .cond (.t 39) (.seq (.reg true [⟨0, some 8, none, .mov (.c (.int .i64 5)), []⟩]) (.ret)) F1398_k9
@[go_sem] theorem F1398_k10_r {E ks st Q} : type_of% (@codeE E ks st Q _ _ F1398_k10.eq_1) := codeE F1398_k10.eq_1
def F1398_k11 : ACode := .seq F1398_k8 F1398_k10
@[go_sem] theorem F1398_k11_r {E ks st Q} : type_of% (@codeE E ks st Q _ _ F1398_k11.eq_1) := codeE F1398_k11.eq_1
def F1398_k12 : ACode := .blk 2 F1398_k11
@[go_sem] theorem F1398_k12_r {E ks st Q} : type_of% (@codeE E ks st Q _ _ F1398_k12.eq_1) := codeE F1398_k12.eq_1
def F1398_k13 : ACode := .seq (.reg true [⟨0, some 38, none, .mov (.t 2), []⟩]) F1398_k12
@[go_sem] theorem F1398_k13_r {E ks st Q} : type_of% (@codeE E ks st Q _ _ F1398_k13.eq_1) := codeE F1398_k13.eq_1
def F1398_k14 : ACode := .seq (.reg true [⟨0, some 46, none, .mov (.t 2), []⟩,
⟨1, some 47, none, .bin .eql (.t 46) (.c (.int .i64 10)), []⟩]) (.cond (.t 47) (.seq (.reg true [⟨0, some 8, none, .mov (.c (.int .i64 6)), []⟩]) (.ret)) (.skip))
@[go_sem] theorem F1398_k14_r {E ks st Q} : type_of% (@codeE E ks st Q _ _ F1398_k14.eq_1) := codeE F1398_k14.eq_1
def F1398_k15 : ACode := .seq (.reg true [⟨0, some 50, none, .mov (.t 2), []⟩,
⟨1, some 51, none, .call 1502 [.t 50], []⟩]) (.cond (.t 51) (.seq (.reg true [⟨0, some 8, none, .mov (.c (.int .i64 7)), []⟩]) (.ret)) (.skip))
@[go_sem] theorem F1398_k15_r {E ks st Q} : type_of% (@codeE E ks st Q _ _ F1398_k15.eq_1) := codeE F1398_k15.eq_1
def F1398_k16 : ACode := .cond (.t 48) F1398_k15 (.skip)
@[go_sem] theorem F1398_k16_r {E ks st Q} : type_of% (@codeE E ks st Q _ _ F1398_k16.eq_1) := codeE F1398_k16.eq_1
def F1398_k17 : ACode := .seq (.reg true [⟨0, some 49, none, .bin .eql (.t 9) (.c (.int .i64 12)), []⟩,
⟨1, some 48, none, .mov (.t 49), []⟩]) F1398_k16
@[go_sem] theorem F1398_k17_r {E ks st Q} : type_of% (@codeE E ks st Q _ _ F1398_k17.eq_1) := codeE F1398_k17.eq_1
def F1398_k18 : ACode := .cond (.t 44) F1398_k14 F1398_k17
@[go_sem] theorem F1398_k18_r {E ks st Q} : type_of% (@codeE E ks st Q _ _ F1398_k18.eq_1) := codeE F1398_k18.eq_1
def F1398_k19 : ACode := .seq (.reg true [⟨0, some 45, none, .bin .eql (.t 9) (.c (.int .i64 9)), []⟩,
⟨1, some 44, none, .mov (.t 45), []⟩]) F1398_k18
@[go_sem] theorem F1398_k19_r {E ks st Q} : type_of% (@codeE E ks st Q _ _ F1398_k19.eq_1) := codeE F1398_k19.eq_1
def F1398_k20 : ACode := .cond (.t 36) F1398_k13 F1398_k19
@[go_sem] theorem F1398_k20_r {E ks st Q} : type_of% (@codeE E ks st Q _ _ F1398_k20.eq_1) := codeE F1398_k20.eq_1
def F1398_k21 : ACode := .seq (.reg true [⟨0, some 37, none, .bin .eql (.t 9) (.c (.int .i64 6)), []⟩,
⟨1, some 36, none, .mov (.t 37), []⟩]) F1398_k20
@[go_sem] theorem F1398_k21_r {E ks st Q} : type_of% (@codeE E ks st Q _ _ F1398_k21.eq_1) := codeE F1398_k21.eq_1
def F1398_k22 : ACode := .cond (.t 27) F1398_k7 F1398_k21
@[go_sem] theorem F1398_k22_r {E ks st Q} : type_of% (@codeE E ks st Q _ _ F1398_k22.eq_1) := codeE F1398_k22.eq_1
def F1398_k23 : ACode := .seq (.reg true [⟨0, some 28, none, .bin .eql (.t 9) (.c (.int .i64 2)), []⟩,
⟨1, some 27, none, .mov (.t 28), []⟩]) F1398_k22
@[go_sem] theorem F1398_k23_r {E ks st Q} : type_of% (@codeE E ks st Q _ _ F1398_k23.eq_1) := codeE F1398_k23.eq_1
def F1398_k24 : ACode := .cond (.t 12) F1398_k5 F1398_k23
@[go_sem] theorem F1398_k24_r {E ks st Q} : type_of% (@codeE E ks st Q _ _ F1398_k24.eq_1) := codeE F1398_k24.eq_1
def F1398_k25 : ACode := .seq (.reg true [⟨0, some 13, none, .bin .eql (.t 9) (.c (.int .i64 4)), []⟩,
⟨1, some 12, none, .mov (.t 13), []⟩]) F1398_k24
@[go_sem] theorem F1398_k25_r {E ks st Q} : type_of% (@codeE E ks st Q _ _ F1398_k25.eq_1) := codeE F1398_k25.eq_1
def F1398_k26 : ACode := .cond (.t 10) (.seq (.reg true [⟨0, some 8, none, .mov (.c (.int .i64 4)), []⟩]) (.ret)) F1398_k25
@[go_sem] theorem F1398_k26_r {E ks st Q} : type_of% (@codeE E ks st Q _ _ F1398_k26.eq_1) := codeE F1398_k26.eq_1
def F1398_k27 : ACode := .seq (.reg true [⟨0, some 11, none, .bin .eql (.t 9) (.c (.int .i64 5)), []⟩,
⟨1, some 10, none, .mov (.t 11), []⟩]) F1398_k26
@[go_sem] theorem F1398_k27_r {E ks st Q} : type_of% (@codeE E ks st Q _ _ F1398_k27.eq_1) := codeE F1398_k27.eq_1
def F1398_k28 : ACode := .blk 0 F1398_k27
@[go_sem] theorem F1398_k28_r {E ks st Q} : type_of% (@codeE E ks st Q _ _ F1398_k28.eq_1) := codeE F1398_k28.eq_1
def F1398_k29 : ACode := .seq (.reg true [⟨0, some 9, none, .mov (.t 0), []⟩]) F1398_k28
@[go_sem] theorem F1398_k29_r {E ks st Q} : type_of% (@codeE E ks st Q _ _ F1398_k29.eq_1) := codeE F1398_k29.eq_1
def F1398_k30 : ACode := .seq F1398_k29 (.seq (.reg true [⟨0, some 8, none, .mov (.c (.int .i64 0)), []⟩]) (.ret))
@[go_sem] theorem F1398_k30_r {E ks st Q} : type_of% (@codeE E ks st Q _ _ F1398_k30.eq_1) := codeE F1398_k30.eq_1
def F1398 : AFun := ⟨4, 52, [.t 8], .seq (.reg true [⟨0, some 8, none, .mov (.c (.int .i64 0)), []⟩]) F1398_k30⟩
def F1115_r0 : List AOper := [⟨0, some 12, none, .mov (.t 0), []⟩,
⟨1, some 13, none, .bin .eql (.t 12) (.c (.int .i64 1)), []⟩,
⟨2, some 14, none, .mov (.t 13), []⟩,
⟨3, some 15, (some (14, false)), .mov (.t 2), []⟩,
⟨4, some 16, (some (14, false)), .bin .eql (.t 15) (.c (.int .i64 1)), []⟩,
⟨5, some 17, none, .pick (.t 14) (.c (.bool true)) (.t 16), []⟩,
⟨6, some 18, none, .mov (.t 17), []⟩,
⟨7, some 19, (some (18, false)), .mov (.t 0), []⟩,
⟨8, some 20, (some (18, false)), .mov (.t 1), []⟩,
⟨9, some 21, (some (18, false)), .call 1389 [.t 19, .t 20], []⟩,
⟨10, some 22, (some (18, false)), .not (.t 21), []⟩,
⟨11, some 23, none, .pick (.t 18) (.c (.bool true)) (.t 22), []⟩,
⟨12, some 24, none, .mov (.t 23), []⟩,
⟨13, some 25, (some (24, false)), .mov (.t 2), []⟩,
⟨14, some 26, (some (24, false)), .mov (.t 3), []⟩,
⟨15, some 27, (some (24, false)), .call 1389 [.t 25, .t 26], []⟩,
⟨16, some 28, (some (24, false)), .not (.t 27), []⟩,
⟨17, some 29, none, .pick (.t 24) (.c (.bool true)) (.t 28), []⟩]
@[go_sem] theorem F1115_r0_r {E ks st Q} : type_of% (@opsE E ks st Q _ _ F1115_r0.eq_1) := opsE F1115_r0.eq_1
def F1115_k1 : ACode := .cond (.t 29) (.seq (.reg true [⟨0, some 8, none, .mov (.c (.int .i64 0)), []⟩,
⟨1, some 9, none, .mov (.c (.int .i64 0)), []⟩]) (.ret)) (.skip)
@[go_sem] theorem F1115_k1_r {E ks st Q} : type_of% (@codeE E ks st Q _ _ F1115_k1.eq_1) := codeE F1115_k1.eq_1
def F1115_k2 : ACode := .seq (.reg true F1115_r0) F1115_k1
@[go_sem] theorem F1115_k2_r {E ks st Q} : type_of% (@codeE E ks st Q _ _ F1115_k2.eq_1) := codeE F1115_k2.eq_1
def F1115_r3 : List AOper := [⟨0, some 30, none, .mov (.t 0), []⟩,
⟨1, some 31, none, .mov (.t 1), []⟩,
⟨2, some 32, none, .mov (.t 2), []⟩,
⟨3, some 33, none, .mov (.t 3), []⟩,
⟨4, some 34, none, .call 1398 [.t 30, .t 31, .t 32, .t 33], []⟩,
⟨5, some 10, none, .mov (.t 34), []⟩]
@[go_sem] theorem F1115_r3_r {E ks st Q} : type_of% (@opsE E ks st Q _ _ F1115_r3.eq_1) := opsE F1115_r3.eq_1
def F1115_r4 : List AOper := [⟨0, some 37, none, .mov (.t 10), []⟩,
⟨1, some 8, none, .mov (.t 37), []⟩,
⟨2, some 9, none, .mov (.c (.int .i64 1)), []⟩]
@[go_sem] theorem F1115_r4_r {E ks st Q} : type_of% (@opsE E ks st Q _ _ F1115_r4.eq_1) := opsE F1115_r4.eq_1
def F1115_k5 : ACode := .cond (.t 36) (.seq (.reg true F1115_r4) (.ret)) (.skip)
@[go_sem] theorem F1115_k5_r {E ks st Q} : type_of% (@codeE E ks st Q _ _ F1115_k5.eq_1) := codeE F1115_k5.eq_1
def F1115_k6 : ACode := .seq (.reg true [⟨0, some 35, none, .mov (.t 10), []⟩,
⟨1, some 36, none, .bin .neq (.t 35) (.c (.int .i64 0)), []⟩]) F1115_k5
@[go_sem] theorem F1115_k6_r {E ks st Q} : type_of% (@codeE E ks st Q _ _ F1115_k6.eq_1) := codeE F1115_k6.eq_1
def F1115_k7 : ACode := .seq (.reg true F1115_r3) F1115_k6
@[go_sem] theorem F1115_k7_r {E ks st Q} : type_of% (@codeE E ks st Q _ _ F1115_k7.eq_1) := codeE F1115_k7.eq_1
def F1115_r8 : List AOper := [⟨0, some 38, none, .mov (.t 2), []⟩,
⟨1, some 39, none, .mov (.t 3), []⟩,
⟨2, some 40, none, .mov (.t 0), []⟩,
⟨3, some 41, none, .mov (.t 1), []⟩,
⟨4, some 42, none, .call 1398 [.t 38, .t 39, .t 40, .t 41], []⟩,
⟨5, some 11, none, .mov (.t 42), []⟩]
@[go_sem] theorem F1115_r8_r {E ks st Q} : type_of% (@opsE E ks st Q _ _ F1115_r8.eq_1) := opsE F1115_r8.eq_1
def F1115_r9 : List AOper := [⟨0, some 45, none, .mov (.t 11), []⟩,
⟨1, some 8, none, .mov (.t 45), []⟩,
⟨2, some 9, none, .mov (.c (.int .i64 2)), []⟩]
@[go_sem] theorem F1115_r9_r {E ks st Q} : type_of% (@opsE E ks st Q _ _ F1115_r9.eq_1) := opsE F1115_r9.eq_1
def F1115_k10 : ACode := .cond (.t 44) (.seq (.reg true F1115_r9) (.ret)) (.skip)
@[go_sem] theorem F1115_k10_r {E ks st Q} : type_of% (@codeE E ks st Q _ _ F1115_k10.eq_1) := codeE F1115_k10.eq_1
def F1115_k11 : ACode := .seq (.reg true [⟨0, some 43, none, .mov (.t 11), []⟩,
⟨1, some 44, none, .bin .neq (.t 43) (.c (.int .i64 0)), []⟩]) F1115_k10
@[go_sem] theorem F1115_k11_r {E ks st Q} : type_of% (@codeE E ks st Q _ _ F1115_k11.eq_1) := codeE F1115_k11.eq_1
def F1115_k12 : ACode := .seq (.reg true F1115_r8) F1115_k11
@[go_sem] theorem F1115_k12_r {E ks st Q} : type_of% (@codeE E ks st Q _ _ F1115_k12.eq_1) := codeE F1115_k12.eq_1
def F1115_k13 : ACode := .seq F1115_k12 (.seq (.reg true [⟨0, some 8, none, .mov (.c (.int .i64 8)), []⟩,
⟨1, some 9, none, .mov (.c (.int .i64 0)), []⟩]) (.ret))
@[go_sem] theorem F1115_k13_r {E ks st Q} : type_of% (@codeE E ks st Q _ _ F1115_k13.eq_1) := codeE F1115_k13.eq_1
def F1115_k14 : ACode := .seq F1115_k7 F1115_k13
@[go_sem] theorem F1115_k14_r {E ks st Q} : type_of% (@codeE E ks st Q _ _ F1115_k14.eq_1) := codeE F1115_k14.eq_1
def F1115_k15 : ACode := .seq F1115_k2 F1115_k14
@[go_sem] theorem F1115_k15_r {E ks st Q} : type_of% (@codeE E ks st Q _ _ F1115_k15.eq_1) := codeE F1115_k15.eq_1
def F1115 : AFun := ⟨4, 46, [.t 8, .t 9], .seq (.reg true [⟨0, some 8, none, .mov (.c (.int .i64 0)), []⟩,
⟨1, some 9, none, .mov (.c (.int .i64 0)), []⟩]) F1115_k15⟩
def F751_r0 : List AOper := [⟨0, some 3, none, .lbox 2 (.t 1), []⟩,
⟨1, some 4, none, .mov (.c (.int .i64 0)), []⟩,
⟨2, some 5, none, .mov (.c (.bool false)), []⟩]
@[go_sem] theorem F751_r0_r {E ks st Q} : type_of% (@opsE E ks st Q _ _ F751_r0.eq_1) := opsE F751_r0.eq_1
def F751_r1 : List AOper := [⟨0, some 10, none, .mov (.t 0), []⟩,
⟨1, some 11, none, .nilchk (.t 10), []⟩,
⟨2, some 12, none, .faddr 0 (.t 11), []⟩,
⟨3, some 13, none, .load none (.t 12), []⟩,
⟨4, some 14, none, .nop 3, []⟩,
⟨5, some 15, none, .lload 3 0 none, []⟩,
⟨6, some 16, none, .iaddr 5 (.t 13) (.t 15), []⟩,
⟨7, some 17, none, .load (some 5) (.t 16), []⟩,
⟨8, some 18, none, .mov (.t 0), []⟩,
⟨9, some 19, none, .nilchk (.t 18), []⟩,
⟨10, some 20, none, .faddr 0 (.t 19), []⟩,
⟨11, some 21, none, .load none (.t 20), []⟩,
⟨12, some 22, none, .nop 3, []⟩,
⟨13, some 23, none, .lload 3 1 none, []⟩,
⟨14, some 24, none, .iaddr 5 (.t 21) (.t 23), []⟩,
⟨15, some 25, none, .load (some 5) (.t 24), []⟩,
⟨16, some 6, none, .lalloc (.agg [.int .i64 0, .int .i64 0, .int .i64 0, .nils, .nils]), []⟩,
⟨17, some 7, none, .lalloc (.agg [.int .i64 0, .int .i64 0, .int .i64 0, .nils, .nils]), []⟩,
⟨18, none, none, .lstore 6 0 5 (.t 17), []⟩,
⟨19, none, none, .lstore 7 0 5 (.t 25), []⟩]
@[go_sem] theorem F751_r1_r {E ks st Q} : type_of% (@opsE E ks st Q _ _ F751_r1.eq_1) := opsE F751_r1.eq_1
def F751_r2 : List AOper := [⟨0, some 27, none, .nop 6, []⟩,
⟨1, some 28, none, .lload 6 0 none, []⟩,
⟨2, some 29, none, .nop 6, []⟩,
⟨3, some 30, none, .lload 6 1 none, []⟩,
⟨4, some 31, none, .nop 7, []⟩,
⟨5, some 32, none, .lload 7 0 none, []⟩,
⟨6, some 33, none, .nop 7, []⟩,
⟨7, some 34, none, .lload 7 1 none, []⟩,
⟨8, some 35, none, .call 1115 [.t 28, .t 30, .t 32, .t 34], []⟩,
⟨9, some 26, none, .mov (.t 35), []⟩,
⟨10, some 36, none, .ext (.t 26) 0, []⟩,
⟨11, some 37, none, .ext (.t 26) 1, []⟩,
⟨12, some 8, none, .mov (.t 36), []⟩,
⟨13, some 9, none, .mov (.t 37), []⟩]
@[go_sem] theorem F751_r2_r {E ks st Q} : type_of% (@opsE E ks st Q _ _ F751_r2.eq_1) := opsE F751_r2.eq_1
def F751_r3 : List AOper := [⟨0, some 40, none, .lload 7 0 (some 5), []⟩,
⟨1, some 41, none, .lload 6 0 (some 5), []⟩,
⟨2, none, none, .lstore 6 0 5 (.t 40), []⟩,
⟨3, none, none, .lstore 7 0 5 (.t 41), []⟩]
@[go_sem] theorem F751_r3_r {E ks st Q} : type_of% (@opsE E ks st Q _ _ F751_r3.eq_1) := opsE F751_r3.eq_1
def F751_k4 : ACode := .cond (.t 39) (.reg true F751_r3) (.skip)
@[go_sem] theorem F751_k4_r {E ks st Q} : type_of% (@codeE E ks st Q _ _ F751_k4.eq_1) := codeE F751_k4.eq_1
def F751_k5 : ACode := .seq (.reg true [⟨0, some 38, none, .mov (.t 9), []⟩,
⟨1, some 39, none, .bin .eql (.t 38) (.c (.int .i64 2)), []⟩]) F751_k4
@[go_sem] theorem F751_k5_r {E ks st Q} : type_of% (@codeE E ks st Q _ _ F751_k5.eq_1) := codeE F751_k5.eq_1
def F751_r6 : List AOper := [⟨0, some 42, none, .mov (.t 8), []⟩,
⟨1, some 43, none, .bin .eql (.t 42) (.c (.int .i64 6)), []⟩,
⟨2, some 44, none, .mov (.t 43), []⟩,
⟨3, some 45, (some (44, true)), .nop 7, []⟩,
⟨4, some 46, (some (44, true)), .lload 7 0 none, []⟩,
⟨5, some 47, (some (44, true)), .bin .eql (.t 46) (.c (.int .i64 10)), []⟩,
⟨6, some 48, none, .pick (.t 44) (.t 47) (.c (.bool false)), []⟩,
⟨7, some 49, none, .mov (.t 48), []⟩,
⟨8, some 50, (some (49, true)), .nop 6, []⟩,
⟨9, some 51, (some (49, true)), .lload 6 2 none, []⟩,
⟨10, some 52, (some (49, true)), .nop 7, []⟩,
⟨11, some 53, (some (49, true)), .lload 7 3 none, []⟩,
⟨12, some 54, (some (49, true)), .len (.t 53), []⟩,
⟨13, some 55, (some (49, true)), .bin .geq (.t 51) (.t 54), []⟩,
⟨14, some 56, none, .pick (.t 49) (.t 55) (.c (.bool false)), []⟩]
@[go_sem] theorem F751_r6_r {E ks st Q} : type_of% (@opsE E ks st Q _ _ F751_r6.eq_1) := opsE F751_r6.eq_1
def F751_k7 : ACode := .cond (.t 56) (.seq (.reg true [⟨0, some 4, none, .mov (.c (.int .i64 8)), []⟩,
⟨1, some 5, none, .mov (.c (.bool false)), []⟩]) (.ret)) (.skip)
@[go_sem] theorem F751_k7_r {E ks st Q} : type_of% (@codeE E ks st Q _ _ F751_k7.eq_1) := codeE F751_k7.eq_1
def F751_k8 : ACode := .seq (.reg true F751_r6) F751_k7
@[go_sem] theorem F751_k8_r {E ks st Q} : type_of% (@codeE E ks st Q _ _ F751_k8.eq_1) := codeE F751_k8.eq_1
def F751_r9 : List AOper := [⟨0, some 57, none, .mov (.t 8), []⟩,
⟨1, some 58, none, .mov (.t 9), []⟩,
⟨2, some 59, none, .bin .eql (.t 58) (.c (.int .i64 2)), []⟩,
⟨3, some 4, none, .mov (.t 57), []⟩,
⟨4, some 5, none, .mov (.t 59), []⟩]
@[go_sem] theorem F751_r9_r {E ks st Q} : type_of% (@opsE E ks st Q _ _ F751_r9.eq_1) := opsE F751_r9.eq_1
def F751_k10 : ACode := .seq (.reg true F751_r9) (.ret)
@[go_sem] theorem F751_k10_r {E ks st Q} : type_of% (@codeE E ks st Q _ _ F751_k10.eq_1) := codeE F751_k10.eq_1
def F751_k11 : ACode := .seq F751_k8 F751_k10
@[go_sem] theorem F751_k11_r {E ks st Q} : type_of% (@codeE E ks st Q _ _ F751_k11.eq_1) := codeE F751_k11.eq_1
def F751_k12 : ACode := .seq F751_k5 F751_k11
@[go_sem] theorem F751_k12_r {E ks st Q} : type_of% (@codeE E ks st Q _ _ F751_k12.eq_1) := codeE F751_k12.eq_1
def F751_k13 : ACode := .seq (.reg true F751_r2) F751_k12
@[go_sem] theorem F751_k13_r {E ks st Q} : type_of% (@codeE E ks st Q _ _ F751_k13.eq_1) := codeE F751_k13.eq_1
def F751_k14 : ACode := .seq (.reg true F751_r1) F751_k13
@[go_sem] theorem F751_k14_r {E ks st Q} : type_of% (@codeE E ks st Q _ _ F751_k14.eq_1) := codeE F751_k14.eq_1
def F751 : AFun := ⟨2, 60, [.t 4, .t 5], .seq (.reg true F751_r0) F751_k14⟩
def F374_r0 : List AOper := [⟨0, some 9, none, .mov (.t 0), []⟩,
⟨1, some 10, none, .nilchk (.t 9), []⟩,
⟨2, some 11, none, .faddr 4 (.t 10), []⟩,
⟨3, some 12, none, .call 376 [.t 11], []⟩,
⟨4, some 4, none, .mov (.t 12), []⟩]
@[go_sem] theorem F374_r0_r {E ks st Q} : type_of% (@opsE E ks st Q _ _ F374_r0.eq_1) := opsE F374_r0.eq_1
def F374_r1 : List AOper := [⟨0, some 13, none, .mov (.t 4), []⟩,
⟨1, some 14, none, .len (.t 13), []⟩,
⟨2, some 15, none, .bin .eql (.t 14) (.c (.int .i64 0)), []⟩]
@[go_sem] theorem F374_r1_r {E ks st Q} : type_of% (@opsE E ks st Q _ _ F374_r1.eq_1) := opsE F374_r1.eq_1
def F374_r2 : List AOper := [⟨0, some 16, none, .build (.agg [.int .i64 0, .int .i64 0, .int .i64 0, .int .i64 0, .int .i64 0, .int .i64 0]) [], []⟩,
⟨1, none, none, .lstore 2 0 6 (.t 16), []⟩,
⟨2, some 3, none, .mov (.c (.bool false)), []⟩]
@[go_sem] theorem F374_r2_r {E ks st Q} : type_of% (@opsE E ks st Q _ _ F374_r2.eq_1) := opsE F374_r2.eq_1
def F374_k3 : ACode := .cond (.t 15) (.seq (.reg true F374_r2) (.ret)) (.skip)
@[go_sem] theorem F374_k3_r {E ks st Q} : type_of% (@codeE E ks st Q _ _ F374_k3.eq_1) := codeE F374_k3.eq_1
def F374_k4 : ACode := .seq (.reg true F374_r1) F374_k3
@[go_sem] theorem F374_k4_r {E ks st Q} : type_of% (@codeE E ks st Q _ _ F374_k4.eq_1) := codeE F374_k4.eq_1
def F374_r5 : List AOper := [⟨0, some 17, none, .mov (.t 0), []⟩,
⟨1, some 18, none, .nilchk (.t 17), []⟩,
⟨2, some 19, none, .faddr 1 (.t 18), []⟩,
⟨3, some 20, none, .load none (.t 19), []⟩,
⟨4, some 21, none, .mov (.t 4), []⟩,
⟨5, some 22, none, .mov (.t 0), []⟩,
⟨6, some 23, none, .nilchk (.t 22), []⟩,
⟨7, some 24, none, .faddr 3 (.t 23), []⟩,
⟨8, some 25, none, .load none (.t 24), []⟩,
⟨10, some 5, none, .lalloc (.agg [.int .i64 0, .int .i64 0]), []⟩,
⟨9, some 26, none, .call 750 [.t 20, .t 21, .t 25], []⟩,
⟨11, none, none, .lstore 5 0 2 (.t 26), []⟩]
@[go_sem] theorem F374_r5_r {E ks st Q} : type_of% (@opsE E ks st Q _ _ F374_r5.eq_1) := opsE F374_r5.eq_1
def F374_r6 : List AOper := [⟨0, some 28, none, .mov (.t 0), []⟩,
⟨1, some 29, none, .nilchk (.t 28), []⟩,
⟨2, some 30, none, .faddr 4 (.t 29), []⟩,
⟨3, some 31, none, .lload 5 0 (some 2), []⟩,
⟨4, some 32, none, .call 751 [.t 30, .t 31], []⟩,
⟨5, some 27, none, .mov (.t 32), []⟩,
⟨6, some 33, none, .ext (.t 27) 0, []⟩,
⟨7, some 34, none, .ext (.t 27) 1, []⟩,
⟨8, some 6, none, .mov (.t 33), []⟩,
⟨9, some 7, none, .mov (.t 34), []⟩]
@[go_sem] theorem F374_r6_r {E ks st Q} : type_of% (@opsE E ks st Q _ _ F374_r6.eq_1) := opsE F374_r6.eq_1
def F374_r7 : List AOper := [⟨0, some 35, none, .lload 5 0 (some 2), []⟩,
⟨1, some 36, none, .mov (.t 6), []⟩,
⟨2, some 37, none, .nop 5, []⟩,
⟨3, some 38, none, .lload 5 0 none, []⟩,
⟨4, some 39, none, .nop 5, []⟩,
⟨5, some 40, none, .lload 5 1 none, []⟩,
⟨6, some 41, none, .build (.agg [.int .i64 0, .int .i64 0, .int .i64 0, .int .i64 0, .int .i64 0, .int .i64 0]) [(0, 2, .t 35), (2, 1, .t 36), (3, 1, .t 38), (4, 1, .t 40), (5, 1, .c (.int .i64 (-1)))], []⟩,
⟨7, some 8, none, .lalloc (.agg [.int .i64 0, .int .i64 0, .int .i64 0, .int .i64 0, .int .i64 0, .int .i64 0]), []⟩,
⟨8, none, none, .lstore 8 0 6 (.t 41), []⟩]
@[go_sem] theorem F374_r7_r {E ks st Q} : type_of% (@opsE E ks st Q _ _ F374_r7.eq_1) := opsE F374_r7.eq_1
def F374_r8 : List AOper := [⟨0, some 43, none, .nop 5, []⟩,
⟨1, some 44, none, .lload 5 1 none, []⟩,
⟨2, some 45, none, .nop 5, []⟩,
⟨3, some 46, none, .lload 5 0 none, []⟩,
⟨4, some 47, none, .nop 8, []⟩,
⟨5, none, none, .lstore 8 3 1 (.t 44), []⟩,
⟨6, some 48, none, .nop 8, []⟩,
⟨7, none, none, .lstore 8 4 1 (.t 46), []⟩]
@[go_sem] theorem F374_r8_r {E ks st Q} : type_of% (@opsE E ks st Q _ _ F374_r8.eq_1) := opsE F374_r8.eq_1
def F374_k9 : ACode := .cond (.t 42) (.reg true F374_r8) (.skip)
@[go_sem] theorem F374_k9_r {E ks st Q} : type_of% (@codeE E ks st Q _ _ F374_k9.eq_1) := codeE F374_k9.eq_1
def F374_k10 : ACode := .seq (.reg true [⟨0, some 42, none, .mov (.t 7), []⟩]) F374_k9
@[go_sem] theorem F374_k10_r {E ks st Q} : type_of% (@codeE E ks st Q _ _ F374_k10.eq_1) := codeE F374_k10.eq_1
def F374_r11 : List AOper := [⟨0, some 51, none, .mov (.t 0), []⟩,
⟨1, some 52, none, .nilchk (.t 51), []⟩,
⟨2, some 53, none, .faddr 4 (.t 52), []⟩,
⟨3, some 54, none, .faddr 0 (.t 53), []⟩,
⟨4, some 55, none, .load none (.t 54), []⟩,
⟨5, some 56, none, .nop 8, []⟩,
⟨6, some 57, none, .lload 8 3 none, []⟩,
⟨7, some 58, none, .iaddr 5 (.t 55) (.t 57), []⟩,
⟨8, some 59, none, .faddr 2 (.t 58), []⟩,
⟨9, some 60, none, .load none (.t 59), []⟩,
⟨10, some 61, none, .nop 8, []⟩,
⟨11, none, none, .lstore 8 5 1 (.t 60), []⟩]
@[go_sem] theorem F374_r11_r {E ks st Q} : type_of% (@opsE E ks st Q _ _ F374_r11.eq_1) := opsE F374_r11.eq_1
def F374_k12 : ACode := .cond (.t 50) (.reg true F374_r11) (.skip)
@[go_sem] theorem F374_k12_r {E ks st Q} : type_of% (@codeE E ks st Q _ _ F374_k12.eq_1) := codeE F374_k12.eq_1
def F374_k13 : ACode := .seq (.reg true [⟨0, some 49, none, .mov (.t 6), []⟩,
⟨1, some 50, none, .bin .eql (.t 49) (.c (.int .i64 7)), []⟩]) F374_k12
@[go_sem] theorem F374_k13_r {E ks st Q} : type_of% (@codeE E ks st Q _ _ F374_k13.eq_1) := codeE F374_k13.eq_1
def F374_r14 : List AOper := [⟨0, some 62, none, .lload 8 0 (some 6), []⟩,
⟨1, none, none, .lstore 2 0 6 (.t 62), []⟩,
⟨2, some 3, none, .mov (.c (.bool true)), []⟩]
@[go_sem] theorem F374_r14_r {E ks st Q} : type_of% (@opsE E ks st Q _ _ F374_r14.eq_1) := opsE F374_r14.eq_1
def F374_k15 : ACode := .seq F374_k13 (.seq (.reg true F374_r14) (.ret))
@[go_sem] theorem F374_k15_r {E ks st Q} : type_of% (@codeE E ks st Q _ _ F374_k15.eq_1) := codeE F374_k15.eq_1
def F374_k16 : ACode := .seq F374_k10 F374_k15
@[go_sem] theorem F374_k16_r {E ks st Q} : type_of% (@codeE E ks st Q _ _ F374_k16.eq_1) := codeE F374_k16.eq_1
def F374_k17 : ACode := .seq (.reg true F374_r7) F374_k16
@[go_sem] theorem F374_k17_r {E ks st Q} : type_of% (@codeE E ks st Q _ _ F374_k17.eq_1) := codeE F374_k17.eq_1
def F374_k18 : ACode := .seq (.reg true F374_r6) F374_k17
@[go_sem] theorem F374_k18_r {E ks st Q} : type_of% (@codeE E ks st Q _ _ F374_k18.eq_1) := codeE F374_k18.eq_1
def F374_k19 : ACode := .seq (.reg true F374_r5) F374_k18
@[go_sem] theorem F374_k19_r {E ks st Q} : type_of% (@codeE E ks st Q _ _ F374_k19.eq_1) := codeE F374_k19.eq_1
def F374_k20 : ACode := .seq F374_k4 F374_k19
@[go_sem] theorem F374_k20_r {E ks st Q} : type_of% (@codeE E ks st Q _ _ F374_k20.eq_1) := codeE F374_k20.eq_1
def F374_k21 : ACode := .seq (.reg true F374_r0) F374_k20
@[go_sem] theorem F374_k21_r {E ks st Q} : type_of% (@codeE E ks st Q _ _ F374_k21.eq_1) := codeE F374_k21.eq_1
def F374 : AFun := ⟨1, 63, [.l 2 (some 6), .t 3], .seq (.reg true [⟨0, some 2, none, .lalloc (.agg [.int .i64 0, .int .i64 0, .int .i64 0, .int .i64 0, .int .i64 0, .int .i64 0]), []⟩,
⟨1, some 3, none, .mov (.c (.bool false)), []⟩]) F374_k21⟩
def F375_r0 : List AOper := [⟨0, some 6, none, .mov (.t 0), []⟩,
⟨1, some 7, none, .len (.t 6), []⟩,
⟨2, some 8, none, .mov (.c (.int .i64 0)), []⟩]
@[go_sem] theorem F375_r0_r {E ks st Q} : type_of% (@opsE E ks st Q _ _ F375_r0.eq_1) := opsE F375_r0.eq_1
def F375_r1 : List AOper := [⟨0, some 11, none, .lload 3 0 (some 2), []⟩,
⟨1, some 12, none, .mov (.t 0), []⟩,
⟨2, some 13, none, .mov (.t 5), []⟩,
⟨3, some 14, none, .iaddr 2 (.t 12) (.t 13), []⟩,
⟨4, some 15, none, .load (some 2) (.t 14), []⟩,
⟨5, some 16, none, .seq false [1, 1] (.t 11) (.t 15), []⟩]
@[go_sem] theorem F375_r1_r {E ks st Q} : type_of% (@opsE E ks st Q _ _ F375_r1.eq_1) := opsE F375_r1.eq_1
def F375_k2 : ACode := .cond (.t 16) (.seq (.reg true [⟨0, some 17, none, .mov (.t 5), []⟩,
⟨1, some 4, none, .mov (.t 17), []⟩]) (.ret)) (.skip)
@[go_sem] theorem F375_k2_r {E ks st Q} : type_of% (@codeE E ks st Q _ _ F375_k2.eq_1) := codeE F375_k2.eq_1
def F375_k3 : ACode := .seq (.reg true F375_r1) F375_k2
@[go_sem] theorem F375_k3_r {E ks st Q} : type_of% (@codeE E ks st Q _ _ F375_k3.eq_1) := codeE F375_k3.eq_1
def F375_k4 : ACode := .seq (.reg true [⟨0, some 10, none, .mov (.t 8), []⟩,
⟨1, some 5, none, .mov (.t 10), []⟩]) F375_k3
@[go_sem] theorem F375_k4_r {E ks st Q} : type_of% (@codeE E ks st Q _ _ F375_k4.eq_1) := codeE F375_k4.eq_1
def F375_k5 : ACode := .blk 1 F375_k4
@[go_sem] theorem F375_k5_r {E ks st Q} : type_of% (@codeE E ks st Q _ _ F375_k5.eq_1) := codeE F375_k5.eq_1
def F375_k6 : ACode := .seq F375_k5 (.reg true [⟨0, some 18, none, .bin .add (.t 8) (.c (.int .i64 1)), []⟩,
⟨1, some 8, none, .mov (.t 18), []⟩])
@[go_sem] theorem F375_k6_r {E ks st Q} : type_of% (@codeE E ks st Q _ _ F375_k6.eq_1) := codeE F375_k6.eq_1
def F375_k7 : ACode := .seq (.cond (.t 9) (.skip) (.exit 0)) F375_k6
@[go_sem] theorem F375_k7_r {E ks st Q} : type_of% (@codeE E ks st Q _ _ F375_k7.eq_1) := codeE F375_k7.eq_1
def F375_k8 : ACode := .seq (.reg true [⟨0, some 9, none, .bin .lss (.t 8) (.t 7), []⟩]) F375_k7
@[go_sem] theorem F375_k8_r {E ks st Q} : type_of% (@codeE E ks st Q _ _ F375_k8.eq_1) := codeE F375_k8.eq_1
def F375_k9 : ACode := .loop F375_k8
@[go_sem] theorem F375_k9_r {E ks st Q} : type_of% (@codeE E ks st Q _ _ F375_k9.eq_1) := codeE F375_k9.eq_1
def F375_k10 : ACode := .blk 0 F375_k9
@[go_sem] theorem F375_k10_r {E ks st Q} : type_of% (@codeE E ks st Q _ _ F375_k10.eq_1) := codeE F375_k10.eq_1
def F375_k11 : ACode := .seq (.reg true F375_r0) F375_k10
@[go_sem] theorem F375_k11_r {E ks st Q} : type_of% (@codeE E ks st Q _ _ F375_k11.eq_1) := codeE F375_k11.eq_1
def F375_k12 : ACode := .seq F375_k11 (.seq (.reg true [⟨0, some 4, none, .mov (.c (.int .i64 (-1))), []⟩]) (.ret))
@[go_sem] theorem F375_k12_r {E ks st Q} : type_of% (@codeE E ks st Q _ _ F375_k12.eq_1) := codeE F375_k12.eq_1
def F375 : AFun := ⟨2, 19, [.t 4], .seq (.reg true [⟨0, some 3, none, .lbox 2 (.t 1), []⟩,
⟨1, some 4, none, .mov (.c (.int .i64 0)), []⟩]) F375_k12⟩
def F107_r0 : List AOper := [⟨0, some 1, none, .hbox 8 (.t 0), []⟩,
⟨1, some 2, none, .mov (.c (.int .i64 0)), []⟩,
⟨2, some 3, none, .mov (.c (.int .i64 0)), []⟩,
⟨3, some 4, none, .mov (.c (.int .i64 0)), []⟩,
⟨4, some 5, none, .mov (.c (.int .i64 0)), []⟩]
@[go_sem] theorem F107_r0_r {E ks st Q} : type_of% (@opsE E ks st Q _ _ F107_r0.eq_1) := opsE F107_r0.eq_1
def F107_r1 : List AOper := [⟨0, some 8, none, .load (some 8) (.t 1), []⟩,
⟨1, some 9, none, .call 373 [.t 8], []⟩,
⟨2, some 10, none, .not (.t 9), []⟩]
@[go_sem] theorem F107_r1_r {E ks st Q} : type_of% (@opsE E ks st Q _ _ F107_r1.eq_1) := opsE F107_r1.eq_1
def F107_r2 : List AOper := [⟨0, some 2, none, .mov (.c (.int .i64 0)), []⟩,
⟨1, some 3, none, .mov (.c (.int .i64 0)), []⟩,
⟨2, some 4, none, .mov (.c (.int .i64 0)), []⟩,
⟨3, some 5, none, .mov (.c (.int .i64 1)), []⟩]
@[go_sem] theorem F107_r2_r {E ks st Q} : type_of% (@opsE E ks st Q _ _ F107_r2.eq_1) := opsE F107_r2.eq_1
def F107_k3 : ACode := .seq (.reg true F107_r2) (.ret)
@[go_sem] theorem F107_k3_r {E ks st Q} : type_of% (@codeE E ks st Q _ _ F107_k3.eq_1) := codeE F107_k3.eq_1
def F107_k4 : ACode := .cond (.t 10) F107_k3 (.skip)
@[go_sem] theorem F107_k4_r {E ks st Q} : type_of% (@codeE E ks st Q _ _ F107_k4.eq_1) := codeE F107_k4.eq_1
def F107_k5 : ACode := .seq (.reg true F107_r1) F107_k4
@[go_sem] theorem F107_k5_r {E ks st Q} : type_of% (@codeE E ks st Q _ _ F107_k5.eq_1) := codeE F107_k5.eq_1
def F107_r6 : List AOper := [⟨0, some 12, none, .call 374 [.t 1], []⟩,
⟨1, some 11, none, .mov (.t 12), []⟩,
⟨2, some 13, none, .ext (.t 11) 0, []⟩,
⟨3, some 14, none, .ext (.t 11) 1, []⟩,
⟨4, some 6, none, .lalloc (.agg [.int .i64 0, .int .i64 0, .int .i64 0, .int .i64 0, .int .i64 0, .int .i64 0]), []⟩,
⟨5, none, none, .lstore 6 0 6 (.t 13), []⟩,
⟨6, some 7, none, .mov (.t 14), []⟩]
@[go_sem] theorem F107_r6_r {E ks st Q} : type_of% (@opsE E ks st Q _ _ F107_r6.eq_1) := opsE F107_r6.eq_1
def F107_r7 : List AOper := [⟨0, some 2, none, .mov (.c (.int .i64 0)), []⟩,
⟨1, some 3, none, .mov (.c (.int .i64 0)), []⟩,
⟨2, some 4, none, .mov (.c (.int .i64 0)), []⟩,
⟨3, some 5, none, .mov (.c (.int .i64 3)), []⟩]
@[go_sem] theorem F107_r7_r {E ks st Q} : type_of% (@opsE E ks st Q _ _ F107_r7.eq_1) := opsE F107_r7.eq_1
def F107_k8 : ACode := .seq (.reg true F107_r7) (.ret)
@[go_sem] theorem F107_k8_r {E ks st Q} : type_of% (@codeE E ks st Q _ _ F107_k8.eq_1) := codeE F107_k8.eq_1
def F107_k9 : ACode := .cond (.t 16) F107_k8 (.skip)
@[go_sem] theorem F107_k9_r {E ks st Q} : type_of% (@codeE E ks st Q _ _ F107_k9.eq_1) := codeE F107_k9.eq_1
def F107_k10 : ACode := .seq (.reg true [⟨0, some 15, none, .mov (.t 7), []⟩,
⟨1, some 16, none, .not (.t 15), []⟩]) F107_k9
@[go_sem] theorem F107_k10_r {E ks st Q} : type_of% (@codeE E ks st Q _ _ F107_k10.eq_1) := codeE F107_k10.eq_1
def F107_r11 : List AOper := [⟨0, some 17, none, .faddr 4 (.t 1), []⟩,
⟨2, some 19, none, .nop 6, []⟩,
⟨3, some 20, none, .lload 6 0 (some 2), []⟩,
⟨5, some 22, none, .nop 6, []⟩,
⟨6, some 23, none, .lload 6 2 none, []⟩,
⟨7, some 24, none, .nop 6, []⟩,
⟨8, some 25, none, .lload 6 5 none, []⟩,
⟨1, some 18, none, .call 376 [.t 17], []⟩,
⟨4, some 21, none, .call 375 [.t 18, .t 20], []⟩,
⟨9, some 2, none, .mov (.t 21), []⟩,
⟨10, some 3, none, .mov (.t 23), []⟩,
⟨11, some 4, none, .mov (.t 25), []⟩,
⟨12, some 5, none, .mov (.c (.int .i64 0)), []⟩]
@[go_sem] theorem F107_r11_r {E ks st Q} : type_of% (@opsE E ks st Q _ _ F107_r11.eq_1) := opsE F107_r11.eq_1
def F107_k12 : ACode := .seq (.reg true F107_r11) (.ret)
@[go_sem] theorem F107_k12_r {E ks st Q} : type_of% (@codeE E ks st Q _ _ F107_k12.eq_1) := codeE F107_k12.eq_1
def F107_k13 : ACode := .seq F107_k10 F107_k12
@[go_sem] theorem F107_k13_r {E ks st Q} : type_of% (@codeE E ks st Q _ _ F107_k13.eq_1) := codeE F107_k13.eq_1
def F107_k14 : ACode := .seq (.reg true F107_r6) F107_k13
@[go_sem] theorem F107_k14_r {E ks st Q} : type_of% (@codeE E ks st Q _ _ F107_k14.eq_1) := codeE F107_k14.eq_1
def F107_k15 : ACode := .seq F107_k5 F107_k14
@[go_sem] theorem F107_k15_r {E ks st Q} : type_of% (@codeE E ks st Q _ _ F107_k15.eq_1) := codeE F107_k15.eq_1
def F107 : AFun := ⟨1, 26, [.t 2, .t 3, .t 4, .t 5], .seq (.reg true F107_r0) F107_k15⟩
def F86 : AFun := eqS0 
def F1422_r0 : List AOper := [⟨0, some 2, none, .lbox 2 (.t 0), []⟩,
⟨1, some 3, none, .lbox 2 (.t 1), []⟩,
⟨2, some 4, none, .mov (.c (.bool false)), []⟩]
@[go_sem] theorem F1422_r0_r {E ks st Q} : type_of% (@opsE E ks st Q _ _ F1422_r0.eq_1) := opsE F1422_r0.eq_1
def F1422_r1 : List AOper := [⟨0, some 5, none, .nop 2, []⟩,
⟨1, some 6, none, .lload 2 0 none, []⟩,
⟨2, some 7, none, .nop 3, []⟩,
⟨3, some 8, none, .lload 3 0 none, []⟩,
⟨4, some 9, none, .bin .neq (.t 6) (.t 8), []⟩]
@[go_sem] theorem F1422_r1_r {E ks st Q} : type_of% (@opsE E ks st Q _ _ F1422_r1.eq_1) := opsE F1422_r1.eq_1
def F1422_k2 : ACode := .seq (.reg true F1422_r1) (.cond (.t 9) (.seq (.reg true [⟨0, some 4, none, .mov (.c (.bool false)), []⟩]) (.ret)) (.skip))
@[go_sem] theorem F1422_k2_r {E ks st Q} : type_of% (@codeE E ks st Q _ _ F1422_k2.eq_1) := codeE F1422_k2.eq_1
def F1422_r3 : List AOper := [⟨0, some 10, none, .nop 2, []⟩,
⟨1, some 11, none, .lload 2 1 none, []⟩,
⟨2, some 12, none, .nop 3, []⟩,
⟨3, some 13, none, .lload 3 1 none, []⟩,
⟨4, some 14, none, .bin .neq (.t 11) (.t 13), []⟩]
@[go_sem] theorem F1422_r3_r {E ks st Q} : type_of% (@opsE E ks st Q _ _ F1422_r3.eq_1) := opsE F1422_r3.eq_1
def F1422_k4 : ACode := .seq (.reg true F1422_r3) (.cond (.t 14) (.seq (.reg true [⟨0, some 4, none, .mov (.c (.bool false)), []⟩]) (.ret)) (.skip))
@[go_sem] theorem F1422_k4_r {E ks st Q} : type_of% (@codeE E ks st Q _ _ F1422_k4.eq_1) := codeE F1422_k4.eq_1
def F1422_k5 : ACode := .seq F1422_k4 (.seq (.reg true [⟨0, some 4, none, .mov (.c (.bool true)), []⟩]) (.ret))
@[go_sem] theorem F1422_k5_r {E ks st Q} : type_of% (@codeE E ks st Q _ _ F1422_k5.eq_1) := codeE F1422_k5.eq_1
def F1422_k6 : ACode := .seq F1422_k2 F1422_k5
@[go_sem] theorem F1422_k6_r {E ks st Q} : type_of% (@codeE E ks st Q _ _ F1422_k6.eq_1) := codeE F1422_k6.eq_1
def F1422 : AFun := ⟨2, 15, [.t 4], .seq (.reg true F1422_r0) F1422_k6⟩
def F1184 : AFun := eqS 2 (some 2) 1422
def F870_r0 : List AOper := [⟨0, some 2, none, .lbox 5 (.t 0), []⟩,
⟨1, some 3, none, .lbox 5 (.t 1), []⟩,
⟨2, some 4, none, .mov (.c (.bool false)), []⟩]
@[go_sem] theorem F870_r0_r {E ks st Q} : type_of% (@opsE E ks st Q _ _ F870_r0.eq_1) := opsE F870_r0.eq_1
def F870_r1 : List AOper := [⟨0, some 5, none, .nop 2, []⟩,
⟨1, some 6, none, .lload 2 0 none, []⟩,
⟨2, some 7, none, .nop 3, []⟩,
⟨3, some 8, none, .lload 3 0 none, []⟩,
⟨4, some 9, none, .bin .neq (.t 6) (.t 8), []⟩]
@[go_sem] theorem F870_r1_r {E ks st Q} : type_of% (@opsE E ks st Q _ _ F870_r1.eq_1) := opsE F870_r1.eq_1
def F870_k2 : ACode := .seq (.reg true F870_r1) (.cond (.t 9) (.seq (.reg true [⟨0, some 4, none, .mov (.c (.bool false)), []⟩]) (.ret)) (.skip))
@[go_sem] theorem F870_k2_r {E ks st Q} : type_of% (@codeE E ks st Q _ _ F870_k2.eq_1) := codeE F870_k2.eq_1
def F870_r3 : List AOper := [⟨0, some 10, none, .nop 2, []⟩,
⟨1, some 11, none, .lload 2 1 none, []⟩,
⟨2, some 12, none, .nop 3, []⟩,
⟨3, some 13, none, .lload 3 1 none, []⟩,
⟨4, some 14, none, .bin .neq (.t 11) (.t 13), []⟩]
@[go_sem] theorem F870_r3_r {E ks st Q} : type_of% (@opsE E ks st Q _ _ F870_r3.eq_1) := opsE F870_r3.eq_1
def F870_k4 : ACode := .seq (.reg true F870_r3) (.cond (.t 14) (.seq (.reg true [⟨0, some 4, none, .mov (.c (.bool false)), []⟩]) (.ret)) (.skip))
@[go_sem] theorem F870_k4_r {E ks st Q} : type_of% (@codeE E ks st Q _ _ F870_k4.eq_1) := codeE F870_k4.eq_1
def F870_r5 : List AOper := [⟨0, some 15, none, .nop 2, []⟩,
⟨1, some 16, none, .lload 2 2 none, []⟩,
⟨2, some 17, none, .nop 3, []⟩,
⟨3, some 18, none, .lload 3 2 none, []⟩,
⟨4, some 19, none, .bin .neq (.t 16) (.t 18), []⟩]
@[go_sem] theorem F870_r5_r {E ks st Q} : type_of% (@opsE E ks st Q _ _ F870_r5.eq_1) := opsE F870_r5.eq_1
def F870_k6 : ACode := .seq (.reg true F870_r5) (.cond (.t 19) (.seq (.reg true [⟨0, some 4, none, .mov (.c (.bool false)), []⟩]) (.ret)) (.skip))
@[go_sem] theorem F870_k6_r {E ks st Q} : type_of% (@codeE E ks st Q _ _ F870_k6.eq_1) := codeE F870_k6.eq_1
def F870_r7 : List AOper := [⟨0, some 20, none, .nop 2, []⟩,
⟨1, some 21, none, .lload 2 3 none, []⟩,
⟨2, some 22, none, .nop 3, []⟩,
⟨3, some 23, none, .lload 3 3 none, []⟩,
⟨4, some 24, none, .call 86 [.t 21, .t 23], []⟩,
⟨5, some 25, none, .not (.t 24), []⟩]
@[go_sem] theorem F870_r7_r {E ks st Q} : type_of% (@opsE E ks st Q _ _ F870_r7.eq_1) := opsE F870_r7.eq_1
def F870_k8 : ACode := .seq (.reg true F870_r7) (.cond (.t 25) (.seq (.reg true [⟨0, some 4, none, .mov (.c (.bool false)), []⟩]) (.ret)) (.skip))
@[go_sem] theorem F870_k8_r {E ks st Q} : type_of% (@codeE E ks st Q _ _ F870_k8.eq_1) := codeE F870_k8.eq_1
def F870_r9 : List AOper := [⟨0, some 26, none, .nop 2, []⟩,
⟨1, some 27, none, .lload 2 4 none, []⟩,
⟨2, some 28, none, .nop 3, []⟩,
⟨3, some 29, none, .lload 3 4 none, []⟩,
⟨4, some 30, none, .call 1184 [.t 27, .t 29], []⟩,
⟨5, some 31, none, .not (.t 30), []⟩]
@[go_sem] theorem F870_r9_r {E ks st Q} : type_of% (@opsE E ks st Q _ _ F870_r9.eq_1) := opsE F870_r9.eq_1
def F870_k10 : ACode := .seq (.reg true F870_r9) (.cond (.t 31) (.seq (.reg true [⟨0, some 4, none, .mov (.c (.bool false)), []⟩]) (.ret)) (.skip))
@[go_sem] theorem F870_k10_r {E ks st Q} : type_of% (@codeE E ks st Q _ _ F870_k10.eq_1) := codeE F870_k10.eq_1
def F870_k11 : ACode := .seq F870_k10 (.seq (.reg true [⟨0, some 4, none, .mov (.c (.bool true)), []⟩]) (.ret))
@[go_sem] theorem F870_k11_r {E ks st Q} : type_of% (@codeE E ks st Q _ _ F870_k11.eq_1) := codeE F870_k11.eq_1
def F870_k12 : ACode := .seq F870_k8 F870_k11
@[go_sem] theorem F870_k12_r {E ks st Q} : type_of% (@codeE E ks st Q _ _ F870_k12.eq_1) := codeE F870_k12.eq_1
def F870_k13 : ACode := .seq F870_k6 F870_k12
@[go_sem] theorem F870_k13_r {E ks st Q} : type_of% (@codeE E ks st Q _ _ F870_k13.eq_1) := codeE F870_k13.eq_1
def F870_k14 : ACode := .seq F870_k4 F870_k13
@[go_sem] theorem F870_k14_r {E ks st Q} : type_of% (@codeE E ks st Q _ _ F870_k14.eq_1) := codeE F870_k14.eq_1
def F870_k15 : ACode := .seq F870_k2 F870_k14
@[go_sem] theorem F870_k15_r {E ks st Q} : type_of% (@codeE E ks st Q _ _ F870_k15.eq_1) := codeE F870_k15.eq_1
def F870 : AFun := ⟨2, 32, [.t 4], .seq (.reg true F870_r0) F870_k15⟩
def F508 : AFun := eqS 5 (some 5) 870
def F188_r0 : List AOper := [⟨0, some 2, none, .lbox 1 (.t 0), []⟩,
⟨1, some 3, none, .lbox 1 (.t 1), []⟩,
⟨2, some 4, none, .mov (.c (.bool false)), []⟩]
@[go_sem] theorem F188_r0_r {E ks st Q} : type_of% (@opsE E ks st Q _ _ F188_r0.eq_1) := opsE F188_r0.eq_1
def F188_r1 : List AOper := [⟨0, some 5, none, .nop 2, []⟩,
⟨1, some 6, none, .lload 2 0 none, []⟩,
⟨2, some 7, none, .nop 3, []⟩,
⟨3, some 8, none, .lload 3 0 none, []⟩,
⟨4, some 9, none, .call 508 [.t 6, .t 8], []⟩,
⟨5, some 10, none, .not (.t 9), []⟩]
@[go_sem] theorem F188_r1_r {E ks st Q} : type_of% (@opsE E ks st Q _ _ F188_r1.eq_1) := opsE F188_r1.eq_1
def F188_k2 : ACode := .seq (.reg true F188_r1) (.cond (.t 10) (.seq (.reg true [⟨0, some 4, none, .mov (.c (.bool false)), []⟩]) (.ret)) (.skip))
@[go_sem] theorem F188_k2_r {E ks st Q} : type_of% (@codeE E ks st Q _ _ F188_k2.eq_1) := codeE F188_k2.eq_1
def F188_k3 : ACode := .seq F188_k2 (.seq (.reg true [⟨0, some 4, none, .mov (.c (.bool true)), []⟩]) (.ret))
@[go_sem] theorem F188_k3_r {E ks st Q} : type_of% (@codeE E ks st Q _ _ F188_k3.eq_1) := codeE F188_k3.eq_1
def F188 : AFun := ⟨2, 11, [.t 4], .seq (.reg true F188_r0) F188_k3⟩
def F187 : AFun := eqS 1 (some 1) 188
end Go.Ab
