/- Texts Dbg1 .. Dbg24: the abstract machine, its laws and contracts of functions: lemmas for the statement. No condition. -/
import Derived.Test.YtddahfmkcpnoaaaGreatP6
namespace Go.Ab
open Go
set_option maxRecDepth 10000
def F752_r0 : List AOper := [⟨0, some 2, none, .lbox 3 (.t 0), []⟩,
⟨1, some 3, none, .lbox 3 (.t 1), []⟩,
⟨2, some 4, none, .mov (.c (.bool false)), []⟩]
@[go_sem] theorem F752_r0_r {E ks st Q} : type_of% (@opsE E ks st Q _ _ F752_r0.eq_1) := opsE F752_r0.eq_1
def F752_r1 : List AOper := [⟨0, some 5, none, .nop 2, []⟩,
⟨1, some 6, none, .lload 2 0 none, []⟩,
⟨2, some 7, none, .nop 3, []⟩,
⟨3, some 8, none, .lload 3 0 none, []⟩,
⟨4, some 9, none, .bin .neq (.t 6) (.t 8), []⟩]
@[go_sem] theorem F752_r1_r {E ks st Q} : type_of% (@opsE E ks st Q _ _ F752_r1.eq_1) := opsE F752_r1.eq_1
def F752_k2 : ACode := .seq (.reg true F752_r1) (.cond (.t 9) (.seq (.reg true [⟨0, some 4, none, .mov (.c (.bool false)), []⟩]) (.ret)) (.skip))
@[go_sem] theorem F752_k2_r {E ks st Q} : type_of% (@codeE E ks st Q _ _ F752_k2.eq_1) := codeE F752_k2.eq_1
def F752_r3 : List AOper := [⟨0, some 10, none, .nop 2, []⟩,
⟨1, some 11, none, .lload 2 1 none, []⟩,
⟨2, some 12, none, .nop 3, []⟩,
⟨3, some 13, none, .lload 3 1 none, []⟩,
⟨4, some 14, none, .bin .neq (.t 11) (.t 13), []⟩]
@[go_sem] theorem F752_r3_r {E ks st Q} : type_of% (@opsE E ks st Q _ _ F752_r3.eq_1) := opsE F752_r3.eq_1
def F752_k4 : ACode := .seq (.reg true F752_r3) (.cond (.t 14) (.seq (.reg true [⟨0, some 4, none, .mov (.c (.bool false)), []⟩]) (.ret)) (.skip))
@[go_sem] theorem F752_k4_r {E ks st Q} : type_of% (@codeE E ks st Q _ _ F752_k4.eq_1) := codeE F752_k4.eq_1
def F752_r5 : List AOper := [⟨0, some 15, none, .nop 2, []⟩,
⟨1, some 16, none, .lload 2 2 none, []⟩,
⟨2, some 17, none, .nop 3, []⟩,
⟨3, some 18, none, .lload 3 2 none, []⟩,
⟨4, some 19, none, .bin .neq (.t 16) (.t 18), []⟩]
@[go_sem] theorem F752_r5_r {E ks st Q} : type_of% (@opsE E ks st Q _ _ F752_r5.eq_1) := opsE F752_r5.eq_1
def F752_k6 : ACode := .seq (.reg true F752_r5) (.cond (.t 19) (.seq (.reg true [⟨0, some 4, none, .mov (.c (.bool false)), []⟩]) (.ret)) (.skip))
@[go_sem] theorem F752_k6_r {E ks st Q} : type_of% (@codeE E ks st Q _ _ F752_k6.eq_1) := codeE F752_k6.eq_1
def F752_k7 : ACode := .seq F752_k6 (.seq (.reg true [⟨0, some 4, none, .mov (.c (.bool true)), []⟩]) (.ret))
@[go_sem] theorem F752_k7_r {E ks st Q} : type_of% (@codeE E ks st Q _ _ F752_k7.eq_1) := codeE F752_k7.eq_1
def F752_k8 : ACode := .seq F752_k4 F752_k7
@[go_sem] theorem F752_k8_r {E ks st Q} : type_of% (@codeE E ks st Q _ _ F752_k8.eq_1) := codeE F752_k8.eq_1
def F752_k9 : ACode := .seq F752_k2 F752_k8
@[go_sem] theorem F752_k9_r {E ks st Q} : type_of% (@codeE E ks st Q _ _ F752_k9.eq_1) := codeE F752_k9.eq_1
def F752 : AFun := ⟨2, 20, [.t 4], .seq (.reg true F752_r0) F752_k9⟩
def F377 : AFun := eqS 3 (some 3) 752
def F753_r0 : List AOper := [⟨0, some 2, none, .lbox 2 (.t 0), []⟩,
⟨1, some 3, none, .lbox 2 (.t 1), []⟩,
⟨2, some 4, none, .mov (.c (.bool false)), []⟩]
@[go_sem] theorem F753_r0_r {E ks st Q} : type_of% (@opsE E ks st Q _ _ F753_r0.eq_1) := opsE F753_r0.eq_1
def F753_r1 : List AOper := [⟨0, some 5, none, .nop 2, []⟩,
⟨1, some 6, none, .lload 2 0 none, []⟩,
⟨2, some 7, none, .nop 3, []⟩,
⟨3, some 8, none, .lload 3 0 none, []⟩,
⟨4, some 9, none, .bin .neq (.t 6) (.t 8), []⟩]
@[go_sem] theorem F753_r1_r {E ks st Q} : type_of% (@opsE E ks st Q _ _ F753_r1.eq_1) := opsE F753_r1.eq_1
def F753_k2 : ACode := .seq (.reg true F753_r1) (.cond (.t 9) (.seq (.reg true [⟨0, some 4, none, .mov (.c (.bool false)), []⟩]) (.ret)) (.skip))
@[go_sem] theorem F753_k2_r {E ks st Q} : type_of% (@codeE E ks st Q _ _ F753_k2.eq_1) := codeE F753_k2.eq_1
def F753_r3 : List AOper := [⟨0, some 10, none, .nop 2, []⟩,
⟨1, some 11, none, .lload 2 1 none, []⟩,
⟨2, some 12, none, .nop 3, []⟩,
⟨3, some 13, none, .lload 3 1 none, []⟩,
⟨4, some 14, none, .bin .neq (.t 11) (.t 13), []⟩]
@[go_sem] theorem F753_r3_r {E ks st Q} : type_of% (@opsE E ks st Q _ _ F753_r3.eq_1) := opsE F753_r3.eq_1
def F753_k4 : ACode := .seq (.reg true F753_r3) (.cond (.t 14) (.seq (.reg true [⟨0, some 4, none, .mov (.c (.bool false)), []⟩]) (.ret)) (.skip))
@[go_sem] theorem F753_k4_r {E ks st Q} : type_of% (@codeE E ks st Q _ _ F753_k4.eq_1) := codeE F753_k4.eq_1
def F753_k5 : ACode := .seq F753_k4 (.seq (.reg true [⟨0, some 4, none, .mov (.c (.bool true)), []⟩]) (.ret))
@[go_sem] theorem F753_k5_r {E ks st Q} : type_of% (@codeE E ks st Q _ _ F753_k5.eq_1) := codeE F753_k5.eq_1
def F753_k6 : ACode := .seq F753_k2 F753_k5
@[go_sem] theorem F753_k6_r {E ks st Q} : type_of% (@codeE E ks st Q _ _ F753_k6.eq_1) := codeE F753_k6.eq_1
def F753 : AFun := ⟨2, 15, [.t 4], .seq (.reg true F753_r0) F753_k6⟩
def F378 : AFun := eqS 2 (some 2) 753
def F754_r0 : List AOper := [⟨0, some 2, none, .lbox 3 (.t 0), []⟩,
⟨1, some 3, none, .lbox 3 (.t 1), []⟩,
⟨2, some 4, none, .mov (.c (.bool false)), []⟩]
@[go_sem] theorem F754_r0_r {E ks st Q} : type_of% (@opsE E ks st Q _ _ F754_r0.eq_1) := opsE F754_r0.eq_1
def F754_r1 : List AOper := [⟨0, some 5, none, .nop 2, []⟩,
⟨1, some 6, none, .lload 2 0 none, []⟩,
⟨2, some 7, none, .nop 3, []⟩,
⟨3, some 8, none, .lload 3 0 none, []⟩,
⟨4, some 9, none, .bin .neq (.t 6) (.t 8), []⟩]
@[go_sem] theorem F754_r1_r {E ks st Q} : type_of% (@opsE E ks st Q _ _ F754_r1.eq_1) := opsE F754_r1.eq_1
def F754_k2 : ACode := .seq (.reg true F754_r1) (.cond (.t 9) (.seq (.reg true [⟨0, some 4, none, .mov (.c (.bool false)), []⟩]) (.ret)) (.skip))
@[go_sem] theorem F754_k2_r {E ks st Q} : type_of% (@codeE E ks st Q _ _ F754_k2.eq_1) := codeE F754_k2.eq_1
def F754_r3 : List AOper := [⟨0, some 10, none, .nop 2, []⟩,
⟨1, some 11, none, .lload 2 1 (some 1), []⟩,
⟨2, some 12, none, .nop 3, []⟩,
⟨3, some 13, none, .lload 3 1 (some 1), []⟩,
⟨4, some 14, none, .call 188 [.t 11, .t 13], []⟩,
⟨5, some 15, none, .not (.t 14), []⟩]
@[go_sem] theorem F754_r3_r {E ks st Q} : type_of% (@opsE E ks st Q _ _ F754_r3.eq_1) := opsE F754_r3.eq_1
def F754_k4 : ACode := .seq (.reg true F754_r3) (.cond (.t 15) (.seq (.reg true [⟨0, some 4, none, .mov (.c (.bool false)), []⟩]) (.ret)) (.skip))
@[go_sem] theorem F754_k4_r {E ks st Q} : type_of% (@codeE E ks st Q _ _ F754_k4.eq_1) := codeE F754_k4.eq_1
def F754_r5 : List AOper := [⟨0, some 16, none, .nop 2, []⟩,
⟨1, some 17, none, .lload 2 2 none, []⟩,
⟨2, some 18, none, .nop 3, []⟩,
⟨3, some 19, none, .lload 3 2 none, []⟩,
⟨4, some 20, none, .call 377 [.t 17, .t 19], []⟩,
⟨5, some 21, none, .not (.t 20), []⟩]
@[go_sem] theorem F754_r5_r {E ks st Q} : type_of% (@opsE E ks st Q _ _ F754_r5.eq_1) := opsE F754_r5.eq_1
def F754_k6 : ACode := .seq (.reg true F754_r5) (.cond (.t 21) (.seq (.reg true [⟨0, some 4, none, .mov (.c (.bool false)), []⟩]) (.ret)) (.skip))
@[go_sem] theorem F754_k6_r {E ks st Q} : type_of% (@codeE E ks st Q _ _ F754_k6.eq_1) := codeE F754_k6.eq_1
def F754_k7 : ACode := .seq F754_k6 (.seq (.reg true [⟨0, some 4, none, .mov (.c (.bool true)), []⟩]) (.ret))
@[go_sem] theorem F754_k7_r {E ks st Q} : type_of% (@codeE E ks st Q _ _ F754_k7.eq_1) := codeE F754_k7.eq_1
def F754_k8 : ACode := .seq F754_k4 F754_k7
@[go_sem] theorem F754_k8_r {E ks st Q} : type_of% (@codeE E ks st Q _ _ F754_k8.eq_1) := codeE F754_k8.eq_1
def F754_k9 : ACode := .seq F754_k2 F754_k8
@[go_sem] theorem F754_k9_r {E ks st Q} : type_of% (@codeE E ks st Q _ _ F754_k9.eq_1) := codeE F754_k9.eq_1
def F754 : AFun := ⟨2, 22, [.t 4], .seq (.reg true F754_r0) F754_k9⟩
def F379 : AFun := eqS 3 (some 3) 754
def F108_r0 : List AOper := [⟨0, some 2, none, .lbox 8 (.t 0), []⟩,
⟨1, some 3, none, .lbox 8 (.t 1), []⟩,
⟨2, some 4, none, .mov (.c (.bool false)), []⟩]
@[go_sem] theorem F108_r0_r {E ks st Q} : type_of% (@opsE E ks st Q _ _ F108_r0.eq_1) := opsE F108_r0.eq_1
def F108_r1 : List AOper := [⟨0, some 5, none, .nop 2, []⟩,
⟨1, some 6, none, .lload 2 0 none, []⟩,
⟨2, some 7, none, .nop 3, []⟩,
⟨3, some 8, none, .lload 3 0 none, []⟩,
⟨4, some 9, none, .call 187 [.t 6, .t 8], []⟩,
⟨5, some 10, none, .not (.t 9), []⟩]
@[go_sem] theorem F108_r1_r {E ks st Q} : type_of% (@opsE E ks st Q _ _ F108_r1.eq_1) := opsE F108_r1.eq_1
def F108_k2 : ACode := .seq (.reg true F108_r1) (.cond (.t 10) (.seq (.reg true [⟨0, some 4, none, .mov (.c (.bool false)), []⟩]) (.ret)) (.skip))
@[go_sem] theorem F108_k2_r {E ks st Q} : type_of% (@codeE E ks st Q _ _ F108_k2.eq_1) := codeE F108_k2.eq_1
def F108_r3 : List AOper := [⟨0, some 11, none, .nop 2, []⟩,
⟨1, some 12, none, .lload 2 1 none, []⟩,
⟨2, some 13, none, .nop 3, []⟩,
⟨3, some 14, none, .lload 3 1 none, []⟩,
⟨4, some 15, none, .call 86 [.t 12, .t 14], []⟩,
⟨5, some 16, none, .not (.t 15), []⟩]
@[go_sem] theorem F108_r3_r {E ks st Q} : type_of% (@opsE E ks st Q _ _ F108_r3.eq_1) := opsE F108_r3.eq_1
def F108_k4 : ACode := .seq (.reg true F108_r3) (.cond (.t 16) (.seq (.reg true [⟨0, some 4, none, .mov (.c (.bool false)), []⟩]) (.ret)) (.skip))
@[go_sem] theorem F108_k4_r {E ks st Q} : type_of% (@codeE E ks st Q _ _ F108_k4.eq_1) := codeE F108_k4.eq_1
def F108_r5 : List AOper := [⟨0, some 17, none, .nop 2, []⟩,
⟨1, some 18, none, .lload 2 2 none, []⟩,
⟨2, some 19, none, .nop 3, []⟩,
⟨3, some 20, none, .lload 3 2 none, []⟩,
⟨4, some 21, none, .bin .neq (.t 18) (.t 20), []⟩]
@[go_sem] theorem F108_r5_r {E ks st Q} : type_of% (@opsE E ks st Q _ _ F108_r5.eq_1) := opsE F108_r5.eq_1
def F108_k6 : ACode := .seq (.reg true F108_r5) (.cond (.t 21) (.seq (.reg true [⟨0, some 4, none, .mov (.c (.bool false)), []⟩]) (.ret)) (.skip))
@[go_sem] theorem F108_k6_r {E ks st Q} : type_of% (@codeE E ks st Q _ _ F108_k6.eq_1) := codeE F108_k6.eq_1
def F108_r7 : List AOper := [⟨0, some 22, none, .nop 2, []⟩,
⟨1, some 23, none, .lload 2 3 none, []⟩,
⟨2, some 24, none, .nop 3, []⟩,
⟨3, some 25, none, .lload 3 3 none, []⟩,
⟨4, some 26, none, .bin .neq (.t 23) (.t 25), []⟩]
@[go_sem] theorem F108_r7_r {E ks st Q} : type_of% (@opsE E ks st Q _ _ F108_r7.eq_1) := opsE F108_r7.eq_1
def F108_k8 : ACode := .seq (.reg true F108_r7) (.cond (.t 26) (.seq (.reg true [⟨0, some 4, none, .mov (.c (.bool false)), []⟩]) (.ret)) (.skip))
@[go_sem] theorem F108_k8_r {E ks st Q} : type_of% (@codeE E ks st Q _ _ F108_k8.eq_1) := codeE F108_k8.eq_1
def F108_r9 : List AOper := [⟨0, some 27, none, .nop 2, []⟩,
⟨1, some 28, none, .lload 2 4 (some 1), []⟩,
⟨2, some 29, none, .nop 3, []⟩,
⟨3, some 30, none, .lload 3 4 (some 1), []⟩,
⟨4, some 31, none, .call 188 [.t 28, .t 30], []⟩,
⟨5, some 32, none, .not (.t 31), []⟩]
@[go_sem] theorem F108_r9_r {E ks st Q} : type_of% (@opsE E ks st Q _ _ F108_r9.eq_1) := opsE F108_r9.eq_1
def F108_k10 : ACode := .seq (.reg true F108_r9) (.cond (.t 32) (.seq (.reg true [⟨0, some 4, none, .mov (.c (.bool false)), []⟩]) (.ret)) (.skip))
@[go_sem] theorem F108_k10_r {E ks st Q} : type_of% (@codeE E ks st Q _ _ F108_k10.eq_1) := codeE F108_k10.eq_1
def F108_r11 : List AOper := [⟨0, some 33, none, .nop 2, []⟩,
⟨1, some 34, none, .lload 2 5 none, []⟩,
⟨2, some 35, none, .nop 3, []⟩,
⟨3, some 36, none, .lload 3 5 none, []⟩,
⟨4, some 37, none, .call 377 [.t 34, .t 36], []⟩,
⟨5, some 38, none, .not (.t 37), []⟩]
@[go_sem] theorem F108_r11_r {E ks st Q} : type_of% (@opsE E ks st Q _ _ F108_r11.eq_1) := opsE F108_r11.eq_1
def F108_k12 : ACode := .seq (.reg true F108_r11) (.cond (.t 38) (.seq (.reg true [⟨0, some 4, none, .mov (.c (.bool false)), []⟩]) (.ret)) (.skip))
@[go_sem] theorem F108_k12_r {E ks st Q} : type_of% (@codeE E ks st Q _ _ F108_k12.eq_1) := codeE F108_k12.eq_1
def F108_r13 : List AOper := [⟨0, some 39, none, .nop 2, []⟩,
⟨1, some 40, none, .lload 2 6 none, []⟩,
⟨2, some 41, none, .nop 3, []⟩,
⟨3, some 42, none, .lload 3 6 none, []⟩,
⟨4, some 43, none, .call 378 [.t 40, .t 42], []⟩,
⟨5, some 44, none, .not (.t 43), []⟩]
@[go_sem] theorem F108_r13_r {E ks st Q} : type_of% (@opsE E ks st Q _ _ F108_r13.eq_1) := opsE F108_r13.eq_1
def F108_k14 : ACode := .seq (.reg true F108_r13) (.cond (.t 44) (.seq (.reg true [⟨0, some 4, none, .mov (.c (.bool false)), []⟩]) (.ret)) (.skip))
@[go_sem] theorem F108_k14_r {E ks st Q} : type_of% (@codeE E ks st Q _ _ F108_k14.eq_1) := codeE F108_k14.eq_1
def F108_r15 : List AOper := [⟨0, some 45, none, .nop 2, []⟩,
⟨1, some 46, none, .lload 2 7 none, []⟩,
⟨2, some 47, none, .nop 3, []⟩,
⟨3, some 48, none, .lload 3 7 none, []⟩,
⟨4, some 49, none, .call 379 [.t 46, .t 48], []⟩,
⟨5, some 50, none, .not (.t 49), []⟩]
@[go_sem] theorem F108_r15_r {E ks st Q} : type_of% (@opsE E ks st Q _ _ F108_r15.eq_1) := opsE F108_r15.eq_1
def F108_k16 : ACode := .seq (.reg true F108_r15) (.cond (.t 50) (.seq (.reg true [⟨0, some 4, none, .mov (.c (.bool false)), []⟩]) (.ret)) (.skip))
@[go_sem] theorem F108_k16_r {E ks st Q} : type_of% (@codeE E ks st Q _ _ F108_k16.eq_1) := codeE F108_k16.eq_1
def F108_k17 : ACode := .seq F108_k16 (.seq (.reg true [⟨0, some 4, none, .mov (.c (.bool true)), []⟩]) (.ret))
@[go_sem] theorem F108_k17_r {E ks st Q} : type_of% (@codeE E ks st Q _ _ F108_k17.eq_1) := codeE F108_k17.eq_1
def F108_k18 : ACode := .seq F108_k14 F108_k17
@[go_sem] theorem F108_k18_r {E ks st Q} : type_of% (@codeE E ks st Q _ _ F108_k18.eq_1) := codeE F108_k18.eq_1
def F108_k19 : ACode := .seq F108_k12 F108_k18
@[go_sem] theorem F108_k19_r {E ks st Q} : type_of% (@codeE E ks st Q _ _ F108_k19.eq_1) := codeE F108_k19.eq_1
def F108_k20 : ACode := .seq F108_k10 F108_k19
@[go_sem] theorem F108_k20_r {E ks st Q} : type_of% (@codeE E ks st Q _ _ F108_k20.eq_1) := codeE F108_k20.eq_1
def F108_k21 : ACode := .seq F108_k8 F108_k20
@[go_sem] theorem F108_k21_r {E ks st Q} : type_of% (@codeE E ks st Q _ _ F108_k21.eq_1) := codeE F108_k21.eq_1
def F108_k22 : ACode := .seq F108_k6 F108_k21
@[go_sem] theorem F108_k22_r {E ks st Q} : type_of% (@codeE E ks st Q _ _ F108_k22.eq_1) := codeE F108_k22.eq_1
def F108_k23 : ACode := .seq F108_k4 F108_k22
@[go_sem] theorem F108_k23_r {E ks st Q} : type_of% (@codeE E ks st Q _ _ F108_k23.eq_1) := codeE F108_k23.eq_1
def F108_k24 : ACode := .seq F108_k2 F108_k23
@[go_sem] theorem F108_k24_r {E ks st Q} : type_of% (@codeE E ks st Q _ _ F108_k24.eq_1) := codeE F108_k24.eq_1
def F108 : AFun := ⟨2, 51, [.t 4], .seq (.reg true F108_r0) F108_k24⟩
def F8_r0 : List AOper := [⟨0, some 13, none, .lload 1 0 (some 8), []⟩,
⟨1, some 14, none, .mov (.t 3), []⟩,
⟨2, some 15, none, .call 104 [.t 13, .t 14], []⟩,
⟨3, some 3, none, .mov (.t 15), []⟩]
@[go_sem] theorem F8_r0_r {E ks st Q} : type_of% (@opsE E ks st Q _ _ F8_r0.eq_1) := opsE F8_r0.eq_1
def F8_k1 : ACode := .seq (.reg true [⟨0, some 16, none, .mov (.t 3), []⟩,
⟨1, some 17, none, .bin .lss (.t 16) (.c (.int .i64 0)), []⟩]) (.cond (.t 17) (.seq (.reg true [⟨0, some 2, none, .mov (.c (.bool true)), []⟩]) (.ret)) (.skip))
@[go_sem] theorem F8_k1_r {E ks st Q} : type_of% (@codeE E ks st Q _ _ F8_k1.eq_1) := codeE F8_k1.eq_1
def F8_r2 : List AOper := [⟨0, some 19, none, .lload 1 0 (some 8), []⟩,
⟨1, some 20, none, .call 106 [.t 19], []⟩,
⟨2, some 21, none, .call 105 [.t 20], []⟩,
⟨3, some 18, none, .mov (.t 21), []⟩,
⟨4, some 22, none, .ext (.t 18) 0, []⟩,
⟨5, some 23, none, .ext (.t 18) 1, []⟩,
⟨6, some 24, none, .ext (.t 18) 2, []⟩,
⟨7, some 25, none, .ext (.t 18) 3, []⟩,
⟨8, some 4, none, .mov (.t 22), []⟩,
⟨9, some 5, none, .mov (.t 23), []⟩,
⟨10, some 6, none, .mov (.t 24), []⟩,
⟨11, some 7, none, .mov (.t 25), []⟩]
@[go_sem] theorem F8_r2_r {E ks st Q} : type_of% (@opsE E ks st Q _ _ F8_r2.eq_1) := opsE F8_r2.eq_1
def F8_r3 : List AOper := [⟨0, some 26, none, .lload 1 0 (some 8), []⟩,
⟨1, some 27, none, .call 106 [.t 26], []⟩,
⟨2, some 8, none, .lalloc (.agg [.nils, .nils, .int .i64 0, .int .i64 0, .nils, .nils, .nils, .nils]), []⟩,
⟨3, none, none, .lstore 8 0 8 (.t 27), []⟩]
@[go_sem] theorem F8_r3_r {E ks st Q} : type_of% (@opsE E ks st Q _ _ F8_r3.eq_1) := opsE F8_r3.eq_1
def F8_r4 : List AOper := [⟨0, some 29, none, .lload 8 0 (some 8), []⟩,
⟨1, some 30, none, .call 107 [.t 29], []⟩,
⟨2, some 28, none, .mov (.t 30), []⟩,
⟨3, some 31, none, .ext (.t 28) 0, []⟩,
⟨4, some 32, none, .ext (.t 28) 1, []⟩,
⟨5, some 33, none, .ext (.t 28) 2, []⟩,
⟨6, some 34, none, .ext (.t 28) 3, []⟩,
⟨7, some 9, none, .mov (.t 31), []⟩,
⟨8, some 10, none, .mov (.t 32), []⟩,
⟨9, some 11, none, .mov (.t 33), []⟩,
⟨10, some 12, none, .mov (.t 34), []⟩]
@[go_sem] theorem F8_r4_r {E ks st Q} : type_of% (@opsE E ks st Q _ _ F8_r4.eq_1) := opsE F8_r4.eq_1
def F8_r5 : List AOper := [⟨0, some 35, none, .mov (.t 9), []⟩,
⟨1, some 36, none, .mov (.t 4), []⟩,
⟨2, some 37, none, .bin .neq (.t 35) (.t 36), []⟩,
⟨3, some 38, none, .mov (.t 37), []⟩,
⟨4, some 39, (some (38, false)), .mov (.t 10), []⟩,
⟨5, some 40, (some (38, false)), .mov (.t 5), []⟩,
⟨6, some 41, (some (38, false)), .bin .neq (.t 39) (.t 40), []⟩,
⟨7, some 42, none, .pick (.t 38) (.c (.bool true)) (.t 41), []⟩,
⟨8, some 43, none, .mov (.t 42), []⟩,
⟨9, some 44, (some (43, false)), .mov (.t 11), []⟩,
⟨10, some 45, (some (43, false)), .mov (.t 6), []⟩,
⟨11, some 46, (some (43, false)), .bin .neq (.t 44) (.t 45), []⟩,
⟨12, some 47, none, .pick (.t 43) (.c (.bool true)) (.t 46), []⟩,
⟨13, some 48, none, .mov (.t 47), []⟩,
⟨14, some 49, (some (48, false)), .mov (.t 12), []⟩,
⟨15, some 50, (some (48, false)), .mov (.t 7), []⟩,
⟨16, some 51, (some (48, false)), .bin .neq (.t 49) (.t 50), []⟩,
⟨17, some 52, none, .pick (.t 48) (.c (.bool true)) (.t 51), []⟩]
@[go_sem] theorem F8_r5_r {E ks st Q} : type_of% (@opsE E ks st Q _ _ F8_r5.eq_1) := opsE F8_r5.eq_1
def F8_k6 : ACode := .seq (.reg true F8_r5) (.cond (.t 52) (.seq (.reg true [⟨0, some 2, none, .mov (.c (.bool false)), []⟩]) (.ret)) (.skip))
@[go_sem] theorem F8_k6_r {E ks st Q} : type_of% (@codeE E ks st Q _ _ F8_k6.eq_1) := codeE F8_k6.eq_1
def F8_r7 : List AOper := [⟨0, some 53, none, .lload 8 0 (some 8), []⟩,
⟨1, some 54, none, .lload 1 0 (some 8), []⟩,
⟨2, some 55, none, .call 106 [.t 54], []⟩,
⟨3, some 56, none, .call 108 [.t 53, .t 55], []⟩,
⟨4, some 57, none, .not (.t 56), []⟩]
@[go_sem] theorem F8_r7_r {E ks st Q} : type_of% (@opsE E ks st Q _ _ F8_r7.eq_1) := opsE F8_r7.eq_1
def F8_k8 : ACode := .seq (.reg true F8_r7) (.cond (.t 57) (.seq (.reg true [⟨0, some 2, none, .mov (.c (.bool false)), []⟩]) (.ret)) (.skip))
@[go_sem] theorem F8_k8_r {E ks st Q} : type_of% (@codeE E ks st Q _ _ F8_k8.eq_1) := codeE F8_k8.eq_1
def F8_k9 : ACode := .seq F8_k8 (.seq (.reg true [⟨0, some 2, none, .mov (.c (.bool true)), []⟩]) (.ret))
@[go_sem] theorem F8_k9_r {E ks st Q} : type_of% (@codeE E ks st Q _ _ F8_k9.eq_1) := codeE F8_k9.eq_1
def F8_k10 : ACode := .seq F8_k6 F8_k9
@[go_sem] theorem F8_k10_r {E ks st Q} : type_of% (@codeE E ks st Q _ _ F8_k10.eq_1) := codeE F8_k10.eq_1
def F8_k11 : ACode := .seq (.reg true F8_r4) F8_k10
@[go_sem] theorem F8_k11_r {E ks st Q} : type_of% (@codeE E ks st Q _ _ F8_k11.eq_1) := codeE F8_k11.eq_1
def F8_k12 : ACode := .seq (.reg true F8_r3) F8_k11
@[go_sem] theorem F8_k12_r {E ks st Q} : type_of% (@codeE E ks st Q _ _ F8_k12.eq_1) := codeE F8_k12.eq_1
def F8_k13 : ACode := .seq (.reg true F8_r2) F8_k12
@[go_sem] theorem F8_k13_r {E ks st Q} : type_of% (@codeE E ks st Q _ _ F8_k13.eq_1) := codeE F8_k13.eq_1
def F8_k14 : ACode := .seq F8_k1 F8_k13
@[go_sem] theorem F8_k14_r {E ks st Q} : type_of% (@codeE E ks st Q _ _ F8_k14.eq_1) := codeE F8_k14.eq_1
def F8_k15 : ACode := .seq (.reg true F8_r0) F8_k14
@[go_sem] theorem F8_k15_r {E ks st Q} : type_of% (@codeE E ks st Q _ _ F8_k15.eq_1) := codeE F8_k15.eq_1
def F8_k16 : ACode := .seq (.reg true [⟨0, some 3, none, .mov (.c (.int .i64 1048576)), []⟩]) F8_k15
@[go_sem] theorem F8_k16_r {E ks st Q} : type_of% (@codeE E ks st Q _ _ F8_k16.eq_1) := codeE F8_k16.eq_1
def F8 : AFun := ⟨1, 58, [.t 2], .seq (.reg true [⟨0, some 1, none, .lbox 8 (.t 0), []⟩,
⟨1, some 2, none, .mov (.c (.bool false)), []⟩]) F8_k16⟩
def F393_r0 : List AOper := [⟨0, some 10, none, .mov (.t 0), []⟩,
⟨1, some 11, none, .call 368 [.t 10], []⟩,
⟨2, some 9, none, .mov (.t 11), []⟩,
⟨3, some 12, none, .ext (.t 9) 0, []⟩,
⟨4, some 13, none, .ext (.t 9) 1, []⟩,
⟨5, some 14, none, .ext (.t 9) 2, []⟩,
⟨6, some 15, none, .ext (.t 9) 3, []⟩,
⟨7, some 4, none, .lalloc (.agg [.int .i64 0, .int .i64 0]), []⟩,
⟨8, some 3, none, .mov (.t 12), []⟩,
⟨9, none, none, .lstore 4 0 2 (.t 13), []⟩,
⟨10, some 5, none, .mov (.t 14), []⟩,
⟨11, some 6, none, .mov (.t 15), []⟩]
@[go_sem] theorem F393_r0_r {E ks st Q} : type_of% (@opsE E ks st Q _ _ F393_r0.eq_1) := opsE F393_r0.eq_1
def F393_r1 : List AOper := [⟨0, some 16, none, .mov (.t 7), []⟩,
⟨1, some 17, none, .mov (.t 0), []⟩,
⟨2, some 18, none, .nilchk (.t 17), []⟩,
⟨3, some 19, none, .faddr 6 (.t 18), []⟩,
⟨4, some 20, none, .load none (.t 19), []⟩,
⟨5, some 21, none, .len (.t 20), []⟩,
⟨6, some 22, none, .bin .lss (.t 16) (.t 21), []⟩,
⟨7, some 23, none, .mov (.t 22), []⟩,
⟨8, some 24, (some (23, true)), .mov (.t 6), []⟩,
⟨9, some 25, none, .pick (.t 23) (.t 24) (.c (.bool false)), []⟩]
@[go_sem] theorem F393_r1_r {E ks st Q} : type_of% (@opsE E ks st Q _ _ F393_r1.eq_1) := opsE F393_r1.eq_1
def F393_k2 : ACode := .seq (.reg true F393_r1) (.cond (.t 25) (.skip) (.exit 0))
@[go_sem] theorem F393_k2_r {E ks st Q} : type_of% (@codeE E ks st Q _ _ F393_k2.eq_1) := codeE F393_k2.eq_1
def F393_r3 : List AOper := [⟨0, some 28, none, .mov (.t 0), []⟩,
⟨1, some 29, none, .nilchk (.t 28), []⟩,
⟨2, some 30, none, .faddr 6 (.t 29), []⟩,
⟨3, some 31, none, .load none (.t 30), []⟩,
⟨4, some 32, none, .mov (.t 7), []⟩,
⟨5, some 33, none, .iaddr 2 (.t 31) (.t 32), []⟩,
⟨6, some 34, none, .load (some 2) (.t 33), []⟩,
⟨7, some 8, none, .lalloc (.agg [.int .i64 0, .int .i64 0]), []⟩,
⟨8, none, none, .lstore 8 0 2 (.t 34), []⟩]
@[go_sem] theorem F393_r3_r {E ks st Q} : type_of% (@opsE E ks st Q _ _ F393_r3.eq_1) := opsE F393_r3.eq_1
def F393_r4 : List AOper := [⟨0, some 35, none, .nop 8, []⟩,
⟨1, some 36, none, .lload 8 0 none, []⟩,
⟨2, some 37, none, .bin .eql (.t 36) (.c (.int .i64 1)), []⟩,
⟨3, some 38, none, .mov (.t 37), []⟩,
⟨4, some 39, (some (38, true)), .nop 8, []⟩,
⟨5, some 40, (some (38, true)), .lload 8 1 none, []⟩,
⟨6, some 41, (some (38, true)), .mov (.t 5), []⟩,
⟨7, some 42, (some (38, true)), .bin .eql (.t 40) (.t 41), []⟩,
⟨8, some 43, none, .pick (.t 38) (.t 42) (.c (.bool false)), []⟩,
⟨9, some 44, none, .mov (.t 43), []⟩,
⟨10, some 45, (some (44, false)), .nop 8, []⟩,
⟨11, some 46, (some (44, false)), .lload 8 0 none, []⟩,
⟨12, some 47, (some (44, false)), .bin .eql (.t 46) (.c (.int .i64 2)), []⟩,
⟨13, some 48, (some (44, false)), .mov (.t 47), []⟩,
⟨14, some 49, (some (48, true)), .nop 8, []⟩,
⟨15, some 50, (some (48, true)), .lload 8 1 none, []⟩,
⟨16, some 51, (some (48, true)), .mov (.t 0), []⟩,
⟨17, some 52, (some (48, true)), .lload 4 0 (some 2), []⟩,
⟨18, some 53, (some (48, true)), .mov (.t 5), []⟩,
⟨19, some 54, (some (48, true)), .call 369 [.t 51, .t 52, .t 53], []⟩,
⟨20, some 55, (some (48, true)), .bin .eql (.t 50) (.t 54), []⟩,
⟨21, some 56, (some (44, false)), .pick (.t 48) (.t 55) (.c (.bool false)), []⟩,
⟨22, some 57, none, .pick (.t 44) (.c (.bool true)) (.t 56), []⟩,
⟨23, some 58, none, .mov (.t 57), []⟩,
⟨24, some 59, (some (58, false)), .nop 8, []⟩,
⟨25, some 60, (some (58, false)), .lload 8 0 none, []⟩,
⟨26, some 61, (some (58, false)), .bin .eql (.t 60) (.c (.int .i64 3)), []⟩,
⟨27, some 62, (some (58, false)), .mov (.t 61), []⟩,
⟨28, some 63, (some (62, true)), .mov (.t 0), []⟩,
⟨29, some 64, (some (62, true)), .nilchk (.t 63), []⟩,
⟨30, some 65, (some (62, true)), .faddr 4 (.t 64), []⟩,
⟨31, some 66, (some (62, true)), .faddr 0 (.t 65), []⟩,
⟨32, some 67, (some (62, true)), .load none (.t 66), []⟩,
⟨33, some 68, (some (62, true)), .len (.t 67), []⟩,
⟨34, some 69, (some (62, true)), .nop 8, []⟩,
⟨35, some 70, (some (62, true)), .lload 8 1 none, []⟩,
⟨36, some 71, (some (62, true)), .bin .geq (.t 68) (.t 70), []⟩,
⟨37, some 72, (some (58, false)), .pick (.t 62) (.t 71) (.c (.bool false)), []⟩,
⟨38, some 73, none, .pick (.t 58) (.c (.bool true)) (.t 72), []⟩]
@[go_sem] theorem F393_r4_r {E ks st Q} : type_of% (@opsE E ks st Q _ _ F393_r4.eq_1) := opsE F393_r4.eq_1
def F393_k5 : ACode := .cond (.t 73) (.seq (.reg true [⟨0, some 74, none, .mov (.t 7), []⟩,
⟨1, some 2, none, .mov (.t 74), []⟩]) (.ret)) (.skip)
@[go_sem] theorem F393_k5_r {E ks st Q} : type_of% (@codeE E ks st Q _ _ F393_k5.eq_1) := codeE F393_k5.eq_1
def F393_k6 : ACode := .seq (.reg true F393_r4) F393_k5
@[go_sem] theorem F393_k6_r {E ks st Q} : type_of% (@codeE E ks st Q _ _ F393_k6.eq_1) := codeE F393_k6.eq_1
def F393_k7 : ACode := .seq (.reg true F393_r3) F393_k6
@[go_sem] theorem F393_k7_r {E ks st Q} : type_of% (@codeE E ks st Q _ _ F393_k7.eq_1) := codeE F393_k7.eq_1
def F393_k8 : ACode := .blk 1 F393_k7
@[go_sem] theorem F393_k8_r {E ks st Q} : type_of% (@codeE E ks st Q _ _ F393_k8.eq_1) := codeE F393_k8.eq_1
def F393_r9 : List AOper := [⟨0, some 26, none, .mov (.t 7), []⟩,
⟨1, some 27, none, .bin .add (.t 26) (.c (.int .i64 1)), []⟩,
⟨2, some 7, none, .mov (.t 27), []⟩]
@[go_sem] theorem F393_r9_r {E ks st Q} : type_of% (@opsE E ks st Q _ _ F393_r9.eq_1) := opsE F393_r9.eq_1
def F393_k10 : ACode := .seq F393_k8 (.reg true F393_r9)
@[go_sem] theorem F393_k10_r {E ks st Q} : type_of% (@codeE E ks st Q _ _ F393_k10.eq_1) := codeE F393_k10.eq_1
def F393_k11 : ACode := .seq F393_k2 F393_k10
@[go_sem] theorem F393_k11_r {E ks st Q} : type_of% (@codeE E ks st Q _ _ F393_k11.eq_1) := codeE F393_k11.eq_1
def F393_k12 : ACode := .loop F393_k11
@[go_sem] theorem F393_k12_r {E ks st Q} : type_of% (@codeE E ks st Q _ _ F393_k12.eq_1) := codeE F393_k12.eq_1
def F393_k13 : ACode := .blk 0 F393_k12
@[go_sem] theorem F393_k13_r {E ks st Q} : type_of% (@codeE E ks st Q _ _ F393_k13.eq_1) := codeE F393_k13.eq_1
def F393_k14 : ACode := .seq (.reg true [⟨0, some 7, none, .mov (.c (.int .i64 0)), []⟩]) F393_k13
@[go_sem] theorem F393_k14_r {E ks st Q} : type_of% (@codeE E ks st Q _ _ F393_k14.eq_1) := codeE F393_k14.eq_1
def F393_k15 : ACode := .seq F393_k14 (.seq (.reg true [⟨0, some 2, none, .mov (.c (.int .i64 (-1))), []⟩]) (.ret))
@[go_sem] theorem F393_k15_r {E ks st Q} : type_of% (@codeE E ks st Q _ _ F393_k15.eq_1) := codeE F393_k15.eq_1
def F393_k16 : ACode := .seq (.reg true F393_r0) F393_k15
@[go_sem] theorem F393_k16_r {E ks st Q} : type_of% (@codeE E ks st Q _ _ F393_k16.eq_1) := codeE F393_k16.eq_1
def F393 : AFun := ⟨1, 75, [.t 2], .seq (.reg true [⟨0, some 2, none, .mov (.c (.int .i64 0)), []⟩]) F393_k16⟩
def F116_r0 : List AOper := [⟨0, some 1, none, .hbox 8 (.t 0), []⟩,
⟨1, some 2, none, .mov (.c (.int .i64 0)), []⟩,
⟨2, some 3, none, .mov (.c (.int .i64 0)), []⟩]
@[go_sem] theorem F116_r0_r {E ks st Q} : type_of% (@opsE E ks st Q _ _ F116_r0.eq_1) := opsE F116_r0.eq_1
def F116_k1 : ACode := .cond (.t 6) (.seq (.reg true [⟨0, some 2, none, .mov (.c (.int .i64 0)), []⟩,
⟨1, some 3, none, .mov (.c (.int .i64 1)), []⟩]) (.ret)) (.skip)
@[go_sem] theorem F116_k1_r {E ks st Q} : type_of% (@codeE E ks st Q _ _ F116_k1.eq_1) := codeE F116_k1.eq_1
def F116_k2 : ACode := .seq (.reg true [⟨0, some 5, none, .call 367 [.t 1], []⟩,
⟨1, some 6, none, .not (.t 5), []⟩]) F116_k1
@[go_sem] theorem F116_k2_r {E ks st Q} : type_of% (@codeE E ks st Q _ _ F116_k2.eq_1) := codeE F116_k2.eq_1
def F116_k3 : ACode := .cond (.t 9) (.seq (.reg true [⟨0, some 2, none, .mov (.c (.int .i64 0)), []⟩,
⟨1, some 3, none, .mov (.c (.int .i64 3)), []⟩]) (.ret)) (.skip)
@[go_sem] theorem F116_k3_r {E ks st Q} : type_of% (@codeE E ks st Q _ _ F116_k3.eq_1) := codeE F116_k3.eq_1
def F116_k4 : ACode := .seq (.reg true [⟨0, some 8, none, .mov (.t 4), []⟩,
⟨1, some 9, none, .bin .lss (.t 8) (.c (.int .i64 0)), []⟩]) F116_k3
@[go_sem] theorem F116_k4_r {E ks st Q} : type_of% (@codeE E ks st Q _ _ F116_k4.eq_1) := codeE F116_k4.eq_1
def F116_r5 : List AOper := [⟨0, some 10, none, .mov (.t 4), []⟩,
⟨1, some 2, none, .mov (.t 10), []⟩,
⟨2, some 3, none, .mov (.c (.int .i64 0)), []⟩]
@[go_sem] theorem F116_r5_r {E ks st Q} : type_of% (@opsE E ks st Q _ _ F116_r5.eq_1) := opsE F116_r5.eq_1
def F116_k6 : ACode := .seq F116_k4 (.seq (.reg true F116_r5) (.ret))
@[go_sem] theorem F116_k6_r {E ks st Q} : type_of% (@codeE E ks st Q _ _ F116_k6.eq_1) := codeE F116_k6.eq_1
def F116_k7 : ACode := .seq (.reg true [⟨0, some 7, none, .call 393 [.t 1], []⟩,
⟨1, some 4, none, .mov (.t 7), []⟩]) F116_k6
@[go_sem] theorem F116_k7_r {E ks st Q} : type_of% (@codeE E ks st Q _ _ F116_k7.eq_1) := codeE F116_k7.eq_1
def F116_k8 : ACode := .seq F116_k2 F116_k7
@[go_sem] theorem F116_k8_r {E ks st Q} : type_of% (@codeE E ks st Q _ _ F116_k8.eq_1) := codeE F116_k8.eq_1
def F116 : AFun := ⟨1, 11, [.t 2, .t 3], .seq (.reg true F116_r0) F116_k8⟩
def F772_r0 : List AOper := [⟨0, some 9, none, .nop 3, []⟩,
⟨1, some 10, none, .lload 3 1 none, []⟩,
⟨2, some 11, none, .faddr 2 (.t 1), []⟩,
⟨3, some 12, none, .load none (.t 11), []⟩,
⟨4, some 13, none, .bin .eql (.t 10) (.t 12), []⟩,
⟨5, some 4, none, .mov (.t 13), []⟩]
@[go_sem] theorem F772_r0_r {E ks st Q} : type_of% (@opsE E ks st Q _ _ F772_r0.eq_1) := opsE F772_r0.eq_1
def F772_k1 : ACode := .seq (.reg true F772_r0) (.ret)
@[go_sem] theorem F772_k1_r {E ks st Q} : type_of% (@codeE E ks st Q _ _ F772_k1.eq_1) := codeE F772_k1.eq_1
def F772_r2 : List AOper := [⟨0, some 16, none, .nop 3, []⟩,
⟨1, some 17, none, .lload 3 1 none, []⟩,
⟨2, some 18, none, .faddr 5 (.t 1), []⟩,
⟨3, some 19, none, .load none (.t 18), []⟩,
⟨4, some 20, none, .bin .eql (.t 17) (.t 19), []⟩,
⟨5, some 4, none, .mov (.t 20), []⟩]
@[go_sem] theorem F772_r2_r {E ks st Q} : type_of% (@opsE E ks st Q _ _ F772_r2.eq_1) := opsE F772_r2.eq_1
def F772_k3 : ACode := .seq (.reg true F772_r2) (.ret)
@[go_sem] theorem F772_k3_r {E ks st Q} : type_of% (@codeE E ks st Q _ _ F772_k3.eq_1) := codeE F772_k3.eq_1
def F772_k4 : ACode := .cond (.t 14) F772_k3 (.skip)
@[go_sem] theorem F772_k4_r {E ks st Q} : type_of% (@codeE E ks st Q _ _ F772_k4.eq_1) := codeE F772_k4.eq_1
def F772_k5 : ACode := .seq (.reg true [⟨0, some 15, none, .bin .eql (.t 6) (.c (.int .i64 2)), []⟩,
⟨1, some 14, none, .mov (.t 15), []⟩]) F772_k4
@[go_sem] theorem F772_k5_r {E ks st Q} : type_of% (@codeE E ks st Q _ _ F772_k5.eq_1) := codeE F772_k5.eq_1
def F772_k6 : ACode := .cond (.t 7) F772_k1 F772_k5
@[go_sem] theorem F772_k6_r {E ks st Q} : type_of% (@codeE E ks st Q _ _ F772_k6.eq_1) := codeE F772_k6.eq_1
def F772_k7 : ACode := .seq (.reg true [⟨0, some 8, none, .bin .eql (.t 6) (.c (.int .i64 1)), []⟩,
⟨1, some 7, none, .mov (.t 8), []⟩]) F772_k6
@[go_sem] theorem F772_k7_r {E ks st Q} : type_of% (@codeE E ks st Q _ _ F772_k7.eq_1) := codeE F772_k7.eq_1
def F772_k8 : ACode := .blk 0 F772_k7
@[go_sem] theorem F772_k8_r {E ks st Q} : type_of% (@codeE E ks st Q _ _ F772_k8.eq_1) := codeE F772_k8.eq_1
def F772_k9 : ACode := .seq (.reg true [⟨0, some 5, none, .nop 3, []⟩,
⟨1, some 6, none, .lload 3 0 none, []⟩]) F772_k8
@[go_sem] theorem F772_k9_r {E ks st Q} : type_of% (@codeE E ks st Q _ _ F772_k9.eq_1) := codeE F772_k9.eq_1
def F772_r10 : List AOper := [⟨0, some 21, none, .nop 3, []⟩,
⟨1, some 22, none, .lload 3 1 none, []⟩,
⟨2, some 23, none, .load none (.t 2), []⟩,
⟨3, some 24, none, .nilchk (.t 23), []⟩,
⟨4, some 25, none, .faddr 4 (.t 24), []⟩,
⟨5, some 26, none, .faddr 0 (.t 25), []⟩,
⟨6, some 27, none, .load none (.t 26), []⟩,
⟨7, some 28, none, .len (.t 27), []⟩,
⟨8, some 29, none, .bin .leq (.t 22) (.t 28), []⟩,
⟨9, some 4, none, .mov (.t 29), []⟩]
@[go_sem] theorem F772_r10_r {E ks st Q} : type_of% (@opsE E ks st Q _ _ F772_r10.eq_1) := opsE F772_r10.eq_1
def F772_k11 : ACode := .seq (.reg true F772_r10) (.ret)
@[go_sem] theorem F772_k11_r {E ks st Q} : type_of% (@codeE E ks st Q _ _ F772_k11.eq_1) := codeE F772_k11.eq_1
def F772_k12 : ACode := .seq F772_k9 F772_k11
@[go_sem] theorem F772_k12_r {E ks st Q} : type_of% (@codeE E ks st Q _ _ F772_k12.eq_1) := codeE F772_k12.eq_1
def F772 : AFun := ⟨3, 30, [.t 4], .seq (.reg true [⟨0, some 3, none, .lbox 2 (.t 0), []⟩,
⟨1, some 4, none, .mov (.c (.bool false)), []⟩]) F772_k12⟩
def F394_r0 : List AOper := [⟨0, some 6, none, .load none (.t 1), []⟩,
⟨1, some 7, none, .call 374 [.t 6], []⟩,
⟨2, some 5, none, .mov (.t 7), []⟩,
⟨3, some 8, none, .ext (.t 5) 0, []⟩,
⟨4, some 9, none, .ext (.t 5) 1, []⟩,
⟨5, some 3, none, .halloc 6 (.agg [.int .i64 0, .int .i64 0, .int .i64 0, .int .i64 0, .int .i64 0, .int .i64 0]), []⟩,
⟨6, none, none, .store 6 (.t 3) (.t 8), []⟩,
⟨7, some 4, none, .mov (.t 9), []⟩]
@[go_sem] theorem F394_r0_r {E ks st Q} : type_of% (@opsE E ks st Q _ _ F394_r0.eq_1) := opsE F394_r0.eq_1
def F394_k1 : ACode := .seq (.reg true [⟨0, some 10, none, .mov (.t 4), []⟩,
⟨1, some 11, none, .not (.t 10), []⟩]) (.cond (.t 11) (.seq (.reg true [⟨0, some 2, none, .mov (.c (.int .i64 (-1))), []⟩]) (.ret)) (.skip))
@[go_sem] theorem F394_k1_r {E ks st Q} : type_of% (@codeE E ks st Q _ _ F394_k1.eq_1) := codeE F394_k1.eq_1
def F394_r2 : List AOper := [⟨0, some 12, none, .load none (.t 1), []⟩,
⟨1, some 13, none, .nilchk (.t 12), []⟩,
⟨2, some 14, none, .faddr 6 (.t 13), []⟩,
⟨3, some 15, none, .load none (.t 14), []⟩,
⟨4, some 16, none, .mkfn 772 [.t 3, .t 1], []⟩,
⟨5, some 17, none, .call 771 [.t 15, .t 16], []⟩,
⟨6, some 2, none, .mov (.t 17), []⟩]
@[go_sem] theorem F394_r2_r {E ks st Q} : type_of% (@opsE E ks st Q _ _ F394_r2.eq_1) := opsE F394_r2.eq_1
def F394_k3 : ACode := .seq (.reg true F394_r2) (.ret)
@[go_sem] theorem F394_k3_r {E ks st Q} : type_of% (@codeE E ks st Q _ _ F394_k3.eq_1) := codeE F394_k3.eq_1
def F394_k4 : ACode := .seq F394_k1 F394_k3
@[go_sem] theorem F394_k4_r {E ks st Q} : type_of% (@codeE E ks st Q _ _ F394_k4.eq_1) := codeE F394_k4.eq_1
def F394_k5 : ACode := .seq (.reg true F394_r0) F394_k4
@[go_sem] theorem F394_k5_r {E ks st Q} : type_of% (@codeE E ks st Q _ _ F394_k5.eq_1) := codeE F394_k5.eq_1
def F394 : AFun := ⟨1, 18, [.t 2], .seq (.reg true [⟨0, some 1, none, .hbox 1 (.t 0), []⟩,
⟨1, some 2, none, .mov (.c (.int .i64 0)), []⟩]) F394_k5⟩
def F117_r0 : List AOper := [⟨0, some 1, none, .hbox 8 (.t 0), []⟩,
⟨1, some 2, none, .mov (.c (.int .i64 0)), []⟩,
⟨2, some 3, none, .mov (.c (.int .i64 0)), []⟩]
@[go_sem] theorem F117_r0_r {E ks st Q} : type_of% (@opsE E ks st Q _ _ F117_r0.eq_1) := opsE F117_r0.eq_1
def F117_r1 : List AOper := [⟨0, some 5, none, .load (some 8) (.t 1), []⟩,
⟨1, some 6, none, .call 373 [.t 5], []⟩,
⟨2, some 7, none, .not (.t 6), []⟩]
@[go_sem] theorem F117_r1_r {E ks st Q} : type_of% (@opsE E ks st Q _ _ F117_r1.eq_1) := opsE F117_r1.eq_1
def F117_k2 : ACode := .cond (.t 7) (.seq (.reg true [⟨0, some 2, none, .mov (.c (.int .i64 0)), []⟩,
⟨1, some 3, none, .mov (.c (.int .i64 1)), []⟩]) (.ret)) (.skip)
@[go_sem] theorem F117_k2_r {E ks st Q} : type_of% (@codeE E ks st Q _ _ F117_k2.eq_1) := codeE F117_k2.eq_1
def F117_k3 : ACode := .seq (.reg true F117_r1) F117_k2
@[go_sem] theorem F117_k3_r {E ks st Q} : type_of% (@codeE E ks st Q _ _ F117_k3.eq_1) := codeE F117_k3.eq_1
def F117_k4 : ACode := .cond (.t 10) (.seq (.reg true [⟨0, some 2, none, .mov (.c (.int .i64 0)), []⟩,
⟨1, some 3, none, .mov (.c (.int .i64 3)), []⟩]) (.ret)) (.skip)
@[go_sem] theorem F117_k4_r {E ks st Q} : type_of% (@codeE E ks st Q _ _ F117_k4.eq_1) := codeE F117_k4.eq_1
def F117_k5 : ACode := .seq (.reg true [⟨0, some 9, none, .mov (.t 4), []⟩,
⟨1, some 10, none, .bin .lss (.t 9) (.c (.int .i64 0)), []⟩]) F117_k4
@[go_sem] theorem F117_k5_r {E ks st Q} : type_of% (@codeE E ks st Q _ _ F117_k5.eq_1) := codeE F117_k5.eq_1
def F117_r6 : List AOper := [⟨0, some 11, none, .mov (.t 4), []⟩,
⟨1, some 2, none, .mov (.t 11), []⟩,
⟨2, some 3, none, .mov (.c (.int .i64 0)), []⟩]
@[go_sem] theorem F117_r6_r {E ks st Q} : type_of% (@opsE E ks st Q _ _ F117_r6.eq_1) := opsE F117_r6.eq_1
def F117_k7 : ACode := .seq F117_k5 (.seq (.reg true F117_r6) (.ret))
@[go_sem] theorem F117_k7_r {E ks st Q} : type_of% (@codeE E ks st Q _ _ F117_k7.eq_1) := codeE F117_k7.eq_1
def F117_k8 : ACode := .seq (.reg true [⟨0, some 8, none, .call 394 [.t 1], []⟩,
⟨1, some 4, none, .mov (.t 8), []⟩]) F117_k7
@[go_sem] theorem F117_k8_r {E ks st Q} : type_of% (@codeE E ks st Q _ _ F117_k8.eq_1) := codeE F117_k8.eq_1
def F117_k9 : ACode := .seq F117_k3 F117_k8
@[go_sem] theorem F117_k9_r {E ks st Q} : type_of% (@codeE E ks st Q _ _ F117_k9.eq_1) := codeE F117_k9.eq_1
def F117 : AFun := ⟨1, 12, [.t 2, .t 3], .seq (.reg true F117_r0) F117_k9⟩
def F10_r0 : List AOper := [⟨0, some 9, none, .lload 1 0 (some 8), []⟩,
⟨1, some 10, none, .mov (.t 3), []⟩,
⟨2, some 11, none, .call 104 [.t 9, .t 10], []⟩,
⟨3, some 3, none, .mov (.t 11), []⟩]
@[go_sem] theorem F10_r0_r {E ks st Q} : type_of% (@opsE E ks st Q _ _ F10_r0.eq_1) := opsE F10_r0.eq_1
def F10_k1 : ACode := .seq (.reg true [⟨0, some 12, none, .mov (.t 3), []⟩,
⟨1, some 13, none, .bin .lss (.t 12) (.c (.int .i64 0)), []⟩]) (.cond (.t 13) (.seq (.reg true [⟨0, some 2, none, .mov (.c (.bool true)), []⟩]) (.ret)) (.skip))
@[go_sem] theorem F10_k1_r {E ks st Q} : type_of% (@codeE E ks st Q _ _ F10_k1.eq_1) := codeE F10_k1.eq_1
def F10_r2 : List AOper := [⟨0, some 15, none, .lload 1 0 (some 8), []⟩,
⟨1, some 16, none, .call 106 [.t 15], []⟩,
⟨2, some 17, none, .call 116 [.t 16], []⟩,
⟨3, some 14, none, .mov (.t 17), []⟩,
⟨4, some 18, none, .ext (.t 14) 0, []⟩,
⟨5, some 19, none, .ext (.t 14) 1, []⟩,
⟨6, some 4, none, .mov (.t 18), []⟩,
⟨7, some 5, none, .mov (.t 19), []⟩]
@[go_sem] theorem F10_r2_r {E ks st Q} : type_of% (@opsE E ks st Q _ _ F10_r2.eq_1) := opsE F10_r2.eq_1
def F10_r3 : List AOper := [⟨0, some 20, none, .lload 1 0 (some 8), []⟩,
⟨1, some 21, none, .call 106 [.t 20], []⟩,
⟨2, some 6, none, .lalloc (.agg [.nils, .nils, .int .i64 0, .int .i64 0, .nils, .nils, .nils, .nils]), []⟩,
⟨3, none, none, .lstore 6 0 8 (.t 21), []⟩]
@[go_sem] theorem F10_r3_r {E ks st Q} : type_of% (@opsE E ks st Q _ _ F10_r3.eq_1) := opsE F10_r3.eq_1
def F10_r4 : List AOper := [⟨0, some 23, none, .lload 6 0 (some 8), []⟩,
⟨1, some 24, none, .call 117 [.t 23], []⟩,
⟨2, some 22, none, .mov (.t 24), []⟩,
⟨3, some 25, none, .ext (.t 22) 0, []⟩,
⟨4, some 26, none, .ext (.t 22) 1, []⟩,
⟨5, some 7, none, .mov (.t 25), []⟩,
⟨6, some 8, none, .mov (.t 26), []⟩]
@[go_sem] theorem F10_r4_r {E ks st Q} : type_of% (@opsE E ks st Q _ _ F10_r4.eq_1) := opsE F10_r4.eq_1
def F10_r5 : List AOper := [⟨0, some 27, none, .mov (.t 7), []⟩,
⟨1, some 28, none, .mov (.t 4), []⟩,
⟨2, some 29, none, .bin .neq (.t 27) (.t 28), []⟩,
⟨3, some 30, none, .mov (.t 29), []⟩,
⟨4, some 31, (some (30, false)), .mov (.t 8), []⟩,
⟨5, some 32, (some (30, false)), .mov (.t 5), []⟩,
⟨6, some 33, (some (30, false)), .bin .neq (.t 31) (.t 32), []⟩,
⟨7, some 34, none, .pick (.t 30) (.c (.bool true)) (.t 33), []⟩]
@[go_sem] theorem F10_r5_r {E ks st Q} : type_of% (@opsE E ks st Q _ _ F10_r5.eq_1) := opsE F10_r5.eq_1
def F10_k6 : ACode := .seq (.reg true F10_r5) (.cond (.t 34) (.seq (.reg true [⟨0, some 2, none, .mov (.c (.bool false)), []⟩]) (.ret)) (.skip))
@[go_sem] theorem F10_k6_r {E ks st Q} : type_of% (@codeE E ks st Q _ _ F10_k6.eq_1) := codeE F10_k6.eq_1
def F10_r7 : List AOper := [⟨0, some 35, none, .lload 6 0 (some 8), []⟩,
⟨1, some 36, none, .lload 1 0 (some 8), []⟩,
⟨2, some 37, none, .call 106 [.t 36], []⟩,
⟨3, some 38, none, .call 108 [.t 35, .t 37], []⟩,
⟨4, some 39, none, .not (.t 38), []⟩]
@[go_sem] theorem F10_r7_r {E ks st Q} : type_of% (@opsE E ks st Q _ _ F10_r7.eq_1) := opsE F10_r7.eq_1
def F10_k8 : ACode := .seq (.reg true F10_r7) (.cond (.t 39) (.seq (.reg true [⟨0, some 2, none, .mov (.c (.bool false)), []⟩]) (.ret)) (.skip))
@[go_sem] theorem F10_k8_r {E ks st Q} : type_of% (@codeE E ks st Q _ _ F10_k8.eq_1) := codeE F10_k8.eq_1
def F10_k9 : ACode := .seq F10_k8 (.seq (.reg true [⟨0, some 2, none, .mov (.c (.bool true)), []⟩]) (.ret))
@[go_sem] theorem F10_k9_r {E ks st Q} : type_of% (@codeE E ks st Q _ _ F10_k9.eq_1) := codeE F10_k9.eq_1
def F10_k10 : ACode := .seq F10_k6 F10_k9
@[go_sem] theorem F10_k10_r {E ks st Q} : type_of% (@codeE E ks st Q _ _ F10_k10.eq_1) := codeE F10_k10.eq_1
def F10_k11 : ACode := .seq (.reg true F10_r4) F10_k10
@[go_sem] theorem F10_k11_r {E ks st Q} : type_of% (@codeE E ks st Q _ _ F10_k11.eq_1) := codeE F10_k11.eq_1
def F10_k12 : ACode := .seq (.reg true F10_r3) F10_k11
@[go_sem] theorem F10_k12_r {E ks st Q} : type_of% (@codeE E ks st Q _ _ F10_k12.eq_1) := codeE F10_k12.eq_1
def F10_k13 : ACode := .seq (.reg true F10_r2) F10_k12
@[go_sem] theorem F10_k13_r {E ks st Q} : type_of% (@codeE E ks st Q _ _ F10_k13.eq_1) := codeE F10_k13.eq_1
def F10_k14 : ACode := .seq F10_k1 F10_k13
@[go_sem] theorem F10_k14_r {E ks st Q} : type_of% (@codeE E ks st Q _ _ F10_k14.eq_1) := codeE F10_k14.eq_1
def F10_k15 : ACode := .seq (.reg true F10_r0) F10_k14
@[go_sem] theorem F10_k15_r {E ks st Q} : type_of% (@codeE E ks st Q _ _ F10_k15.eq_1) := codeE F10_k15.eq_1
def F10_k16 : ACode := .seq (.reg true [⟨0, some 3, none, .mov (.c (.int .i64 1048576)), []⟩]) F10_k15
@[go_sem] theorem F10_k16_r {E ks st Q} : type_of% (@codeE E ks st Q _ _ F10_k16.eq_1) := codeE F10_k16.eq_1
def F10 : AFun := ⟨1, 40, [.t 2], .seq (.reg true [⟨0, some 1, none, .lbox 8 (.t 0), []⟩,
⟨1, some 2, none, .mov (.c (.bool false)), []⟩]) F10_k16⟩
def tabm : List (Nat × AFun) := [(338, F338), (1173, F1173), (852, F852), (501, F501), (182, F182), (181, F181), (364, F364), (365, F365), (740, F740), (366, F366), (104, F104), (340, F340), (412, F412), (426, F426), (488, F488), (1371, F1371), (1384, F1384), (1372, F1372), (1489, F1489), (1385, F1385), (1494, F1494), (1386, F1386), (1096, F1096), (710, F710), (318, F318), (598, F598), (1109, F1109), (741, F741), (367, F367), (742, F742), (1395, F1395), (1499, F1499), (1500, F1500), (1396, F1396), (1110, F1110), (743, F743), (1111, F1111), (744, F744), (368, F368), (369, F369), (105, F105), (147, F147), (1419, F1419), (1178, F1178), (858, F858), (504, F504), (185, F185), (184, F184), (745, F745), (370, F370), (134, F134), (371, F371), (746, F746), (372, F372), (106, F106), (774, F774), (397, F397), (775, F775), (406, F406), (801, F801), (436, F436), (1179, F1179), (859, F859), (554, F554), (796, F796), (1050, F1050), (1051, F1051), (1487, F1487), (1387, F1387), (1388, F1388), (1375, F1375), (1495, F1495), (1389, F1389), (1390, F1390), (1097, F1097), (711, F711), (1098, F1098), (712, F712), (555, F555), (714, F714), (713, F713), (319, F319), (860, F860), (505, F505), (1397, F1397), (1112, F1112), (1114, F1114), (1113, F1113), (747, F747), (771, F771), (748, F748), (428, F428), (749, F749), (373, F373), (376, F376), (750, F750), (1501, F1501), (1502, F1502), (1398, F1398), (1115, F1115), (751, F751), (374, F374), (375, F375), (107, F107), (86, F86), (1422, F1422), (1184, F1184), (870, F870), (508, F508), (188, F188), (187, F187), (752, F752), (377, F377), (753, F753), (378, F378), (754, F754), (379, F379), (108, F108), (8, F8), (393, F393), (116, F116), (772, F772), (394, F394), (117, F117), (10, F10)]
def Gm (g : Nat) : Option AFn := lookT g tabm
theorem g338 : Gm 338 = some (.fn F338) := by kernel_rfl
theorem g1173 : Gm 1173 = some (.fn F1173) := by kernel_rfl
theorem g852 : Gm 852 = some (.fn F852) := by kernel_rfl
theorem g501 : Gm 501 = some (.fn F501) := by kernel_rfl
theorem g182 : Gm 182 = some (.fn F182) := by kernel_rfl
theorem g181 : Gm 181 = some (.fn F181) := by kernel_rfl
theorem g364 : Gm 364 = some (.fn F364) := by kernel_rfl
theorem g365 : Gm 365 = some (.fn F365) := by kernel_rfl
theorem g740 : Gm 740 = some (.fn F740) := by kernel_rfl
theorem g366 : Gm 366 = some (.fn F366) := by kernel_rfl
theorem g104 : Gm 104 = some (.fn F104) := by kernel_rfl
theorem g340 : Gm 340 = some (.fn F340) := by kernel_rfl
theorem g412 : Gm 412 = some (.fn F412) := by kernel_rfl
theorem g426 : Gm 426 = some (.fn F426) := by kernel_rfl
theorem g488 : Gm 488 = some (.fn F488) := by kernel_rfl
theorem g1371 : Gm 1371 = some (.fn F1371) := by kernel_rfl
theorem g1384 : Gm 1384 = some (.fn F1384) := by kernel_rfl
theorem g1372 : Gm 1372 = some (.fn F1372) := by kernel_rfl
theorem g1489 : Gm 1489 = some (.fn F1489) := by kernel_rfl
theorem g1385 : Gm 1385 = some (.fn F1385) := by kernel_rfl
theorem g1494 : Gm 1494 = some (.fn F1494) := by kernel_rfl
theorem g1386 : Gm 1386 = some (.fn F1386) := by kernel_rfl
theorem g1096 : Gm 1096 = some (.fn F1096) := by kernel_rfl
theorem g710 : Gm 710 = some (.fn F710) := by kernel_rfl
theorem g318 : Gm 318 = some (.fn F318) := by kernel_rfl
theorem g598 : Gm 598 = some (.fn F598) := by kernel_rfl
theorem g1109 : Gm 1109 = some (.fn F1109) := by kernel_rfl
theorem g741 : Gm 741 = some (.fn F741) := by kernel_rfl
theorem g367 : Gm 367 = some (.fn F367) := by kernel_rfl
theorem g742 : Gm 742 = some (.fn F742) := by kernel_rfl
theorem g1395 : Gm 1395 = some (.fn F1395) := by kernel_rfl
theorem g1499 : Gm 1499 = some (.fn F1499) := by kernel_rfl
theorem g1500 : Gm 1500 = some (.fn F1500) := by kernel_rfl
theorem g1396 : Gm 1396 = some (.fn F1396) := by kernel_rfl
theorem g1110 : Gm 1110 = some (.fn F1110) := by kernel_rfl
theorem g743 : Gm 743 = some (.fn F743) := by kernel_rfl
theorem g1111 : Gm 1111 = some (.fn F1111) := by kernel_rfl
theorem g744 : Gm 744 = some (.fn F744) := by kernel_rfl
theorem g368 : Gm 368 = some (.fn F368) := by kernel_rfl
theorem g369 : Gm 369 = some (.fn F369) := by kernel_rfl
theorem g105 : Gm 105 = some (.fn F105) := by kernel_rfl
theorem g147 : Gm 147 = some (.fn F147) := by kernel_rfl
theorem g1419 : Gm 1419 = some (.fn F1419) := by kernel_rfl
theorem g1178 : Gm 1178 = some (.fn F1178) := by kernel_rfl
theorem g858 : Gm 858 = some (.fn F858) := by kernel_rfl
theorem g504 : Gm 504 = some (.fn F504) := by kernel_rfl
theorem g185 : Gm 185 = some (.fn F185) := by kernel_rfl
theorem g184 : Gm 184 = some (.fn F184) := by kernel_rfl
theorem g745 : Gm 745 = some (.fn F745) := by kernel_rfl
theorem g370 : Gm 370 = some (.fn F370) := by kernel_rfl
theorem g134 : Gm 134 = some (.fn F134) := by kernel_rfl
theorem g371 : Gm 371 = some (.fn F371) := by kernel_rfl
theorem g746 : Gm 746 = some (.fn F746) := by kernel_rfl
theorem g372 : Gm 372 = some (.fn F372) := by kernel_rfl
theorem g106 : Gm 106 = some (.fn F106) := by kernel_rfl
theorem g774 : Gm 774 = some (.fn F774) := by kernel_rfl
theorem g397 : Gm 397 = some (.fn F397) := by kernel_rfl
theorem g775 : Gm 775 = some (.fn F775) := by kernel_rfl
theorem g406 : Gm 406 = some (.fn F406) := by kernel_rfl
theorem g801 : Gm 801 = some (.fn F801) := by kernel_rfl
theorem g436 : Gm 436 = some (.fn F436) := by kernel_rfl
theorem g1179 : Gm 1179 = some (.fn F1179) := by kernel_rfl
theorem g859 : Gm 859 = some (.fn F859) := by kernel_rfl
theorem g554 : Gm 554 = some (.fn F554) := by kernel_rfl
theorem g796 : Gm 796 = some (.fn F796) := by kernel_rfl
theorem g1050 : Gm 1050 = some (.fn F1050) := by kernel_rfl
theorem g1051 : Gm 1051 = some (.fn F1051) := by kernel_rfl
theorem g1487 : Gm 1487 = some (.fn F1487) := by kernel_rfl
theorem g1387 : Gm 1387 = some (.fn F1387) := by kernel_rfl
theorem g1388 : Gm 1388 = some (.fn F1388) := by kernel_rfl
theorem g1375 : Gm 1375 = some (.fn F1375) := by kernel_rfl
theorem g1495 : Gm 1495 = some (.fn F1495) := by kernel_rfl
theorem g1389 : Gm 1389 = some (.fn F1389) := by kernel_rfl
theorem g1390 : Gm 1390 = some (.fn F1390) := by kernel_rfl
theorem g1097 : Gm 1097 = some (.fn F1097) := by kernel_rfl
theorem g711 : Gm 711 = some (.fn F711) := by kernel_rfl
theorem g1098 : Gm 1098 = some (.fn F1098) := by kernel_rfl
theorem g712 : Gm 712 = some (.fn F712) := by kernel_rfl
theorem g555 : Gm 555 = some (.fn F555) := by kernel_rfl
theorem g714 : Gm 714 = some (.fn F714) := by kernel_rfl
theorem g713 : Gm 713 = some (.fn F713) := by kernel_rfl
theorem g319 : Gm 319 = some (.fn F319) := by kernel_rfl
theorem g860 : Gm 860 = some (.fn F860) := by kernel_rfl
theorem g505 : Gm 505 = some (.fn F505) := by kernel_rfl
theorem g1397 : Gm 1397 = some (.fn F1397) := by kernel_rfl
theorem g1112 : Gm 1112 = some (.fn F1112) := by kernel_rfl
theorem g1114 : Gm 1114 = some (.fn F1114) := by kernel_rfl
theorem g1113 : Gm 1113 = some (.fn F1113) := by kernel_rfl
theorem g747 : Gm 747 = some (.fn F747) := by kernel_rfl
theorem g771 : Gm 771 = some (.fn F771) := by kernel_rfl
theorem g748 : Gm 748 = some (.fn F748) := by kernel_rfl
theorem g428 : Gm 428 = some (.fn F428) := by kernel_rfl
theorem g749 : Gm 749 = some (.fn F749) := by kernel_rfl
theorem g373 : Gm 373 = some (.fn F373) := by kernel_rfl
theorem g376 : Gm 376 = some (.fn F376) := by kernel_rfl
theorem g750 : Gm 750 = some (.fn F750) := by kernel_rfl
theorem g1501 : Gm 1501 = some (.fn F1501) := by kernel_rfl
theorem g1502 : Gm 1502 = some (.fn F1502) := by kernel_rfl
theorem g1398 : Gm 1398 = some (.fn F1398) := by kernel_rfl
theorem g1115 : Gm 1115 = some (.fn F1115) := by kernel_rfl
theorem g751 : Gm 751 = some (.fn F751) := by kernel_rfl
theorem g374 : Gm 374 = some (.fn F374) := by kernel_rfl
theorem g375 : Gm 375 = some (.fn F375) := by kernel_rfl
theorem g107 : Gm 107 = some (.fn F107) := by kernel_rfl
theorem g86 : Gm 86 = some (.fn F86) := by kernel_rfl
theorem g1422 : Gm 1422 = some (.fn F1422) := by kernel_rfl
theorem g1184 : Gm 1184 = some (.fn F1184) := by kernel_rfl
theorem g870 : Gm 870 = some (.fn F870) := by kernel_rfl
theorem g508 : Gm 508 = some (.fn F508) := by kernel_rfl
theorem g188 : Gm 188 = some (.fn F188) := by kernel_rfl
theorem g187 : Gm 187 = some (.fn F187) := by kernel_rfl
theorem g752 : Gm 752 = some (.fn F752) := by kernel_rfl
theorem g377 : Gm 377 = some (.fn F377) := by kernel_rfl
theorem g753 : Gm 753 = some (.fn F753) := by kernel_rfl
theorem g378 : Gm 378 = some (.fn F378) := by kernel_rfl
theorem g754 : Gm 754 = some (.fn F754) := by kernel_rfl
theorem g379 : Gm 379 = some (.fn F379) := by kernel_rfl
theorem g108 : Gm 108 = some (.fn F108) := by kernel_rfl
theorem g8 : Gm 8 = some (.fn F8) := by kernel_rfl
theorem g393 : Gm 393 = some (.fn F393) := by kernel_rfl
theorem g116 : Gm 116 = some (.fn F116) := by kernel_rfl
theorem g772 : Gm 772 = some (.fn F772) := by kernel_rfl
theorem g394 : Gm 394 = some (.fn F394) := by kernel_rfl
theorem g117 : Gm 117 = some (.fn F117) := by kernel_rfl
theorem g10 : Gm 10 = some (.fn F10) := by kernel_rfl
end Go.Ab
namespace Go.Ab
open Go
set_option maxRecDepth 10000
theorem c338 (xs : List Int) (hx : xs.length ≤ 140737488355328) (left : Nat) (hl : left ≤ 1048576) : Pure Gm 338 [.lst 1 (xs.map encI) false, .int .i64 left] (.int .i64 (leftI xs.length left)) :=
  szS0_ok g338 shI.tree xs left hl hx
theorem c1173 (xs : List GPort) (hx : xs.length ≤ 140737488355328) (left : Nat) (hl : left ≤ 1048576) : Pure Gm 1173 [.lst 2 (xs.map GPort.enc) false, .int .i64 left] (.int .i64 (leftI xs.length left)) :=
  szS0_ok g1173 GPort.isSh.tree xs left hl hx
theorem c852 (x : GAgent) (hb : x.bd) (left : Nat) (hl : left ≤ 1048576) : Pure Gm 852 [x.enc, .int .i64 left] (.int .i64 (leftI x.sz left)) := by
  refine Pure.intro [] [] g852 (by kernel_rfl) rfl (by simp [AV.trees, AV.tree, GAgent.tr]) rfl ?_
  simp only [F852, vparams, go_sem, Nat.reduceEqDiff, reduceIte, Nat.reduceAdd, eq_self]
  refine lbox_ok rfl ?_
  simp only [go_sem, Nat.reduceEqDiff, reduceIte, Bool.not_true, eq_self]
  unfold GAgent.bd at hb
  refine call_pure (c338 _ hb.1 _ (by omega)) ?_
  simp only [go_sem, Nat.reduceEqDiff, reduceIte, eq_self]
  refine cnd_split ?_ ?_ <;> intro hc <;> simp only [hc, go_sem, Nat.reduceEqDiff, reduceIte, Bool.not_true, eq_self]
  · have hq := of_decide_eq_true hc; rw [leftI_lt] at hq
    exact fin_eq rfl (by rw [leftI_neg (by unfold GAgent.sz; omega)])
  have hq := of_decide_eq_false hc; rw [leftI_lt] at hq; rw [leftI_pos (by omega)]; clear hc
  refine call_pure (c1173 _ hb.2 _ (by omega)) ?_
  simp only [go_sem, Nat.reduceEqDiff, reduceIte, eq_self]
  refine cnd_split ?_ ?_ <;> intro hc <;> simp only [hc, go_sem, Nat.reduceEqDiff, reduceIte, eq_self]
  · have hq := of_decide_eq_true hc; rw [leftI_lt] at hq
    exact fin_eq rfl (by rw [leftI_neg (by unfold GAgent.sz; omega)])
  have hq := of_decide_eq_false hc; rw [leftI_lt] at hq; rw [leftI_pos (by omega)]; clear hc
  exact fin_eq rfl (by rw [leftI_pos (by unfold GAgent.sz; omega)]; unfold GAgent.sz; first | rfl | (congr 2; omega))
theorem c501 (xs : List GAgent) (hx : xs.length ≤ 140737488355328 ∧ (∀ y ∈ xs, GAgent.bd y)) (left : Nat) (hl : left ≤ 1048576) : Pure Gm 501 [.lst 5 (xs.map GAgent.enc) false, .int .i64 left] (.int .i64 (leftI (xs.length + sumN GAgent.sz xs) left)) :=
  szS_ok GAgent.isSh g501 GAgent.sz xs (fun x hm lf hlf => c852 x (hx.2 x hm) lf hlf) left hl hx.1
theorem c182 (x : GNet) (hb : x.bd) (left : Nat) (hl : left ≤ 1048576) : Pure Gm 182 [x.enc, .int .i64 left] (.int .i64 (leftI x.sz left)) := by
  refine Pure.intro [] [] g182 (by kernel_rfl) rfl (by simp [AV.trees, AV.tree, GNet.tr]) rfl ?_
  simp only [F182, vparams, go_sem, Nat.reduceEqDiff, reduceIte, Nat.reduceAdd, eq_self]
  refine lbox_ok rfl ?_
  simp only [go_sem, Nat.reduceEqDiff, reduceIte, Bool.not_true, eq_self]
  unfold GNet.bd at hb
  refine call_pure (c501 _ ⟨hb.1, hb.2⟩ _ (by omega)) ?_
  simp only [go_sem, Nat.reduceEqDiff, reduceIte, eq_self]
  refine cnd_split ?_ ?_ <;> intro hc <;> simp only [hc, go_sem, Nat.reduceEqDiff, reduceIte, eq_self]
  · have hq := of_decide_eq_true hc; rw [leftI_lt] at hq
    exact fin_eq rfl (by rw [leftI_neg (by unfold GNet.sz; omega)])
  have hq := of_decide_eq_false hc; rw [leftI_lt] at hq; rw [leftI_pos (by omega)]; clear hc
  exact fin_eq rfl (by rw [leftI_pos (by unfold GNet.sz; omega)]; unfold GNet.sz; first | rfl | (congr 2; omega))
theorem c181 (xs : List GNet) (hx : xs.length ≤ 140737488355328 ∧ (∀ y ∈ xs, GNet.bd y)) (left : Nat) (hl : left ≤ 1048576) : Pure Gm 181 [.lst 1 (xs.map GNet.enc) false, .int .i64 left] (.int .i64 (leftI (xs.length + sumN GNet.sz xs) left)) :=
  szS_ok GNet.isSh g181 GNet.sz xs (fun x hm lf hlf => c182 x (hx.2 x hm) lf hlf) left hl hx.1
theorem c364 (xs : List GOrigin) (hx : xs.length ≤ 140737488355328) (left : Nat) (hl : left ≤ 1048576) : Pure Gm 364 [.lst 3 (xs.map GOrigin.enc) false, .int .i64 left] (.int .i64 (leftI xs.length left)) :=
  szS0_ok g364 GOrigin.isSh.tree xs left hl hx
theorem c365 (xs : List GBreak) (hx : xs.length ≤ 140737488355328) (left : Nat) (hl : left ≤ 1048576) : Pure Gm 365 [.lst 2 (xs.map GBreak.enc) false, .int .i64 left] (.int .i64 (leftI xs.length left)) :=
  szS0_ok g365 GBreak.isSh.tree xs left hl hx
theorem c740 (x : GCheckpoint) (hb : x.bd) (left : Nat) (hl : left ≤ 1048576) : Pure Gm 740 [x.enc, .int .i64 left] (.int .i64 (leftI x.sz left)) := by
  refine Pure.intro [] [] g740 (by kernel_rfl) rfl (by simp [AV.trees, AV.tree, GCheckpoint.tr]) rfl ?_
  simp only [F740, vparams, go_sem, Nat.reduceEqDiff, reduceIte, Nat.reduceAdd, eq_self]
  refine lbox_ok rfl ?_
  simp only [go_sem, Nat.reduceEqDiff, reduceIte, Bool.not_true, eq_self]
  unfold GCheckpoint.bd at hb
  refine call_pure (c182 _ hb.1 _ (by omega)) ?_
  simp only [go_sem, Nat.reduceEqDiff, reduceIte, eq_self]
  refine cnd_split ?_ ?_ <;> intro hc <;> simp only [hc, go_sem, Nat.reduceEqDiff, reduceIte, Bool.not_true, eq_self]
  · have hq := of_decide_eq_true hc; rw [leftI_lt] at hq
    exact fin_eq rfl (by rw [leftI_neg (by unfold GCheckpoint.sz; omega)])
  have hq := of_decide_eq_false hc; rw [leftI_lt] at hq; rw [leftI_pos (by omega)]; clear hc
  refine call_pure (c364 _ hb.2 _ (by omega)) ?_
  simp only [go_sem, Nat.reduceEqDiff, reduceIte, eq_self]
  refine cnd_split ?_ ?_ <;> intro hc <;> simp only [hc, go_sem, Nat.reduceEqDiff, reduceIte, eq_self]
  · have hq := of_decide_eq_true hc; rw [leftI_lt] at hq
    exact fin_eq rfl (by rw [leftI_neg (by unfold GCheckpoint.sz; omega)])
  have hq := of_decide_eq_false hc; rw [leftI_lt] at hq; rw [leftI_pos (by omega)]; clear hc
  exact fin_eq rfl (by rw [leftI_pos (by unfold GCheckpoint.sz; omega)]; unfold GCheckpoint.sz; first | rfl | (congr 2; omega))
theorem c366 (xs : List GCheckpoint) (hx : xs.length ≤ 140737488355328 ∧ (∀ y ∈ xs, GCheckpoint.bd y)) (left : Nat) (hl : left ≤ 1048576) : Pure Gm 366 [.lst 3 (xs.map GCheckpoint.enc) false, .int .i64 left] (.int .i64 (leftI (xs.length + sumN GCheckpoint.sz xs) left)) :=
  szS_ok GCheckpoint.isSh g366 GCheckpoint.sz xs (fun x hm lf hlf => c740 x (hx.2 x hm) lf hlf) left hl hx.1
theorem c104 (x : GDebugger) (hb : x.bd) (left : Nat) (hl : left ≤ 1048576) : Pure Gm 104 [x.enc, .int .i64 left] (.int .i64 (leftI x.sz left)) := by
  refine Pure.intro [] [] g104 (by kernel_rfl) rfl (by simp [AV.trees, AV.tree, GDebugger.tr]) rfl ?_
  simp only [F104, vparams, go_sem, Nat.reduceEqDiff, reduceIte, Nat.reduceAdd, eq_self]
  refine lbox_ok rfl ?_
  simp only [go_sem, Nat.reduceEqDiff, reduceIte, Bool.not_true, eq_self]
  unfold GDebugger.bd at hb
  refine call_pure (c181 _ ⟨hb.1, hb.2.1⟩ _ (by omega)) ?_
  simp only [go_sem, Nat.reduceEqDiff, reduceIte, eq_self]
  refine cnd_split ?_ ?_ <;> intro hc <;> simp only [hc, go_sem, Nat.reduceEqDiff, reduceIte, Bool.not_true, eq_self]
  · have hq := of_decide_eq_true hc; rw [leftI_lt] at hq
    exact fin_eq rfl (by rw [leftI_neg (by unfold GDebugger.sz; omega)])
  have hq := of_decide_eq_false hc; rw [leftI_lt] at hq; rw [leftI_pos (by omega)]; clear hc
  refine call_pure (c338 _ hb.2.2.1 _ (by omega)) ?_
  simp only [go_sem, Nat.reduceEqDiff, reduceIte, eq_self]
  refine cnd_split ?_ ?_ <;> intro hc <;> simp only [hc, go_sem, Nat.reduceEqDiff, reduceIte, Bool.not_true, eq_self]
  · have hq := of_decide_eq_true hc; rw [leftI_lt] at hq
    exact fin_eq rfl (by rw [leftI_neg (by unfold GDebugger.sz; omega)])
  have hq := of_decide_eq_false hc; rw [leftI_lt] at hq; rw [leftI_pos (by omega)]; clear hc
  refine call_pure (c182 _ hb.2.2.2.1 _ (by omega)) ?_
  simp only [go_sem, Nat.reduceEqDiff, reduceIte, eq_self]
  refine cnd_split ?_ ?_ <;> intro hc <;> simp only [hc, go_sem, Nat.reduceEqDiff, reduceIte, Bool.not_true, eq_self]
  · have hq := of_decide_eq_true hc; rw [leftI_lt] at hq
    exact fin_eq rfl (by rw [leftI_neg (by unfold GDebugger.sz; omega)])
  have hq := of_decide_eq_false hc; rw [leftI_lt] at hq; rw [leftI_pos (by omega)]; clear hc
  refine call_pure (c364 _ hb.2.2.2.2.1 _ (by omega)) ?_
  simp only [go_sem, Nat.reduceEqDiff, reduceIte, eq_self]
  refine cnd_split ?_ ?_ <;> intro hc <;> simp only [hc, go_sem, Nat.reduceEqDiff, reduceIte, Bool.not_true, eq_self]
  · have hq := of_decide_eq_true hc; rw [leftI_lt] at hq
    exact fin_eq rfl (by rw [leftI_neg (by unfold GDebugger.sz; omega)])
  have hq := of_decide_eq_false hc; rw [leftI_lt] at hq; rw [leftI_pos (by omega)]; clear hc
  refine call_pure (c365 _ hb.2.2.2.2.2.1 _ (by omega)) ?_
  simp only [go_sem, Nat.reduceEqDiff, reduceIte, eq_self]
  refine cnd_split ?_ ?_ <;> intro hc <;> simp only [hc, go_sem, Nat.reduceEqDiff, reduceIte, Bool.not_true, eq_self]
  · have hq := of_decide_eq_true hc; rw [leftI_lt] at hq
    exact fin_eq rfl (by rw [leftI_neg (by unfold GDebugger.sz; omega)])
  have hq := of_decide_eq_false hc; rw [leftI_lt] at hq; rw [leftI_pos (by omega)]; clear hc
  refine call_pure (c366 _ ⟨hb.2.2.2.2.2.2.1, hb.2.2.2.2.2.2.2⟩ _ (by omega)) ?_
  simp only [go_sem, Nat.reduceEqDiff, reduceIte, eq_self]
  refine cnd_split ?_ ?_ <;> intro hc <;> simp only [hc, go_sem, Nat.reduceEqDiff, reduceIte, eq_self]
  · have hq := of_decide_eq_true hc; rw [leftI_lt] at hq
    exact fin_eq rfl (by rw [leftI_neg (by unfold GDebugger.sz; omega)])
  have hq := of_decide_eq_false hc; rw [leftI_lt] at hq; rw [leftI_pos (by omega)]; clear hc
  exact fin_eq rfl (by rw [leftI_pos (by unfold GDebugger.sz; omega)]; unfold GDebugger.sz; first | rfl | (congr 2; omega))
theorem c147 (xs : List Int) (hl : xs.length ≤ 1048576) : Pure Gm 147 [.lst 1 (xs.map encI) false] (.lst 1 (xs.map encI) false) := toS0_ok g147 xs hl
theorem c1419 (x : GPort) : Pure Gm 1419 [x.enc] x.enc := by
  refine Pure.intro [] [] g1419 (by kernel_rfl) rfl (by simp [AV.trees, GPort.tr]) GPort.tr ?_
  simp only [F1419, vparams, go_sem, reduceIte, eq_self]
  refine lbox_ok rfl ?_
  simp only [go_sem, Nat.reduceEqDiff, reduceIte, eq_self]
  refine lst_all rfl rfl ⟨_, rfl⟩ (by decide) ?_
  simp only [go_sem, Nat.reduceEqDiff, reduceIte, eq_self]
  exact fin_eq GPort.tr rfl
theorem c1178 (xs : List GPort) (hl : xs.length ≤ 1048576) : Pure Gm 1178 [.lst 2 (xs.map GPort.enc) false] (.lst 2 (xs.map GPort.enc) false) :=
  toS_ok GPort.isSh rfl rfl (by simp) g1178 xs (fun x hm => c1419 x) (by omega)
theorem c858 (x : GAgent) (hz : x.sz ≤ 1048576) : Pure Gm 858 [x.enc] x.enc := by
  refine Pure.intro [] [] g858 (by kernel_rfl) rfl (by simp [AV.trees, GAgent.tr]) GAgent.tr ?_
  simp only [F858, vparams, go_sem, reduceIte, eq_self]
  refine lbox_ok rfl ?_
  simp only [go_sem, Nat.reduceEqDiff, reduceIte, Bool.not_true, eq_self]
  unfold GAgent.sz at hz
  refine call_pure (c147 _ (by omega)) ?_
  simp only [go_sem, Nat.reduceEqDiff, reduceIte, Bool.not_true, eq_self]
  refine call_pure (c1178 _ (by omega)) ?_
  simp only [go_sem, Nat.reduceEqDiff, reduceIte, eq_self]
  refine lst_all rfl rfl ⟨_, rfl⟩ (by decide) ?_
  simp only [go_sem, Nat.reduceEqDiff, reduceIte, eq_self]
  exact fin_eq GAgent.tr rfl
theorem c504 (xs : List GAgent) (hl : xs.length + sumN GAgent.sz xs ≤ 1048576) : Pure Gm 504 [.lst 5 (xs.map GAgent.enc) false] (.lst 5 (xs.map GAgent.enc) false) :=
  toS_ok GAgent.isSh rfl rfl (by simp) g504 xs (fun x hm => c858 x (by have := le_sumN (f := GAgent.sz) hm; omega)) (by omega)
theorem c185 (x : GNet) (hz : x.sz ≤ 1048576) : Pure Gm 185 [x.enc] x.enc := by
  refine Pure.intro [] [] g185 (by kernel_rfl) rfl (by simp [AV.trees, GNet.tr]) GNet.tr ?_
  simp only [F185, vparams, go_sem, reduceIte, eq_self]
  refine lbox_ok rfl ?_
  simp only [go_sem, Nat.reduceEqDiff, reduceIte, Bool.not_true, eq_self]
  unfold GNet.sz at hz
  refine call_pure (c504 _ (by omega)) ?_
  simp only [go_sem, Nat.reduceEqDiff, reduceIte, eq_self]
  exact fin_eq GNet.tr rfl
theorem c184 (xs : List GNet) (hl : xs.length + sumN GNet.sz xs ≤ 1048576) : Pure Gm 184 [.lst 1 (xs.map GNet.enc) false] (.lst 1 (xs.map GNet.enc) false) :=
  toS_ok GNet.isSh rfl rfl (by simp) g184 xs (fun x hm => c185 x (by have := le_sumN (f := GNet.sz) hm; omega)) (by omega)
theorem c745 (x : GOrigin) : Pure Gm 745 [x.enc] x.enc := by
  refine Pure.intro [] [] g745 (by kernel_rfl) rfl (by simp [AV.trees, GOrigin.tr]) GOrigin.tr ?_
  simp only [F745, vparams, go_sem, reduceIte, eq_self]
  refine lbox_ok rfl ?_
  simp only [go_sem, Nat.reduceEqDiff, reduceIte, eq_self]
  refine lst_all rfl rfl ⟨_, rfl⟩ (by decide) ?_
  simp only [go_sem, Nat.reduceEqDiff, reduceIte, eq_self]
  exact fin_eq GOrigin.tr rfl
theorem c370 (xs : List GOrigin) (hl : xs.length ≤ 1048576) : Pure Gm 370 [.lst 3 (xs.map GOrigin.enc) false] (.lst 3 (xs.map GOrigin.enc) false) :=
  toS_ok GOrigin.isSh rfl rfl (by simp) g370 xs (fun x hm => c745 x) (by omega)
theorem c134 (x : GBreak) : Pure Gm 134 [x.enc] x.enc := by
  refine Pure.intro [] [] g134 (by kernel_rfl) rfl (by simp [AV.trees, GBreak.tr]) GBreak.tr ?_
  simp only [F134, vparams, go_sem, reduceIte, eq_self]
  refine lbox_ok rfl ?_
  simp only [go_sem, Nat.reduceEqDiff, reduceIte, eq_self]
  refine lst_all rfl rfl ⟨_, rfl⟩ (by decide) ?_
  simp only [go_sem, Nat.reduceEqDiff, reduceIte, eq_self]
  exact fin_eq GBreak.tr rfl
theorem c371 (xs : List GBreak) (hl : xs.length ≤ 1048576) : Pure Gm 371 [.lst 2 (xs.map GBreak.enc) false] (.lst 2 (xs.map GBreak.enc) false) :=
  toS_ok GBreak.isSh rfl rfl (by simp) g371 xs (fun x hm => c134 x) (by omega)
theorem c746 (x : GCheckpoint) (hz : x.sz ≤ 1048576) : Pure Gm 746 [x.enc] x.enc := by
  refine Pure.intro [] [] g746 (by kernel_rfl) rfl (by simp [AV.trees, GCheckpoint.tr]) GCheckpoint.tr ?_
  simp only [F746, vparams, go_sem, reduceIte, eq_self]
  refine lbox_ok rfl ?_
  simp only [go_sem, Nat.reduceEqDiff, reduceIte, Bool.not_true, eq_self]
  unfold GCheckpoint.sz at hz
  refine call_pure (c185 _ (by omega)) ?_
  simp only [go_sem, Nat.reduceEqDiff, reduceIte, Bool.not_true, eq_self]
  refine call_pure (c370 _ (by omega)) ?_
  simp only [go_sem, Nat.reduceEqDiff, reduceIte, eq_self]
  refine lst_all rfl rfl ⟨_, rfl⟩ (by decide) ?_
  simp only [go_sem, Nat.reduceEqDiff, reduceIte, eq_self]
  exact fin_eq GCheckpoint.tr rfl
theorem c372 (xs : List GCheckpoint) (hl : xs.length + sumN GCheckpoint.sz xs ≤ 1048576) : Pure Gm 372 [.lst 3 (xs.map GCheckpoint.enc) false] (.lst 3 (xs.map GCheckpoint.enc) false) :=
  toS_ok GCheckpoint.isSh rfl rfl (by simp) g372 xs (fun x hm => c746 x (by have := le_sumN (f := GCheckpoint.sz) hm; omega)) (by omega)
theorem c106 (x : GDebugger) (hz : x.sz ≤ 1048576) : Pure Gm 106 [x.enc] x.enc := by
  refine Pure.intro [] [] g106 (by kernel_rfl) rfl (by simp [AV.trees, GDebugger.tr]) GDebugger.tr ?_
  simp only [F106, vparams, go_sem, reduceIte, eq_self]
  refine lbox_ok rfl ?_
  simp only [go_sem, Nat.reduceEqDiff, reduceIte, Bool.not_true, eq_self]
  unfold GDebugger.sz at hz
  refine call_pure (c184 _ (by omega)) ?_
  simp only [go_sem, Nat.reduceEqDiff, reduceIte, Bool.not_true, eq_self]
  refine call_pure (c147 _ (by omega)) ?_
  simp only [go_sem, Nat.reduceEqDiff, reduceIte, Bool.not_true, eq_self]
  refine call_pure (c185 _ (by omega)) ?_
  simp only [go_sem, Nat.reduceEqDiff, reduceIte, Bool.not_true, eq_self]
  refine call_pure (c370 _ (by omega)) ?_
  simp only [go_sem, Nat.reduceEqDiff, reduceIte, Bool.not_true, eq_self]
  refine call_pure (c371 _ (by omega)) ?_
  simp only [go_sem, Nat.reduceEqDiff, reduceIte, Bool.not_true, eq_self]
  refine call_pure (c372 _ (by omega)) ?_
  simp only [go_sem, Nat.reduceEqDiff, reduceIte, eq_self]
  refine lst_all rfl rfl ⟨_, rfl⟩ (by decide) ?_
  simp only [go_sem, Nat.reduceEqDiff, reduceIte, eq_self]
  exact fin_eq GDebugger.tr rfl
theorem c86 (xs : List Int) (hl : xs.length ≤ 1048576) : Pure Gm 86 [.lst 1 (xs.map encI) false, .lst 1 (xs.map encI) false] (.bool true) := eqS0_ok g86 xs hl
theorem c1422 (x : GPort) : Pure Gm 1422 [x.enc, x.enc] (.bool true) := by
  refine Pure.intro [] [] g1422 (by kernel_rfl) rfl (by simp [AV.trees, GPort.tr]) rfl ?_
  simp only [F1422, vparams, go_sem, Nat.reduceEqDiff, reduceIte, Nat.reduceAdd, eq_self]
  refine lbox_ok rfl ?_
  simp only [go_sem, Nat.reduceEqDiff, reduceIte, eq_self]
  refine lbox_ok rfl ?_
  simp only [go_sem, Nat.reduceEqDiff, reduceIte, Bool.not_true, decide_true, eq_self]
  exact fin_eq rfl rfl
theorem c1184 (xs : List GPort) (hl : xs.length ≤ 1048576) : Pure Gm 1184 [.lst 2 (xs.map GPort.enc) false, .lst 2 (xs.map GPort.enc) false] (.bool true) :=
  eqS_ok GPort.isSh g1184 xs (fun x hm => c1422 x) (by omega)
theorem c870 (x : GAgent) (hz : x.sz ≤ 1048576) : Pure Gm 870 [x.enc, x.enc] (.bool true) := by
  refine Pure.intro [] [] g870 (by kernel_rfl) rfl (by simp [AV.trees, GAgent.tr]) rfl ?_
  simp only [F870, vparams, go_sem, Nat.reduceEqDiff, reduceIte, Nat.reduceAdd, eq_self]
  refine lbox_ok rfl ?_
  simp only [go_sem, Nat.reduceEqDiff, reduceIte, eq_self]
  refine lbox_ok rfl ?_
  simp only [go_sem, Nat.reduceEqDiff, reduceIte, Bool.not_true, decide_true, eq_self]
  unfold GAgent.sz at hz
  refine call_pure (c86 _ (by omega)) ?_
  simp only [go_sem, Nat.reduceEqDiff, reduceIte, Bool.not_true, eq_self]
  refine call_pure (c1184 _ (by omega)) ?_
  simp only [go_sem, Nat.reduceEqDiff, reduceIte, Bool.not_true, eq_self]
  exact fin_eq rfl rfl
theorem c508 (xs : List GAgent) (hl : xs.length + sumN GAgent.sz xs ≤ 1048576) : Pure Gm 508 [.lst 5 (xs.map GAgent.enc) false, .lst 5 (xs.map GAgent.enc) false] (.bool true) :=
  eqS_ok GAgent.isSh g508 xs (fun x hm => c870 x (by have := le_sumN (f := GAgent.sz) hm; omega)) (by omega)
theorem c188 (x : GNet) (hz : x.sz ≤ 1048576) : Pure Gm 188 [x.enc, x.enc] (.bool true) := by
  refine Pure.intro [] [] g188 (by kernel_rfl) rfl (by simp [AV.trees, GNet.tr]) rfl ?_
  simp only [F188, vparams, go_sem, Nat.reduceEqDiff, reduceIte, Nat.reduceAdd, eq_self]
  refine lbox_ok rfl ?_
  simp only [go_sem, Nat.reduceEqDiff, reduceIte, eq_self]
  refine lbox_ok rfl ?_
  simp only [go_sem, Nat.reduceEqDiff, reduceIte, Bool.not_true, eq_self]
  unfold GNet.sz at hz
  refine call_pure (c508 _ (by omega)) ?_
  simp only [go_sem, Nat.reduceEqDiff, reduceIte, Bool.not_true, eq_self]
  exact fin_eq rfl rfl
theorem c187 (xs : List GNet) (hl : xs.length + sumN GNet.sz xs ≤ 1048576) : Pure Gm 187 [.lst 1 (xs.map GNet.enc) false, .lst 1 (xs.map GNet.enc) false] (.bool true) :=
  eqS_ok GNet.isSh g187 xs (fun x hm => c188 x (by have := le_sumN (f := GNet.sz) hm; omega)) (by omega)
theorem c752 (x : GOrigin) : Pure Gm 752 [x.enc, x.enc] (.bool true) := by
  refine Pure.intro [] [] g752 (by kernel_rfl) rfl (by simp [AV.trees, GOrigin.tr]) rfl ?_
  simp only [F752, vparams, go_sem, Nat.reduceEqDiff, reduceIte, Nat.reduceAdd, eq_self]
  refine lbox_ok rfl ?_
  simp only [go_sem, Nat.reduceEqDiff, reduceIte, eq_self]
  refine lbox_ok rfl ?_
  simp only [go_sem, Nat.reduceEqDiff, reduceIte, Bool.not_true, decide_true, eq_self]
  exact fin_eq rfl rfl
theorem c377 (xs : List GOrigin) (hl : xs.length ≤ 1048576) : Pure Gm 377 [.lst 3 (xs.map GOrigin.enc) false, .lst 3 (xs.map GOrigin.enc) false] (.bool true) :=
  eqS_ok GOrigin.isSh g377 xs (fun x hm => c752 x) (by omega)
theorem c753 (x : GBreak) : Pure Gm 753 [x.enc, x.enc] (.bool true) := by
  refine Pure.intro [] [] g753 (by kernel_rfl) rfl (by simp [AV.trees, GBreak.tr]) rfl ?_
  simp only [F753, vparams, go_sem, Nat.reduceEqDiff, reduceIte, Nat.reduceAdd, eq_self]
  refine lbox_ok rfl ?_
  simp only [go_sem, Nat.reduceEqDiff, reduceIte, eq_self]
  refine lbox_ok rfl ?_
  simp only [go_sem, Nat.reduceEqDiff, reduceIte, Bool.not_true, decide_true, eq_self]
  exact fin_eq rfl rfl
theorem c378 (xs : List GBreak) (hl : xs.length ≤ 1048576) : Pure Gm 378 [.lst 2 (xs.map GBreak.enc) false, .lst 2 (xs.map GBreak.enc) false] (.bool true) :=
  eqS_ok GBreak.isSh g378 xs (fun x hm => c753 x) (by omega)
theorem c754 (x : GCheckpoint) (hz : x.sz ≤ 1048576) : Pure Gm 754 [x.enc, x.enc] (.bool true) := by
  refine Pure.intro [] [] g754 (by kernel_rfl) rfl (by simp [AV.trees, GCheckpoint.tr]) rfl ?_
  simp only [F754, vparams, go_sem, Nat.reduceEqDiff, reduceIte, Nat.reduceAdd, eq_self]
  refine lbox_ok rfl ?_
  simp only [go_sem, Nat.reduceEqDiff, reduceIte, eq_self]
  refine lbox_ok rfl ?_
  simp only [go_sem, Nat.reduceEqDiff, reduceIte, Bool.not_true, decide_true, eq_self]
  unfold GCheckpoint.sz at hz
  refine call_pure (c188 _ (by omega)) ?_
  simp only [go_sem, Nat.reduceEqDiff, reduceIte, Bool.not_true, eq_self]
  refine call_pure (c377 _ (by omega)) ?_
  simp only [go_sem, Nat.reduceEqDiff, reduceIte, Bool.not_true, eq_self]
  exact fin_eq rfl rfl
theorem c379 (xs : List GCheckpoint) (hl : xs.length + sumN GCheckpoint.sz xs ≤ 1048576) : Pure Gm 379 [.lst 3 (xs.map GCheckpoint.enc) false, .lst 3 (xs.map GCheckpoint.enc) false] (.bool true) :=
  eqS_ok GCheckpoint.isSh g379 xs (fun x hm => c754 x (by have := le_sumN (f := GCheckpoint.sz) hm; omega)) (by omega)
theorem c108 (x : GDebugger) (hz : x.sz ≤ 1048576) : Pure Gm 108 [x.enc, x.enc] (.bool true) := by
  refine Pure.intro [] [] g108 (by kernel_rfl) rfl (by simp [AV.trees, GDebugger.tr]) rfl ?_
  simp only [F108, vparams, go_sem, Nat.reduceEqDiff, reduceIte, Nat.reduceAdd, eq_self]
  refine lbox_ok rfl ?_
  simp only [go_sem, Nat.reduceEqDiff, reduceIte, eq_self]
  refine lbox_ok rfl ?_
  simp only [go_sem, Nat.reduceEqDiff, reduceIte, Bool.not_true, eq_self]
  unfold GDebugger.sz at hz
  refine call_pure (c187 _ (by omega)) ?_
  simp only [go_sem, Nat.reduceEqDiff, reduceIte, Bool.not_true, eq_self]
  refine call_pure (c86 _ (by omega)) ?_
  simp only [go_sem, Nat.reduceEqDiff, reduceIte, Bool.not_true, decide_true, eq_self]
  refine call_pure (c188 _ (by omega)) ?_
  simp only [go_sem, Nat.reduceEqDiff, reduceIte, Bool.not_true, eq_self]
  refine call_pure (c377 _ (by omega)) ?_
  simp only [go_sem, Nat.reduceEqDiff, reduceIte, Bool.not_true, eq_self]
  refine call_pure (c378 _ (by omega)) ?_
  simp only [go_sem, Nat.reduceEqDiff, reduceIte, Bool.not_true, eq_self]
  refine call_pure (c379 _ (by omega)) ?_
  simp only [go_sem, Nat.reduceEqDiff, reduceIte, Bool.not_true, eq_self]
  exact fin_eq rfl rfl
end Go.Ab
namespace Go.Ab
open Go
set_option maxRecDepth 10000
def inI (n lo hi : Int) : Bool := decide (lo ≤ n) && decide (n ≤ hi)
def portsOf (k f : Int) : Int :=
  if k = 9 then (if inI f 0 3 then f + 1 else 0) else if f ≠ 0 then 0 else
  if k = 1 ∨ k = 5 ∨ k = 6 ∨ k = 12 then 1 else if k = 8 ∨ k = 10 ∨ k = 11 then 2 else if k = 2 ∨ k = 3 ∨ k = 4 ∨ k = 7 then 3 else 0
def hasLevel (k : Int) : Bool := decide (k = 2) || decide (k = 3) || decide (k = 4) || decide (k = 7) || decide (k = 8) || decide (k = 9) || decide (k = 10) || decide (k = 11) || decide (k = 12)
def kindI (k : Int) : Bool := inI k 1 12
def levelOk (k l : Int) : Bool := if hasLevel k then inI l 0 8 else kindI k && decide (l = 0)
def breakOk (b : GBreak) : Bool := if b.Kind = 1 then inI b.Value 1 8 else if b.Kind = 2 then inI b.Value 0 23 else if b.Kind = 3 then inI b.Value 1 600 else false
def defOk (n : Int) : Bool := inI n 0 23
def fieldsOf (x : GAgent) : Int := if x.Kind = 9 then (x.Ports.length : Int) - 1 else 0
def contentOk (x : GAgent) : Bool :=
  if x.Kind = 6 then decide ((x.Data.length : Int) = 0) && inI x.Value (-2147483648) 2147483647
  else if x.Kind = 7 then decide ((x.Data.length : Int) = 0) && inI x.Value 1 6
  else if x.Kind = 8 then decide ((x.Data.length : Int) = 1) && inI x.Value 1 6 && x.Data.all fun d => inI d (-2147483648) 2147483647
  else if x.Kind = 9 then decide ((x.Data.length : Int) = 0) && inI x.Value 0 3
  else if x.Kind = 12 then decide ((x.Data.length : Int) = 0) && defOk x.Value
  else if x.Kind = 10 then decide (x.Value = 0) && inI x.Data.length 1 4 && x.Data.all defOk
  else if x.Kind = 11 then decide (x.Value = 0) && decide ((x.Data.length : Int) = 2) && x.Data.all defOk
  else decide (x.Value = 0) && decide ((x.Data.length : Int) = 0)
def agentOk (x : GAgent) : Bool := decide (0 < portsOf x.Kind (fieldsOf x)) && decide ((x.Ports.length : Int) = portsOf x.Kind (fieldsOf x)) && levelOk x.Kind x.Level && contentOk x
def agentsFrom : List GAgent → Nat → Bool
  | [], _ => true
  | x :: xs, i => agentOk x && (decide (x.Kind = 1) == decide (i = 0)) && agentsFrom xs (i + 1)
def agentsOk (xs : List GAgent) : Bool := inI xs.length 1 600 && agentsFrom xs 0
def portsLen (xs : List GAgent) (a : Int) : Nat := match xs[a.toNat]? with
  | some x => x.Ports.length
  | none => 0
def portOk (xs : List GAgent) (p : GPort) : Bool := inI p.Agent 0 ((xs.length : Int) - 1) && inI p.Slot 0 ((portsLen xs p.Agent : Int) - 1)
theorem drop_at {α : Type} {xs : List α} {i : Nat} (h : i < xs.length) : xs.drop i = xs[i] :: xs.drop (i + 1) := by simp
theorem c340 {n lo hi : Int} : Pure Gm 340 [.int .i64 n, .int .i64 lo, .int .i64 hi] (.bool (inI n lo hi)) := by
  refine Pure.intro [] [] g340 (by kernel_rfl) rfl (by simp [AV.trees, AV.tree, go_sem]) rfl ?_
  simp only [F340, vparams, go_sem, Nat.reduceEqDiff, reduceIte, Nat.reduceAdd, eq_self]
  repeat' (first | (refine lbox_ok rfl ?_; simp only [go_sem, Nat.reduceEqDiff, reduceIte, Bool.not_true, Bool.not_false, Bool.false_eq_true, List.length_cons, List.length_nil, Nat.reduceAdd, List.getElem?_cons_zero, List.getElem?_cons_succ, decide_true, eq_self, List.length_map]) | (first | (refine grd_split ?_ ?_ <;> intro hc <;> simp only [hc, go_sem, Nat.reduceEqDiff, reduceIte, Bool.not_true, eq_self]) | (refine cnd_split ?_ ?_ <;> intro hc <;> simp only [hc, go_sem, Nat.reduceEqDiff, reduceIte, Bool.not_true, Bool.not_false, Bool.false_eq_true, List.length_cons, List.length_nil, Nat.reduceAdd, List.getElem?_cons_zero, List.getElem?_cons_succ, decide_true, eq_self, List.length_map])) | refine fin_eq rfl ?_)
  all_goals (simp_all [inI] <;> omega)
theorem c426 {b : GBreak} : Pure Gm 426 [.ept b.enc 0] (.bool (breakOk b)) := by
  refine Pure.intro [] [] g426 (by kernel_rfl) rfl (by simp [AV.trees, AV.tree, go_sem]) rfl ?_
  simp only [F426, vparams, go_sem, Nat.reduceEqDiff, reduceIte, Nat.reduceAdd, eq_self]
  repeat' (first | (refine lbox_ok rfl ?_; simp only [go_sem, Nat.reduceEqDiff, reduceIte, Bool.not_true, Bool.not_false, Bool.false_eq_true, List.length_cons, List.length_nil, Nat.reduceAdd, List.getElem?_cons_zero, List.getElem?_cons_succ, decide_true, eq_self, List.length_map]) | (first | (refine grd_split ?_ ?_ <;> intro hc <;> simp only [hc, go_sem, Nat.reduceEqDiff, reduceIte, Bool.not_true, Bool.not_false, Bool.false_eq_true, List.length_cons, List.length_nil, Nat.reduceAdd, List.getElem?_cons_zero, List.getElem?_cons_succ, decide_true, eq_self, List.length_map]) | (refine cnd_split ?_ ?_ <;> intro hc <;> simp only [hc, go_sem, Nat.reduceEqDiff, reduceIte, Bool.not_true, Nat.reduceAdd, eq_self])) | (refine call_pure (c340) ?_; simp only [go_sem, Nat.reduceEqDiff, reduceIte, eq_self]) | refine fin_eq rfl ?_)
  all_goals (simp_all [breakOk])
theorem c1372 {k : Int} : Pure Gm 1372 [.int .i64 k] (.bool (hasLevel k)) := by
  refine Pure.intro [] [] g1372 (by kernel_rfl) rfl (by simp [AV.trees, AV.tree, go_sem]) rfl ?_
  simp only [F1372, vparams, go_sem, Nat.reduceEqDiff, reduceIte, eq_self]
  repeat' (first | (refine lbox_ok rfl ?_; simp only [go_sem, Nat.reduceEqDiff, reduceIte, Bool.not_true, Bool.not_false, Bool.false_eq_true, List.length_cons, List.length_nil, Nat.reduceAdd, List.getElem?_cons_zero, List.getElem?_cons_succ, decide_true, eq_self, List.length_map]) | (first | (refine grd_split ?_ ?_ <;> intro hc <;> simp only [hc, go_sem, Nat.reduceEqDiff, reduceIte, Bool.not_true, Bool.not_false, Bool.false_eq_true, List.length_cons, List.length_nil, Nat.reduceAdd, List.getElem?_cons_zero, List.getElem?_cons_succ, decide_true, eq_self, List.length_map]) | (refine cnd_split ?_ ?_ <;> intro hc <;> simp only [hc, go_sem, Nat.reduceEqDiff, reduceIte, eq_self])) | refine fin_eq rfl ?_)
  all_goals (simp_all [hasLevel])
theorem c1489 {k : Int} : Pure Gm 1489 [.int .i64 k] (.bool (kindI k)) := by
  refine Pure.intro [] [] g1489 (by kernel_rfl) rfl (by simp [AV.trees, AV.tree, go_sem]) rfl ?_
  simp only [F1489, vparams, go_sem, Nat.reduceEqDiff, reduceIte, Bool.not_true, eq_self]
  repeat' (first | (refine lbox_ok rfl ?_; simp only [go_sem, Nat.reduceEqDiff, reduceIte, Bool.not_true, Bool.not_false, Bool.false_eq_true, List.length_cons, List.length_nil, Nat.reduceAdd, List.getElem?_cons_zero, List.getElem?_cons_succ, decide_true, eq_self, List.length_map]) | (first | (refine grd_split ?_ ?_ <;> intro hc <;> simp only [hc, go_sem, Nat.reduceEqDiff, reduceIte, Bool.not_true, Bool.not_false, Bool.false_eq_true, List.length_cons, List.length_nil, Nat.reduceAdd, List.getElem?_cons_zero, List.getElem?_cons_succ, decide_true, eq_self, List.length_map]) | (refine cnd_split ?_ ?_ <;> intro hc <;> simp only [hc, go_sem, Nat.reduceEqDiff, reduceIte, Bool.not_true, Bool.not_false, Bool.false_eq_true, List.length_cons, List.length_nil, Nat.reduceAdd, List.getElem?_cons_zero, List.getElem?_cons_succ, decide_true, eq_self, List.length_map])) | (refine call_pure (c340) ?_; simp only [go_sem, Nat.reduceEqDiff, reduceIte, eq_self]) | refine fin_eq rfl ?_)
  all_goals (simp_all [kindI])
theorem c1385 {k l : Int} : Pure Gm 1385 [.int .i64 k, .int .i64 l] (.bool (levelOk k l)) := by
  refine Pure.intro [] [] g1385 (by kernel_rfl) rfl (by simp [AV.trees, AV.tree, go_sem]) rfl ?_
  simp only [F1385, vparams, go_sem, Nat.reduceEqDiff, reduceIte, Bool.not_true, Nat.reduceAdd, eq_self]
  repeat' (first | (refine lbox_ok rfl ?_; simp only [go_sem, Nat.reduceEqDiff, reduceIte, Bool.not_true, Bool.not_false, Bool.false_eq_true, List.length_cons, List.length_nil, Nat.reduceAdd, List.getElem?_cons_zero, List.getElem?_cons_succ, decide_true, eq_self, List.length_map]) | (first | (refine grd_split ?_ ?_ <;> intro hc <;> simp only [hc, go_sem, Nat.reduceEqDiff, reduceIte, Bool.not_true, eq_self]) | (refine cnd_split ?_ ?_ <;> intro hc <;> simp only [hc, go_sem, Nat.reduceEqDiff, reduceIte, Bool.not_true, eq_self])) | (refine call_pure (c340) ?_; simp only [go_sem, Nat.reduceEqDiff, reduceIte, eq_self]) | (refine call_pure (c1372) ?_; simp only [go_sem, Nat.reduceEqDiff, reduceIte, eq_self]) | (refine call_pure (c1489) ?_; simp only [go_sem, Nat.reduceEqDiff, reduceIte, eq_self]) | refine fin_eq rfl ?_)
  all_goals (simp_all [levelOk])
theorem c1494 {k : Int} : Pure Gm 1494 [.int .i64 k] (.bool (defOk k)) := by
  refine Pure.intro [] [] g1494 (by kernel_rfl) rfl (by simp [AV.trees, AV.tree, go_sem]) rfl ?_
  simp only [F1494, vparams, go_sem, Nat.reduceEqDiff, reduceIte, Bool.not_true, eq_self]
  repeat' (first | (refine lbox_ok rfl ?_; simp only [go_sem, Nat.reduceEqDiff, reduceIte, Bool.not_true, Bool.not_false, Bool.false_eq_true, List.length_cons, List.length_nil, Nat.reduceAdd, List.getElem?_cons_zero, List.getElem?_cons_succ, decide_true, eq_self, List.length_map]) | (first | (refine grd_split ?_ ?_ <;> intro hc <;> simp only [hc, go_sem, Nat.reduceEqDiff, reduceIte, Bool.not_true, Bool.not_false, Bool.false_eq_true, List.length_cons, List.length_nil, Nat.reduceAdd, List.getElem?_cons_zero, List.getElem?_cons_succ, decide_true, eq_self, List.length_map]) | (refine cnd_split ?_ ?_ <;> intro hc <;> simp only [hc, go_sem, Nat.reduceEqDiff, reduceIte, Bool.not_true, Bool.not_false, Bool.false_eq_true, List.length_cons, List.length_nil, Nat.reduceAdd, List.getElem?_cons_zero, List.getElem?_cons_succ, decide_true, eq_self, List.length_map])) | (refine call_pure (c340) ?_; simp only [go_sem, Nat.reduceEqDiff, reduceIte, eq_self]) | refine fin_eq rfl ?_)
  all_goals (simp_all [defOk])
theorem c1371 {k f : Int} : Pure Gm 1371 [.int .i64 k, .int .i64 f] (.int .i64 (portsOf k f)) := by
  refine Pure.intro [] [] g1371 (by kernel_rfl) rfl (by simp [AV.trees, AV.tree, go_sem]) rfl ?_
  simp only [F1371, vparams, go_sem, Nat.reduceEqDiff, reduceIte, Nat.reduceAdd, eq_self]
  repeat' (first | (refine lbox_ok rfl ?_; simp only [go_sem, Nat.reduceEqDiff, reduceIte, Bool.not_true, Bool.not_false, Bool.false_eq_true, List.length_cons, List.length_nil, Nat.reduceAdd, List.getElem?_cons_zero, List.getElem?_cons_succ, decide_true, eq_self, List.length_map]) | (first | (refine grd_split ?_ ?_ <;> intro hc <;> simp only [hc, go_sem, Nat.reduceEqDiff, reduceIte, Bool.not_true, Bool.not_false, Bool.false_eq_true, List.length_cons, List.length_nil, Nat.reduceAdd, List.getElem?_cons_zero, List.getElem?_cons_succ, decide_true, eq_self, List.length_map]) | (refine cnd_split ?_ ?_ <;> intro hc <;> simp only [hc, go_sem, Nat.reduceEqDiff, reduceIte, Bool.not_true, eq_self])) | (refine call_pure (c340) ?_; simp only [go_sem, Nat.reduceEqDiff, reduceIte, eq_self]) | refine fin_eq rfl ?_)
  all_goals ((try rw [wrap_small (by simp_all [inI]; omega) (by simp_all [inI]; omega)]); simp_all [portsOf] <;> omega)
theorem c1384 {x : GAgent} (hx : x.Ports.length ≤ 140737488355328) : Pure Gm 1384 [.ept x.enc 0] (.int .i64 (fieldsOf x)) := by
  refine Pure.intro [] [] g1384 (by kernel_rfl) rfl (by simp [AV.trees, AV.tree, go_sem]) rfl ?_
  simp only [F1384, vparams, go_sem, Nat.reduceEqDiff, reduceIte, Nat.reduceAdd, eq_self]
  repeat' (first | (refine lbox_ok rfl ?_; simp only [go_sem, Nat.reduceEqDiff, reduceIte, Bool.not_true, Bool.not_false, Bool.false_eq_true, List.length_cons, List.length_nil, Nat.reduceAdd, List.getElem?_cons_zero, List.getElem?_cons_succ, decide_true, eq_self, List.length_map]) | (first | (refine grd_split ?_ ?_ <;> intro hc <;> simp only [hc, go_sem, Nat.reduceEqDiff, reduceIte, Bool.not_true, Bool.not_false, Bool.false_eq_true, List.length_cons, List.length_nil, Nat.reduceAdd, List.getElem?_cons_zero, List.getElem?_cons_succ, decide_true, eq_self, List.length_map]) | (refine cnd_split ?_ ?_ <;> intro hc <;> simp only [hc, go_sem, Nat.reduceEqDiff, reduceIte, Nat.reduceAdd, eq_self, List.length_map])) | refine fin_eq rfl ?_)
  all_goals ((try rw [wrap_small (by omega) (by omega)]); simp_all [fieldsOf] <;> omega)
theorem c1386 {x : GAgent} (hx : x.Data.length ≤ 1048576) : Pure Gm 1386 [.ept x.enc 0] (.bool (contentOk x)) := by
  refine Pure.intro [] [] g1386 (by kernel_rfl) rfl (by simp [AV.trees, AV.tree, go_sem]) rfl ?_
  simp only [F1386, vparams, go_sem, Nat.reduceEqDiff, reduceIte, Nat.reduceAdd, eq_self]
  have one : (x.Data.length : Int) = 1 → ∃ d, x.Data = [d] := fun h => List.length_eq_one_iff.1 (by omega)
  have z0 : (x.Data.length : Int) = 1 → (x.Data.map encI)[0]? = some (.int .i64 (x.Data.headD 0)) := fun h => by
    obtain ⟨d, hd⟩ := one h
    rw [hd]; rfl
  have z1 : (x.Data.length : Int) = 1 → (x.Data.all fun d => inI d (-2147483648) 2147483647) = inI (x.Data.headD 0) (-2147483648) 2147483647 := fun h => by
    obtain ⟨d, hd⟩ := one h
    rw [hd]; simp
  repeat' (first
    | (first | (refine grd_split ?_ ?_ <;> intro hc <;> simp only [hc, go_sem, Nat.reduceEqDiff, reduceIte, Bool.not_true, Bool.not_false, Nat.reduceAdd, eq_self, List.length_map]) | (refine cnd_split ?_ ?_ <;> intro hc <;> simp only [hc, go_sem, Nat.reduceEqDiff, reduceIte, Nat.reduceAdd, eq_self, List.length_map]))
    | (refine call_pure (c340) ?_; simp only [go_sem, Nat.reduceEqDiff, reduceIte, eq_self])
    | (refine call_pure (c1494) ?_; simp only [go_sem, Nat.reduceEqDiff, reduceIte, eq_self])
    | refine fin_eq rfl ?_
    | (rw [z0 (of_decide_eq_true (by assumption))]; simp only [Option.map_some]; simp only [go_sem, Nat.reduceEqDiff, reduceIte, Bool.not_true, eq_self])
    | (refine Sem.loop (fun i : Nat => i ≤ x.Data.length ∧ contentOk x = (x.Data.drop i).all defOk) (fun i => (⟨[(0, .ept x.enc 0), (3, .int .i64 (i : Nat))], [], []⟩ : VSt)) (fun i => x.Data.length - i) 0 (by kernel_rfl) ⟨Nat.zero_le _, ?_⟩ (Can.sub (by simp [go_sem]) (by simp [go_sem])) ?_))
  all_goals try (simp_all [contentOk]; done)
  all_goals
    clear z0 z1 one
    rintro i ⟨hi, hI⟩
    simp only [go_sem, Nat.reduceEqDiff, reduceIte, Nat.reduceAdd, eq_self, List.length_map]
    refine cnd_split ?_ ?_ <;> intro hc <;> simp only [hc, go_sem, Nat.reduceEqDiff, reduceIte, Nat.reduceAdd, eq_self]
    · have hlt : i < x.Data.length := by have := of_decide_eq_true hc; omega
      simp only [List.getElem?_map, List.getElem?_eq_getElem hlt, Option.map_some, go_sem, Nat.reduceEqDiff, reduceIte, eq_self]
      simp only [encI]
      simp only [go_sem, Nat.reduceEqDiff, reduceIte, Bool.not_true, eq_self]
      refine call_pure c1494 ?_
      simp only [go_sem, Nat.reduceEqDiff, reduceIte, eq_self]
      refine cnd_split ?_ ?_ <;> intro hc <;> simp only [hc, go_sem, Nat.reduceEqDiff, reduceIte, eq_self]
      · refine fin_eq rfl ?_
        have hd : defOk x.Data[i] = false := by simpa using hc
        rw [hI, drop_at hlt, List.all_cons, hd, Bool.false_and]
      · simp only [wrap_succ (show i < 4611686018427387904 by omega)]; refine loopQ_nrm (i + 1) ⟨by omega, ?_⟩ (by omega) (Can.sub (by simp [go_sem]) (by simp [go_sem]))
        have hd : defOk x.Data[i] = true := by simpa using hc
        rw [hI, drop_at hlt, List.all_cons, hd, Bool.true_and]
    · have hge : i = x.Data.length := by have := of_decide_eq_false hc; omega
      subst hge
      refine fin_eq rfl ?_
      rw [hI]; simp
end Go.Ab
namespace Go.Ab
open Go
set_option maxRecDepth 10000
def originOk (o : GOrigin) (a : Int) : Bool := inI o.Step 0 a && inI o.Def (-1) 23 && inI o.Source (-1) 599 && (decide (0 ≤ o.Source) || decide (o.Def < 0))
theorem c1096 {x : GAgent} (hz : x.sz ≤ 1048576) : Pure Gm 1096 [.ept x.enc 0] (.bool (agentOk x)) := by
  refine Pure.intro [] [] g1096 (by kernel_rfl) rfl (by simp [AV.trees, AV.tree, go_sem]) rfl ?_
  simp only [F1096, vparams, go_sem, Nat.reduceEqDiff, reduceIte, Bool.not_false, Nat.reduceAdd, eq_self]
  repeat' (first | (refine lbox_ok rfl ?_; simp only [go_sem, Nat.reduceEqDiff, reduceIte, Bool.not_true, Bool.not_false, Bool.false_eq_true, List.length_cons, List.length_nil, Nat.reduceAdd, List.getElem?_cons_zero, List.getElem?_cons_succ, decide_true, eq_self, List.length_map]) | (first | (refine grd_split ?_ ?_ <;> intro hc <;> simp only [hc, go_sem, Nat.reduceEqDiff, reduceIte, Bool.not_true, Nat.reduceAdd, eq_self, List.length_map]) | (refine cnd_split ?_ ?_ <;> intro hc <;> simp only [hc, go_sem, Nat.reduceEqDiff, reduceIte, Bool.not_true, Bool.not_false, Bool.false_eq_true, List.length_cons, List.length_nil, Nat.reduceAdd, List.getElem?_cons_zero, List.getElem?_cons_succ, decide_true, eq_self, List.length_map])) | (refine call_pure (c1384 (by unfold GAgent.sz at hz; omega)) ?_; simp only [go_sem, Nat.reduceEqDiff, reduceIte, Bool.not_true, eq_self]) | (refine call_pure (c1371) ?_; simp only [go_sem, Nat.reduceEqDiff, reduceIte, eq_self]) | (refine call_pure (c1385) ?_; simp only [go_sem, Nat.reduceEqDiff, reduceIte, eq_self]) | (refine call_pure (c1386 (by unfold GAgent.sz at hz; omega)) ?_; simp only [go_sem, Nat.reduceEqDiff, reduceIte, eq_self]) | refine fin_eq rfl ?_)
  all_goals (simp_all [agentOk] <;> omega)
theorem c710 {xs : List GAgent} (hl : xs.length + sumN GAgent.sz xs ≤ 1048576) : Pure Gm 710 [.lst 5 (xs.map GAgent.enc) false] (.bool (agentsOk xs)) := by
  refine Pure.intro [] [] g710 (by kernel_rfl) rfl (by simp [AV.trees, AV.tree, trees_map GAgent.isSh.tree]) rfl ?_
  simp only [F710, vparams, go_sem, Nat.reduceEqDiff, reduceIte, Bool.not_true, eq_self, List.length_map]
  refine call_pure c340 ?_
  simp only [go_sem, Nat.reduceEqDiff, reduceIte, eq_self]
  refine cnd_split ?_ ?_ <;> intro hc <;> simp only [hc, go_sem, Nat.reduceEqDiff, reduceIte, eq_self]
  · refine fin_eq rfl ?_
    simp_all [agentsOk]
  refine Sem.loop (fun i : Nat => i ≤ xs.length ∧ agentsOk xs = agentsFrom (xs.drop i) i) (fun i => (⟨[(0, .lst 5 (xs.map GAgent.enc) false), (3, .int .i64 (i : Nat))], [], []⟩ : VSt)) (fun i => xs.length - i) 0 (by kernel_rfl) ⟨Nat.zero_le _, by simp_all [agentsOk]⟩ (Can.sub (by simp [go_sem]) (by simp [go_sem])) ?_
  rintro i ⟨hi, hI⟩
  simp only [go_sem, Nat.reduceEqDiff, reduceIte, eq_self, List.length_map]
  refine cnd_split ?_ ?_ <;> intro hc <;> simp only [hc, go_sem, Nat.reduceEqDiff, reduceIte, eq_self]
  · have hlt : i < xs.length := by have := of_decide_eq_true hc; omega
    simp only [List.getElem?_map, List.getElem?_eq_getElem hlt, Option.map_some, go_sem, Nat.reduceEqDiff, reduceIte, Bool.not_true, eq_self]
    have hs := le_sumN (f := GAgent.sz) (List.getElem_mem hlt)
    refine call_pure (c1096 (by omega)) ?_
    simp only [go_sem, Nat.reduceEqDiff, reduceIte, eq_self]
    refine grd_split ?_ ?_ <;> intro hc <;> simp only [hc, go_sem, Nat.reduceEqDiff, reduceIte, Bool.not_false, eq_self]
    · simp only [List.getElem?_map, List.getElem?_eq_getElem hlt, Option.map_some, go_sem, Nat.reduceEqDiff, reduceIte, Nat.reduceAdd, eq_self]
      refine cnd_split ?_ ?_ <;> intro hc <;> simp only [hc, go_sem, Nat.reduceEqDiff, reduceIte, eq_self]
      · refine fin_eq rfl ?_
        rw [hI, drop_at hlt]; simp_all [agentsFrom]
      · simp only [wrap_succ (show i < 4611686018427387904 by omega)]; refine loopQ_nrm (i + 1) ⟨by omega, ?_⟩ (by omega) (Can.sub (by simp [go_sem]) (by simp [go_sem]))
        rw [hI, drop_at hlt]; simp_all [agentsFrom]
    · refine fin_eq rfl ?_
      rw [hI, drop_at hlt]; simp_all [agentsFrom]
  · obtain rfl : i = xs.length := by have := of_decide_eq_false hc; omega
    refine fin_eq rfl ?_
    rw [hI]; simp [agentsFrom]
theorem c1109 {o : GOrigin} {a : Int} : Pure Gm 1109 [.ept o.enc 0, .int .i64 a] (.bool (originOk o a)) := by
  refine Pure.intro [] [] g1109 (by kernel_rfl) rfl (by simp [AV.trees, AV.tree, go_sem]) rfl ?_
  simp only [F1109, vparams, go_sem, Nat.reduceEqDiff, reduceIte, Bool.not_true, Nat.reduceAdd, eq_self]
  repeat' (first | (refine lbox_ok rfl ?_; simp only [go_sem, Nat.reduceEqDiff, reduceIte, Bool.not_true, Bool.not_false, Bool.false_eq_true, List.length_cons, List.length_nil, Nat.reduceAdd, List.getElem?_cons_zero, List.getElem?_cons_succ, decide_true, eq_self, List.length_map]) | (first | (refine grd_split ?_ ?_ <;> intro hc <;> simp only [hc, go_sem, Nat.reduceEqDiff, reduceIte, Bool.not_true, Bool.not_false, Nat.reduceAdd, eq_self]) | (refine cnd_split ?_ ?_ <;> intro hc <;> simp only [hc, go_sem, Nat.reduceEqDiff, reduceIte, Bool.not_true, Bool.not_false, Bool.false_eq_true, List.length_cons, List.length_nil, Nat.reduceAdd, List.getElem?_cons_zero, List.getElem?_cons_succ, decide_true, eq_self, List.length_map])) | (refine call_pure (c340) ?_; simp only [go_sem, Nat.reduceEqDiff, reduceIte, eq_self]) | refine fin_eq rfl ?_)
  all_goals (simp_all [originOk] <;> omega)
end Go.Ab
namespace Go.Ab
open Go
set_option maxRecDepth 10000
theorem inI_iff {n lo hi : Int} : inI n lo hi = true ↔ lo ≤ n ∧ n ≤ hi := by simp [inI]
def peerAt (xs : List GAgent) (q : GPort) : Option GPort := match xs[q.Agent.toNat]? with
  | some y => y.Ports[q.Slot.toNat]?
  | none => none
def wireOk (xs : List GAgent) (me q : GPort) : Bool := !(decide (q = me)) && portOk xs q && decide (peerAt xs q = some me)
def wiresFrom (xs : List GAgent) (i : Nat) : List GPort → Nat → Bool
  | [], _ => true
  | q :: qs, k => wireOk xs ⟨i, k⟩ q && wiresFrom xs i qs (k + 1)
def netFrom (xs : List GAgent) : List GAgent → Nat → Bool
  | [], _ => true
  | x :: r, i => wiresFrom xs i x.Ports 0 && netFrom xs r (i + 1)
def netOk (n : GNet) : Bool := agentsOk n.Agents && netFrom n.Agents n.Agents 0
def schedOk (xs : List Int) : Bool := decide (xs.length ≤ 200) && xs.all fun n => inI n 0 600
def bookOk (xs : List GNet) : Bool := decide (xs.length ≤ 24) && xs.all netOk
theorem c488 {xs : List GAgent} {p : GPort} (hl : xs.length + sumN GAgent.sz xs ≤ 1048576) : Pure Gm 488 [.lst 5 (xs.map GAgent.enc) false, p.enc] (.bool (portOk xs p)) := by
  refine Pure.intro [] [] g488 (by kernel_rfl) rfl (by simp [AV.trees, AV.tree, trees_map GAgent.isSh.tree, GPort.tr]) rfl ?_
  simp only [F488, vparams, go_sem, Nat.reduceEqDiff, reduceIte, Nat.reduceAdd, eq_self]
  refine lbox_ok rfl ?_; simp only [go_sem, Nat.reduceEqDiff, reduceIte, Bool.not_true, eq_self, List.length_map]
  rw [wrap_small (by omega) (by omega)]
  refine call_pure c340 ?_
  simp only [go_sem, Nat.reduceEqDiff, reduceIte, eq_self]
  refine grd_split ?_ ?_ <;> intro hc <;> simp only [hc, go_sem, Nat.reduceEqDiff, reduceIte, Bool.not_true, eq_self]
  · have h := inI_iff.1 hc
    have hlt : p.Agent.toNat < xs.length := by omega
    rw [idx_li h.1]
    simp only [List.getElem?_map, List.getElem?_eq_getElem hlt, Option.map_some, go_sem, Nat.reduceEqDiff, reduceIte, Bool.not_true, Nat.reduceAdd, eq_self, List.length_map]
    have hs : xs[p.Agent.toNat].Data.length + xs[p.Agent.toNat].Ports.length ≤ sumN GAgent.sz xs := le_sumN (f := GAgent.sz) (List.getElem_mem hlt)
    rw [wrap_small (by omega) (by omega)]
    refine call_pure c340 ?_
    simp only [go_sem, Nat.reduceEqDiff, reduceIte, eq_self]
    refine fin_eq rfl ?_
    simp [portOk, hc, portsLen, List.getElem?_eq_getElem hlt]
  · refine fin_eq rfl ?_
    simp_all [portOk]
theorem c412 {xs : List Int} (hl : xs.length ≤ 1048576) : Pure Gm 412 [.lst 1 (xs.map encI) false] (.bool (schedOk xs)) := by
  refine Pure.intro [] [] g412 (by kernel_rfl) rfl (by simp [AV.trees, AV.tree, trees_map shI.tree]) rfl ?_
  simp only [F412, vparams, go_sem, Nat.reduceEqDiff, reduceIte, eq_self, List.length_map]
  refine cnd_split ?_ ?_ <;> intro hc <;> simp only [hc, go_sem, Nat.reduceEqDiff, reduceIte, eq_self]
  · refine fin_eq rfl ?_
    have := of_decide_eq_true hc
    have h2 : ¬ xs.length ≤ 200 := by omega
    simp [schedOk, h2]
  have h0 : xs.length ≤ 200 := by have := of_decide_eq_false hc; omega
  refine Sem.loop (fun i : Nat => i ≤ xs.length ∧ schedOk xs = (xs.drop i).all fun n => inI n 0 600) (fun i => (⟨[(0, .lst 1 (xs.map encI) false), (3, .int .i64 (i : Nat))], [], []⟩ : VSt)) (fun i => xs.length - i) 0 (by kernel_rfl) ⟨Nat.zero_le _, by simp [schedOk, h0]⟩ (Can.sub (by simp [go_sem]) (by simp [go_sem])) ?_
  rintro i ⟨hi, hI⟩
  simp only [go_sem, Nat.reduceEqDiff, reduceIte, eq_self, List.length_map]
  refine cnd_split ?_ ?_ <;> intro hc <;> simp only [hc, go_sem, Nat.reduceEqDiff, reduceIte, eq_self]
  · have hlt : i < xs.length := by have := of_decide_eq_true hc; omega
    simp only [List.getElem?_map, List.getElem?_eq_getElem hlt, Option.map_some, go_sem, Nat.reduceEqDiff, reduceIte, eq_self]
    simp only [encI]
    simp only [go_sem, Nat.reduceEqDiff, reduceIte, Bool.not_true, eq_self]
    refine call_pure c340 ?_
    simp only [go_sem, Nat.reduceEqDiff, reduceIte, eq_self]
    refine cnd_split ?_ ?_ <;> intro hc <;> simp only [hc, go_sem, Nat.reduceEqDiff, reduceIte, eq_self]
    · refine fin_eq rfl ?_
      rw [hI, drop_at hlt, List.all_cons]; simp_all
    · simp only [wrap_succ (show i < 4611686018427387904 by omega)]; refine loopQ_nrm (i + 1) ⟨by omega, ?_⟩ (by omega) (Can.sub (by simp [go_sem]) (by simp [go_sem]))
      rw [hI, drop_at hlt, List.all_cons]; simp_all
  · obtain rfl : i = xs.length := by have := of_decide_eq_false hc; omega
    refine fin_eq rfl ?_
    rw [hI]; simp
theorem c318 {n : GNet} (hz : n.sz ≤ 1048576) : Pure Gm 318 [.ept n.enc 0] (.bool (netOk n)) := by
  refine Pure.intro [] [] g318 (by kernel_rfl) rfl (by simp [AV.trees, AV.tree, go_sem]) rfl ?_
  simp only [F318, vparams, go_sem, Nat.reduceEqDiff, reduceIte, Bool.not_true, Nat.reduceAdd, eq_self]
  have hz' : n.Agents.length + sumN GAgent.sz n.Agents ≤ 1048576 := hz
  refine call_pure (c710 hz') ?_
  simp only [go_sem, Nat.reduceEqDiff, reduceIte, eq_self]
  refine cnd_split ?_ ?_ <;> intro hc <;> simp only [hc, go_sem, Nat.reduceEqDiff, reduceIte, eq_self]
  · refine fin_eq rfl ?_
    simp_all [netOk]
  refine Sem.loop (fun i : Nat => i ≤ n.Agents.length ∧ netOk n = netFrom n.Agents (n.Agents.drop i) i) (fun i => (⟨[(0, .ept n.enc 0), (3, .int .i64 (i : Nat))], [], []⟩ : VSt)) (fun i => n.Agents.length - i) 0 (by kernel_rfl) ⟨Nat.zero_le _, by simp_all [netOk]⟩ (Can.sub (by simp [go_sem]) (by simp [go_sem])) ?_
  rintro i ⟨hi, hI⟩
  simp only [go_sem, Nat.reduceEqDiff, reduceIte, Nat.reduceAdd, eq_self, List.length_map]
  refine cnd_split ?_ ?_ <;> intro hc <;> simp only [hc, go_sem, Nat.reduceEqDiff, reduceIte, Nat.reduceAdd, eq_self]
  · have hlt : i < n.Agents.length := by have := of_decide_eq_true hc; omega
    simp only [List.getElem?_map, List.getElem?_eq_getElem hlt, Option.map_some, go_sem, Nat.reduceEqDiff, reduceIte, eq_self]
    have hs : n.Agents[i].Data.length + n.Agents[i].Ports.length ≤ sumN GAgent.sz n.Agents := le_sumN (f := GAgent.sz) (List.getElem_mem hlt)
    refine Sem.loop (fun k : Nat => k ≤ n.Agents[i].Ports.length ∧ netOk n = (wiresFrom n.Agents i (n.Agents[i].Ports.drop k) k && netFrom n.Agents (n.Agents.drop (i + 1)) (i + 1))) (fun k => (⟨[(0, .ept n.enc 0), (3, .int .i64 (i : Nat)), (4, .ept n.Agents[i].enc 0), (5, .int .i64 (k : Nat))], [], []⟩ : VSt)) (fun k => n.Agents[i].Ports.length - k) 0 (by kernel_rfl) ⟨Nat.zero_le _, by rw [hI, drop_at hlt]; rfl⟩ (Can.sub (by simp [go_sem]) (by simp [go_sem])) ?_
    rintro k ⟨hk, hK⟩
    simp only [go_sem, Nat.reduceEqDiff, reduceIte, Nat.reduceAdd, eq_self, List.length_map]
    refine cnd_split ?_ ?_ <;> intro hc <;> simp only [hc, go_sem, Nat.reduceEqDiff, reduceIte, List.length_cons, List.length_nil, Nat.reduceAdd, eq_self]
    · have hkl : k < n.Agents[i].Ports.length := by have := of_decide_eq_true hc; omega
      rw [show AV.agg [AV.int IntKind.i64 (i : Nat), AV.int IntKind.i64 (k : Nat)] = GPort.enc ⟨i, k⟩ from rfl]
      refine lst_all rfl rfl ⟨_, rfl⟩ (by decide) ?_
      simp only [List.getElem?_map, List.getElem?_eq_getElem hkl, Option.map_some, go_sem, Nat.reduceEqDiff, reduceIte, Nat.reduceAdd, eq_self]
      refine lst_all rfl rfl ⟨_, rfl⟩ (by decide) ?_
      simp only [go_sem, Nat.reduceEqDiff, reduceIte, eq_self]
      have stop : wireOk n.Agents ⟨i, k⟩ n.Agents[i].Ports[k] = false → netOk n = false := fun h => by rw [hK, drop_at hkl]; simp [wiresFrom, h]
      have go : wireOk n.Agents ⟨i, k⟩ n.Agents[i].Ports[k] = true → netOk n = (wiresFrom n.Agents i (n.Agents[i].Ports.drop (k + 1)) (k + 1) && netFrom n.Agents (n.Agents.drop (i + 1)) (i + 1)) := fun h => by rw [hK, drop_at hkl]; simp [wiresFrom, h]
      refine grd_split ?_ ?_ <;> intro hc <;> simp only [hc, go_sem, Nat.reduceEqDiff, reduceIte, Bool.not_true, Bool.not_false, Nat.reduceAdd, eq_self]
      · have hne : ¬ n.Agents[i].Ports[k] = ⟨i, k⟩ := of_decide_eq_false hc
        refine call_pure (c488 hz') ?_
        simp only [go_sem, Nat.reduceEqDiff, reduceIte, eq_self]
        refine grd_split ?_ ?_ <;> intro hc <;> simp only [hc, go_sem, Nat.reduceEqDiff, reduceIte, Bool.not_false, Nat.reduceAdd, eq_self]
        · have hp : portOk n.Agents n.Agents[i].Ports[k] = true := by simpa using hc
          have hp2 := hp
          simp only [portOk, Bool.and_eq_true, inI_iff] at hp2
          have hlt2 : n.Agents[i].Ports[k].Agent.toNat < n.Agents.length := by omega
          have hpl : portsLen n.Agents n.Agents[i].Ports[k].Agent = n.Agents[n.Agents[i].Ports[k].Agent.toNat].Ports.length := by simp [portsLen, List.getElem?_eq_getElem hlt2]
          rw [hpl] at hp2
          have hlt3 : n.Agents[i].Ports[k].Slot.toNat < n.Agents[n.Agents[i].Ports[k].Agent.toNat].Ports.length := by omega
          have hpe : peerAt n.Agents n.Agents[i].Ports[k] = some n.Agents[n.Agents[i].Ports[k].Agent.toNat].Ports[n.Agents[i].Ports[k].Slot.toNat] := by simp [peerAt, List.getElem?_eq_getElem hlt2, List.getElem?_eq_getElem hlt3]
          rw [idx_li (by omega)]
          simp only [List.getElem?_map, List.getElem?_eq_getElem hlt2, Option.map_some, go_sem, Nat.reduceEqDiff, reduceIte, Nat.reduceAdd, eq_self]
          rw [idx_li (by omega)]
          simp only [List.getElem?_map, List.getElem?_eq_getElem hlt3, Option.map_some, go_sem, Nat.reduceEqDiff, reduceIte, eq_self]
          refine cnd_split ?_ ?_ <;> intro hc <;> simp only [hc, go_sem, Nat.reduceEqDiff, reduceIte, eq_self]
          · refine fin_eq rfl ?_
            rw [stop (by simp [wireOk, hpe]; intro _ _; simpa using hc)]
          · simp only [wrap_succ (show k < 4611686018427387904 by omega)]; refine loopQ_nrm (k + 1) ⟨by omega, ?_⟩ (by omega) (Can.sub (by simp [go_sem]) (by simp [go_sem]))
            exact go (by simp [wireOk, hpe, hp, hne]; simpa using hc)
        · refine fin_eq rfl ?_
          have hp : portOk n.Agents n.Agents[i].Ports[k] = false := by simpa using hc
          rw [stop (by simp [wireOk, hp])]
      · refine fin_eq rfl ?_
        have he : n.Agents[i].Ports[k] = ⟨i, k⟩ := of_decide_eq_true hc
        rw [stop (by simp [wireOk, he])]
    · obtain rfl : k = n.Agents[i].Ports.length := by have := of_decide_eq_false hc; omega
      simp only [wrap_succ (show i < 4611686018427387904 by omega)]; refine loopQ_nrm (i + 1) ⟨by omega, ?_⟩ (by omega) (Can.sub (by simp [go_sem]) (by simp [go_sem]))
      rw [hK]; simp [wiresFrom]
  · obtain rfl : i = n.Agents.length := by have := of_decide_eq_false hc; omega
    refine fin_eq rfl ?_
    rw [hI]; simp [netFrom]
theorem c598 {xs : List GNet} (hl : xs.length + sumN GNet.sz xs ≤ 1048576) : Pure Gm 598 [.lst 1 (xs.map GNet.enc) false] (.bool (bookOk xs)) := by
  refine Pure.intro [] [] g598 (by kernel_rfl) rfl (by simp [AV.trees, AV.tree, trees_map GNet.isSh.tree]) rfl ?_
  simp only [F598, vparams, go_sem, Nat.reduceEqDiff, reduceIte, eq_self, List.length_map]
  refine cnd_split ?_ ?_ <;> intro hc <;> simp only [hc, go_sem, Nat.reduceEqDiff, reduceIte, eq_self]
  · refine fin_eq rfl ?_
    have := of_decide_eq_true hc
    have h2 : ¬ xs.length ≤ 24 := by omega
    simp [bookOk, h2]
  have h0 : xs.length ≤ 24 := by have := of_decide_eq_false hc; omega
  refine Sem.loop (fun i : Nat => i ≤ xs.length ∧ bookOk xs = (xs.drop i).all netOk) (fun i => (⟨[(0, .lst 1 (xs.map GNet.enc) false), (3, .int .i64 (i : Nat))], [], []⟩ : VSt)) (fun i => xs.length - i) 0 (by kernel_rfl) ⟨Nat.zero_le _, by simp [bookOk, h0]⟩ (Can.sub (by simp [go_sem]) (by simp [go_sem])) ?_
  rintro i ⟨hi, hI⟩
  simp only [go_sem, Nat.reduceEqDiff, reduceIte, eq_self, List.length_map]
  refine cnd_split ?_ ?_ <;> intro hc <;> simp only [hc, go_sem, Nat.reduceEqDiff, reduceIte, eq_self]
  · have hlt : i < xs.length := by have := of_decide_eq_true hc; omega
    simp only [List.getElem?_map, List.getElem?_eq_getElem hlt, Option.map_some, go_sem, Nat.reduceEqDiff, reduceIte, Bool.not_true, eq_self]
    have hs := le_sumN (f := GNet.sz) (List.getElem_mem hlt)
    refine call_pure (c318 (by omega)) ?_
    simp only [go_sem, Nat.reduceEqDiff, reduceIte, eq_self]
    refine cnd_split ?_ ?_ <;> intro hc <;> simp only [hc, go_sem, Nat.reduceEqDiff, reduceIte, eq_self]
    · refine fin_eq rfl ?_
      rw [hI, drop_at hlt, List.all_cons]; simp_all
    · simp only [wrap_succ (show i < 4611686018427387904 by omega)]; refine loopQ_nrm (i + 1) ⟨by omega, ?_⟩ (by omega) (Can.sub (by simp [go_sem]) (by simp [go_sem]))
      rw [hI, drop_at hlt, List.all_cons]; simp_all
  · obtain rfl : i = xs.length := by have := of_decide_eq_false hc; omega
    refine fin_eq rfl ?_
    rw [hI]; simp
end Go.Ab
namespace Go.Ab
open Go
set_option maxRecDepth 10000
def origsOk (n : GNet) (os : List GOrigin) (a : Int) : Bool := netOk n && decide ((os.length : Int) = n.Agents.length) && os.all fun o => originOk o a
def pointsFrom (every : Int) : List GCheckpoint → Nat → Bool
  | [], _ => true
  | p :: ps, i => decide (p.At = (i : Int) * every) && origsOk p.Net p.Origins p.At && pointsFrom every ps (i + 1)
def dbgOk (d : GDebugger) : Bool := bookOk d.Book && schedOk d.Schedule && inI d.Every 1 50 && inI d.At 0 4000 && origsOk d.Net d.Origins d.At && !(decide ((8 : Int) < d.Breaks.length)) && d.Breaks.all breakOk &&
  inI d.Points.length (d.At.tdiv d.Every + 1) ((4000 : Int).tdiv d.Every + 1) && pointsFrom d.Every d.Points 0
theorem tdiv_bd {a b : Int} (ha : 0 ≤ a) (hb : 0 < b) : 0 ≤ a.tdiv b ∧ a.tdiv b ≤ a := by
  rw [Int.tdiv_eq_ediv_of_nonneg ha]
  exact ⟨Int.ediv_nonneg ha (by omega), Int.ediv_le_self b ha⟩
theorem c741 {n : GNet} {os : List GOrigin} {a : Int} (hz : n.sz ≤ 1048576) (hl : os.length ≤ 1048576) : Pure Gm 741 [.ept n.enc 0, .lst 3 (os.map GOrigin.enc) false, .int .i64 a] (.bool (origsOk n os a)) := by
  refine Pure.intro [] [] g741 (by kernel_rfl) rfl (by simp [AV.trees, AV.tree, trees_map GOrigin.isSh.tree, GNet.tr]) rfl ?_
  simp only [F741, vparams, go_sem, Nat.reduceEqDiff, reduceIte, Bool.not_true, Nat.reduceAdd, eq_self]
  refine call_pure (c318 hz) ?_
  simp only [go_sem, Nat.reduceEqDiff, reduceIte, eq_self]
  refine grd_split ?_ ?_ <;> intro hc <;> simp only [hc, go_sem, Nat.reduceEqDiff, reduceIte, Bool.not_false, Nat.reduceAdd, eq_self, List.length_map]
  · refine cnd_split ?_ ?_ <;> intro hc <;> simp only [hc, go_sem, Nat.reduceEqDiff, reduceIte, eq_self]
    · refine fin_eq rfl ?_
      have h2 : ¬ ((os.length : Int) = n.Agents.length) := by simpa using hc
      simp [origsOk]; omega
    have h1 : netOk n = true := by simp_all
    have h2 : (os.length : Int) = n.Agents.length := by simpa using hc
    refine Sem.loop (fun i : Nat => i ≤ os.length ∧ origsOk n os a = (os.drop i).all fun o => originOk o a) (fun i => (⟨[(1, .lst 3 (os.map GOrigin.enc) false), (2, .int .i64 a), (7, .int .i64 (i : Nat))], [], []⟩ : VSt)) (fun i => os.length - i) 0 (by kernel_rfl) ⟨Nat.zero_le _, by simp [origsOk, h1, h2]⟩ (Can.sub (by simp [go_sem]) (by simp [go_sem])) ?_
    rintro i ⟨hi, hI⟩
    simp only [go_sem, Nat.reduceEqDiff, reduceIte, eq_self, List.length_map]
    refine cnd_split ?_ ?_ <;> intro hc <;> simp only [hc, go_sem, Nat.reduceEqDiff, reduceIte, eq_self]
    · have hlt : i < os.length := by have := of_decide_eq_true hc; omega
      simp only [List.getElem?_map, List.getElem?_eq_getElem hlt, Option.map_some, go_sem, Nat.reduceEqDiff, reduceIte, Bool.not_true, eq_self]
      refine call_pure c1109 ?_
      simp only [go_sem, Nat.reduceEqDiff, reduceIte, eq_self]
      refine cnd_split ?_ ?_ <;> intro hc <;> simp only [hc, go_sem, Nat.reduceEqDiff, reduceIte, eq_self]
      · refine fin_eq rfl ?_
        rw [hI, drop_at hlt, List.all_cons]; simp_all
      · simp only [wrap_succ (show i < 4611686018427387904 by omega)]; refine loopQ_nrm (i + 1) ⟨by omega, ?_⟩ (by omega) (Can.sub (by simp [go_sem]) (by simp [go_sem]))
        rw [hI, drop_at hlt, List.all_cons]; simp_all
    · obtain rfl : i = os.length := by have := of_decide_eq_false hc; omega
      refine fin_eq rfl ?_
      rw [hI]; simp
  · refine fin_eq rfl ?_
    simp_all [origsOk]
theorem c367 {d : GDebugger} (hz : d.sz ≤ 1048576) : Pure Gm 367 [.ept d.enc 0] (.bool (dbgOk d)) := by
  refine Pure.intro [] [] g367 (by kernel_rfl) rfl (by simp [AV.trees, AV.tree, go_sem]) rfl ?_
  simp only [F367, vparams, go_sem, Nat.reduceEqDiff, reduceIte, Bool.not_true, Nat.reduceAdd, eq_self]
  unfold GDebugger.sz at hz
  have hzn : d.Net.sz ≤ 1048576 := by omega
  have conv : Cvs (only [] []) [.ept d.enc 4, .lst 3 (d.Origins.map GOrigin.enc) false, .int .i64 d.At] [.ept d.Net.enc 0, .lst 3 (d.Origins.map GOrigin.enc) false, .int .i64 d.At] :=
    Cvs.cons (.sub GDebugger.tr (GDebugger.q4_1) (by rw [GNet.ln]; decide)) (Cvs.cons (.refl (by simp [AV.tree, trees_map GOrigin.isSh.tree])) (Cvs.cons (.refl rfl) Cvs.nil))
  repeat' (first
    | (first | (refine grd_split ?_ ?_ <;> intro hc <;> simp only [hc, go_sem, Nat.reduceEqDiff, reduceIte, Bool.not_true, Bool.not_false, Nat.reduceAdd, eq_self, List.length_map]) | (refine cnd_split ?_ ?_ <;> intro hc <;> simp only [hc, go_sem, Nat.reduceEqDiff, reduceIte, eq_self]))
    | (refine call_pure (c598 (by omega)) ?_; simp only [go_sem, Nat.reduceEqDiff, reduceIte, eq_self])
    | (refine call_pure (c412 (by omega)) ?_; simp only [go_sem, Nat.reduceEqDiff, reduceIte, eq_self])
    | (refine call_pure c340 ?_; simp only [go_sem, Nat.reduceEqDiff, reduceIte, eq_self])
    | (refine call_conv conv (c741 hzn (by omega)) ?_; simp only [go_sem, Nat.reduceEqDiff, reduceIte, eq_self])
    | refine fin_eq rfl ?_)
  all_goals try (simp_all [dbgOk]; done)
  have f1 : bookOk d.Book = true := by simp_all
  have f2 : schedOk d.Schedule = true := by simp_all
  have f3 : inI d.Every 1 50 = true := by simp_all
  have f4 : inI d.At 0 4000 = true := by simp_all
  have f5 : origsOk d.Net d.Origins d.At = true := by simp_all
  have f6 : decide ((8 : Int) < d.Breaks.length) = false := by simp_all
  have key : dbgOk d = (d.Breaks.all breakOk && inI d.Points.length (d.At.tdiv d.Every + 1) ((4000 : Int).tdiv d.Every + 1) && pointsFrom d.Every d.Points 0) := by simp [dbgOk, f1, f2, f3, f4, f5, f6]
  have e1 := inI_iff.1 f3
  have e2 := inI_iff.1 f4
  have b1 := tdiv_bd e2.1 (show 0 < d.Every by omega)
  have b2 := tdiv_bd (show (0 : Int) ≤ 4000 by omega) (show 0 < d.Every by omega)
  clear f1 f2 f3 f4 f5 f6 conv
  rename_i t1 t2 t3 t4 t5
  clear t1 t2 t3 t4 t5 hc
  obtain ⟨X, hX⟩ : ∃ X, X = (inI d.Points.length (d.At.tdiv d.Every + 1) ((4000 : Int).tdiv d.Every + 1) && pointsFrom d.Every d.Points 0) := ⟨_, rfl⟩
  rw [Bool.and_assoc, ← hX] at key
  refine Sem.loop (fun i : Nat => i ≤ d.Breaks.length ∧ dbgOk d = ((d.Breaks.drop i).all breakOk && X)) (fun i => (⟨[(0, .ept d.enc 0), (3, .int .i64 (i : Nat))], [], []⟩ : VSt)) (fun i => d.Breaks.length - i) 0 (by kernel_rfl) ⟨Nat.zero_le _, by rw [key]; simp⟩ (Can.sub (by simp [go_sem]) (by simp [go_sem])) ?_
  rintro i ⟨hi, hI⟩
  simp only [go_sem, Nat.reduceEqDiff, reduceIte, Nat.reduceAdd, eq_self, List.length_map]
  refine cnd_split ?_ ?_ <;> intro hc <;> simp only [hc, go_sem, Nat.reduceEqDiff, reduceIte, Nat.reduceAdd, eq_self, List.length_map]
  · have hlt : i < d.Breaks.length := by have := of_decide_eq_true hc; omega
    simp only [List.getElem?_map, List.getElem?_eq_getElem hlt, Option.map_some, go_sem, Nat.reduceEqDiff, reduceIte, Bool.not_true, eq_self]
    refine call_pure c426 ?_
    simp only [go_sem, Nat.reduceEqDiff, reduceIte, eq_self]
    refine cnd_split ?_ ?_ <;> intro hc <;> simp only [hc, go_sem, Nat.reduceEqDiff, reduceIte, eq_self]
    · refine fin_eq rfl ?_
      rw [hI, drop_at hlt, List.all_cons]; simp_all
    · simp only [wrap_succ (show i < 4611686018427387904 by omega)]; refine loopQ_nrm (i + 1) ⟨by omega, ?_⟩ (by omega) (Can.sub (by simp [go_sem]) (by simp [go_sem]))
      rw [hI, drop_at hlt, List.all_cons]; simp_all
  have hX2 : dbgOk d = X := by
    obtain rfl : i = d.Breaks.length := by have := of_decide_eq_false hc; omega
    rw [hI]; simp
  clear hI key hi hc
  rw [if_neg (show ¬ d.Every = 0 by omega)]
  simp only [go_sem, Nat.reduceEqDiff, reduceIte, Nat.reduceAdd, eq_self]
  rw [if_neg (show ¬ d.Every = 0 by omega)]
  simp only [go_sem, Nat.reduceEqDiff, reduceIte, Bool.not_true, eq_self]
  rw [wrap_small (n := d.At.tdiv d.Every) (by omega) (by omega), wrap_small (n := (4000 : Int).tdiv d.Every) (by omega) (by omega), wrap_small (n := d.At.tdiv d.Every + 1) (by omega) (by omega), wrap_small (n := (4000 : Int).tdiv d.Every + 1) (by omega) (by omega)]
  refine call_pure c340 ?_
  simp only [go_sem, Nat.reduceEqDiff, reduceIte, eq_self]
  refine cnd_split ?_ ?_ <;> intro hc <;> simp only [hc, go_sem, Nat.reduceEqDiff, reduceIte, eq_self]
  · refine fin_eq rfl ?_
    rw [hX2, hX]; simp_all
  have hq : inI d.Points.length (d.At.tdiv d.Every + 1) ((4000 : Int).tdiv d.Every + 1) = true := by simpa using hc
  rw [hq, Bool.true_and] at hX
  refine Sem.loop (fun i : Nat => i ≤ d.Points.length ∧ dbgOk d = pointsFrom d.Every (d.Points.drop i) i) (fun i => (⟨[(0, .ept d.enc 0), (4, .int .i64 (i : Nat))], [], []⟩ : VSt)) (fun i => d.Points.length - i) 0 (by kernel_rfl) ⟨Nat.zero_le _, by rw [hX2, hX]; simp⟩ (Can.sub (by simp [go_sem]) (by simp [go_sem])) ?_
  rintro i ⟨hi, hI⟩
  simp only [go_sem, Nat.reduceEqDiff, reduceIte, Nat.reduceAdd, eq_self, List.length_map]
  refine cnd_split ?_ ?_ <;> intro hc <;> simp only [hc, go_sem, Nat.reduceEqDiff, reduceIte, Nat.reduceAdd, eq_self]
  · have hlt : i < d.Points.length := by have := of_decide_eq_true hc; omega
    simp only [List.getElem?_map, List.getElem?_eq_getElem hlt, Option.map_some, go_sem, Nat.reduceEqDiff, reduceIte, Nat.reduceAdd, eq_self]
    have hs : (d.Points[i].Net.sz + d.Points[i].Origins.length) ≤ sumN GCheckpoint.sz d.Points := le_sumN (f := GCheckpoint.sz) (List.getElem_mem hlt)
    have m1 : (0 : Int) ≤ (i : Int) * d.Every := Int.mul_nonneg (by omega) (by omega)
    have m2 : (i : Int) * d.Every ≤ 1048576 * 50 := Int.mul_le_mul (by omega) (by omega) (by omega) (by omega)
    rw [wrap_small (n := (i : Int) * d.Every) (by omega) (by omega)]
    have conv : Cvs (only [] []) [.ept d.Points[i].enc 1, .lst 3 (d.Points[i].Origins.map GOrigin.enc) false, .int .i64 d.Points[i].At] [.ept d.Points[i].Net.enc 0, .lst 3 (d.Points[i].Origins.map GOrigin.enc) false, .int .i64 d.Points[i].At] :=
      Cvs.cons (.sub GCheckpoint.tr (GCheckpoint.q1_1) (by rw [GNet.ln]; decide)) (Cvs.cons (.refl (by simp [AV.tree, trees_map GOrigin.isSh.tree])) (Cvs.cons (.refl rfl) Cvs.nil))
    refine grd_split ?_ ?_ <;> intro hc <;> simp only [hc, go_sem, Nat.reduceEqDiff, reduceIte, Bool.not_true, Bool.not_false, Nat.reduceAdd, eq_self]
    · refine call_conv conv (c741 (by omega) (by omega)) ?_
      simp only [go_sem, Nat.reduceEqDiff, reduceIte, eq_self]
      refine cnd_split ?_ ?_ <;> intro hc <;> simp only [hc, go_sem, Nat.reduceEqDiff, reduceIte, eq_self]
      · refine fin_eq rfl ?_
        rw [hI, drop_at hlt]; simp_all [pointsFrom]
      · simp only [wrap_succ (show i < 4611686018427387904 by omega)]; refine loopQ_nrm (i + 1) ⟨by omega, ?_⟩ (by omega) (Can.sub (by simp [go_sem]) (by simp [go_sem]))
        rw [hI, drop_at hlt]; simp_all [pointsFrom]
    · refine fin_eq rfl ?_
      rw [hI, drop_at hlt]; simp_all [pointsFrom]
  · obtain rfl : i = d.Points.length := by have := of_decide_eq_false hc; omega
    refine fin_eq rfl ?_
    rw [hI]; simp [pointsFrom]
end Go.Ab
namespace Go.Ab
open Go
set_option maxRecDepth 10000
def pairOk (ka la kb lb : Int) : Bool := levelOk ka la && levelOk kb lb && !decide (ka = 1) && !decide (kb = 1)
def dupl (l k m : Int) : Bool := inI l 0 8 && levelOk k m && (decide (k = 6) || decide (k = 12) || hasLevel k && decide (l < m))
def isCons (k : Int) : Bool := decide (k = 3) || decide (k = 7) || decide (k = 8) || decide (k = 10) || decide (k = 11)
def ruleI (ka la kb lb : Int) : Int :=
  if ka = 5 then 4 else if ka = 4 then (if kb = 4 ∧ la = lb then 2 else if dupl la kb lb then 3 else 0)
  else if ka = 2 then (if kb = 3 ∧ la = lb then 1 else 0)
  else if ka = 6 then (if kb = 7 ∨ kb = 8 then 5 else if kb = 11 then 6 else 0)
  else if ka = 9 then (if kb = 10 then 6 else 0)
  else if ka = 12 then (if isCons kb then 7 else 0) else 0
def firstI (ka la kb lb : Int) : Int := if pairOk ka la kb lb then (if ruleI ka la kb lb ≠ 0 then 1 else if ruleI kb lb ka la ≠ 0 then 2 else 0) else 0
def classI (ka la kb lb : Int) : Int := if pairOk ka la kb lb then (if ruleI ka la kb lb ≠ 0 then ruleI ka la kb lb else if ruleI kb lb ka la ≠ 0 then ruleI kb lb ka la else 8) else 0
def classOf (x y : GAgent) : Int :=
  if x.Kind = 9 ∧ y.Kind = 10 ∧ (y.Data.length : Int) ≤ x.Value then 8 else if x.Kind = 10 ∧ y.Kind = 9 ∧ (x.Data.length : Int) ≤ y.Value then 8
  else classI x.Kind x.Level y.Kind y.Level
theorem c1395 {ka la kb lb : Int} : Pure Gm 1395 [.int .i64 ka, .int .i64 la, .int .i64 kb, .int .i64 lb] (.bool (pairOk ka la kb lb)) := by
  refine Pure.intro [] [] g1395 (by kernel_rfl) rfl (by simp [AV.trees, AV.tree, go_sem]) rfl ?_
  simp only [F1395, vparams, go_sem, Nat.reduceEqDiff, reduceIte, Bool.not_true, Nat.reduceAdd, eq_self]
  repeat' (first | (refine lbox_ok rfl ?_; simp only [go_sem, Nat.reduceEqDiff, reduceIte, Bool.not_true, Bool.not_false, Bool.false_eq_true, List.length_cons, List.length_nil, Nat.reduceAdd, List.getElem?_cons_zero, List.getElem?_cons_succ, decide_true, eq_self, List.length_map]) | (first | (refine grd_split ?_ ?_ <;> intro hc <;> simp only [hc, go_sem, Nat.reduceEqDiff, reduceIte, Bool.not_true, eq_self]) | (refine cnd_split ?_ ?_ <;> intro hc <;> simp only [hc, go_sem, Nat.reduceEqDiff, reduceIte, Bool.not_true, Bool.not_false, Bool.false_eq_true, List.length_cons, List.length_nil, Nat.reduceAdd, List.getElem?_cons_zero, List.getElem?_cons_succ, decide_true, eq_self, List.length_map])) | (refine call_pure (c1385) ?_; simp only [go_sem, Nat.reduceEqDiff, reduceIte, eq_self]) | refine fin_eq rfl ?_)
  all_goals (simp_all [pairOk])
theorem c1499 {l k m : Int} : Pure Gm 1499 [.int .i64 l, .int .i64 k, .int .i64 m] (.bool (dupl l k m)) := by
  refine Pure.intro [] [] g1499 (by kernel_rfl) rfl (by simp [AV.trees, AV.tree, go_sem]) rfl ?_
  simp only [F1499, vparams, go_sem, Nat.reduceEqDiff, reduceIte, Bool.not_true, Nat.reduceAdd, eq_self]
  repeat' (first | (refine lbox_ok rfl ?_; simp only [go_sem, Nat.reduceEqDiff, reduceIte, Bool.not_true, Bool.not_false, Bool.false_eq_true, List.length_cons, List.length_nil, Nat.reduceAdd, List.getElem?_cons_zero, List.getElem?_cons_succ, decide_true, eq_self, List.length_map]) | (first | (refine grd_split ?_ ?_ <;> intro hc <;> simp only [hc, go_sem, Nat.reduceEqDiff, reduceIte, Bool.not_true, Bool.not_false, eq_self]) | (refine cnd_split ?_ ?_ <;> intro hc <;> simp only [hc, go_sem, Nat.reduceEqDiff, reduceIte, Bool.not_true, eq_self])) | (refine call_pure (c340) ?_; simp only [go_sem, Nat.reduceEqDiff, reduceIte, eq_self]) | (refine call_pure (c1385) ?_; simp only [go_sem, Nat.reduceEqDiff, reduceIte, eq_self]) | (refine call_pure (c1372) ?_; simp only [go_sem, Nat.reduceEqDiff, reduceIte, eq_self]) | refine fin_eq rfl ?_)
  all_goals (simp_all [dupl])
theorem c1500 {k : Int} : Pure Gm 1500 [.int .i64 k] (.bool (isCons k)) := by
  refine Pure.intro [] [] g1500 (by kernel_rfl) rfl (by simp [AV.trees, AV.tree, go_sem]) rfl ?_
  simp only [F1500, vparams, go_sem, Nat.reduceEqDiff, reduceIte, eq_self]
  repeat' (first | (refine lbox_ok rfl ?_; simp only [go_sem, Nat.reduceEqDiff, reduceIte, Bool.not_true, Bool.not_false, Bool.false_eq_true, List.length_cons, List.length_nil, Nat.reduceAdd, List.getElem?_cons_zero, List.getElem?_cons_succ, decide_true, eq_self, List.length_map]) | (first | (refine grd_split ?_ ?_ <;> intro hc <;> simp only [hc, go_sem, Nat.reduceEqDiff, reduceIte, Bool.not_true, Bool.not_false, Bool.false_eq_true, List.length_cons, List.length_nil, Nat.reduceAdd, List.getElem?_cons_zero, List.getElem?_cons_succ, decide_true, eq_self, List.length_map]) | (refine cnd_split ?_ ?_ <;> intro hc <;> simp only [hc, go_sem, Nat.reduceEqDiff, reduceIte, eq_self])) | refine fin_eq rfl ?_)
  all_goals (simp_all [isCons])
theorem c1396 {ka la kb lb : Int} : Pure Gm 1396 [.int .i64 ka, .int .i64 la, .int .i64 kb, .int .i64 lb] (.int .i64 (ruleI ka la kb lb)) := by
  refine Pure.intro [] [] g1396 (by kernel_rfl) rfl (by simp [AV.trees, AV.tree, go_sem]) rfl ?_
  simp only [F1396, vparams, go_sem, Nat.reduceEqDiff, reduceIte, Nat.reduceAdd, eq_self]
  repeat' (first | (refine lbox_ok rfl ?_; simp only [go_sem, Nat.reduceEqDiff, reduceIte, Bool.not_true, Bool.not_false, Bool.false_eq_true, List.length_cons, List.length_nil, Nat.reduceAdd, List.getElem?_cons_zero, List.getElem?_cons_succ, decide_true, eq_self, List.length_map]) | (first | (refine grd_split ?_ ?_ <;> intro hc <;> simp only [hc, go_sem, Nat.reduceEqDiff, reduceIte, Bool.not_true, eq_self]) | (refine cnd_split ?_ ?_ <;> intro hc <;> simp only [hc, go_sem, Nat.reduceEqDiff, reduceIte, Bool.not_true, eq_self])) | (refine call_pure (c1499) ?_; simp only [go_sem, Nat.reduceEqDiff, reduceIte, eq_self]) | (refine call_pure (c1500) ?_; simp only [go_sem, Nat.reduceEqDiff, reduceIte, eq_self]) | refine fin_eq rfl ?_)
  all_goals (simp_all [ruleI])
theorem c1110 {ka la kb lb : Int} : Pure Gm 1110 [.int .i64 ka, .int .i64 la, .int .i64 kb, .int .i64 lb] (.int .i64 (firstI ka la kb lb)) := by
  refine Pure.intro [] [] g1110 (by kernel_rfl) rfl (by simp [AV.trees, AV.tree, go_sem]) rfl ?_
  simp only [F1110, vparams, go_sem, Nat.reduceEqDiff, reduceIte, Bool.not_true, Nat.reduceAdd, eq_self]
  repeat' (first | (refine lbox_ok rfl ?_; simp only [go_sem, Nat.reduceEqDiff, reduceIte, Bool.not_true, Bool.not_false, Bool.false_eq_true, List.length_cons, List.length_nil, Nat.reduceAdd, List.getElem?_cons_zero, List.getElem?_cons_succ, decide_true, eq_self, List.length_map]) | (first | (refine grd_split ?_ ?_ <;> intro hc <;> simp only [hc, go_sem, Nat.reduceEqDiff, reduceIte, Bool.not_true, Bool.not_false, Bool.false_eq_true, List.length_cons, List.length_nil, Nat.reduceAdd, List.getElem?_cons_zero, List.getElem?_cons_succ, decide_true, eq_self, List.length_map]) | (refine cnd_split ?_ ?_ <;> intro hc <;> simp only [hc, go_sem, Nat.reduceEqDiff, reduceIte, Bool.not_true, eq_self])) | (refine call_pure (c1395) ?_; simp only [go_sem, Nat.reduceEqDiff, reduceIte, eq_self]) | (refine call_pure (c1396) ?_; simp only [go_sem, Nat.reduceEqDiff, reduceIte, eq_self]) | refine fin_eq rfl ?_)
  all_goals (simp_all [firstI])
theorem c1111 {ka la kb lb : Int} : Pure Gm 1111 [.int .i64 ka, .int .i64 la, .int .i64 kb, .int .i64 lb] (.int .i64 (classI ka la kb lb)) := by
  refine Pure.intro [] [] g1111 (by kernel_rfl) rfl (by simp [AV.trees, AV.tree, go_sem]) rfl ?_
  simp only [F1111, vparams, go_sem, Nat.reduceEqDiff, reduceIte, Bool.not_true, Nat.reduceAdd, eq_self]
  repeat' (first | (refine lbox_ok rfl ?_; simp only [go_sem, Nat.reduceEqDiff, reduceIte, Bool.not_true, Bool.not_false, Bool.false_eq_true, List.length_cons, List.length_nil, Nat.reduceAdd, List.getElem?_cons_zero, List.getElem?_cons_succ, decide_true, eq_self, List.length_map]) | (first | (refine grd_split ?_ ?_ <;> intro hc <;> simp only [hc, go_sem, Nat.reduceEqDiff, reduceIte, Bool.not_true, Bool.not_false, Bool.false_eq_true, List.length_cons, List.length_nil, Nat.reduceAdd, List.getElem?_cons_zero, List.getElem?_cons_succ, decide_true, eq_self, List.length_map]) | (refine cnd_split ?_ ?_ <;> intro hc <;> simp only [hc, go_sem, Nat.reduceEqDiff, reduceIte, Bool.not_true, eq_self])) | (refine call_pure (c1395) ?_; simp only [go_sem, Nat.reduceEqDiff, reduceIte, eq_self]) | (refine call_pure (c1396) ?_; simp only [go_sem, Nat.reduceEqDiff, reduceIte, eq_self]) | refine fin_eq rfl ?_)
  all_goals (simp_all [classI])
theorem c744 {x y : GAgent} : Pure Gm 744 [.ept x.enc 0, .ept y.enc 0] (.int .i64 (classOf x y)) := by
  refine Pure.intro [] [] g744 (by kernel_rfl) rfl (by simp [AV.trees, AV.tree, go_sem]) rfl ?_
  simp only [F744, vparams, go_sem, Nat.reduceEqDiff, reduceIte, Nat.reduceAdd, eq_self]
  repeat' (first | (refine lbox_ok rfl ?_; simp only [go_sem, Nat.reduceEqDiff, reduceIte, Bool.not_true, Bool.not_false, Bool.false_eq_true, List.length_cons, List.length_nil, Nat.reduceAdd, List.getElem?_cons_zero, List.getElem?_cons_succ, decide_true, eq_self, List.length_map]) | (first | (refine grd_split ?_ ?_ <;> intro hc <;> simp only [hc, go_sem, Nat.reduceEqDiff, reduceIte, Bool.not_true, Nat.reduceAdd, eq_self, List.length_map]) | (refine cnd_split ?_ ?_ <;> intro hc <;> simp only [hc, go_sem, Nat.reduceEqDiff, reduceIte, Bool.not_true, Nat.reduceAdd, eq_self])) | (refine call_pure (c1111) ?_; simp only [go_sem, Nat.reduceEqDiff, reduceIte, eq_self]) | refine fin_eq rfl ?_)
  all_goals (simp_all [classOf] <;> (intro h; omega))
end Go.Ab
namespace Go.Ab
open Go
set_option maxRecDepth 10000
def fil (e : Env) (w : Nat) (el : List AV) (i : Nat) (v : Option AV) (r : List (Nat × Ao)) : Option (List AV) := match v with
  | some v => if v.cells.length = w ∧ i < el.length then fillAV e w (el.set i v) r else none
  | none => none
section
variable {e : Env} {w i : Nat} {el : List AV} {v : AV} {x : Ao} {r : List (Nat × Ao)}
@[go_sem] theorem fil_nil : fillAV e w el [] = some el := nr (by unfold fillAV; rfl)
@[go_sem] theorem fil_cons : fillAV e w el ((i, x) :: r) = fil e w el i (ev e x) r := nr (by unfold fillAV; rfl)
@[go_sem] theorem fil_one {el0 : AV} (h : v.cells.length = w) : fil e w [el0] 0 (some v) r = fillAV e w [v] r := by
  show (if v.cells.length = w ∧ 0 < 1 then _ else _) = _
  rw [if_pos ⟨h, by omega⟩]; rfl
@[go_sem] theorem rep0 {v : AV} : List.replicate 0 v = [] := nr rfl
@[go_sem] theorem rep1 {v : AV} : List.replicate 1 v = [v] := nr rfl
end
structure GPair where
  A : Int
  B : Int
deriving DecidableEq
def GPair.enc (x : GPair) : AV := .agg [.int .i64 x.A, .int .i64 x.B]
theorem GPair.isSh : Sh GPair.enc 2 (some 2) := ⟨fun x => by simp [GPair.enc, AV.tree, AV.trees], fun _ => rfl, fun _ => rfl, by decide, fun x => by simp [GPair.enc]⟩
section
variable {x : GPair}
@[go_sem] theorem GPair.tr : x.enc.tree = true := GPair.isSh.tree x
@[go_sem] theorem GPair.ln : x.enc.cells.length = 2 := nr rfl
@[go_sem] theorem GPair.all : x.enc.part 0 (some 2) = some x.enc := nr rfl
@[go_sem] theorem GPair.cs : x.enc.cells = [.int .i64 x.A, .int .i64 x.B] := nr rfl
@[go_sem] theorem GPair.p0 : x.enc.part 0 none = some (.int .i64 x.A) := nr rfl
@[go_sem] theorem GPair.p1 : x.enc.part 1 none = some (.int .i64 x.B) := nr rfl
@[go_sem] theorem GPair.eqf {y : GPair} : seq2 false [1, 1] (some x.enc) (some y.enc) = some (.bool (decide (x = y))) := by
  obtain ⟨a0, a1⟩ := x; obtain ⟨b0, b1⟩ := y
  simp only [seq2, GPair.enc, List.map_cons, List.map_nil, dig, and_self, if_true, cellsEq, sclEq, GPair.mk.injEq]
  repeat' (split <;> simp_all)
end
def swapI (x y : GAgent) : Bool := decide (firstI x.Kind x.Level y.Kind y.Level = 2)
def pairAt (xs : List GAgent) (k : Nat) : List GPair := match xs[k]? with
  | some x => if x.Kind = 0 then [] else match x.Ports[0]? with
    | some p => if p.Slot = 0 ∧ (k : Int) < p.Agent then [⟨k, p.Agent⟩] else []
    | none => []
  | none => []
def pairsTo (xs : List GAgent) : Nat → List GPair
  | 0 => []
  | i + 1 => pairsTo xs i ++ pairAt xs (i + 1)
theorem pairAt_len (xs : List GAgent) (k : Nat) : (pairAt xs k).length ≤ 1 := by
  unfold pairAt; repeat' (split <;> try simp)
theorem pairsTo_len (xs : List GAgent) : ∀ i, (pairsTo xs i).length ≤ i
  | 0 => Nat.le_refl _
  | i + 1 => by have := pairsTo_len xs i; have := pairAt_len xs (i + 1); simp [pairsTo]; omega
theorem c743 {n : GNet} {a b : Nat} (ha : a < n.Agents.length) (hb : b < n.Agents.length) : Pure Gm 743 [.ept n.enc 0, .int .i64 (a : Int), .int .i64 (b : Int)] (if swapI n.Agents[a] n.Agents[b] then .tup [.int .i64 (b : Int), .int .i64 (a : Int)] else .tup [.int .i64 (a : Int), .int .i64 (b : Int)]) := by
  refine Pure.intro [] [] g743 (by kernel_rfl) rfl (by simp [AV.trees, AV.tree, go_sem]) (by split <;> rfl) ?_
  simp only [F743, vparams, go_sem, Nat.reduceEqDiff, reduceIte, Nat.reduceAdd, eq_self]
  simp only [List.getElem?_map, List.getElem?_eq_getElem ha, Option.map_some, go_sem, Nat.reduceEqDiff, reduceIte, Nat.reduceAdd, eq_self]
  simp only [List.getElem?_eq_getElem hb, Option.map_some, go_sem, Nat.reduceEqDiff, reduceIte, Bool.not_true, Nat.reduceAdd, eq_self]
  refine call_pure c1110 ?_
  simp only [go_sem, Nat.reduceEqDiff, reduceIte, eq_self]
  refine cnd_split ?_ ?_ <;> intro hc <;> simp only [hc, go_sem, Nat.reduceEqDiff, reduceIte, eq_self]
  · refine fin_eqs (by split <;> rfl) ?_
    simp_all [swapI]
  · refine fin_eqs (by split <;> rfl) ?_
    simp_all [swapI]
theorem c742 {n : GNet} (hz : n.sz ≤ 1048576) (hp : ∀ x ∈ n.Agents, x.Kind ≠ 0 → 0 < x.Ports.length) : Pure Gm 742 [.ept n.enc 0] (.lst 2 ((pairsTo n.Agents (n.Agents.length - 1)).map GPair.enc) false) := by
  refine Pure.intro [] [] g742 (by kernel_rfl) rfl (by simp [AV.trees, AV.tree, go_sem]) (by simp [AV.tree, trees_map GPair.isSh.tree]) ?_
  simp only [F742, vparams, go_sem, Nat.reduceEqDiff, reduceIte, List.length_nil, eq_self]
  unfold GNet.sz at hz
  refine Sem.loop (fun i : Nat => i ≤ n.Agents.length - 1) (fun i => (⟨[(0, .ept n.enc 0), (4, .int .i64 ((i + 1 : Nat) : Int)), (3, .slice 2 0 0 (pairsTo n.Agents i).length false)], [], [.row 2 ((pairsTo n.Agents i).map GPair.enc) true]⟩ : VSt)) (fun i => n.Agents.length - 1 - i) 0 (by kernel_rfl) (Nat.zero_le _) (Can.sub (by simp [go_sem, pairsTo]) (by simp [go_sem])) ?_
  rintro i hi
  simp only [go_sem, Nat.reduceEqDiff, reduceIte, Nat.reduceAdd, eq_self, List.length_map]
  refine cnd_split ?_ ?_ <;> intro hc <;> simp only [hc, go_sem, Nat.reduceEqDiff, reduceIte, Nat.reduceAdd, eq_self]
  · have hlt : i + 1 < n.Agents.length := by have := of_decide_eq_true hc; omega
    simp only [List.getElem?_map, List.getElem?_eq_getElem hlt, Option.map_some, go_sem, Nat.reduceEqDiff, reduceIte, Nat.reduceAdd, eq_self]
    have hx := hp _ (List.getElem_mem hlt)
    refine cnd_split ?_ ?_ <;> intro hc <;> simp only [hc, go_sem, Nat.reduceEqDiff, reduceIte, Nat.reduceAdd, eq_self]
    · have e : pairsTo n.Agents (i + 1) = pairsTo n.Agents i := by simp_all [pairsTo, pairAt]
      simp only [wrap_succ (show i + 1 < 4611686018427387904 by omega)]
      refine loopQ_nrm (i + 1) (by omega) (by omega) ?_
      rw [e]
      exact Can.sub (by simp [go_sem]) (by simp [go_sem])
    · have hp0 := hx (by simpa using hc)
      simp only [List.getElem?_map, List.getElem?_eq_getElem hlt, Option.map_some, go_sem, Nat.reduceEqDiff, reduceIte, Nat.reduceAdd, eq_self]
      simp only [List.getElem?_eq_getElem hp0, Option.map_some, go_sem, Nat.reduceEqDiff, reduceIte, eq_self]
      refine lst_all (k := 2) (by rfl) (by rfl) (by exact ⟨_, rfl⟩) (by decide) ?_
      simp only [go_sem, Nat.reduceEqDiff, reduceIte, eq_self]
      have same (hn : ¬ (n.Agents[i + 1].Ports[0].Slot = 0 ∧ ((i + 1 : Nat) : Int) < n.Agents[i + 1].Ports[0].Agent)) : pairsTo n.Agents (i + 1) = pairsTo n.Agents i := by
        have hk : ¬ n.Agents[i + 1].Kind = 0 := by simpa using hc
        simp only [pairsTo, pairAt, List.getElem?_eq_getElem hlt, List.getElem?_eq_getElem hp0, if_neg hk, if_neg hn, List.append_nil]
      first | (refine grd_split ?_ ?_ <;> intro hc <;> simp only [hc, go_sem, Nat.reduceEqDiff, reduceIte, Bool.not_true, eq_self]) | (refine cnd_split ?_ ?_ <;> intro hc <;> simp only [hc, go_sem, Nat.reduceEqDiff, reduceIte, Bool.not_true, Bool.not_false, Bool.false_eq_true, List.length_cons, List.length_nil, Nat.reduceAdd, List.getElem?_cons_zero, List.getElem?_cons_succ, decide_true, eq_self, List.length_map])
      · first | (refine grd_split ?_ ?_ <;> intro hc <;> simp only [hc, go_sem, Nat.reduceEqDiff, reduceIte, Bool.not_true, Bool.not_false, Bool.false_eq_true, List.length_cons, List.length_nil, Nat.reduceAdd, List.getElem?_cons_zero, List.getElem?_cons_succ, decide_true, eq_self, List.length_map]) | (refine cnd_split ?_ ?_ <;> intro hc <;> simp only [hc, go_sem, Nat.reduceEqDiff, reduceIte, List.length_cons, List.length_nil, Nat.reduceAdd, eq_self])
        · refine app_one (el := (pairsTo n.Agents i).map GPair.enc) rfl rfl (by simp) (by have := pairsTo_len n.Agents i; omega) ?_
          simp only [go_sem, Nat.reduceEqDiff, reduceIte, eq_self]
          simp only [wrap_succ (show i + 1 < 4611686018427387904 by omega)]
          have e : pairsTo n.Agents (i + 1) = pairsTo n.Agents i ++ [⟨((i + 1 : Nat) : Int), n.Agents[i + 1].Ports[0].Agent⟩] := by
            have hk : ¬ n.Agents[i + 1].Kind = 0 := by simp_all
            have hn : n.Agents[i + 1].Ports[0].Slot = 0 ∧ ((i + 1 : Nat) : Int) < n.Agents[i + 1].Ports[0].Agent := ⟨by simp_all, by simp_all⟩
            simp only [pairsTo, pairAt, List.getElem?_eq_getElem hlt, List.getElem?_eq_getElem hp0, if_neg hk, if_pos hn]
          refine loopQ_nrm (i + 1) (by omega) (by omega) ?_
          simp only [e, List.length_append, List.length_cons, List.length_nil, Nat.zero_add]
          refine Can.renum [some 2] rfl ⟨.row rfl ?_, trivial⟩ ⟨⟨_, rfl, .tree (by simp only [AV.tree, GNet.tr])⟩, ⟨_, rfl, .tree rfl⟩, ⟨_, rfl, .slice rfl⟩, trivial⟩ trivial
          rw [List.map_append]
          have t := trees_map GPair.isSh.tree (pairsTo n.Agents i ++ [⟨((i + 1 : Nat) : Int), n.Agents[i + 1].Ports[0].Agent⟩])
          rw [List.map_append] at t
          exact VR2s.trees t
        · simp only [wrap_succ (show i + 1 < 4611686018427387904 by omega)]
          refine loopQ_nrm (i + 1) (by omega) (by omega) ?_
          rw [same (by simp_all)]
          exact Can.sub (by simp [go_sem]) (by simp [go_sem])
      · simp only [wrap_succ (show i + 1 < 4611686018427387904 by omega)]
        refine loopQ_nrm (i + 1) (by omega) (by omega) ?_
        rw [same (by simp_all)]
        exact Can.sub (by simp [go_sem]) (by simp [go_sem])
  · obtain rfl : i = n.Agents.length - 1 := by have := of_decide_eq_false hc; omega
    refine fin_cv (Cv.row rfl (by simp) (trees_map GPair.isSh.tree _) (by omega))
end Go.Ab
namespace Go.Ab
open Go
set_option maxRecDepth 10000
theorem wires_at {xs : List GAgent} {i : Nat} : ∀ {qs : List GPort} {j : Nat}, wiresFrom xs i qs j = true → ∀ (m : Nat) (hm : m < qs.length), wireOk xs ⟨i, (j + m : Nat)⟩ qs[m] = true
  | [], _, _, m, hm => by simp at hm
  | q :: qs, j, h, m, hm => by
    simp only [wiresFrom, Bool.and_eq_true] at h
    cases m with
    | zero => exact h.1
    | succ m =>
      have := wires_at h.2 m (by simpa using hm)
      rw [show j + (m + 1) = j + 1 + m by omega]
      simpa using this
theorem net_at {xs : List GAgent} : ∀ {l : List GAgent} {i : Nat}, netFrom xs l i = true → ∀ (k : Nat) (hk : k < l.length), wiresFrom xs (i + k) l[k].Ports 0 = true
  | [], _, _, k, hk => by simp at hk
  | x :: l, i, h, k, hk => by
    simp only [netFrom, Bool.and_eq_true] at h
    cases k with
    | zero => exact h.1
    | succ k =>
      have := net_at h.2 k (by simpa using hk)
      rw [show i + (k + 1) = i + 1 + k by omega]
      simpa using this
theorem agents_at : ∀ {l : List GAgent} {i : Nat}, agentsFrom l i = true → ∀ x ∈ l, agentOk x = true
  | [], _, _, x, hx => by cases hx
  | y :: l, i, h, x, hx => by
    simp only [agentsFrom, Bool.and_eq_true] at h
    rcases List.mem_cons.1 hx with rfl | hx
    · exact h.1.1
    · exact agents_at h.2 x hx
theorem net_ports {n : GNet} (h : netOk n = true) : ∀ x ∈ n.Agents, 0 < x.Ports.length := by
  simp only [netOk, agentsOk, Bool.and_eq_true] at h
  intro x hx
  have := agents_at h.1.2 x hx
  simp only [agentOk, Bool.and_eq_true, decide_eq_true_eq] at this
  omega
theorem pairAt_ok {n : GNet} (h : netOk n = true) {k : Nat} {p : GPair} (hp : p ∈ pairAt n.Agents k) : ∃ a b : Nat, p = ⟨a, b⟩ ∧ a < n.Agents.length ∧ b < n.Agents.length := by
  simp only [netOk, Bool.and_eq_true] at h
  unfold pairAt at hp
  split at hp
  next x hx =>
    obtain ⟨hk, rfl⟩ := List.getElem?_eq_some_iff.1 hx
    split at hp
    · cases hp
    split at hp
    next q hq =>
      obtain ⟨hm, rfl⟩ := List.getElem?_eq_some_iff.1 hq
      split at hp
      next hc =>
        have := wires_at (net_at h.2 k hk) 0 hm
        simp only [wireOk, portOk, Bool.and_eq_true] at this
        have e := inI_iff.1 this.1.2.1
        simp only [List.mem_singleton] at hp
        subst hp
        refine ⟨k, n.Agents[k].Ports[0].Agent.toNat, ?_, hk, by omega⟩
        rw [Int.toNat_of_nonneg (by omega)]
      · cases hp
    · cases hp
  · cases hp
theorem pairsTo_ok {n : GNet} (h : netOk n = true) : ∀ {i : Nat} {p : GPair}, p ∈ pairsTo n.Agents i → ∃ a b : Nat, p = ⟨a, b⟩ ∧ a < n.Agents.length ∧ b < n.Agents.length
  | 0, p, hp => by cases hp
  | i + 1, p, hp => by
    simp only [pairsTo, List.mem_append] at hp
    rcases hp with hp | hp
    · exact pairsTo_ok h hp
    · exact pairAt_ok h hp
def netPairs (n : GNet) : List GPair := pairsTo n.Agents (n.Agents.length - 1)
theorem netPairs_len (n : GNet) : (netPairs n).length ≤ n.Agents.length := by have := pairsTo_len n.Agents (n.Agents.length - 1); unfold netPairs; omega
def agentAt (n : GNet) (a : Int) : GAgent := (n.Agents[a.toNat]?).getD ⟨0, 0, 0, [], []⟩
def orderP (n : GNet) (p : GPair) : GPair := if swapI (agentAt n p.A) (agentAt n p.B) then ⟨p.B, p.A⟩ else p
def selK (d : GDebugger) (m : Nat) : Nat := if d.Schedule = [] then 0 else ((d.Schedule[d.At.toNat % d.Schedule.length]?).getD 0).toNat % m
def nextOf (d : GDebugger) : Option (Nat × GPair × Int) := match (netPairs d.Net)[selK d (netPairs d.Net).length]? with
  | none => none
  | some p => some (selK d (netPairs d.Net).length, orderP d.Net p, classOf (agentAt d.Net (orderP d.Net p).A) (agentAt d.Net (orderP d.Net p).B))
def nextV (d : GDebugger) : AV := match nextOf d with
  | none => .tup [.int .i64 0, .agg [.int .i64 0, .int .i64 0], .int .i64 0, .bool false]
  | some (k, p, c) => .tup [.int .i64 (k : Int), p.enc, .int .i64 c, .bool true]
theorem dbg_net {d : GDebugger} (h : dbgOk d = true) : netOk d.Net = true := by
  simp only [dbgOk, origsOk, Bool.and_eq_true] at h
  simp_all
theorem c369 {d : GDebugger} {p : GPair} {c : Int} (h : p.A.toNat < d.Net.Agents.length) (h0 : 0 ≤ p.A) : Pure Gm 369 [.ept d.enc 0, p.enc, .int .i64 c] (.int .i64 (if c = 7 then (agentAt d.Net p.A).Value else -1)) := by
  refine Pure.intro [] [] g369 (by kernel_rfl) rfl (by simp [AV.trees, AV.tree, go_sem]) rfl ?_
  simp only [F369, vparams, go_sem, Nat.reduceEqDiff, reduceIte, Nat.reduceAdd, eq_self]
  refine lbox_ok rfl ?_; simp only [go_sem, Nat.reduceEqDiff, reduceIte, eq_self]
  refine cnd_split ?_ ?_ <;> intro hc <;> simp only [hc, go_sem, Nat.reduceEqDiff, reduceIte, Nat.reduceAdd, eq_self]
  · rw [idx_li h0]
    simp only [List.getElem?_map, List.getElem?_eq_getElem h, Option.map_some, go_sem, Nat.reduceEqDiff, reduceIte, Nat.reduceAdd, eq_self]
    refine fin_eq rfl ?_
    simp_all [agentAt]
  · refine fin_eq rfl ?_
    simp_all
end Go.Ab
namespace Go.Ab
open Go
set_option maxRecDepth 10000
theorem c743p {n : GNet} {p : GPair} (h : ∃ a b : Nat, p = ⟨a, b⟩ ∧ a < n.Agents.length ∧ b < n.Agents.length) : Pure Gm 743 [.ept n.enc 0, .int .i64 p.A, .int .i64 p.B] (.tup [.int .i64 (orderP n p).A, .int .i64 (orderP n p).B]) := by
  obtain ⟨a, b, rfl, ha, hb⟩ := h
  have c := c743 ha hb
  have e1 : agentAt n (a : Int) = n.Agents[a] := by simp [agentAt, List.getElem?_eq_getElem ha]
  have e2 : agentAt n (b : Int) = n.Agents[b] := by simp [agentAt, List.getElem?_eq_getElem hb]
  unfold orderP
  rw [e1, e2]
  split
  · rename_i h; rw [if_pos h] at c; exact c
  · rename_i h; rw [if_neg h] at c; exact c
theorem order_ok {n : GNet} {p : GPair} (h : ∃ a b : Nat, p = ⟨a, b⟩ ∧ a < n.Agents.length ∧ b < n.Agents.length) : ∃ a b : Nat, orderP n p = ⟨a, b⟩ ∧ a < n.Agents.length ∧ b < n.Agents.length := by
  obtain ⟨a, b, rfl, ha, hb⟩ := h
  unfold orderP
  split
  · exact ⟨b, a, rfl, hb, ha⟩
  · exact ⟨a, b, rfl, ha, hb⟩
theorem tmodN {a : Int} {m : Nat} (h : 0 ≤ a) : a.tmod m = ((a.toNat % m : Nat) : Int) := by
  conv => lhs; rw [← Int.toNat_of_nonneg h]
  exact (Int.ofNat_tmod _ _).symm
theorem sched_at {xs : List Int} (h : schedOk xs = true) {i : Nat} (hi : i < xs.length) : 0 ≤ xs[i] := by
  simp only [schedOk, Bool.and_eq_true, List.all_eq_true] at h
  exact (inI_iff.1 (h.2 _ (List.getElem_mem hi))).1
theorem c368 {d : GDebugger} (hz : d.sz ≤ 1048576) (ho : dbgOk d = true) : Pure Gm 368 [.ept d.enc 0] (nextV d) := by
  refine Pure.intro [] [] g368 (by kernel_rfl) rfl (by simp [AV.trees, AV.tree, go_sem]) (by unfold nextV; split <;> simp [AV.tree, AV.trees, GPair.tr]) ?_
  simp only [F368, vparams, go_sem, Nat.reduceEqDiff, reduceIte, Bool.not_true, Nat.reduceAdd, eq_self]
  unfold GDebugger.sz at hz
  have hn := dbg_net ho
  have hp := net_ports hn
  have hzn : d.Net.sz ≤ 1048576 := by omega
  have hl := netPairs_len d.Net
  have hzz : d.Net.Agents.length ≤ d.Net.sz := by unfold GNet.sz; omega
  have hs : inI d.At 0 4000 = true ∧ schedOk d.Schedule = true := by simp only [dbgOk, Bool.and_eq_true] at ho; simp_all
  have ha := inI_iff.1 hs.1
  have conv : Cvs (only [] []) [.ept d.enc 4] [.ept d.Net.enc 0] := Cvs.cons (.sub GDebugger.tr (GDebugger.q4_1) (by rw [GNet.ln]; decide)) Cvs.nil
  have conv2 (a b : Int) : Cvs (only [] []) [.ept d.enc 4, .int .i64 a, .int .i64 b] [.ept d.Net.enc 0, .int .i64 a, .int .i64 b] := Cvs.cons (.sub GDebugger.tr (GDebugger.q4_1) (by rw [GNet.ln]; decide)) (Cvs.cons (.refl rfl) (Cvs.cons (.refl rfl) Cvs.nil))
  refine call_conv conv (c742 hzn (fun x hx _ => hp x hx)) ?_
  rw [show pairsTo d.Net.Agents (d.Net.Agents.length - 1) = netPairs d.Net from rfl]
  simp only [go_sem, Nat.reduceEqDiff, reduceIte, eq_self, List.length_map]
  refine cnd_split ?_ ?_ <;> intro hc <;> simp only [hc, go_sem, Nat.reduceEqDiff, reduceIte, Nat.reduceAdd, eq_self, List.length_map]
  · refine lst_all (k := 2) (by rfl) (by rfl) (by exact ⟨_, rfl⟩) (by decide) ?_
    simp only [go_sem, Nat.reduceEqDiff, reduceIte, eq_self]
    refine fin_eqs (by unfold nextV; split <;> simp [AV.tree, AV.trees, GPair.tr]) ?_
    have : netPairs d.Net = [] := by simpa using hc
    simp [nextV, nextOf, this]
  · have hm : 0 < (netPairs d.Net).length := by have := of_decide_eq_false hc; omega
    have fin (k : Nat) (hk : k < (netPairs d.Net).length) (e : selK d (netPairs d.Net).length = k) : nextV d = .tup [.int .i64 (k : Int), (orderP d.Net (netPairs d.Net)[k]).enc, .int .i64 (classOf (agentAt d.Net (orderP d.Net (netPairs d.Net)[k]).A) (agentAt d.Net (orderP d.Net (netPairs d.Net)[k]).B)), .bool true] := by
      simp only [nextV, nextOf, e, List.getElem?_eq_getElem hk]
    refine cnd_split ?_ ?_ <;> intro hc <;> simp only [hc, go_sem, Nat.reduceEqDiff, reduceIte, Nat.reduceAdd, eq_self, List.length_map]
    · have h1 : 0 < d.Schedule.length := by have := of_decide_eq_true hc; omega
      rw [if_neg (by omega), tmodN ha.1]
      have hlt := Nat.mod_lt d.At.toNat h1
      simp only [go_sem, Nat.reduceEqDiff, reduceIte, eq_self]
      simp only [List.getElem?_map, List.getElem?_eq_getElem hlt, Option.map_some, go_sem, Nat.reduceEqDiff, reduceIte, eq_self]
      simp only [encI, go_sem, Nat.reduceEqDiff, reduceIte, eq_self, List.length_map]
      rw [if_neg (by omega), tmodN (sched_at hs.2 hlt)]
      have hk := Nat.mod_lt d.Schedule[d.At.toNat % d.Schedule.length].toNat hm
      simp only [go_sem, Nat.reduceEqDiff, reduceIte, Nat.reduceAdd, eq_self]
      have ok := pairsTo_ok hn (show (netPairs d.Net)[(d.Schedule[d.At.toNat % d.Schedule.length].toNat % (netPairs d.Net).length)] ∈ pairsTo d.Net.Agents (d.Net.Agents.length - 1) from List.getElem_mem hk)
      have fin := fin _ hk (by rw [selK, if_neg (by intro h; rw [h] at h1; cases h1), List.getElem?_eq_getElem hlt]; rfl)
      simp only [List.getElem?_map, List.getElem?_eq_getElem hk, Option.map_some, go_sem, Nat.reduceEqDiff, reduceIte, Bool.not_true, Nat.reduceAdd, eq_self]
      obtain ⟨p, hpp⟩ : ∃ p, p = (netPairs d.Net)[(d.Schedule[d.At.toNat % d.Schedule.length].toNat % (netPairs d.Net).length)] := ⟨_, rfl⟩
      rw [← hpp] at ok fin
      rw [← hpp]
      refine call_conv (conv2 _ _) (c743p ok) ?_
      have ok2 := order_ok ok
      obtain ⟨q, hq⟩ : ∃ q, q = orderP d.Net p := ⟨_, rfl⟩
      rw [← hq] at ok2 fin
      rw [← hq]
      obtain ⟨a, b, rfl, la, lb⟩ := ok2
      simp only [go_sem, Nat.reduceEqDiff, reduceIte, List.length_cons, List.length_nil, Nat.reduceAdd, List.getElem?_cons_zero, List.getElem?_cons_succ, eq_self]
      simp only [List.getElem?_map, List.getElem?_eq_getElem la, Option.map_some, go_sem, Nat.reduceEqDiff, reduceIte, Nat.reduceAdd, eq_self]
      simp only [List.getElem?_eq_getElem lb, Option.map_some, go_sem, Nat.reduceEqDiff, reduceIte, Bool.not_true, eq_self]
      refine call_pure c744 ?_
      simp only [go_sem, Nat.reduceEqDiff, reduceIte, eq_self]
      refine lst_all (k := 2) (by rfl) (by rfl) (by exact ⟨_, rfl⟩) (by decide) ?_
      simp only [go_sem, Nat.reduceEqDiff, reduceIte, eq_self]
      have e1 : agentAt d.Net (a : Int) = d.Net.Agents[a] := by simp [agentAt, List.getElem?_eq_getElem la]
      have e2 : agentAt d.Net (b : Int) = d.Net.Agents[b] := by simp [agentAt, List.getElem?_eq_getElem lb]
      refine fin_eqs (by unfold nextV; split <;> simp [AV.tree, AV.trees, GPair.tr]) ?_
      rw [fin]
      simp only [e1, e2, GPair.enc]
    · have h1 : d.Schedule = [] := by have := of_decide_eq_false hc; exact List.eq_nil_of_length_eq_zero (by omega)
      have hk := hm
      have ok := pairsTo_ok hn (show (netPairs d.Net)[0] ∈ pairsTo d.Net.Agents (d.Net.Agents.length - 1) from List.getElem_mem hk)
      have fin := fin _ hk (by rw [selK, if_pos h1])
      simp only [List.getElem?_map, List.getElem?_eq_getElem hk, Option.map_some, go_sem, Nat.reduceEqDiff, reduceIte, Bool.not_true, Nat.reduceAdd, eq_self]
      obtain ⟨p, hpp⟩ : ∃ p, p = (netPairs d.Net)[0] := ⟨_, rfl⟩
      rw [← hpp] at ok fin
      rw [← hpp]
      refine call_conv (conv2 _ _) (c743p ok) ?_
      have ok2 := order_ok ok
      obtain ⟨q, hq⟩ : ∃ q, q = orderP d.Net p := ⟨_, rfl⟩
      rw [← hq] at ok2 fin
      rw [← hq]
      obtain ⟨a, b, rfl, la, lb⟩ := ok2
      simp only [go_sem, Nat.reduceEqDiff, reduceIte, List.length_cons, List.length_nil, Nat.reduceAdd, List.getElem?_cons_zero, List.getElem?_cons_succ, eq_self]
      simp only [List.getElem?_map, List.getElem?_eq_getElem la, Option.map_some, go_sem, Nat.reduceEqDiff, reduceIte, Nat.reduceAdd, eq_self]
      simp only [List.getElem?_eq_getElem lb, Option.map_some, go_sem, Nat.reduceEqDiff, reduceIte, Bool.not_true, eq_self]
      refine call_pure c744 ?_
      simp only [go_sem, Nat.reduceEqDiff, reduceIte, eq_self]
      refine lst_all (k := 2) (by rfl) (by rfl) (by exact ⟨_, rfl⟩) (by decide) ?_
      simp only [go_sem, Nat.reduceEqDiff, reduceIte, eq_self]
      have e1 : agentAt d.Net (a : Int) = d.Net.Agents[a] := by simp [agentAt, List.getElem?_eq_getElem la]
      have e2 : agentAt d.Net (b : Int) = d.Net.Agents[b] := by simp [agentAt, List.getElem?_eq_getElem lb]
      refine fin_eqs (by unfold nextV; split <;> simp [AV.tree, AV.trees, GPair.tr]) ?_
      rw [fin]
      simp only [e1, e2, GPair.enc, Int.ofNat_zero]
end Go.Ab
namespace Go.Ab
open Go
set_option maxRecDepth 10000
def fzp (n id : Nat) (o : Option AObj) (st : VSt) : VSt := match o with
  | some (.row w [v] true) => if w = 0 then st else { s := (n, .ept v 0) :: st.s, l := st.l, h := st.h.set id .dead }
  | _ => st
def fzo (n : Nat) (v : Option AV) (st : VSt) : VSt := match v with
  | none => st
  | some (.ept _ _) => st
  | some (.lst _ _ _) => st
  | some (.int _ _) => st
  | some (.bool _) => st
  | some .nils => st
  | some (.agg _) => st
  | some (.ptr id 0 0) => fzp n id st.h[id]? st
  | _ => frz1 n st
section
variable {n id : Nat} {s m : LEnv} {h : List AObj} {v x : AV} {st : VSt}
@[go_sem] theorem fz_go : frz1 n ⟨s, m, h⟩ = fzo n (get s n) ⟨s, m, h⟩ := by
  unfold fzo
  split <;> rename_i e <;> try (simp only [frz1, e]; done)
  · simp only [frz1, e, fzp]
    split <;> rename_i e2 <;> simp only [e2]
    · split <;> split <;> first | rfl | omega
@[go_sem] theorem get_nil : get [] n = none := nr rfl
@[go_sem] theorem fzo_none : fzo n none st = st := nr rfl
@[go_sem] theorem fzo_ept {j : Nat} : fzo n (some (.ept v j)) st = st := nr rfl
@[go_sem] theorem fzo_lst {w : Nat} {xs : List AV} {c : Bool} : fzo n (some (.lst w xs c)) st = st := nr rfl
@[go_sem] theorem fzo_nils : fzo n (some .nils) st = st := nr rfl
@[go_sem] theorem fzo_int {k : IntKind} {i : Int} : fzo n (some (.int k i)) st = st := nr rfl
@[go_sem] theorem fzo_ptr : fzo n (some (.ptr id 0 0)) ⟨s, m, h⟩ = fzp n id h[id]? ⟨s, m, h⟩ := nr rfl
@[go_sem] theorem fzp_row {w : Nat} : fzp n id (some (.row w [v] true)) ⟨s, m, h⟩ = if w = 0 then ⟨s, m, h⟩ else ⟨(n, .ept v 0) :: s, m, h.set id .dead⟩ := nr rfl
end
def nextI (d : GDebugger) : AV := if dbgOk d then (match nextOf d with
  | none => .tup [.int .i64 0, .int .i64 0, .int .i64 0, .int .i64 3]
  | some (k, p, c) => .tup [.int .i64 (k : Int), .int .i64 c, .int .i64 (if c = 7 then (agentAt d.Net p.A).Value else -1), .int .i64 0])
  else .tup [.int .i64 0, .int .i64 0, .int .i64 0, .int .i64 1]
theorem nextI_tr (d : GDebugger) : (nextI d).tree = true := by unfold nextI; repeat' (split <;> try rfl)
theorem nextOf_ok {d : GDebugger} (h : dbgOk d = true) {k : Nat} {p : GPair} {c : Int} (e : nextOf d = some (k, p, c)) : ∃ a b : Nat, p = ⟨a, b⟩ ∧ a < d.Net.Agents.length ∧ b < d.Net.Agents.length := by
  unfold nextOf at e
  split at e
  · cases e
  · rename_i p' hp
    simp only [Option.some.injEq, Prod.mk.injEq] at e
    obtain ⟨hk, rfl⟩ := List.getElem?_eq_some_iff.1 hp
    rw [← e.2.1]
    exact order_ok (pairsTo_ok (dbg_net h) (show (netPairs d.Net)[_] ∈ pairsTo d.Net.Agents (d.Net.Agents.length - 1) from List.getElem_mem hk))
theorem c105 {d : GDebugger} (hz : d.sz ≤ 1048576) : Pure Gm 105 [d.enc] (nextI d) := by
  refine Pure.intro [1] [] g105 (by kernel_rfl) rfl (by simp [AV.trees, go_sem]) (by exact nextI_tr d) ?_
  simp only [F105, vparams, go_sem, Nat.reduceEqDiff, reduceIte, eq_self]
  refine hbox_ok rfl ?_
  simp only [go_sem, Nat.reduceEqDiff, reduceIte, Bool.not_true, List.length_nil, List.getElem?_cons_zero, eq_self, List.nil_append, List.set_cons_zero]
  refine call_pure (c367 hz) ?_
  simp only [go_sem, Nat.reduceEqDiff, reduceIte, eq_self]
  refine cnd_split ?_ ?_ <;> intro hc <;> simp only [hc, go_sem, Nat.reduceEqDiff, reduceIte, Bool.not_true, eq_self]
  · refine fin_eqs (nextI_tr d) ?_
    have : dbgOk d = false := by simpa using hc
    simp [nextI, this]
  · have ho : dbgOk d = true := by simpa using hc
    have c := c368 hz ho
    rcases hnx : nextOf d with _ | ⟨k, p, cl⟩
    · simp only [nextV, hnx] at c
      refine call_pure c ?_
      simp only [go_sem, Nat.reduceEqDiff, reduceIte, List.getElem?_cons_zero, List.getElem?_cons_succ, eq_self]
      refine lst_all (k := 2) (by rfl) (by rfl) (by exact ⟨_, rfl⟩) (by decide) ?_
      simp only [go_sem, Nat.reduceEqDiff, reduceIte, Bool.not_false, eq_self]
      refine fin_eqs (nextI_tr d) ?_
      simp [nextI, ho, hnx]
    · simp only [nextV, hnx] at c
      have hp := nextOf_ok ho hnx
      refine call_pure c ?_
      simp only [go_sem, Nat.reduceEqDiff, reduceIte, List.getElem?_cons_zero, List.getElem?_cons_succ, eq_self]
      refine lst_all (k := 2) (by rfl) (by rfl) (by exact ⟨_, rfl⟩) (by decide) ?_
      simp only [go_sem, Nat.reduceEqDiff, reduceIte, Bool.not_true, eq_self]
      refine call_pure (c369 (by obtain ⟨a, b, rfl, ha, hb⟩ := hp; simpa using ha) (by obtain ⟨a, b, rfl, ha, hb⟩ := hp; simp)) ?_
      simp only [go_sem, Nat.reduceEqDiff, reduceIte, eq_self]
      refine fin_eqs (nextI_tr d) ?_
      simp [nextI, ho, hnx]
end Go.Ab
namespace Go.Ab
open Go
set_option maxRecDepth 10000
theorem c397 {f : AV} (p : Int → Bool) (hft : f.tree = true) (xs : List Int) (hf : ∀ x ∈ xs, PureV Gm f [encI x] (.bool (p x))) (hl : xs.length ≤ 1048576) : Pure Gm 397 [.lst 1 (xs.map encI) false, f] (.bool (xs.any p)) :=
  ctnF_ok shI (gc := 774) g397 g774 f p hft xs hf hl
theorem c859 {f : AV} (p : GNet → Bool) (hft : f.tree = true) (xs : List GNet) (hf : ∀ x ∈ xs, PureV Gm f [x.enc] (.bool (p x))) (hl : xs.length ≤ 1048576) : Pure Gm 859 [.lst 1 (xs.map GNet.enc) false, f] (.bool (xs.any p)) :=
  ctnF_ok GNet.isSh (gc := 1179) g859 g1179 f p hft xs hf hl
theorem c712 {f : AV} (p : GPort → Bool) (hft : f.tree = true) (xs : List GPort) (hf : ∀ x ∈ xs, PureV Gm f [x.enc] (.bool (p x))) (hl : xs.length ≤ 1048576) : Pure Gm 712 [.lst 2 (xs.map GPort.enc) false, f] (.bool (xs.any p)) :=
  ctnF_ok GPort.isSh (gc := 1098) g712 g1098 f p hft xs hf hl
theorem c1112 {f : AV} (p : GOrigin → Bool) (hft : f.tree = true) (xs : List GOrigin) (hf : ∀ x ∈ xs, PureV Gm f [x.enc] (.bool (p x))) (hl : xs.length ≤ 1048576) : Pure Gm 1112 [.lst 3 (xs.map GOrigin.enc) false, f] (.bool (xs.any p)) :=
  ctnF_ok GOrigin.isSh (gc := 1397) g1112 g1397 f p hft xs hf hl
theorem c748 {f : AV} (p : GBreak → Bool) (hft : f.tree = true) (xs : List GBreak) (hf : ∀ x ∈ xs, PureV Gm f [x.enc] (.bool (p x))) (hl : xs.length ≤ 1048576) : Pure Gm 748 [.lst 2 (xs.map GBreak.enc) false, f] (.bool (xs.any p)) :=
  ctnF_ok GBreak.isSh (gc := 771) g748 g771 f p hft xs hf hl
theorem any_not {α : Type} (p : α → Bool) (xs : List α) : (!xs.any fun x => !p x) = xs.all p := by
  induction xs with
  | nil => rfl
  | cons x xs ih => simp only [List.any_cons, List.all_cons, Bool.not_or, Bool.not_not, ih]
theorem any_no {α : Type} {p q : α → Bool} (h : ∀ x, q x = !p x) (xs : List α) : (!xs.any q) = xs.all p := by rw [← any_not]; congr 2; funext x; exact h x
theorem c775 {n : Int} : Pure Gm 775 [.int .i64 n] (.bool (!inI n 0 600)) := by
  refine Pure.intro [] [] g775 (by kernel_rfl) rfl (by simp [AV.trees, AV.tree, go_sem]) rfl ?_
  simp only [F775, vparams, go_sem, Nat.reduceEqDiff, reduceIte, eq_self]
  repeat' (first | (refine lbox_ok rfl ?_; simp only [go_sem, Nat.reduceEqDiff, reduceIte, Bool.not_true, Bool.not_false, Bool.false_eq_true, List.length_cons, List.length_nil, Nat.reduceAdd, List.getElem?_cons_zero, List.getElem?_cons_succ, decide_true, eq_self, List.length_map]) | (first | (refine grd_split ?_ ?_ <;> intro hc <;> simp only [hc, go_sem, Nat.reduceEqDiff, reduceIte, Bool.not_false, eq_self]) | (refine cnd_split ?_ ?_ <;> intro hc <;> simp only [hc, go_sem, Nat.reduceEqDiff, reduceIte, Bool.not_true, Bool.not_false, Bool.false_eq_true, List.length_cons, List.length_nil, Nat.reduceAdd, List.getElem?_cons_zero, List.getElem?_cons_succ, decide_true, eq_self, List.length_map])) | refine fin_eq rfl ?_)
  all_goals ((simp only [inI, AV.bool.injEq]; rw [Bool.eq_iff_iff]; simp at *; try omega))
theorem c406 {xs : List Int} (hl : xs.length ≤ 1048576) : Pure Gm 406 [.lst 1 (xs.map encI) false] (.bool (schedOk xs)) := by
  refine Pure.intro [] [] g406 (by kernel_rfl) rfl (by simp [AV.trees, AV.tree, trees_map shI.tree]) rfl ?_
  simp only [F406, vparams, go_sem, Nat.reduceEqDiff, reduceIte, eq_self, List.length_map]
  first | (refine grd_split ?_ ?_ <;> intro hc <;> simp only [hc, go_sem, Nat.reduceEqDiff, reduceIte, Bool.not_true, eq_self]) | (refine cnd_split ?_ ?_ <;> intro hc <;> simp only [hc, go_sem, Nat.reduceEqDiff, reduceIte, Bool.not_true, Bool.not_false, Bool.false_eq_true, List.length_cons, List.length_nil, Nat.reduceAdd, List.getElem?_cons_zero, List.getElem?_cons_succ, decide_true, eq_self, List.length_map])
  · refine call_pure (c397 (f := .fn 775 []) (fun n => !inI n 0 600) rfl xs (fun x _ => ⟨775, [], rfl, c775⟩) hl) ?_
    simp only [go_sem, Nat.reduceEqDiff, reduceIte, eq_self]
    refine fin_eq rfl ?_
    rw [any_not]
    simp_all [schedOk] <;> omega
  · refine fin_eq rfl ?_
    simp_all [schedOk] <;> omega
theorem c1487 {k : Int} : Pure Gm 1487 [.int .i64 k] (.bool (kindI k)) := by
  refine Pure.intro [] [] g1487 (by kernel_rfl) rfl (by simp [AV.trees, AV.tree, go_sem]) rfl ?_
  simp only [F1487, vparams, go_sem, Nat.reduceEqDiff, reduceIte, eq_self]
  repeat' (first | (refine lbox_ok rfl ?_; simp only [go_sem, Nat.reduceEqDiff, reduceIte, Bool.not_true, Bool.not_false, Bool.false_eq_true, List.length_cons, List.length_nil, Nat.reduceAdd, List.getElem?_cons_zero, List.getElem?_cons_succ, decide_true, eq_self, List.length_map]) | (first | (refine grd_split ?_ ?_ <;> intro hc <;> simp only [hc, go_sem, Nat.reduceEqDiff, reduceIte, Bool.not_true, eq_self]) | (refine cnd_split ?_ ?_ <;> intro hc <;> simp only [hc, go_sem, Nat.reduceEqDiff, reduceIte, Bool.not_true, Bool.not_false, Bool.false_eq_true, List.length_cons, List.length_nil, Nat.reduceAdd, List.getElem?_cons_zero, List.getElem?_cons_succ, decide_true, eq_self, List.length_map])) | refine fin_eq rfl ?_)
  all_goals ((simp only [kindI, inI, AV.bool.injEq]; rw [Bool.eq_iff_iff]; simp at *; try omega))
theorem c1375 {k : Int} : Pure Gm 1375 [.int .i64 k] (.bool (hasLevel k)) := by
  refine Pure.intro [] [] g1375 (by kernel_rfl) rfl (by simp [AV.trees, AV.tree, go_sem]) rfl ?_
  simp only [F1375, vparams, go_sem, Nat.reduceEqDiff, reduceIte, Bool.not_true, eq_self]
  repeat' (first | (refine lbox_ok rfl ?_; simp only [go_sem, Nat.reduceEqDiff, reduceIte, Bool.not_true, Bool.not_false, Bool.false_eq_true, List.length_cons, List.length_nil, Nat.reduceAdd, List.getElem?_cons_zero, List.getElem?_cons_succ, decide_true, eq_self, List.length_map]) | (first | (refine grd_split ?_ ?_ <;> intro hc <;> simp only [hc, go_sem, Nat.reduceEqDiff, reduceIte, Bool.not_true, eq_self]) | (refine cnd_split ?_ ?_ <;> intro hc <;> simp only [hc, go_sem, Nat.reduceEqDiff, reduceIte, Bool.not_true, Bool.not_false, Bool.false_eq_true, List.length_cons, List.length_nil, Nat.reduceAdd, List.getElem?_cons_zero, List.getElem?_cons_succ, decide_true, eq_self, List.length_map])) | (refine call_pure (c1487) ?_; simp only [go_sem, Nat.reduceEqDiff, reduceIte, eq_self]) | refine fin_eq rfl ?_)
  all_goals ((simp only [hasLevel, kindI, inI, AV.bool.injEq] at *; rw [Bool.eq_iff_iff]; simp at *; try omega))
theorem c1495 {l : Int} : Pure Gm 1495 [.int .i64 l] (.bool (inI l 0 8)) := by
  refine Pure.intro [] [] g1495 (by kernel_rfl) rfl (by simp [AV.trees, AV.tree, go_sem]) rfl ?_
  simp only [F1495, vparams, go_sem, Nat.reduceEqDiff, reduceIte, eq_self]
  repeat' (first | (refine lbox_ok rfl ?_; simp only [go_sem, Nat.reduceEqDiff, reduceIte, Bool.not_true, Bool.not_false, Bool.false_eq_true, List.length_cons, List.length_nil, Nat.reduceAdd, List.getElem?_cons_zero, List.getElem?_cons_succ, decide_true, eq_self, List.length_map]) | (first | (refine grd_split ?_ ?_ <;> intro hc <;> simp only [hc, go_sem, Nat.reduceEqDiff, reduceIte, Bool.not_true, eq_self]) | (refine cnd_split ?_ ?_ <;> intro hc <;> simp only [hc, go_sem, Nat.reduceEqDiff, reduceIte, Bool.not_true, Bool.not_false, Bool.false_eq_true, List.length_cons, List.length_nil, Nat.reduceAdd, List.getElem?_cons_zero, List.getElem?_cons_succ, decide_true, eq_self, List.length_map])) | refine fin_eq rfl ?_)
  all_goals ((simp only [inI, AV.bool.injEq]; rw [Bool.eq_iff_iff]; simp at *; try omega))
theorem c1389 {k l : Int} : Pure Gm 1389 [.int .i64 k, .int .i64 l] (.bool (levelOk k l)) := by
  refine Pure.intro [] [] g1389 (by kernel_rfl) rfl (by simp [AV.trees, AV.tree, go_sem]) rfl ?_
  simp only [F1389, vparams, go_sem, Nat.reduceEqDiff, reduceIte, Bool.not_true, Nat.reduceAdd, eq_self]
  repeat' (first | (refine lbox_ok rfl ?_; simp only [go_sem, Nat.reduceEqDiff, reduceIte, Bool.not_true, Bool.not_false, Bool.false_eq_true, List.length_cons, List.length_nil, Nat.reduceAdd, List.getElem?_cons_zero, List.getElem?_cons_succ, decide_true, eq_self, List.length_map]) | (first | (refine grd_split ?_ ?_ <;> intro hc <;> simp only [hc, go_sem, Nat.reduceEqDiff, reduceIte, Bool.not_true, Bool.not_false, eq_self]) | (refine cnd_split ?_ ?_ <;> intro hc <;> simp only [hc, go_sem, Nat.reduceEqDiff, reduceIte, Bool.not_true, Bool.not_false, Bool.false_eq_true, List.length_cons, List.length_nil, Nat.reduceAdd, List.getElem?_cons_zero, List.getElem?_cons_succ, decide_true, eq_self, List.length_map])) | (refine call_pure (c1487) ?_; simp only [go_sem, Nat.reduceEqDiff, reduceIte, eq_self]) | (refine call_pure (c1375) ?_; simp only [go_sem, Nat.reduceEqDiff, reduceIte, eq_self]) | (refine call_pure (c1495) ?_; simp only [go_sem, Nat.reduceEqDiff, reduceIte, eq_self]) | refine fin_eq rfl ?_)
  all_goals ((unfold levelOk; split <;> (simp only [hasLevel, kindI, inI, AV.bool.injEq] at * <;> (rw [Bool.eq_iff_iff]; simp at * <;> try omega))))
theorem c796 {n : Int} : Pure Gm 796 [.int .i64 n] (.bool (defOk n)) := by
  refine Pure.intro [] [] g796 (by kernel_rfl) rfl (by simp [AV.trees, AV.tree, go_sem]) rfl ?_
  simp only [F796, vparams, go_sem, Nat.reduceEqDiff, reduceIte, eq_self]
  repeat' (first | (refine lbox_ok rfl ?_; simp only [go_sem, Nat.reduceEqDiff, reduceIte, Bool.not_true, Bool.not_false, Bool.false_eq_true, List.length_cons, List.length_nil, Nat.reduceAdd, List.getElem?_cons_zero, List.getElem?_cons_succ, decide_true, eq_self, List.length_map]) | (first | (refine grd_split ?_ ?_ <;> intro hc <;> simp only [hc, go_sem, Nat.reduceEqDiff, reduceIte, Bool.not_true, eq_self]) | (refine cnd_split ?_ ?_ <;> intro hc <;> simp only [hc, go_sem, Nat.reduceEqDiff, reduceIte, Bool.not_true, Bool.not_false, Bool.false_eq_true, List.length_cons, List.length_nil, Nat.reduceAdd, List.getElem?_cons_zero, List.getElem?_cons_succ, decide_true, eq_self, List.length_map])) | refine fin_eq rfl ?_)
  all_goals (simp_all [defOk, inI] <;> omega)
theorem c1050 {n : Int} : Pure Gm 1050 [.int .i64 n] (.bool (inI n 1 6)) := by
  refine Pure.intro [] [] g1050 (by kernel_rfl) rfl (by simp [AV.trees, AV.tree, go_sem]) rfl ?_
  simp only [F1050, vparams, go_sem, Nat.reduceEqDiff, reduceIte, eq_self]
  repeat' (first | (refine lbox_ok rfl ?_; simp only [go_sem, Nat.reduceEqDiff, reduceIte, Bool.not_true, Bool.not_false, Bool.false_eq_true, List.length_cons, List.length_nil, Nat.reduceAdd, List.getElem?_cons_zero, List.getElem?_cons_succ, decide_true, eq_self, List.length_map]) | (first | (refine grd_split ?_ ?_ <;> intro hc <;> simp only [hc, go_sem, Nat.reduceEqDiff, reduceIte, Bool.not_true, eq_self]) | (refine cnd_split ?_ ?_ <;> intro hc <;> simp only [hc, go_sem, Nat.reduceEqDiff, reduceIte, Bool.not_true, Bool.not_false, Bool.false_eq_true, List.length_cons, List.length_nil, Nat.reduceAdd, List.getElem?_cons_zero, List.getElem?_cons_succ, decide_true, eq_self, List.length_map])) | refine fin_eq rfl ?_)
  all_goals ((simp only [inI, AV.bool.injEq]; rw [Bool.eq_iff_iff]; simp at *; try omega))
theorem c1051 {n : Int} : Pure Gm 1051 [.int .i64 n] (.bool (inI n (-2147483648) 2147483647)) := by
  refine Pure.intro [] [] g1051 (by kernel_rfl) rfl (by simp [AV.trees, AV.tree, go_sem]) rfl ?_
  simp only [F1051, vparams, go_sem, Nat.reduceEqDiff, reduceIte, eq_self]
  repeat' (first | (refine lbox_ok rfl ?_; simp only [go_sem, Nat.reduceEqDiff, reduceIte, Bool.not_true, Bool.not_false, Bool.false_eq_true, List.length_cons, List.length_nil, Nat.reduceAdd, List.getElem?_cons_zero, List.getElem?_cons_succ, decide_true, eq_self, List.length_map]) | (first | (refine grd_split ?_ ?_ <;> intro hc <;> simp only [hc, go_sem, Nat.reduceEqDiff, reduceIte, Bool.not_true, eq_self]) | (refine cnd_split ?_ ?_ <;> intro hc <;> simp only [hc, go_sem, Nat.reduceEqDiff, reduceIte, Bool.not_true, Bool.not_false, Bool.false_eq_true, List.length_cons, List.length_nil, Nat.reduceAdd, List.getElem?_cons_zero, List.getElem?_cons_succ, decide_true, eq_self, List.length_map])) | refine fin_eq rfl ?_)
  all_goals ((simp only [inI, AV.bool.injEq]; rw [Bool.eq_iff_iff]; simp at *; try omega))
theorem c1390 {n : Int} : Pure Gm 1390 [.int .i64 n] (.bool (!defOk n)) := by
  refine Pure.intro [] [] g1390 (by kernel_rfl) rfl (by simp [AV.trees, AV.tree, go_sem]) rfl ?_
  simp only [F1390, vparams, go_sem, Nat.reduceEqDiff, reduceIte, Bool.not_true, eq_self]
  repeat' (first | (refine lbox_ok rfl ?_; simp only [go_sem, Nat.reduceEqDiff, reduceIte, Bool.not_true, Bool.not_false, Bool.false_eq_true, List.length_cons, List.length_nil, Nat.reduceAdd, List.getElem?_cons_zero, List.getElem?_cons_succ, decide_true, eq_self, List.length_map]) | (first | (refine grd_split ?_ ?_ <;> intro hc <;> simp only [hc, go_sem, Nat.reduceEqDiff, reduceIte, Bool.not_true, Bool.not_false, Bool.false_eq_true, List.length_cons, List.length_nil, Nat.reduceAdd, List.getElem?_cons_zero, List.getElem?_cons_succ, decide_true, eq_self, List.length_map]) | (refine cnd_split ?_ ?_ <;> intro hc <;> simp only [hc, go_sem, Nat.reduceEqDiff, reduceIte, Bool.not_true, Bool.not_false, Bool.false_eq_true, List.length_cons, List.length_nil, Nat.reduceAdd, List.getElem?_cons_zero, List.getElem?_cons_succ, decide_true, eq_self, List.length_map])) | (refine call_pure (c796) ?_; simp only [go_sem, Nat.reduceEqDiff, reduceIte, eq_self]) | refine fin_eq rfl ?_)
  all_goals (simp_all)
end Go.Ab
namespace Go.Ab
open Go
set_option maxRecDepth 10000
theorem put_eq {E : Ev} {o : Option AV} {v : AV} {k : Nat} {l : List AOper} {ks : List Fr1} {s m : LEnv} {h : List AObj} {Q : AExit → VSt → Prop} (ho : o = some v) (hr : R E (.ops l :: ks) ⟨(k, v) :: s, m, h⟩ Q) : Put E o (some k) l ks ⟨s, m, h⟩ Q := by
  subst ho; rw [put_some]; exact hr
theorem c1388 {k : Int} {n : Nat} (hn : n ≤ 1048576) : Pure Gm 1388 [.int .i64 k, .int .i64 (n : Int)] (.int .i64 (if k = 9 then (n : Int) - 1 else 0)) := by
  refine Pure.intro [] [] g1388 (by kernel_rfl) rfl (by simp [AV.trees, AV.tree, go_sem]) rfl ?_
  simp only [F1388, vparams, go_sem, Nat.reduceEqDiff, reduceIte, Nat.reduceAdd, eq_self]
  refine cnd_split ?_ ?_ <;> intro hc <;> simp only [hc, go_sem, Nat.reduceEqDiff, reduceIte, eq_self]
  · rw [wrap_small (by omega) (by omega)]
    refine fin_eq rfl ?_
    simp_all
  · refine fin_eq rfl ?_
    simp_all
theorem c1387 {k f : Int} : Pure Gm 1387 [.int .i64 k, .int .i64 f] (.int .i64 (portsOf k f)) := by
  refine Pure.intro [] [] g1387 (by kernel_rfl) rfl (by simp [AV.trees, AV.tree, go_sem]) rfl ?_
  simp only [F1387, vparams, go_sem, Nat.reduceEqDiff, reduceIte, Nat.reduceAdd, eq_self]
  repeat' (first
    | (first | (refine grd_split ?_ ?_ <;> intro hc <;> simp only [hc, go_sem, Nat.reduceEqDiff, reduceIte, Bool.not_true, Bool.not_false, eq_self]) | (refine cnd_split ?_ ?_ <;> intro hc <;> simp only [hc, go_sem, Nat.reduceEqDiff, reduceIte, Bool.not_true, List.length_cons, List.length_nil, Nat.reduceAdd, eq_self]))
    | (refine call_pure c1487 ?_; simp only [go_sem, Nat.reduceEqDiff, reduceIte, eq_self])
    | refine fin_eq rfl ?_)
  all_goals simp only [Bool.not_eq_false', Bool.not_eq_true', Bool.not_true, Bool.not_false, decide_eq_true_eq, decide_eq_false_iff_not, kindI, inI, Bool.and_eq_true, Bool.and_eq_false_iff] at *
  case refine_2.refine_1.refine_1.refine_2 =>
    subst hc
    have : k = 1 ∨ k = 2 ∨ k = 3 ∨ k = 4 ∨ k = 5 ∨ k = 6 ∨ k = 7 ∨ k = 8 ∨ k = 10 ∨ k = 11 ∨ k = 12 := by omega
    rcases this with rfl | rfl | rfl | rfl | rfl | rfl | rfl | rfl | rfl | rfl | rfl
    all_goals
      first | refine put_eq (v := .int .i64 1) rfl ?_ | refine put_eq (v := .int .i64 2) rfl ?_ | refine put_eq (v := .int .i64 3) rfl ?_
      simp only [go_sem, Nat.reduceEqDiff, reduceIte, eq_self]
      refine fin_eq rfl rfl
  all_goals try rw [wrap_small (by omega) (by omega)]
  all_goals (simp only [portsOf, inI, AV.int.injEq, true_and, Bool.and_eq_true, decide_eq_true_eq]; repeat' split)
  all_goals try omega
theorem c801 {n m : Int} : Pure Gm 801 [.int .i64 n, .ept (.int .i64 m) 0] (.bool (!inI n 0 m)) := by
  refine Pure.intro [] [] g801 (by kernel_rfl) rfl (by simp [AV.trees, AV.tree, go_sem]) rfl ?_
  simp only [F801, vparams, go_sem, Nat.reduceEqDiff, reduceIte, Nat.reduceAdd, eq_self]
  repeat' (first | (refine lbox_ok rfl ?_; simp only [go_sem, Nat.reduceEqDiff, reduceIte, Bool.not_true, Bool.not_false, Bool.false_eq_true, List.length_cons, List.length_nil, Nat.reduceAdd, List.getElem?_cons_zero, List.getElem?_cons_succ, decide_true, eq_self, List.length_map]) | (first | (refine grd_split ?_ ?_ <;> intro hc <;> simp only [hc, go_sem, Nat.reduceEqDiff, reduceIte, Bool.not_false, eq_self]) | (refine cnd_split ?_ ?_ <;> intro hc <;> simp only [hc, go_sem, Nat.reduceEqDiff, reduceIte, Bool.not_true, Bool.not_false, Bool.false_eq_true, List.length_cons, List.length_nil, Nat.reduceAdd, List.getElem?_cons_zero, List.getElem?_cons_succ, decide_true, eq_self, List.length_map])) | refine fin_eq rfl ?_)
  all_goals ((simp only [inI, AV.bool.injEq]; rw [Bool.eq_iff_iff]; simp at *; try omega))
theorem c436 {m : Int} {xs : List Int} (hl : xs.length ≤ 1048576) : Pure Gm 436 [.int .i64 m, .lst 1 (xs.map encI) false] (.bool (xs.all fun n => inI n 0 m)) := by
  refine Pure.intro [2] [] g436 (by kernel_rfl) rfl (by simp [AV.trees, AV.tree, trees_map shI.tree]) rfl ?_
  simp only [F436, vparams, go_sem, Nat.reduceEqDiff, reduceIte, Nat.reduceAdd, eq_self]
  refine hbox_ok rfl ?_
  simp only [go_sem, Nat.reduceEqDiff, reduceIte, Bool.not_true, List.length_nil, List.getElem?_cons_zero, eq_self, List.nil_append, List.set_cons_zero]
  refine call_pure (c397 (f := .fn 801 [.ept (.int .i64 m) 0]) (fun n => !inI n 0 m) rfl xs (fun x _ => ⟨801, _, rfl, c801⟩) hl) ?_
  simp only [go_sem, Nat.reduceEqDiff, reduceIte, eq_self]
  refine fin_eq rfl ?_
  rw [any_not]
end Go.Ab
namespace Go.Ab
open Go
set_option maxRecDepth 10000
set_option maxHeartbeats 2000000
theorem c1388' {x : GAgent} (hn : x.Ports.length ≤ 1048576) : Pure Gm 1388 [.int .i64 x.Kind, .int .i64 (x.Ports.length : Int)] (.int .i64 (fieldsOf x)) := c1388 hn
theorem agentOk_eq {x : GAgent} (h1 : ¬ (x.Ports.length : Int) = 0) (h2 : portsOf x.Kind (fieldsOf x) = x.Ports.length) (h3 : levelOk x.Kind x.Level = true) : agentOk x = contentOk x := by
  have h : (0 : Int) < x.Ports.length := by omega
  unfold agentOk
  rw [h2, h3]
  simp only [decide_eq_true h, decide_true, Bool.true_and]
def portsIn (x : GAgent) : Bool := decide (0 < x.Ports.length) && decide ((x.Ports.length : Int) = portsOf x.Kind (fieldsOf x))
theorem c1097 {x : GAgent} (hd : x.Data.length ≤ 1048576) (hn : x.Ports.length ≤ 1048576) : Pure Gm 1097 [x.enc] (.bool (agentOk x)) := by
  refine Pure.intro [] [] g1097 (by kernel_rfl) rfl (by simp [AV.trees, go_sem]) rfl ?_
  simp only [F1097, vparams, go_sem, reduceIte, eq_self]
  repeat' (first
    | (refine lbox_ok rfl ?_; simp only [go_sem, Nat.reduceEqDiff, reduceIte, eq_self, List.length_map])
    | (first | (refine grd_split ?_ ?_ <;> intro hc <;> simp only [hc, go_sem, Nat.reduceEqDiff, reduceIte, Bool.not_true, Bool.not_false, eq_self, List.length_map]) | (refine cnd_split ?_ ?_ <;> intro hc <;> simp only [hc, go_sem, Nat.reduceEqDiff, reduceIte, Bool.not_true, eq_self, List.length_map]))
    | (refine call_pure (c1388' hn) ?_; simp only [go_sem, Nat.reduceEqDiff, reduceIte, Bool.not_true, eq_self])
    | (refine call_pure c1387 ?_; simp only [go_sem, Nat.reduceEqDiff, reduceIte, eq_self])
    | (refine call_pure c1389 ?_; simp only [go_sem, Nat.reduceEqDiff, reduceIte, eq_self])
    | (refine call_pure (c397 (f := .fn 1390 []) (fun n => !defOk n) rfl x.Data (fun _ _ => ⟨1390, [], rfl, c1390⟩) hd) ?_; simp only [any_not, go_sem, Nat.reduceEqDiff, reduceIte, eq_self])
    | (refine call_pure c1050 ?_; simp only [go_sem, Nat.reduceEqDiff, reduceIte, eq_self])
    | (refine call_pure c1051 ?_; simp only [go_sem, Nat.reduceEqDiff, reduceIte, eq_self])
    | (refine call_pure c796 ?_; simp only [go_sem, Nat.reduceEqDiff, reduceIte, eq_self])
    | refine fin_eq rfl ?_)
  case refine_1.refine_1.refine_2.refine_2.refine_2.refine_1.refine_1.refine_1 =>
    obtain ⟨d, hd1⟩ : ∃ d, x.Data = [d] := List.length_eq_one_iff.1 (by have := of_decide_eq_true hc; omega)
    simp only [hd1, List.map_cons, List.map_nil, encI, go_sem, List.length_cons, List.length_nil, Nat.reduceAdd, List.getElem?_cons_zero]
    simp only [Option.map_some, go_sem, Nat.reduceEqDiff, reduceIte, Bool.not_true, eq_self]
    refine call_pure c1051 ?_
    simp only [go_sem, Nat.reduceEqDiff, reduceIte, eq_self]
    refine fin_eq rfl ?_
    simp only [Bool.not_eq_false', decide_eq_true_eq, decide_eq_false_iff_not] at *
    rw [agentOk_eq (by assumption) (by assumption) (by assumption)]; simp [contentOk, *]
  all_goals simp only [Bool.not_true, Bool.not_false, Bool.not_eq_true', Bool.not_eq_false', decide_eq_true_eq, decide_eq_false_iff_not] at *
  all_goals first
    | (rw [agentOk_eq (by assumption) (by assumption) (by assumption)]; simp only [AV.bool.injEq]; rw [Bool.eq_iff_iff]; simp [contentOk, *]; done)
    | (rw [agentOk_eq (by assumption) (by assumption) (by assumption)]; simp only [AV.bool.injEq]; rw [Bool.eq_iff_iff]; simp [contentOk, inI, *]; omega)
    | (rw [agentOk_eq (by assumption) (by assumption) (by assumption)]; simp only [AV.bool.injEq]; rw [Bool.eq_iff_iff]; simp [contentOk, inI, *]; done)
    | (simp [agentOk, *]; done)
    | (simp [agentOk, *]; omega)
    | trace_state
end Go.Ab
namespace Go.Ab
open Go
set_option maxRecDepth 10000
set_option maxHeartbeats 2000000
theorem c711 {xs : List GAgent} (hl : xs.length + sumN GAgent.sz xs ≤ 1048576) : Pure Gm 711 [.lst 5 (xs.map GAgent.enc) false] (.bool (agentsOk xs)) := by
  refine Pure.intro [] [] g711 (by kernel_rfl) rfl (by simp [AV.trees, AV.tree, trees_map GAgent.isSh.tree]) rfl ?_
  simp only [F711, vparams, go_sem, Nat.reduceEqDiff, reduceIte, eq_self, List.length_map]
  have fin (h1 : 1 ≤ xs.length) (h2 : xs.length ≤ 600) : agentsOk xs = agentsFrom xs 0 := by
    unfold agentsOk inI; rw [decide_eq_true (by omega), decide_eq_true (by omega)]; rfl
  first | (refine grd_split ?_ ?_ <;> intro hc <;> simp only [hc, go_sem, Nat.reduceEqDiff, reduceIte, Bool.not_false, eq_self, List.length_map]) | (refine cnd_split ?_ ?_ <;> intro hc <;> simp only [hc, go_sem, Nat.reduceEqDiff, reduceIte, Bool.not_true, Bool.not_false, Bool.false_eq_true, List.length_cons, List.length_nil, Nat.reduceAdd, List.getElem?_cons_zero, List.getElem?_cons_succ, decide_true, eq_self, List.length_map])
  · first | (refine grd_split ?_ ?_ <;> intro hc <;> simp only [hc, go_sem, Nat.reduceEqDiff, reduceIte, Bool.not_true, Bool.not_false, Bool.false_eq_true, List.length_cons, List.length_nil, Nat.reduceAdd, List.getElem?_cons_zero, List.getElem?_cons_succ, decide_true, eq_self, List.length_map]) | (refine cnd_split ?_ ?_ <;> intro hc <;> simp only [hc, go_sem, Nat.reduceEqDiff, reduceIte, eq_self, List.length_map])
    · refine fin_eq rfl ?_
      simp only [AV.bool.injEq, agentsOk, inI]; simp at *; omega
    · have h1 : 1 ≤ xs.length := by simp at *; omega
      have h2 : xs.length ≤ 600 := by simp at *; omega
      rw [fin h1 h2]
      refine Sem.loop (fun i : Nat => i ≤ xs.length ∧ agentsFrom xs 0 = agentsFrom (xs.drop i) i) (fun i => (⟨[(13, .lst 5 (xs.map GAgent.enc) false), (14, .int .i64 (xs.length : Int)), (15, .int .i64 (i : Nat))], [], []⟩ : VSt)) (fun i => xs.length - i) 0 (by kernel_rfl) ⟨Nat.zero_le _, by simp⟩ (Can.sub (by simp [go_sem]) (by simp [go_sem])) ?_
      rintro i ⟨hi, hI⟩
      simp only [go_sem, Nat.reduceEqDiff, reduceIte, eq_self]
      refine cnd_split ?_ ?_ <;> intro hc <;> simp only [hc, go_sem, Nat.reduceEqDiff, reduceIte, eq_self]
      · have hlt : i < xs.length := by have := of_decide_eq_true hc; omega
        simp only [List.getElem?_map, List.getElem?_eq_getElem hlt, Option.map_some, go_sem, Nat.reduceEqDiff, reduceIte, eq_self]
        have hs : xs[i].Data.length + xs[i].Ports.length ≤ sumN GAgent.sz xs := le_sumN (f := GAgent.sz) (List.getElem_mem hlt)
        refine lst_all (k := 5) (by rfl) (by rfl) (by exact ⟨_, rfl⟩) (by decide) ?_
        simp only [go_sem, Nat.reduceEqDiff, reduceIte, Bool.not_true, eq_self]
        refine call_pure (c1097 (by omega) (by omega)) ?_
        simp only [go_sem, Nat.reduceEqDiff, reduceIte, eq_self]
        first | (refine grd_split ?_ ?_ <;> intro hc <;> simp only [hc, go_sem, Nat.reduceEqDiff, reduceIte, Bool.not_false, eq_self]) | (refine cnd_split ?_ ?_ <;> intro hc <;> simp only [hc, go_sem, Nat.reduceEqDiff, reduceIte, Bool.not_true, Bool.not_false, Bool.false_eq_true, List.length_cons, List.length_nil, Nat.reduceAdd, List.getElem?_cons_zero, List.getElem?_cons_succ, decide_true, eq_self, List.length_map])
        · first | (refine grd_split ?_ ?_ <;> intro hc <;> simp only [hc, go_sem, Nat.reduceEqDiff, reduceIte, Bool.not_true, Bool.not_false, Bool.false_eq_true, List.length_cons, List.length_nil, Nat.reduceAdd, List.getElem?_cons_zero, List.getElem?_cons_succ, decide_true, eq_self, List.length_map]) | (refine cnd_split ?_ ?_ <;> intro hc <;> simp only [hc, go_sem, Nat.reduceEqDiff, reduceIte, eq_self])
          · refine fin_eq rfl ?_
            rw [hI, drop_at hlt]; simp_all [agentsFrom]
          · simp only [wrap_succ (show i < 4611686018427387904 by omega)]; refine loopQ_nrm (i + 1) ⟨by omega, ?_⟩ (by omega) (Can.sub (by simp [go_sem]) (by simp [go_sem]))
            rw [hI, drop_at hlt]; simp_all [agentsFrom]
        · refine fin_eq rfl ?_
          rw [hI, drop_at hlt]; simp_all [agentsFrom]
      · obtain rfl : i = xs.length := by have := of_decide_eq_false hc; omega
        refine fin_eq rfl ?_
        rw [hI]; simp [agentsFrom]
  · refine fin_eq rfl ?_
    simp only [AV.bool.injEq, agentsOk, inI]; simp at *; omega
theorem c555 {n : GNet} {a s : Nat} (ha : a < n.Agents.length) (hs : s < n.Agents[a].Ports.length) : Pure Gm 555 [.ept n.enc 0, GPort.enc ⟨(a : Int), (s : Int)⟩] (n.Agents[a].Ports[s].enc) := by
  refine Pure.intro [] [] g555 (by kernel_rfl) rfl (by simp [AV.trees, AV.tree, GNet.tr, GPort.tr]) (by exact GPort.tr) ?_
  simp only [F555, vparams, go_sem, Nat.reduceEqDiff, reduceIte, Nat.reduceAdd, eq_self]
  refine lbox_ok rfl ?_; simp only [go_sem, Nat.reduceEqDiff, reduceIte, Nat.reduceAdd, eq_self]
  simp only [List.getElem?_map, List.getElem?_eq_getElem ha, Option.map_some, go_sem, Nat.reduceEqDiff, reduceIte, Nat.reduceAdd, eq_self]
  simp only [List.getElem?_eq_getElem hs, Option.map_some, go_sem, Nat.reduceEqDiff, reduceIte, eq_self]
  refine lst_all (k := 2) (by rfl) (by rfl) (by exact ⟨_, rfl⟩) (by decide) ?_
  simp only [go_sem, Nat.reduceEqDiff, reduceIte, eq_self]
  refine fin_eq GPort.tr ?_
  rfl
end Go.Ab
namespace Go.Ab
open Go
set_option maxRecDepth 10000
set_option maxHeartbeats 2000000
theorem portOk_lt {xs : List GAgent} {p : GPort} (h : portOk xs p = true) : ∃ a s : Nat, p = ⟨a, s⟩ ∧ ∃ ha : a < xs.length, s < xs[a].Ports.length := by
  simp only [portOk, Bool.and_eq_true] at h
  have e1 := inI_iff.1 h.1
  have e2 := inI_iff.1 h.2
  have ha : p.Agent.toNat < xs.length := by omega
  simp only [portsLen, List.getElem?_eq_getElem ha] at e2
  refine ⟨p.Agent.toNat, p.Slot.toNat, ?_, ha, by omega⟩
  rw [Int.toNat_of_nonneg e1.1, Int.toNat_of_nonneg e2.1]
theorem c714 {xs : List GAgent} {p : GPort} : Pure Gm 714 [.lst 5 (xs.map GAgent.enc) false, p.enc] (.bool (portOk xs p)) := by
  refine Pure.intro [] [] g714 (by kernel_rfl) rfl (by simp [AV.trees, AV.tree, trees_map GAgent.isSh.tree, GPort.tr]) rfl ?_
  simp only [F714, vparams, go_sem, Nat.reduceEqDiff, reduceIte, Nat.reduceAdd, eq_self]
  refine lbox_ok rfl ?_; simp only [go_sem, Nat.reduceEqDiff, reduceIte, eq_self]
  have big (h0 : 0 ≤ p.Agent) (h1 : p.Agent < xs.length) : portOk xs p = (decide (0 ≤ p.Slot) && decide (p.Slot < (portsLen xs p.Agent : Int))) := by
    simp only [portOk, inI]; rw [Bool.eq_iff_iff]; simp; omega
  first | (refine grd_split ?_ ?_ <;> intro hc <;> simp only [hc, go_sem, Nat.reduceEqDiff, reduceIte, Bool.not_true, eq_self, List.length_map]) | (refine cnd_split ?_ ?_ <;> intro hc <;> simp only [hc, go_sem, Nat.reduceEqDiff, reduceIte, Bool.not_true, Bool.not_false, Bool.false_eq_true, List.length_cons, List.length_nil, Nat.reduceAdd, List.getElem?_cons_zero, List.getElem?_cons_succ, decide_true, eq_self, List.length_map])
  · first | (refine grd_split ?_ ?_ <;> intro hc <;> simp only [hc, go_sem, Nat.reduceEqDiff, reduceIte, Bool.not_true, eq_self]) | (refine cnd_split ?_ ?_ <;> intro hc <;> simp only [hc, go_sem, Nat.reduceEqDiff, reduceIte, Bool.not_true, Bool.not_false, Bool.false_eq_true, List.length_cons, List.length_nil, Nat.reduceAdd, List.getElem?_cons_zero, List.getElem?_cons_succ, decide_true, eq_self, List.length_map])
    · first | (refine grd_split ?_ ?_ <;> intro hc <;> simp only [hc, go_sem, Nat.reduceEqDiff, reduceIte, Bool.not_true, eq_self]) | (refine cnd_split ?_ ?_ <;> intro hc <;> simp only [hc, go_sem, Nat.reduceEqDiff, reduceIte, Bool.not_true, Bool.not_false, Bool.false_eq_true, List.length_cons, List.length_nil, Nat.reduceAdd, List.getElem?_cons_zero, List.getElem?_cons_succ, decide_true, eq_self, List.length_map])
      · have h0 : 0 ≤ p.Agent := by simp at *; omega
        have h1 : p.Agent < xs.length := by simp at *; omega
        have hlt : p.Agent.toNat < xs.length := by omega
        rw [idx_li h0]
        simp only [List.getElem?_map, List.getElem?_eq_getElem hlt, Option.map_some, go_sem, Nat.reduceEqDiff, reduceIte, Nat.reduceAdd, eq_self, List.length_map]
        refine fin_eq rfl ?_
        rw [big h0 h1]
        simp_all [portsLen]
      · refine fin_eq rfl ?_
        rw [big (by simp at *; omega) (by simp at *; omega)]
        simp_all
        try (intro h; omega)
    · refine fin_eq rfl ?_
      simp only [portOk, inI, AV.bool.injEq]; simp at *; omega
  · refine fin_eq rfl ?_
    simp only [portOk, inI, AV.bool.injEq]; simp at *; omega
theorem c713 {n : GNet} {a s : Nat} (ha : a < n.Agents.length) (hs : s < n.Agents[a].Ports.length) : Pure Gm 713 [GPort.enc ⟨(a : Int), (s : Int)⟩, .ept n.enc 0] (.bool (!wireOk n.Agents ⟨(a : Int), (s : Int)⟩ n.Agents[a].Ports[s])) := by
  refine Pure.intro [] [] g713 (by kernel_rfl) rfl (by simp [AV.trees, AV.tree, GNet.tr, GPort.tr]) rfl ?_
  simp only [F713, vparams, go_sem, Nat.reduceEqDiff, reduceIte, Nat.reduceAdd, eq_self]
  refine lbox_ok rfl ?_; simp only [go_sem, Nat.reduceEqDiff, reduceIte, Bool.not_true, eq_self]
  refine call_pure (c555 ha hs) ?_
  simp only [go_sem, Nat.reduceEqDiff, reduceIte, eq_self]
  refine lst_all (k := 2) (by rfl) (by rfl) (by exact ⟨_, rfl⟩) (by decide) ?_
  simp only [go_sem, Nat.reduceEqDiff, reduceIte, eq_self]
  obtain ⟨q, hq⟩ : ∃ q, q = n.Agents[a].Ports[s] := ⟨_, rfl⟩
  rw [← hq]
  first | (refine grd_split ?_ ?_ <;> intro hc <;> simp only [hc, go_sem, Nat.reduceEqDiff, reduceIte, Bool.not_true, Bool.not_false, Nat.reduceAdd, eq_self]) | (refine cnd_split ?_ ?_ <;> intro hc <;> simp only [hc, go_sem, Nat.reduceEqDiff, reduceIte, Bool.not_true, Bool.not_false, Bool.false_eq_true, List.length_cons, List.length_nil, Nat.reduceAdd, List.getElem?_cons_zero, List.getElem?_cons_succ, decide_true, eq_self, List.length_map])
  · refine call_pure c714 ?_
    simp only [go_sem, Nat.reduceEqDiff, reduceIte, eq_self]
    first | (refine grd_split ?_ ?_ <;> intro hc <;> simp only [hc, go_sem, Nat.reduceEqDiff, reduceIte, Bool.not_true, Bool.not_false, eq_self]) | (refine cnd_split ?_ ?_ <;> intro hc <;> simp only [hc, go_sem, Nat.reduceEqDiff, reduceIte, Bool.not_true, Bool.not_false, Bool.false_eq_true, List.length_cons, List.length_nil, Nat.reduceAdd, List.getElem?_cons_zero, List.getElem?_cons_succ, decide_true, eq_self, List.length_map])
    · have hp : portOk n.Agents q = true := by simpa using hc
      obtain ⟨a2, s2, rfl, ha2, hs2⟩ := portOk_lt hp
      refine call_pure (c555 ha2 hs2) ?_
      simp only [go_sem, Nat.reduceEqDiff, reduceIte, eq_self]
      refine fin_eq rfl ?_
      simp_all [wireOk, peerAt]
    · refine fin_eq rfl ?_
      simp_all [wireOk]
  · refine fin_eq rfl ?_
    simp_all [wireOk]
end Go.Ab
namespace Go.Ab
open Go
set_option maxRecDepth 10000
set_option maxHeartbeats 2000000
theorem sumN_app {α : Type} (f : α → Nat) : ∀ (xs ys : List α), sumN f (xs ++ ys) = sumN f xs + sumN f ys
  | [], ys => by simp [sumN]
  | x :: xs, ys => by simp only [List.cons_append, sumN, sumN_app f xs ys]; omega
theorem sumN_take {α : Type} (f : α → Nat) (xs : List α) (i : Nat) : sumN f (xs.take i) ≤ sumN f xs := by
  have := sumN_app f (xs.take i) (xs.drop i)
  rw [List.take_append_drop] at this
  omega
def slotsTo (i k : Nat) : List GPort := (List.range k).map fun s : Nat => ⟨(i : Int), (s : Int)⟩
theorem slotsTo_succ (i k : Nat) : slotsTo i (k + 1) = slotsTo i k ++ [⟨(i : Int), (k : Int)⟩] := by simp [slotsTo, List.range_succ]
def portsTo (xs : List GAgent) : Nat → List GPort
  | 0 => []
  | i + 1 => portsTo xs i ++ slotsTo i (portsLen xs (i : Int))
theorem portsTo_len (xs : List GAgent) : ∀ i, i ≤ xs.length → (portsTo xs i).length ≤ sumN GAgent.sz (xs.take i)
  | 0, _ => Nat.zero_le _
  | i + 1, h => by
    have := portsTo_len xs i (by omega)
    have hi : i < xs.length := by omega
    have e : xs.take (i + 1) = xs.take i ++ [xs[i]] := by simp [List.take_append_getElem]
    have e2 : sumN GAgent.sz (xs.take i ++ [xs[i]]) = sumN GAgent.sz (xs.take i) + GAgent.sz xs[i] := by
      rw [sumN_app]; rfl
    have e3 : xs[i].Ports.length ≤ GAgent.sz xs[i] := by unfold GAgent.sz; omega
    rw [e, e2]
    simp [portsTo, slotsTo, portsLen, List.getElem?_eq_getElem hi]
    omega
theorem c554 {n : GNet} (hz : n.sz ≤ 1048576) : Pure Gm 554 [.ept n.enc 0] (.lst 2 ((portsTo n.Agents n.Agents.length).map GPort.enc) false) := by
  refine Pure.intro [] [] g554 (by kernel_rfl) rfl (by simp [AV.trees, AV.tree, GNet.tr]) (by simp [AV.tree, trees_map GPort.isSh.tree]) ?_
  simp only [F554, vparams, go_sem, Nat.reduceEqDiff, reduceIte, Nat.reduceAdd, eq_self, List.length_map]
  unfold GNet.sz at hz
  refine Sem.loop (fun i : Nat => i ≤ n.Agents.length) (fun i => (⟨[(10, .lst 5 (n.Agents.map GAgent.enc) false), (11, .int .i64 (n.Agents.length : Int)), (12, .int .i64 (i : Nat)), (3, .slice 2 0 0 (portsTo n.Agents i).length false)], [], [.row 2 ((portsTo n.Agents i).map GPort.enc) true]⟩ : VSt)) (fun i => n.Agents.length - i) 0 (by kernel_rfl) (Nat.zero_le _) (Can.renum [none] rfl ⟨.ph, trivial⟩ ⟨⟨_, rfl, .tree (by simp [AV.tree, trees_map GAgent.isSh.tree])⟩, ⟨_, rfl, .tree rfl⟩, ⟨_, rfl, .tree rfl⟩, ⟨_, rfl, .ph rfl⟩, trivial⟩ trivial) ?_
  rintro i hi
  simp only [go_sem, Nat.reduceEqDiff, reduceIte, eq_self]
  refine cnd_split ?_ ?_ <;> intro hc <;> simp only [hc, go_sem, Nat.reduceEqDiff, reduceIte, eq_self]
  · have hlt : i < n.Agents.length := by have := of_decide_eq_true hc; omega
    simp only [List.getElem?_map, List.getElem?_eq_getElem hlt, Option.map_some, go_sem, Nat.reduceEqDiff, reduceIte, eq_self]
    refine lst_all (k := 5) (by rfl) (by rfl) (by exact ⟨_, rfl⟩) (by decide) ?_
    simp only [go_sem, Nat.reduceEqDiff, reduceIte, eq_self, List.length_map]
    have e0 : portsTo n.Agents i ++ slotsTo i 0 = portsTo n.Agents i := by simp [slotsTo]
    have hpl : n.Agents[i].Ports.length ≤ sumN GAgent.sz n.Agents := by
      have h1 : GAgent.sz n.Agents[i] ≤ sumN GAgent.sz n.Agents := le_sumN (f := GAgent.sz) (List.getElem_mem hlt)
      have h2 : n.Agents[i].Ports.length ≤ GAgent.sz n.Agents[i] := by unfold GAgent.sz; omega
      omega
    have htl := portsTo_len n.Agents i (by omega)
    have htt := sumN_take GAgent.sz n.Agents i
    refine Sem.loop (fun k : Nat => k ≤ n.Agents[i].Ports.length) (fun k => (⟨[(10, .lst 5 (n.Agents.map GAgent.enc) false), (11, .int .i64 (n.Agents.length : Int)), (12, .int .i64 (i : Nat)), (4, .int .i64 (i : Nat)), (19, .int .i64 (n.Agents[i].Ports.length : Int)), (20, .int .i64 (k : Nat)), (3, .slice 2 0 0 (portsTo n.Agents i ++ slotsTo i k).length false)], [], [.row 2 ((portsTo n.Agents i ++ slotsTo i k).map GPort.enc) true]⟩ : VSt)) (fun k => n.Agents[i].Ports.length - k) 0 (by kernel_rfl) (Nat.zero_le _) (by simp only [e0]; exact Can.sub (by simp [go_sem]) (by simp [go_sem])) ?_
    rintro k hk
    simp only [go_sem, Nat.reduceEqDiff, reduceIte, eq_self]
    refine cnd_split ?_ ?_ <;> intro hc <;> simp only [hc, go_sem, Nat.reduceEqDiff, reduceIte, List.length_cons, List.length_nil, Nat.reduceAdd, eq_self]
    · have hkl : k < n.Agents[i].Ports.length := by have := of_decide_eq_true hc; omega
      refine app_one (el := (portsTo n.Agents i ++ slotsTo i k).map GPort.enc) rfl rfl (by simp) (by simp [slotsTo]; omega) ?_
      simp only [go_sem, Nat.reduceEqDiff, reduceIte, eq_self]
      simp only [wrap_succ (show k < 4611686018427387904 by omega)]
      refine loopQ_nrm (k + 1) (by omega) (by omega) ?_
      have e1 : portsTo n.Agents i ++ slotsTo i (k + 1) = (portsTo n.Agents i ++ slotsTo i k) ++ [⟨(i : Int), (k : Int)⟩] := by rw [slotsTo_succ, List.append_assoc]
      simp only [e1, List.length_append, List.length_cons, List.length_nil, Nat.zero_add]
      refine Can.renum [some 2] rfl ⟨.row rfl ?_, trivial⟩ ⟨⟨_, rfl, .tree (by simp [AV.tree, trees_map GAgent.isSh.tree])⟩, ⟨_, rfl, .tree rfl⟩, ⟨_, rfl, .tree rfl⟩, ⟨_, rfl, .tree rfl⟩, ⟨_, rfl, .tree rfl⟩, ⟨_, rfl, .tree rfl⟩, ⟨_, rfl, .slice rfl⟩, trivial⟩ trivial
      have t := trees_map GPort.isSh.tree ((portsTo n.Agents i ++ slotsTo i k) ++ [⟨(i : Int), (k : Int)⟩])
      rw [List.map_append] at t
      rw [show ((portsTo n.Agents i ++ slotsTo i k) ++ [(⟨(i : Int), (k : Int)⟩ : GPort)]).map GPort.enc = (portsTo n.Agents i ++ slotsTo i k).map GPort.enc ++ [(⟨(i : Int), (k : Int)⟩ : GPort)].map GPort.enc from List.map_append]
      exact VR2s.trees t
    · obtain rfl : k = n.Agents[i].Ports.length := by have := of_decide_eq_false hc; omega
      simp only [wrap_succ (show i < 4611686018427387904 by omega)]
      refine loopQ_nrm (i + 1) (by omega) (by omega) ?_
      have e2 : portsTo n.Agents (i + 1) = portsTo n.Agents i ++ slotsTo i n.Agents[i].Ports.length := by simp [portsTo, portsLen, List.getElem?_eq_getElem hlt]
      rw [e2]
      exact Can.sub (by simp [go_sem]) (by simp [go_sem])
  · obtain rfl : i = n.Agents.length := by have := of_decide_eq_false hc; omega
    refine fin_cv (Cv.row rfl (by simp) (trees_map GPort.isSh.tree _) (by omega))
end Go.Ab
namespace Go.Ab
open Go
set_option maxRecDepth 10000
set_option maxHeartbeats 2000000
def peerOf (xs : List GAgent) (me : GPort) : GPort := (peerAt xs me).getD ⟨0, 0⟩
def meOk (xs : List GAgent) (me : GPort) : Bool := wireOk xs me (peerOf xs me)
theorem mem_slotsTo {i k : Nat} {q : GPort} : q ∈ slotsTo i k ↔ ∃ s : Nat, s < k ∧ q = ⟨i, s⟩ := by
  simp only [slotsTo, List.mem_map, List.mem_range]
  constructor
  · rintro ⟨s, h, rfl⟩; exact ⟨s, h, rfl⟩
  · rintro ⟨s, h, rfl⟩; exact ⟨s, h, rfl⟩
theorem mem_portsTo {xs : List GAgent} {q : GPort} : ∀ {m : Nat}, m ≤ xs.length → (q ∈ portsTo xs m ↔ ∃ (i : Nat) (hi : i < xs.length), i < m ∧ ∃ s : Nat, s < xs[i].Ports.length ∧ q = ⟨i, s⟩)
  | 0, _ => by simp [portsTo]
  | m + 1, hm => by
    have hml : m < xs.length := by omega
    simp only [portsTo, List.mem_append, mem_portsTo (xs := xs) (q := q) (m := m) (by omega), mem_slotsTo, portsLen, Int.toNat_natCast, List.getElem?_eq_getElem hml]
    constructor
    · rintro (⟨i, hi, h1, h2⟩ | h)
      · exact ⟨i, hi, by omega, h2⟩
      · exact ⟨m, hml, by omega, h⟩
    · rintro ⟨i, hi, h1, h2⟩
      by_cases e : i = m
      · subst e; exact .inr h2
      · exact .inl ⟨i, hi, by omega, h2⟩
theorem peerOf_at {xs : List GAgent} {a s : Nat} (ha : a < xs.length) (hs : s < xs[a].Ports.length) : peerOf xs ⟨a, s⟩ = xs[a].Ports[s] := by
  simp [peerOf, peerAt, List.getElem?_eq_getElem ha, List.getElem?_eq_getElem hs]
theorem wires_of {xs : List GAgent} {i : Nat} : ∀ {qs : List GPort} {j : Nat}, (∀ (m : Nat) (hm : m < qs.length), wireOk xs ⟨i, (j + m : Nat)⟩ qs[m] = true) → wiresFrom xs i qs j = true
  | [], _, _ => rfl
  | q :: qs, j, h => by
    simp only [wiresFrom, Bool.and_eq_true]
    refine ⟨h 0 (by simp), wires_of fun m hm => ?_⟩
    have := h (m + 1) (by simp; omega)
    rw [show j + (m + 1) = j + 1 + m by omega] at this
    simpa using this
theorem net_of {xs : List GAgent} : ∀ {l : List GAgent} {i : Nat}, (∀ (k : Nat) (hk : k < l.length), wiresFrom xs (i + k) l[k].Ports 0 = true) → netFrom xs l i = true
  | [], _, _ => rfl
  | x :: l, i, h => by
    simp only [netFrom, Bool.and_eq_true]
    refine ⟨h 0 (by simp), net_of fun k hk => ?_⟩
    have := h (k + 1) (by simp; omega)
    rw [show i + (k + 1) = i + 1 + k by omega] at this
    simpa using this
theorem ports_all (xs : List GAgent) : ((portsTo xs xs.length).all (meOk xs)) = netFrom xs xs 0 := by
  rw [Bool.eq_iff_iff, List.all_eq_true]
  constructor
  · intro h
    refine net_of fun k hk => wires_of fun m hm => ?_
    have := h ⟨k, m⟩ ((mem_portsTo (Nat.le_refl _)).2 ⟨k, hk, hk, m, hm, rfl⟩)
    rw [meOk, peerOf_at hk hm] at this
    simpa using this
  · intro h q hq
    obtain ⟨i, hi, _, s, hs, rfl⟩ := (mem_portsTo (Nat.le_refl _)).1 hq
    rw [meOk, peerOf_at hi hs]
    have := wires_at (net_at h i hi) s hs
    simpa using this
theorem c319 {n : GNet} (hz : n.sz ≤ 1048576) : Pure Gm 319 [n.enc] (.bool (netOk n)) := by
  refine Pure.intro [1] [] g319 (by kernel_rfl) rfl (by simp [AV.trees, GNet.tr]) rfl ?_
  simp only [F319, vparams, go_sem, Nat.reduceEqDiff, reduceIte, eq_self]
  have hz' := hz
  unfold GNet.sz at hz
  have hl : (portsTo n.Agents n.Agents.length).length ≤ 1048576 := by
    have h1 := portsTo_len n.Agents n.Agents.length (Nat.le_refl _)
    have h2 := sumN_take GAgent.sz n.Agents n.Agents.length
    omega
  refine hbox_ok rfl ?_
  simp only [go_sem, Nat.reduceEqDiff, reduceIte, Bool.not_true, List.length_nil, Nat.reduceAdd, List.getElem?_cons_zero, eq_self, List.nil_append, List.set_cons_zero]
  refine call_pure (c711 (by omega)) ?_
  simp only [go_sem, Nat.reduceEqDiff, reduceIte, eq_self]
  refine cnd_split ?_ ?_ <;> intro hc <;> simp only [hc, go_sem, Nat.reduceEqDiff, reduceIte, Bool.not_true, eq_self]
  · refine fin_eq rfl ?_
    have : agentsOk n.Agents = false := by simpa using hc
    simp [netOk, this]
  · refine call_pure (c554 hz') ?_
    simp only [go_sem, Nat.reduceEqDiff, reduceIte, Bool.not_true, eq_self]
    refine call_pure (c712 (f := .fn 713 [.ept n.enc 0]) (fun me => !meOk n.Agents me) (by simp [AV.tree, AV.trees, GNet.tr]) _ (fun x hx => ?_) hl) ?_
    · obtain ⟨i, hi, _, s, hs, rfl⟩ := (mem_portsTo (Nat.le_refl _)).1 hx
      refine ⟨713, _, rfl, ?_⟩
      have c := c713 hi hs
      rw [meOk, peerOf_at hi hs]
      exact c
    · simp only [any_not, go_sem, Nat.reduceEqDiff, reduceIte, eq_self]
      refine fin_eq rfl ?_
      have : agentsOk n.Agents = true := by simpa using hc
      rw [ports_all]
      simp [netOk, this]
end Go.Ab
namespace Go.Ab
open Go
set_option maxRecDepth 10000
set_option maxHeartbeats 2000000
theorem c860 {n : GNet} (hz : n.sz ≤ 1048576) : Pure Gm 860 [n.enc] (.bool (!netOk n)) := by
  refine Pure.intro [] [] g860 (by kernel_rfl) rfl (by simp [AV.trees, GNet.tr]) rfl ?_
  simp only [F860, vparams, go_sem, reduceIte, eq_self]
  refine lbox_ok rfl ?_; simp only [go_sem, Nat.reduceEqDiff, reduceIte, Bool.not_true, eq_self]
  refine call_pure (c319 hz) ?_
  simp only [go_sem, Nat.reduceEqDiff, reduceIte, eq_self]
  exact fin_eq rfl rfl
theorem c505 {xs : List GNet} (hl : xs.length ≤ 1048576) (hz : ∀ n ∈ xs, n.sz ≤ 1048576) : Pure Gm 505 [.lst 1 (xs.map GNet.enc) false] (.bool (bookOk xs)) := by
  refine Pure.intro [] [] g505 (by kernel_rfl) rfl (by simp [AV.trees, AV.tree, trees_map GNet.isSh.tree]) rfl ?_
  simp only [F505, vparams, go_sem, Nat.reduceEqDiff, reduceIte, eq_self, List.length_map]
  first | (refine grd_split ?_ ?_ <;> intro hc <;> simp only [hc, go_sem, Nat.reduceEqDiff, reduceIte, Bool.not_true, eq_self]) | (refine cnd_split ?_ ?_ <;> intro hc <;> simp only [hc, go_sem, Nat.reduceEqDiff, reduceIte, Bool.not_true, Bool.not_false, Bool.false_eq_true, List.length_cons, List.length_nil, Nat.reduceAdd, List.getElem?_cons_zero, List.getElem?_cons_succ, decide_true, eq_self, List.length_map])
  · refine call_pure (c859 (f := .fn 860 []) (fun n => !netOk n) rfl xs (fun x hx => ⟨860, [], rfl, c860 (hz x hx)⟩) hl) ?_
    simp only [any_not, go_sem, Nat.reduceEqDiff, reduceIte, eq_self]
    refine fin_eq rfl ?_
    simp only [bookOk, AV.bool.injEq]; simp at *; omega
  · refine fin_eq rfl ?_
    simp only [bookOk, AV.bool.injEq]; simp at *; omega
theorem c1114 {o : GOrigin} {a : Int} : Pure Gm 1114 [o.enc, .int .i64 a] (.bool (originOk o a)) := by
  refine Pure.intro [] [] g1114 (by kernel_rfl) rfl (by simp [AV.trees, AV.tree, GOrigin.tr]) rfl ?_
  simp only [F1114, vparams, go_sem, Nat.reduceEqDiff, reduceIte, Nat.reduceAdd, eq_self]
  refine lbox_ok rfl ?_; simp only [go_sem, Nat.reduceEqDiff, reduceIte, Bool.not_true, List.length_cons, List.length_nil, Nat.reduceAdd, eq_self]
  refine call_lend (vs' := [.int .i64 a, .lst 1 ([o.Step].map encI) false]) (Cvs.cons (.refl rfl) (Cvs.cons (Cv.row rfl rfl rfl (by decide)) Cvs.nil)) (c436 (by simp)) rfl ?_
  simp only [go_sem, Nat.reduceEqDiff, reduceIte, eq_self]
  repeat' (first | (first | (refine grd_split ?_ ?_ <;> intro hc <;> simp only [hc, go_sem, Nat.reduceEqDiff, reduceIte, Bool.not_true, Bool.not_false, eq_self]) | (refine cnd_split ?_ ?_ <;> intro hc <;> simp only [hc, go_sem, Nat.reduceEqDiff, reduceIte, Bool.not_true, Bool.not_false, Bool.false_eq_true, List.length_cons, List.length_nil, Nat.reduceAdd, List.getElem?_cons_zero, List.getElem?_cons_succ, decide_true, eq_self, List.length_map])) | refine fin_eq rfl ?_)
  all_goals (simp only [originOk, inI, AV.bool.injEq]; rw [Bool.eq_iff_iff]; simp [inI] at *; try omega)
theorem c1113 {o : GOrigin} {a : Int} : Pure Gm 1113 [o.enc, .ept (.int .i64 a) 0] (.bool (!originOk o a)) := by
  refine Pure.intro [] [] g1113 (by kernel_rfl) rfl (by simp [AV.trees, AV.tree, GOrigin.tr]) rfl ?_
  simp only [F1113, vparams, go_sem, Nat.reduceEqDiff, reduceIte, Nat.reduceAdd, eq_self]
  refine lbox_ok rfl ?_; simp only [go_sem, Nat.reduceEqDiff, reduceIte, Bool.not_true, eq_self]
  refine call_pure c1114 ?_
  simp only [go_sem, Nat.reduceEqDiff, reduceIte, eq_self]
  exact fin_eq rfl rfl
theorem c747 {n : GNet} {os : List GOrigin} {a : Int} (hz : n.sz ≤ 1048576) (hl : os.length ≤ 1048576) : Pure Gm 747 [n.enc, .lst 3 (os.map GOrigin.enc) false, .int .i64 a] (.bool (origsOk n os a)) := by
  refine Pure.intro [5] [] g747 (by kernel_rfl) rfl (by simp [AV.trees, AV.tree, trees_map GOrigin.isSh.tree, GNet.tr]) rfl ?_
  simp only [F747, vparams, go_sem, Nat.reduceEqDiff, reduceIte, Nat.reduceAdd, eq_self]
  refine lbox_ok rfl ?_; simp only [go_sem, Nat.reduceEqDiff, reduceIte, eq_self]
  refine hbox_ok rfl ?_
  simp only [go_sem, Nat.reduceEqDiff, reduceIte, Bool.not_true, List.length_nil, List.getElem?_cons_zero, eq_self, List.nil_append, List.set_cons_zero]
  refine call_pure (c319 hz) ?_
  simp only [go_sem, Nat.reduceEqDiff, reduceIte, eq_self]
  first | (refine grd_split ?_ ?_ <;> intro hc <;> simp only [hc, go_sem, Nat.reduceEqDiff, reduceIte, Bool.not_true, eq_self, List.length_map]) | (refine cnd_split ?_ ?_ <;> intro hc <;> simp only [hc, go_sem, Nat.reduceEqDiff, reduceIte, Bool.not_true, Bool.not_false, Bool.false_eq_true, List.length_cons, List.length_nil, Nat.reduceAdd, List.getElem?_cons_zero, List.getElem?_cons_succ, decide_true, eq_self, List.length_map])
  · first | (refine grd_split ?_ ?_ <;> intro hc <;> simp only [hc, go_sem, Nat.reduceEqDiff, reduceIte, Bool.not_true, eq_self]) | (refine cnd_split ?_ ?_ <;> intro hc <;> simp only [hc, go_sem, Nat.reduceEqDiff, reduceIte, Bool.not_true, Bool.not_false, Bool.false_eq_true, List.length_cons, List.length_nil, Nat.reduceAdd, List.getElem?_cons_zero, List.getElem?_cons_succ, decide_true, eq_self, List.length_map])
    · refine call_pure (c1112 (f := .fn 1113 [.ept (.int .i64 a) 0]) (fun o => !originOk o a) rfl os (fun x hx => ⟨1113, _, rfl, c1113⟩) hl) ?_
      simp only [any_not, go_sem, Nat.reduceEqDiff, reduceIte, eq_self]
      refine fin_eq rfl ?_
      simp_all [origsOk]
    · refine fin_eq rfl ?_
      simp_all [origsOk]
  · refine fin_eq rfl ?_
    simp_all [origsOk]
theorem c428 {b : GBreak} : Pure Gm 428 [b.enc] (.bool (breakOk b)) := by
  refine Pure.intro [] [] g428 (by kernel_rfl) rfl (by simp [AV.trees, GBreak.tr]) rfl ?_
  simp only [F428, vparams, go_sem, reduceIte, eq_self]
  refine lbox_ok rfl ?_; simp only [go_sem, Nat.reduceEqDiff, reduceIte, eq_self]
  repeat' (first | (first | (refine grd_split ?_ ?_ <;> intro hc <;> simp only [hc, go_sem, Nat.reduceEqDiff, reduceIte, Bool.not_true, eq_self]) | (refine cnd_split ?_ ?_ <;> intro hc <;> simp only [hc, go_sem, Nat.reduceEqDiff, reduceIte, Bool.not_true, eq_self])) | (refine call_pure c796 ?_; simp only [go_sem, Nat.reduceEqDiff, reduceIte, eq_self]) | refine fin_eq rfl ?_)
  all_goals (simp only [AV.bool.injEq]; rw [Bool.eq_iff_iff]; simp only [Bool.not_true, decide_eq_true_eq, decide_eq_false_iff_not] at *; simp [breakOk, inI, defOk, *]; try omega)
theorem c749 {b : GBreak} : Pure Gm 749 [b.enc] (.bool (!breakOk b)) := by
  refine Pure.intro [] [] g749 (by kernel_rfl) rfl (by simp [AV.trees, GBreak.tr]) rfl ?_
  simp only [F749, vparams, go_sem, reduceIte, eq_self]
  refine lbox_ok rfl ?_; simp only [go_sem, Nat.reduceEqDiff, reduceIte, Bool.not_true, eq_self]
  refine call_pure c428 ?_
  simp only [go_sem, Nat.reduceEqDiff, reduceIte, eq_self]
  exact fin_eq rfl rfl
end Go.Ab
namespace Go.Ab
open Go
set_option maxRecDepth 10000
set_option maxHeartbeats 2000000
theorem c373 {d : GDebugger} (hz : d.sz ≤ 1048576) : Pure Gm 373 [d.enc] (.bool (dbgOk d)) := by
  refine Pure.intro [] [] g373 (by kernel_rfl) rfl (by simp [AV.trees, GDebugger.tr]) rfl ?_
  simp only [F373, vparams, go_sem, reduceIte, eq_self]
  refine lbox_ok rfl ?_; simp only [go_sem, Nat.reduceEqDiff, reduceIte, Bool.not_true, eq_self]
  unfold GDebugger.sz at hz
  have hzn : d.Net.sz ≤ 1048576 := by omega
  refine call_pure (c505 (by omega) (fun n hn => by have := le_sumN (f := GNet.sz) hn; omega)) ?_
  simp only [go_sem, Nat.reduceEqDiff, reduceIte, eq_self]
  repeat' (first
    | (first | (refine grd_split ?_ ?_ <;> intro hc <;> simp only [hc, go_sem, Nat.reduceEqDiff, reduceIte, Bool.not_true, Bool.not_false, List.length_cons, List.length_nil, Nat.reduceAdd, eq_self]) | (refine cnd_split ?_ ?_ <;> intro hc <;> simp only [hc, go_sem, Nat.reduceEqDiff, reduceIte, eq_self, List.length_map]))
    | (refine call_pure (c406 (by omega)) ?_; simp only [go_sem, Nat.reduceEqDiff, reduceIte, eq_self])
    | (refine call_lend (vs' := [.int .i64 4000, .lst 1 ([d.At].map encI) false]) (Cvs.cons (.refl rfl) (Cvs.cons (Cv.row rfl rfl rfl (by decide)) Cvs.nil)) (c436 (by simp)) rfl ?_; simp only [go_sem, Nat.reduceEqDiff, reduceIte, eq_self])
    | (refine call_pure (c747 hzn (by omega)) ?_; simp only [go_sem, Nat.reduceEqDiff, reduceIte, eq_self])
    | (refine call_pure (c748 (f := .fn 749 []) (fun b => !breakOk b) rfl d.Breaks (fun x _ => ⟨749, [], rfl, c749⟩) (by omega)) ?_; simp only [go_sem, Nat.reduceEqDiff, reduceIte, eq_self])
    | refine fin_eq rfl ?_)
  case refine_1.refine_1.refine_1.refine_1.refine_1.refine_2.refine_1.refine_1 =>
    have h7 : d.Breaks.all breakOk = false := by rw [← any_not, hc]; rfl
    simp [dbgOk, h7]
  all_goals try (simp_all [dbgOk, inI]; done)
  all_goals try (simp_all [dbgOk, inI]; omega)
  have f1 : bookOk d.Book = true := by simp_all
  have f2 : schedOk d.Schedule = true := by simp_all
  have f3 : inI d.Every 1 50 = true := by simp [inI]; simp at *; omega
  have f4 : inI d.At 0 4000 = true := by simp_all
  have f5 : origsOk d.Net d.Origins d.At = true := by simp_all
  have f6 : decide ((8 : Int) < d.Breaks.length) = false := by simp_all
  have f7 : d.Breaks.all breakOk = true := by rw [← any_not, hc]; rfl
  have key : dbgOk d = (inI d.Points.length (d.At.tdiv d.Every + 1) ((4000 : Int).tdiv d.Every + 1) && pointsFrom d.Every d.Points 0) := by simp [dbgOk, f1, f2, f3, f4, f5, f6, f7]
  have e1 := inI_iff.1 f3
  have e2 := inI_iff.1 f4
  have b1 := tdiv_bd e2.1 (show 0 < d.Every by omega)
  have b2 := tdiv_bd (show (0 : Int) ≤ 4000 by omega) (show 0 < d.Every by omega)
  clear f1 f2 f3 f4 f5 f6 f7 hc
  rw [if_neg (show ¬ d.Every = 0 by omega)]
  simp only [go_sem, Nat.reduceEqDiff, reduceIte, eq_self]
  rw [wrap_small (n := d.At.tdiv d.Every) (by omega) (by omega), wrap_small (n := d.At.tdiv d.Every + 1) (by omega) (by omega)]
  have lo (h : decide ((d.Points.length : Int) < d.At.tdiv d.Every + 1) = false) (h2 : decide ((4000 : Int).tdiv d.Every + 1 < (d.Points.length : Int)) = false) : dbgOk d = pointsFrom d.Every d.Points 0 := by
    rw [key]; have : inI d.Points.length (d.At.tdiv d.Every + 1) ((4000 : Int).tdiv d.Every + 1) = true := by simp [inI]; simp at *; omega
    rw [this]; rfl
  first | (refine grd_split ?_ ?_ <;> intro hc <;> simp only [hc, go_sem, Nat.reduceEqDiff, reduceIte, Bool.not_false, eq_self]) | (refine cnd_split ?_ ?_ <;> intro hc <;> simp only [hc, go_sem, Nat.reduceEqDiff, reduceIte, Bool.not_true, Bool.not_false, Bool.false_eq_true, List.length_cons, List.length_nil, Nat.reduceAdd, List.getElem?_cons_zero, List.getElem?_cons_succ, decide_true, eq_self, List.length_map])
  · rw [if_neg (show ¬ d.Every = 0 by omega)]
    simp only [go_sem, Nat.reduceEqDiff, reduceIte, eq_self]
    rw [wrap_small (n := (4000 : Int).tdiv d.Every) (by omega) (by omega), wrap_small (n := (4000 : Int).tdiv d.Every + 1) (by omega) (by omega)]
    have hc1 := hc
    refine cnd_split ?_ ?_ <;> intro hc <;> simp only [hc, go_sem, Nat.reduceEqDiff, reduceIte, eq_self, List.length_map]
    · refine fin_eq rfl ?_
      rw [key]; simp [inI]; simp at *; omega
    · have hX := lo hc1 hc
      refine Sem.loop (fun i : Nat => i ≤ d.Points.length ∧ dbgOk d = pointsFrom d.Every (d.Points.drop i) i) (fun i => (⟨[(72, .lst 3 (d.Points.map GCheckpoint.enc) false), (73, .int .i64 (d.Points.length : Int)), (74, .int .i64 (i : Nat))], [(1, d.enc)], [.row 1 [.int .i64 d.At] true]⟩ : VSt)) (fun i => d.Points.length - i) 0 (by kernel_rfl) ⟨Nat.zero_le _, by rw [hX]; simp⟩ (Can.sub (by simp [go_sem]) (by simp [go_sem])) ?_
      rintro i ⟨hi, hI⟩
      simp only [go_sem, Nat.reduceEqDiff, reduceIte, eq_self]
      refine cnd_split ?_ ?_ <;> intro hc <;> simp only [hc, go_sem, Nat.reduceEqDiff, reduceIte, eq_self]
      · have hlt : i < d.Points.length := by have := of_decide_eq_true hc; omega
        simp only [List.getElem?_map, List.getElem?_eq_getElem hlt, Option.map_some, go_sem, Nat.reduceEqDiff, reduceIte, eq_self]
        refine lst_all (k := 3) (by rfl) (by rfl) (by exact ⟨_, rfl⟩) (by decide) ?_
        simp only [go_sem, Nat.reduceEqDiff, reduceIte, eq_self]
        have hs : (d.Points[i].Net.sz + d.Points[i].Origins.length) ≤ sumN GCheckpoint.sz d.Points := le_sumN (f := GCheckpoint.sz) (List.getElem_mem hlt)
        have m1 : (0 : Int) ≤ (i : Int) * d.Every := Int.mul_nonneg (by omega) (by omega)
        have m2 : (i : Int) * d.Every ≤ 1048576 * 50 := Int.mul_le_mul (by omega) (by omega) (by omega) (by omega)
        rw [wrap_small (n := (i : Int) * d.Every) (by omega) (by omega)]
        refine grd_split ?_ ?_ <;> intro hc <;> simp only [hc, go_sem, Nat.reduceEqDiff, reduceIte, Bool.not_true, Bool.not_false, eq_self]
        · refine call_pure (c747 (by omega) (by omega)) ?_
          simp only [go_sem, Nat.reduceEqDiff, reduceIte, eq_self]
          refine cnd_split ?_ ?_ <;> intro hc <;> simp only [hc, go_sem, Nat.reduceEqDiff, reduceIte, eq_self]
          · refine fin_eq rfl ?_
            rw [hI, drop_at hlt]; simp_all [pointsFrom]
          · simp only [wrap_succ (show i < 4611686018427387904 by omega)]; refine loopQ_nrm (i + 1) ⟨by omega, ?_⟩ (by omega) (Can.sub (by simp [go_sem]) (by simp [go_sem]))
            rw [hI, drop_at hlt]; simp_all [pointsFrom]
        · refine fin_eq rfl ?_
          rw [hI, drop_at hlt]; simp_all [pointsFrom]
      · obtain rfl : i = d.Points.length := by have := of_decide_eq_false hc; omega
        refine fin_eq rfl ?_
        rw [hI]; simp [pointsFrom]
  · refine fin_eq rfl ?_
    rw [key]; simp [inI]; simp at *; omega
end Go.Ab
namespace Go.Ab
open Go
set_option maxRecDepth 10000
set_option maxHeartbeats 2000000
def oneI (b : Bool) : Int := if b then 1 else 0
def swapB (x y : GAgent) : Bool := swapI x y && !decide (x.Kind = 10 ∧ y.Kind = 9 ∧ (x.Data.length : Int) ≤ y.Value)
def agO (n : GNet) (p : GPair) : Int := classOf (agentAt n (orderP n p).A) (agentAt n (orderP n p).B)
theorem agents_kind : ∀ {l : List GAgent} {i : Nat}, agentsFrom l i = true → ∀ (k : Nat) (hk : k < l.length), (l[k].Kind = 1 ↔ i + k = 0)
  | [], _, _, k, hk => by simp at hk
  | y :: l, i, h, k, hk => by
    simp only [agentsFrom, Bool.and_eq_true] at h
    cases k with
    | zero => have := h.1.2; simp at this ⊢; simp [this]
    | succ k =>
      have := agents_kind h.2 k (by simpa using hk)
      simp only [List.getElem_cons_succ, this]
      omega
theorem agent_kind0 {x : GAgent} (h : agentOk x = true) : x.Kind ≠ 0 := by
  intro e
  simp only [agentOk, Bool.and_eq_true] at h
  have h1 := h.1.1.1
  rw [e] at h1
  simp [portsOf] at h1
theorem net_agents {n : GNet} (h : netOk n = true) : agentsFrom n.Agents 0 = true := by
  simp only [netOk, agentsOk, Bool.and_eq_true] at h; exact h.1.2
theorem ok_level {x : GAgent} (h : agentOk x = true) : levelOk x.Kind x.Level = true := by
  simp only [agentOk, Bool.and_eq_true] at h; exact h.1.2
theorem rule_zero {a b c d : Int} (h : ¬ (a = 5 ∨ a = 4 ∨ a = 2 ∨ a = 6 ∨ a = 9 ∨ a = 12)) : ruleI a b c d = 0 := by
  simp only [ruleI]; repeat' (split <;> try omega)
theorem rule_six {a b c d : Int} (h : ruleI a b c d = 6) : (a = 6 ∧ c = 11) ∨ (a = 9 ∧ c = 10) := by
  simp only [ruleI] at h; repeat' (split at h <;> try omega)
theorem pairOk_symm {a b c d : Int} : pairOk a b c d = pairOk c d a b := by
  simp only [pairOk]
  cases levelOk a b <;> cases levelOk c d <;> cases decide (a = 1) <;> cases decide (c = 1) <;> rfl
theorem rule_ne8 {a b c d : Int} : ruleI a b c d ≠ 8 := by
  simp only [ruleI]; repeat' (split <;> try omega)
theorem class_swap {x y : GAgent} (_hx : agentOk x = true) (_hy : agentOk y = true) (h : firstI x.Kind x.Level y.Kind y.Level = 2) :
    classOf y x = if x.Kind = 10 ∧ y.Kind = 9 ∧ (x.Data.length : Int) ≤ y.Value then 8 else classI x.Kind x.Level y.Kind y.Level := by
  have hp : pairOk x.Kind x.Level y.Kind y.Level = true := by
    simp only [firstI] at h; split at h
    · assumption
    · omega
  simp only [firstI, hp, if_true] at h
  have h1 : ruleI x.Kind x.Level y.Kind y.Level = 0 := by
    rcases Decidable.em (ruleI x.Kind x.Level y.Kind y.Level = 0) with q | q
    · exact q
    · rw [if_pos q] at h; omega
  have h2 : ruleI y.Kind y.Level x.Kind x.Level ≠ 0 := by
    intro q; simp only [h1, q] at h; simp at h
  have e : classI y.Kind y.Level x.Kind x.Level = classI x.Kind x.Level y.Kind y.Level := by
    simp only [classI, pairOk_symm (a := y.Kind), hp, h1, if_true, if_pos h2]
    simp []
  simp only [classOf, e]
  have n1 : ¬ (y.Kind = 10 ∧ x.Kind = 9) := by
    rintro ⟨a, b⟩
    have : ruleI x.Kind x.Level y.Kind y.Level = 6 := by simp [ruleI, a, b]
    omega
  by_cases q : y.Kind = 9 ∧ x.Kind = 10 ∧ (x.Data.length : Int) ≤ y.Value
  · rw [if_pos q, if_pos ⟨q.2.1, q.1, q.2.2⟩]
  · rw [if_neg q, if_neg (by rintro ⟨a, b, c⟩; exact n1 ⟨a, b⟩), if_neg (by rintro ⟨a, b, c⟩; exact q ⟨b, a, c⟩)]
theorem class_stay {x y : GAgent} (hx : agentOk x = true) (hy : agentOk y = true) (h : firstI x.Kind x.Level y.Kind y.Level ≠ 2) :
    classOf x y = if x.Kind = 9 ∧ y.Kind = 10 ∧ (y.Data.length : Int) ≤ x.Value then 8 else classI x.Kind x.Level y.Kind y.Level := by
  simp only [classOf]
  have n1 : ¬ (x.Kind = 10 ∧ y.Kind = 9) := by
    rintro ⟨a, b⟩
    apply h
    have hp : pairOk x.Kind x.Level y.Kind y.Level = true := by
      have q1 := ok_level hx; have q2 := ok_level hy; rw [a] at q1; rw [b] at q2; simp only [pairOk, a, b, q1, q2]; decide
    have r1 : ruleI x.Kind x.Level y.Kind y.Level = 0 := by simp [ruleI, a]
    have r2 : ruleI y.Kind y.Level x.Kind x.Level = 6 := by simp [ruleI, a, b]
    simp [firstI, hp, r1, r2]
  by_cases q : x.Kind = 9 ∧ y.Kind = 10 ∧ (y.Data.length : Int) ≤ x.Value
  · rw [if_pos q, if_pos q]
  · rw [if_neg q, if_neg q, if_neg (by rintro ⟨a, b, c⟩; exact n1 ⟨a, b⟩)]
theorem class_six {x y : GAgent} (h : classI x.Kind x.Level y.Kind y.Level = 6) : firstI x.Kind x.Level y.Kind y.Level = 1 ∧ ruleI x.Kind x.Level y.Kind y.Level = 6 ∨ firstI x.Kind x.Level y.Kind y.Level = 2 ∧ ruleI y.Kind y.Level x.Kind x.Level = 6 := by
  simp only [classI, firstI] at h ⊢
  repeat' (split at h)
  all_goals simp_all
theorem nine_six {x y : GAgent} (hx : agentOk x = true) (hy : agentOk y = true) (a : x.Kind = 9) (b : y.Kind = 10) : classI x.Kind x.Level y.Kind y.Level = 6 ∧ firstI x.Kind x.Level y.Kind y.Level = 1 := by
  have hp : pairOk x.Kind x.Level y.Kind y.Level = true := by
    have q1 := ok_level hx; have q2 := ok_level hy; rw [a] at q1; rw [b] at q2; simp only [pairOk, a, b, q1, q2]; decide
  have r1 : ruleI x.Kind x.Level y.Kind y.Level = 6 := by simp [ruleI, a, b]
  simp [classI, firstI, hp, r1]
theorem ten_six {x y : GAgent} (hx : agentOk x = true) (hy : agentOk y = true) (a : x.Kind = 10) (b : y.Kind = 9) : classI x.Kind x.Level y.Kind y.Level = 6 ∧ firstI x.Kind x.Level y.Kind y.Level = 2 := by
  have hp : pairOk x.Kind x.Level y.Kind y.Level = true := by
    have q1 := ok_level hx; have q2 := ok_level hy; rw [a] at q1; rw [b] at q2; simp only [pairOk, a, b, q1, q2]; decide
  have r1 : ruleI x.Kind x.Level y.Kind y.Level = 0 := by simp [ruleI, a]
  have r2 : ruleI y.Kind y.Level x.Kind x.Level = 6 := by simp [ruleI, a, b]
  simp [classI, firstI, hp, r1, r2]
def ordC (x y : GAgent) : Int := if swapI x y then classOf y x else classOf x y
theorem ordC_eq {x y : GAgent} (hx : agentOk x = true) (hy : agentOk y = true) :
    ordC x y = if classI x.Kind x.Level y.Kind y.Level = 6 ∧ (if swapI x y then x.Kind = 10 ∧ (x.Data.length : Int) ≤ y.Value else y.Kind = 10 ∧ (y.Data.length : Int) ≤ x.Value) then 8 else classI x.Kind x.Level y.Kind y.Level := by
  by_cases h : firstI x.Kind x.Level y.Kind y.Level = 2
  · have hs : swapI x y = true := by simp [swapI, h]
    simp only [ordC, hs, if_true, class_swap hx hy h]
    by_cases q : x.Kind = 10 ∧ y.Kind = 9 ∧ (x.Data.length : Int) ≤ y.Value
    · rw [if_pos q, if_pos ⟨(ten_six hx hy q.1 q.2.1).1, q.1, q.2.2⟩]
    · rw [if_neg q]
      by_cases q2 : classI x.Kind x.Level y.Kind y.Level = 6 ∧ x.Kind = 10 ∧ (x.Data.length : Int) ≤ y.Value
      · exfalso
        rcases class_six q2.1 with ⟨a, _⟩ | ⟨_, a⟩
        · omega
        · rcases rule_six a with ⟨_, a⟩ | ⟨a, _⟩
          · omega
          · exact q ⟨q2.2.1, a, q2.2.2⟩
      · rw [if_neg q2]
  · have hs : swapI x y = false := by simp [swapI, h]
    simp only [ordC, hs, Bool.false_eq_true, if_false, class_stay hx hy h]
    by_cases q : x.Kind = 9 ∧ y.Kind = 10 ∧ (y.Data.length : Int) ≤ x.Value
    · rw [if_pos q, if_pos ⟨(nine_six hx hy q.1 q.2.1).1, q.2.1, q.2.2⟩]
    · rw [if_neg q]
      by_cases q2 : classI x.Kind x.Level y.Kind y.Level = 6 ∧ y.Kind = 10 ∧ (y.Data.length : Int) ≤ x.Value
      · exfalso
        rcases class_six q2.1 with ⟨_, a⟩ | ⟨a, _⟩
        · rcases rule_six a with ⟨_, a⟩ | ⟨a, _⟩
          · omega
          · exact q ⟨a, q2.2.1, q2.2.2⟩
        · omega
      · rw [if_neg q2]
theorem c1502 {k : Int} : Pure Gm 1502 [.int .i64 k] (.bool (isCons k)) := by
  refine Pure.intro [] [] g1502 (by kernel_rfl) rfl (by simp [AV.trees, AV.tree, go_sem]) rfl ?_
  simp only [F1502, vparams, go_sem, Nat.reduceEqDiff, reduceIte, eq_self]
  repeat' (first | (refine lbox_ok rfl ?_; simp only [go_sem, Nat.reduceEqDiff, reduceIte, Bool.not_true, Bool.not_false, Bool.false_eq_true, List.length_cons, List.length_nil, Nat.reduceAdd, List.getElem?_cons_zero, List.getElem?_cons_succ, decide_true, eq_self, List.length_map]) | (first | (refine grd_split ?_ ?_ <;> intro hc <;> simp only [hc, go_sem, Nat.reduceEqDiff, reduceIte, Bool.not_false, eq_self]) | (refine cnd_split ?_ ?_ <;> intro hc <;> simp only [hc, go_sem, Nat.reduceEqDiff, reduceIte, Bool.not_true, Bool.not_false, Bool.false_eq_true, List.length_cons, List.length_nil, Nat.reduceAdd, List.getElem?_cons_zero, List.getElem?_cons_succ, decide_true, eq_self, List.length_map])) | refine fin_eq rfl ?_)
  all_goals (simp_all [isCons])
theorem c1501 {l k m : Int} : Pure Gm 1501 [.int .i64 l, .int .i64 k, .int .i64 m] (.bool (dupl l k m)) := by
  refine Pure.intro [] [] g1501 (by kernel_rfl) rfl (by simp [AV.trees, AV.tree, go_sem]) rfl ?_
  simp only [F1501, vparams, go_sem, Nat.reduceEqDiff, reduceIte, Bool.not_true, Nat.reduceAdd, eq_self]
  repeat' (first | (refine lbox_ok rfl ?_; simp only [go_sem, Nat.reduceEqDiff, reduceIte, Bool.not_true, Bool.not_false, Bool.false_eq_true, List.length_cons, List.length_nil, Nat.reduceAdd, List.getElem?_cons_zero, List.getElem?_cons_succ, decide_true, eq_self, List.length_map]) | (first | (refine grd_split ?_ ?_ <;> intro hc <;> simp only [hc, go_sem, Nat.reduceEqDiff, reduceIte, Bool.not_true, Bool.not_false, eq_self]) | (refine cnd_split ?_ ?_ <;> intro hc <;> simp only [hc, go_sem, Nat.reduceEqDiff, reduceIte, eq_self])) | (refine call_pure (c1495) ?_; simp only [go_sem, Nat.reduceEqDiff, reduceIte, eq_self]) | (refine call_pure (c1389) ?_; simp only [go_sem, Nat.reduceEqDiff, reduceIte, eq_self]) | (refine call_pure (c1375) ?_; simp only [go_sem, Nat.reduceEqDiff, reduceIte, eq_self]) | refine fin_eq rfl ?_)
  all_goals (simp_all [dupl])
theorem c1398 {ka la kb lb : Int} : Pure Gm 1398 [.int .i64 ka, .int .i64 la, .int .i64 kb, .int .i64 lb] (.int .i64 (ruleI ka la kb lb)) := by
  refine Pure.intro [] [] g1398 (by kernel_rfl) rfl (by simp [AV.trees, AV.tree, go_sem]) rfl ?_
  simp only [F1398, vparams, go_sem, Nat.reduceEqDiff, reduceIte, Nat.reduceAdd, eq_self]
  repeat' (first | (refine lbox_ok rfl ?_; simp only [go_sem, Nat.reduceEqDiff, reduceIte, Bool.not_true, Bool.not_false, Bool.false_eq_true, List.length_cons, List.length_nil, Nat.reduceAdd, List.getElem?_cons_zero, List.getElem?_cons_succ, decide_true, eq_self, List.length_map]) | (first | (refine grd_split ?_ ?_ <;> intro hc <;> simp only [hc, go_sem, Nat.reduceEqDiff, reduceIte, Bool.not_true, eq_self]) | (refine cnd_split ?_ ?_ <;> intro hc <;> simp only [hc, go_sem, Nat.reduceEqDiff, reduceIte, Bool.not_true, eq_self])) | (refine call_pure (c1501) ?_; simp only [go_sem, Nat.reduceEqDiff, reduceIte, eq_self]) | (refine call_pure (c1502) ?_; simp only [go_sem, Nat.reduceEqDiff, reduceIte, eq_self]) | refine fin_eq rfl ?_)
  all_goals (simp_all [ruleI])
theorem c1115 {ka la kb lb : Int} : Pure Gm 1115 [.int .i64 ka, .int .i64 la, .int .i64 kb, .int .i64 lb] (.tup [.int .i64 (classI ka la kb lb), .int .i64 (firstI ka la kb lb)]) := by
  refine Pure.intro [] [] g1115 (by kernel_rfl) rfl (by simp [AV.trees, AV.tree, go_sem]) rfl ?_
  simp only [F1115, vparams, go_sem, Nat.reduceEqDiff, reduceIte, Nat.reduceAdd, eq_self]
  repeat' (first | (first | (refine grd_split ?_ ?_ <;> intro hc <;> simp only [hc, go_sem, Nat.reduceEqDiff, reduceIte, Bool.not_true, Bool.not_false, eq_self]) | (refine cnd_split ?_ ?_ <;> intro hc <;> simp only [hc, go_sem, Nat.reduceEqDiff, reduceIte, Bool.not_true, eq_self])) | (refine call_pure c1389 ?_; simp only [go_sem, Nat.reduceEqDiff, reduceIte, eq_self]) | (refine call_pure c1398 ?_; simp only [go_sem, Nat.reduceEqDiff, reduceIte, eq_self]) | refine fin_eqs rfl ?_)
  all_goals (try simp only [Bool.not_eq_true', Bool.not_eq_false', decide_eq_true_eq, decide_eq_false_iff_not, Bool.not_false] at *)
  all_goals (simp [classI, firstI, pairOk, *])
theorem c751 {n : GNet} {a b : Nat} (ha : a < n.Agents.length) (hb : b < n.Agents.length) (ok : netOk n = true) : Pure Gm 751 [.ept n.enc 0, GPair.enc ⟨(a : Int), (b : Int)⟩] (.tup [.int .i64 (ordC n.Agents[a] n.Agents[b]), .bool (swapI n.Agents[a] n.Agents[b] && !decide (ordC n.Agents[a] n.Agents[b] = 8))]) := by
  refine Pure.intro [] [] g751 (by kernel_rfl) rfl (by simp [AV.trees, AV.tree, GNet.tr, GPair.tr]) rfl ?_
  simp only [F751, vparams, go_sem, Nat.reduceEqDiff, reduceIte, Nat.reduceAdd, eq_self]
  refine lbox_ok rfl ?_; simp only [go_sem, Nat.reduceEqDiff, reduceIte, Nat.reduceAdd, eq_self]
  simp only [List.getElem?_map, List.getElem?_eq_getElem ha, Option.map_some, go_sem, Nat.reduceEqDiff, reduceIte, Nat.reduceAdd, eq_self]
  simp only [List.getElem?_eq_getElem hb, Option.map_some, go_sem, Nat.reduceEqDiff, reduceIte, eq_self]
  have oa : agentOk n.Agents[a] = true := agents_at (net_agents ok) _ (List.getElem_mem ha)
  have ob : agentOk n.Agents[b] = true := agents_at (net_agents ok) _ (List.getElem_mem hb)
  have key := ordC_eq oa ob
  obtain ⟨x, hx⟩ : ∃ x, x = n.Agents[a] := ⟨_, rfl⟩
  obtain ⟨y, hy⟩ : ∃ y, y = n.Agents[b] := ⟨_, rfl⟩
  rw [← hx, ← hy] at key
  rw [← hx, ← hy]
  refine lst_all (k := 5) (by rfl) (by rfl) (by exact ⟨_, rfl⟩) (by decide) ?_
  simp only [go_sem, Nat.reduceEqDiff, reduceIte, eq_self]
  refine lst_all (k := 5) (by rfl) (by rfl) (by exact ⟨_, rfl⟩) (by decide) ?_
  simp only [go_sem, Nat.reduceEqDiff, reduceIte, Bool.not_true, eq_self]
  refine call_pure c1115 ?_
  simp only [go_sem, Nat.reduceEqDiff, reduceIte, List.getElem?_cons_zero, List.getElem?_cons_succ, eq_self]
  have c8 : classI x.Kind x.Level y.Kind y.Level = 8 → firstI x.Kind x.Level y.Kind y.Level = 2 → False := by
    intro h1 h2
    simp only [classI, firstI] at h1 h2
    split at h1
    · rename_i hp
      simp only [hp, if_true] at h2
      split at h1
      · exact rule_ne8 h1
      · split at h1
        · exact rule_ne8 h1
        · rename_i q1 q2
          rw [if_neg q1, if_neg q2] at h2; omega
    · omega
  have k8 : classI x.Kind x.Level y.Kind y.Level = 6 → (if swapI x y then x.Kind = 10 ∧ (x.Data.length : Int) ≤ y.Value else y.Kind = 10 ∧ (y.Data.length : Int) ≤ x.Value) → ordC x y = 8 := fun h1 h2 => by rw [key, if_pos ⟨h1, h2⟩]
  have kn : ¬ (classI x.Kind x.Level y.Kind y.Level = 6 ∧ (if swapI x y then x.Kind = 10 ∧ (x.Data.length : Int) ≤ y.Value else y.Kind = 10 ∧ (y.Data.length : Int) ≤ x.Value)) → ordC x y = classI x.Kind x.Level y.Kind y.Level := fun h1 => by rw [key, if_neg h1]
  clear key hx hy oa ob
  have hs : swapI x y = decide (firstI x.Kind x.Level y.Kind y.Level = 2) := rfl
  generalize swapI x y = S at *
  generalize ordC x y = O at *
  generalize classI x.Kind x.Level y.Kind y.Level = C at *
  generalize firstI x.Kind x.Level y.Kind y.Level = F at *
  subst hs
  repeat' (first | (first | (refine grd_split ?_ ?_ <;> intro hc <;> simp only [hc, go_sem, Nat.reduceEqDiff, reduceIte, Bool.not_true, eq_self, List.length_map]) | (refine cnd_split ?_ ?_ <;> intro hc <;> simp only [hc, go_sem, Nat.reduceEqDiff, reduceIte, eq_self])) | (refine lst_all (k := 5) (by rfl) (by rfl) (by exact ⟨_, rfl⟩) (by decide) ?_; simp only [go_sem, Nat.reduceEqDiff, reduceIte, eq_self]) | refine fin_eqs rfl ?_)
  all_goals simp only [Bool.not_true, decide_eq_true_eq, decide_eq_false_iff_not] at *
  all_goals first
    | (have e := k8 (by assumption) (by simp [*]; done); simp [e]; done)
    | (have e := kn (by simp [*]; try omega); simp only [e]; simp [*]; try first | omega | (intro h8; exact c8 h8 (by assumption)))
end Go.Ab
namespace Go.Ab
open Go
set_option maxRecDepth 10000
set_option maxHeartbeats 2000000
def selX (xs : List Int) (k : Int) (m : Nat) : Nat := if xs = [] then 0 else ((xs[k.toNat % xs.length]?).getD 0).toNat % m
def selP (xs : List Int) (ps : List GPair) (k : Int) : GPair := (ps[selX xs k ps.length]?).getD ⟨0, 0⟩
theorem selX_lt {xs : List Int} {k : Int} {m : Nat} (h : 0 < m) : selX xs k m < m := by
  unfold selX; split
  · exact h
  · exact Nat.mod_lt _ h
theorem net_kind {n : GNet} (h : netOk n = true) (k : Nat) (hk : k < n.Agents.length) : (n.Agents[k].Kind = 1 ↔ k = 0) := by
  have := agents_kind (net_agents h) k hk
  rw [this]; omega
theorem net_kind0 {n : GNet} (h : netOk n = true) (k : Nat) (hk : k < n.Agents.length) : n.Agents[k].Kind ≠ 0 :=
  agent_kind0 (agents_at (net_agents h) _ (List.getElem_mem hk))
theorem net_pos {n : GNet} (h : netOk n = true) : 0 < n.Agents.length := by
  simp only [netOk, agentsOk, Bool.and_eq_true] at h
  have := inI_iff.1 h.1.1; omega
theorem pairs_sorted (xs : List GAgent) : ∀ i, (pairsTo xs i).Pairwise (fun p q => p.A < q.A) ∧ ∀ p ∈ pairsTo xs i, p.A ≤ (i : Int)
  | 0 => by simp [pairsTo]
  | i + 1 => by
    obtain ⟨h1, h2⟩ := pairs_sorted xs i
    have h3 : ∀ p ∈ pairAt xs (i + 1), p.A = ((i + 1 : Nat) : Int) := by
      intro p hp; unfold pairAt at hp
      repeat' (split at hp)
      all_goals first | (cases hp; done) | (simp only [List.mem_singleton] at hp; rw [hp])
    have h4 : (pairAt xs (i + 1)).Pairwise (fun p q => p.A < q.A) := by
      have := pairAt_len xs (i + 1)
      match hq : pairAt xs (i + 1) with
      | [] => exact .nil
      | [x] => simp
      | x :: y :: r => rw [hq] at this; simp at this
    refine ⟨?_, ?_⟩
    · simp only [pairsTo, List.pairwise_append]
      refine ⟨h1, h4, fun p hp q hq => ?_⟩
      have := h2 p hp; have := h3 q hq; omega
    · intro p hp
      simp only [pairsTo, List.mem_append] at hp
      rcases hp with hp | hp
      · have := h2 p hp; omega
      · have := h3 p hp; omega
theorem idx_of {α : Type} {p : α → Bool} : ∀ {xs : List α} {k i : Nat} (hk : k < xs.length), p xs[k] = true → (∀ (j : Nat) (hj : j < k), p (xs[j]'(by omega)) = false) → idxFrom p xs i = ((i + k : Nat) : Int)
  | [], _, _, hk, _, _ => by simp at hk
  | x :: xs, 0, i, _, h, _ => by simp only [List.getElem_cons_zero] at h; simp [idxFrom, h]
  | x :: xs, k + 1, i, hk, h, hj => by
    have h0 := hj 0 (by omega)
    simp only [List.getElem_cons_zero] at h0
    simp only [idxFrom, h0, Bool.false_eq_true, if_false]
    rw [idx_of (xs := xs) (k := k) (i := i + 1) (by simpa using hk) (by simpa using h) (fun j hjk => by have := hj (j + 1) (by omega); simpa using this)]
    congr 1; omega
theorem pairs_idx {n : GNet} {k : Nat} (hk : k < (netPairs n).length) : idxFrom (fun x => decide ((netPairs n)[k] = x)) (netPairs n) 0 = (k : Int) := by
  have hs := (pairs_sorted n.Agents (n.Agents.length - 1)).1
  have := idx_of (p := fun x => decide ((netPairs n)[k] = x)) (xs := netPairs n) (k := k) (i := 0) hk (by simp) (fun j hj => by
    have := List.pairwise_iff_getElem.1 hs j k (by simp only [netPairs] at hk; omega) hk hj
    simp only [decide_eq_false_iff_not]
    intro e
    have e2 : (netPairs n)[k].A = (netPairs n)[j].A := by rw [e]
    simp only [netPairs] at e2
    omega)
  rw [this]; simp
theorem c376 {n : GNet} (hz : n.sz ≤ 1048576) (ok : netOk n = true) : Pure Gm 376 [.ept n.enc 0] (.lst 2 ((netPairs n).map GPair.enc) false) := by
  refine Pure.intro [] [] g376 (by kernel_rfl) rfl (by simp [AV.trees, AV.tree, go_sem]) (by simp [AV.tree, trees_map GPair.isSh.tree]) ?_
  simp only [F376, vparams, go_sem, Nat.reduceEqDiff, reduceIte, Nat.reduceAdd, eq_self, List.length_map]
  unfold GNet.sz at hz
  have hnp := net_pos ok
  refine Sem.loop (fun i : Nat => i ≤ n.Agents.length) (fun i => (⟨[(10, .lst 5 (n.Agents.map GAgent.enc) false), (11, .int .i64 (n.Agents.length : Int)), (12, .int .i64 (i : Nat)), (3, .slice 2 0 0 (pairsTo n.Agents (i - 1)).length false)], [], [.row 2 ((pairsTo n.Agents (i - 1)).map GPair.enc) true]⟩ : VSt)) (fun i => n.Agents.length - i) 0 (by kernel_rfl) (Nat.zero_le _) (Can.renum [none] rfl ⟨.ph, trivial⟩ ⟨⟨_, rfl, .tree (by simp [AV.tree, trees_map GAgent.isSh.tree])⟩, ⟨_, rfl, .tree rfl⟩, ⟨_, rfl, .tree rfl⟩, ⟨_, rfl, .ph rfl⟩, trivial⟩ trivial) ?_
  rintro i hi
  simp only [go_sem, Nat.reduceEqDiff, reduceIte, eq_self]
  refine cnd_split ?_ ?_ <;> intro hc <;> simp only [hc, go_sem, Nat.reduceEqDiff, reduceIte, eq_self]
  · have hlt : i < n.Agents.length := by have := of_decide_eq_true hc; omega
    simp only [List.getElem?_map, List.getElem?_eq_getElem hlt, Option.map_some, go_sem, Nat.reduceEqDiff, reduceIte, eq_self]
    have hp0 := net_ports ok _ (List.getElem_mem hlt)
    have hk1 := net_kind ok i hlt
    have hk0 := net_kind0 ok i hlt
    refine lst_all (k := 5) (by rfl) (by rfl) (by exact ⟨_, rfl⟩) (by decide) ?_
    simp only [go_sem, Nat.reduceEqDiff, reduceIte, eq_self]
    simp only [List.getElem?_map, List.getElem?_eq_getElem hp0, Option.map_some, go_sem, Nat.reduceEqDiff, reduceIte, eq_self]
    refine lst_all (k := 2) (by rfl) (by rfl) (by exact ⟨_, rfl⟩) (by decide) ?_
    simp only [go_sem, Nat.reduceEqDiff, reduceIte, eq_self]
    have same (hn : ¬ (n.Agents[i].Ports[0].Slot = 0 ∧ (i : Int) < n.Agents[i].Ports[0].Agent ∧ n.Agents[i].Kind ≠ 1)) : pairsTo n.Agents (i + 1 - 1) = pairsTo n.Agents (i - 1) := by
      cases i with
      | zero => rfl
      | succ i =>
        have h1 : n.Agents[i + 1].Kind ≠ 1 := by intro q; have := hk1.1 q; omega
        have : ¬ (n.Agents[i + 1].Ports[0].Slot = 0 ∧ ((i + 1 : Nat) : Int) < n.Agents[i + 1].Ports[0].Agent) := by rintro ⟨q1, q2⟩; exact hn ⟨q1, q2, h1⟩
        simp only [Nat.add_sub_cancel, pairsTo, pairAt, List.getElem?_eq_getElem hlt, List.getElem?_eq_getElem hp0, if_neg hk0, if_neg this, List.append_nil]
    have more (hn : n.Agents[i].Ports[0].Slot = 0 ∧ (i : Int) < n.Agents[i].Ports[0].Agent ∧ n.Agents[i].Kind ≠ 1) : pairsTo n.Agents (i + 1 - 1) = pairsTo n.Agents (i - 1) ++ [⟨(i : Int), n.Agents[i].Ports[0].Agent⟩] := by
      cases i with
      | zero => exact absurd (hk1.2 rfl) hn.2.2
      | succ i =>
        simp only [Nat.add_sub_cancel, pairsTo, pairAt, List.getElem?_eq_getElem hlt, List.getElem?_eq_getElem hp0, if_neg hk0]
        rw [if_pos ⟨hn.1, hn.2.1⟩]
    clear hk1 hk0
    repeat' (first | (first | (refine grd_split ?_ ?_ <;> intro hc <;> simp only [hc, go_sem, Nat.reduceEqDiff, reduceIte, Bool.not_true, eq_self]) | (refine cnd_split ?_ ?_ <;> intro hc <;> simp only [hc, go_sem, Nat.reduceEqDiff, reduceIte, List.length_cons, List.length_nil, Nat.reduceAdd, eq_self])))
    case refine_1.refine_1.refine_1 =>
      have e := more ⟨by simp_all, by simp_all, by simp_all⟩
      refine app_one (el := (pairsTo n.Agents (i - 1)).map GPair.enc) rfl rfl (by simp) (by have := pairsTo_len n.Agents (i - 1); omega) ?_
      simp only [go_sem, Nat.reduceEqDiff, reduceIte, eq_self]
      simp only [wrap_succ (show i < 4611686018427387904 by omega)]
      refine loopQ_nrm (i + 1) (by omega) (by omega) ?_
      simp only [e, List.length_append, List.length_cons, List.length_nil, Nat.zero_add]
      refine Can.renum [some 2] rfl ⟨.row rfl ?_, trivial⟩ ⟨⟨_, rfl, .tree (by simp [AV.tree, trees_map GAgent.isSh.tree])⟩, ⟨_, rfl, .tree rfl⟩, ⟨_, rfl, .tree rfl⟩, ⟨_, rfl, .slice rfl⟩, trivial⟩ trivial
      rw [List.map_append]
      have t := trees_map GPair.isSh.tree (pairsTo n.Agents (i - 1) ++ [⟨(i : Int), n.Agents[i].Ports[0].Agent⟩])
      rw [List.map_append] at t
      exact VR2s.trees t
    all_goals
      simp only [wrap_succ (show i < 4611686018427387904 by omega)]
      refine loopQ_nrm (i + 1) (by omega) (by omega) ?_
      rw [same (by simp_all <;> omega)]
      exact Can.sub (by simp [go_sem]) (by simp [go_sem])
  · obtain rfl : i = n.Agents.length := by have := of_decide_eq_false hc; omega
    refine fin_cv (Cv.row rfl (by simp [netPairs]) (trees_map GPair.isSh.tree _) (by omega))
theorem c750 {xs : List Int} {ps : List GPair} {k : Int} (hk : 0 ≤ k) (hs : schedOk xs = true) (hp : 0 < ps.length) : Pure Gm 750 [.lst 1 (xs.map encI) false, .lst 2 (ps.map GPair.enc) false, .int .i64 k] ((selP xs ps k).enc) := by
  refine Pure.intro [] [] g750 (by kernel_rfl) rfl (by simp [AV.trees, AV.tree, trees_map GPair.isSh.tree, trees_map shI.tree]) (by exact GPair.tr) ?_
  simp only [F750, vparams, go_sem, Nat.reduceEqDiff, reduceIte, Nat.reduceAdd, eq_self, List.length_map]
  have sl := selX_lt (xs := xs) (k := k) hp
  have e : selP xs ps k = ps[selX xs k ps.length] := by simp [selP, List.getElem?_eq_getElem sl]
  rw [e]
  refine cnd_split ?_ ?_ <;> intro hc <;> simp only [hc, go_sem, Nat.reduceEqDiff, reduceIte, eq_self, List.length_map]
  · have h1 : 0 < xs.length := by have := of_decide_eq_true hc; omega
    rw [if_neg (by omega), tmodN hk]
    have hlt := Nat.mod_lt k.toNat h1
    simp only [go_sem, Nat.reduceEqDiff, reduceIte, eq_self]
    simp only [List.getElem?_map, List.getElem?_eq_getElem hlt, Option.map_some, go_sem, Nat.reduceEqDiff, reduceIte, eq_self]
    simp only [encI, go_sem, Nat.reduceEqDiff, reduceIte, eq_self, List.length_map]
    rw [if_neg (by omega), tmodN (sched_at hs hlt)]
    have e2 : xs[k.toNat % xs.length].toNat % ps.length = selX xs k ps.length := by
      rw [selX, if_neg (by intro h; rw [h] at h1; cases h1), List.getElem?_eq_getElem hlt]; rfl
    rw [e2]
    simp only [go_sem, Nat.reduceEqDiff, reduceIte, eq_self]
    simp only [List.getElem?_map, List.getElem?_eq_getElem sl, Option.map_some, go_sem, Nat.reduceEqDiff, reduceIte, eq_self]
    refine lst_all (k := 2) (by rfl) (by rfl) (by exact ⟨_, rfl⟩) (by decide) ?_
    simp only [go_sem, reduceIte, eq_self]
    exact fin_eq GPair.tr rfl
  · have h1 : xs = [] := by have := of_decide_eq_false hc; exact List.eq_nil_of_length_eq_zero (by omega)
    have e2 : 0 = selX xs k ps.length := by rw [selX, if_pos h1]
    rw [if_neg (by omega)]
    simp only [Int.zero_tmod]
    simp only [go_sem, Nat.reduceEqDiff, reduceIte, eq_self]
    simp only [← e2] at sl ⊢
    simp only [List.getElem?_map, List.getElem?_eq_getElem sl, Option.map_some, go_sem, Nat.reduceEqDiff, reduceIte, eq_self]
    refine lst_all (k := 2) (by rfl) (by rfl) (by exact ⟨_, rfl⟩) (by decide) ?_
    simp only [go_sem, reduceIte, eq_self]
    exact fin_eq GPair.tr rfl
theorem c375 {xs : List GPair} {v : GPair} (hl : xs.length ≤ 1048576) : Pure Gm 375 [.lst 2 (xs.map GPair.enc) false, v.enc] (.int .i64 (idxFrom (fun x => decide (v = x)) xs 0)) := by
  refine Pure.intro [] [] g375 (by kernel_rfl) rfl (by simp [AV.trees, AV.tree, trees_map GPair.isSh.tree, GPair.tr]) rfl ?_
  simp only [F375, vparams, go_sem, Nat.reduceEqDiff, reduceIte, Nat.reduceAdd, eq_self]
  refine lbox_ok rfl ?_; simp only [go_sem, Nat.reduceEqDiff, reduceIte, eq_self, List.length_map]
  refine Sem.loop (fun i : Nat => i ≤ xs.length ∧ idxFrom (fun x => decide (v = x)) xs 0 = idxFrom (fun x => decide (v = x)) (xs.drop i) i) (fun i => (⟨[(0, .lst 2 (xs.map GPair.enc) false), (7, .int .i64 (xs.length : Int)), (8, .int .i64 (i : Nat))], [(3, v.enc)], []⟩ : VSt)) (fun i => xs.length - i) 0 (by kernel_rfl) ⟨Nat.zero_le _, by simp⟩ (Can.sub (by simp [go_sem]) (by simp [go_sem])) ?_
  rintro i ⟨hi, hI⟩
  simp only [go_sem, Nat.reduceEqDiff, reduceIte, eq_self]
  refine cnd_split ?_ ?_ <;> intro hc <;> simp only [hc, go_sem, Nat.reduceEqDiff, reduceIte, eq_self]
  · have hlt : i < xs.length := by have := of_decide_eq_true hc; omega
    simp only [List.getElem?_map, List.getElem?_eq_getElem hlt, Option.map_some, go_sem, Nat.reduceEqDiff, reduceIte, eq_self]
    refine cnd_split ?_ ?_ <;> intro hc <;> simp only [hc, go_sem, Nat.reduceEqDiff, reduceIte, eq_self]
    · refine fin_eq rfl ?_
      rw [hI, drop_at hlt]
      simp [idxFrom, hc]
    · simp only [wrap_succ (show i < 4611686018427387904 by omega)]; refine loopQ_nrm (i + 1) ⟨by omega, ?_⟩ (by omega) (Can.sub (by simp [go_sem]) (by simp [go_sem]))
      rw [hI, drop_at hlt]
      simp [idxFrom, hc]
  · obtain rfl : i = xs.length := by have := of_decide_eq_false hc; omega
    refine fin_eq rfl ?_
    rw [hI]; simp [idxFrom]
end Go.Ab
namespace Go.Ab
open Go
set_option maxRecDepth 10000
set_option maxHeartbeats 2000000
def upP (d : GDebugger) : GPair := selP d.Schedule (netPairs d.Net) d.At
def upC (d : GDebugger) : Int := ordC (agentAt d.Net (upP d).A) (agentAt d.Net (upP d).B)
def upS (d : GDebugger) : Bool := swapI (agentAt d.Net (upP d).A) (agentAt d.Net (upP d).B) && !decide (upC d = 8)
def upX (d : GDebugger) : Int := if upS d then (upP d).B else (upP d).A
def upY (d : GDebugger) : Int := if upS d then (upP d).A else (upP d).B
def upD (d : GDebugger) : Int := if upC d = 7 then (agentAt d.Net (upX d)).Value else -1
def upV (d : GDebugger) : AV := if netPairs d.Net = [] then .tup [.agg [.int .i64 0, .int .i64 0, .int .i64 0, .int .i64 0, .int .i64 0, .int .i64 0], .bool false]
  else .tup [.agg [.int .i64 (upP d).A, .int .i64 (upP d).B, .int .i64 (upC d), .int .i64 (upX d), .int .i64 (upY d), .int .i64 (upD d)], .bool true]
theorem upV_tr (d : GDebugger) : (upV d).tree = true := by unfold upV; split <;> rfl
theorem upP_at {d : GDebugger} (h : 0 < (netPairs d.Net).length) : ∃ hk : selK d (netPairs d.Net).length < (netPairs d.Net).length, upP d = (netPairs d.Net)[selK d (netPairs d.Net).length] := by
  have sl : selK d (netPairs d.Net).length < (netPairs d.Net).length := selX_lt (xs := d.Schedule) (k := d.At) h
  exact ⟨sl, by show (((netPairs d.Net)[selK d (netPairs d.Net).length]?).getD ⟨0, 0⟩) = _; rw [List.getElem?_eq_getElem sl]; rfl⟩
theorem upC_eq (d : GDebugger) : upC d = classOf (agentAt d.Net (orderP d.Net (upP d)).A) (agentAt d.Net (orderP d.Net (upP d)).B) := by
  unfold upC ordC orderP; split <;> rfl
theorem upX_eq {d : GDebugger} (h : upC d ≠ 8) : upX d = (orderP d.Net (upP d)).A := by
  simp only [upX, upS, h, decide_false, Bool.not_false, Bool.and_true, orderP]; split <;> rfl
theorem nextI_up {d : GDebugger} (ok : dbgOk d = true) : nextI d = if netPairs d.Net = [] then .tup [.int .i64 0, .int .i64 0, .int .i64 0, .int .i64 3] else .tup [.int .i64 ((selK d (netPairs d.Net).length : Nat) : Int), .int .i64 (upC d), .int .i64 (upD d), .int .i64 0] := by
  by_cases h : netPairs d.Net = []
  · simp [nextI, ok, nextOf, h]
  · have hl : 0 < (netPairs d.Net).length := by cases hq : netPairs d.Net with
      | nil => exact absurd hq h
      | cons a b => simp
    obtain ⟨sl, e⟩ := upP_at hl
    have e2 : nextOf d = some (selK d (netPairs d.Net).length, orderP d.Net (upP d), upC d) := by
      rw [upC_eq, e, nextOf, List.getElem?_eq_getElem sl]
    simp only [nextI, ok, if_true, e2, if_neg h]
    congr 4
    by_cases h7 : upC d = 7
    · simp only [if_pos h7, upD, upX_eq (show upC d ≠ 8 by omega)]
    · simp only [if_neg h7, upD]
theorem c374 {d : GDebugger} (hz : d.sz ≤ 1048576) (ok : dbgOk d = true) : Pure Gm 374 [.ept d.enc 0] (upV d) := by
  refine Pure.intro [] [] g374 (by kernel_rfl) rfl (by simp [AV.trees, AV.tree, go_sem]) (by exact upV_tr d) ?_
  simp only [F374, vparams, go_sem, Nat.reduceEqDiff, reduceIte, Bool.not_true, Nat.reduceAdd, eq_self]
  unfold GDebugger.sz at hz
  have hn := dbg_net ok
  have hzn : d.Net.sz ≤ 1048576 := by omega
  have hs : inI d.At 0 4000 = true ∧ schedOk d.Schedule = true := by simp only [dbgOk, Bool.and_eq_true] at ok; simp_all
  have ha := inI_iff.1 hs.1
  have conv : Cvs (only [] []) [.ept d.enc 4] [.ept d.Net.enc 0] := Cvs.cons (.sub GDebugger.tr (GDebugger.q4_1) (by rw [GNet.ln]; decide)) Cvs.nil
  have conv2 (p : GPair) : Cvs (only [] []) [.ept d.enc 4, p.enc] [.ept d.Net.enc 0, p.enc] := Cvs.cons (.sub GDebugger.tr (GDebugger.q4_1) (by rw [GNet.ln]; decide)) (Cvs.cons (.refl GPair.tr) Cvs.nil)
  refine call_conv conv (c376 hzn hn) ?_
  simp only [go_sem, Nat.reduceEqDiff, reduceIte, eq_self, List.length_map]
  refine cnd_split ?_ ?_ <;> intro hc <;> simp only [hc, go_sem, Nat.reduceEqDiff, reduceIte, Bool.not_true, Nat.reduceAdd, eq_self]
  · refine lst_all (k := 6) (by rfl) (by rfl) (by exact ⟨_, rfl⟩) (by decide) ?_
    simp only [go_sem, Nat.reduceEqDiff, reduceIte, eq_self]
    have : netPairs d.Net = [] := by simpa using hc
    refine fin_eqs (upV_tr d) ?_
    simp [upV, this]
  · have hm : 0 < (netPairs d.Net).length := by have := of_decide_eq_false hc; omega
    have hne : netPairs d.Net ≠ [] := by intro q; rw [q] at hm; simp at hm
    refine call_pure (c750 ha.1 hs.2 hm) ?_
    simp only [go_sem, Nat.reduceEqDiff, reduceIte, eq_self]
    obtain ⟨sl, e⟩ := upP_at hm
    have ok2 := pairsTo_ok hn (show (netPairs d.Net)[selK d (netPairs d.Net).length] ∈ pairsTo d.Net.Agents (d.Net.Agents.length - 1) from List.getElem_mem sl)
    rw [← e] at ok2
    have hv : upV d = .tup [.agg [.int .i64 (upP d).A, .int .i64 (upP d).B, .int .i64 (upC d), .int .i64 (upX d), .int .i64 (upY d), .int .i64 (upD d)], .bool true] := by simp [upV, hne]
    rw [show selP d.Schedule (netPairs d.Net) d.At = upP d from rfl]
    have eC : upC d = ordC (agentAt d.Net (upP d).A) (agentAt d.Net (upP d).B) := rfl
    have eS : upS d = (swapI (agentAt d.Net (upP d).A) (agentAt d.Net (upP d).B) && !decide (upC d = 8)) := rfl
    have eX : upX d = if upS d then (upP d).B else (upP d).A := rfl
    have eY : upY d = if upS d then (upP d).A else (upP d).B := rfl
    have eD : upD d = if upC d = 7 then (agentAt d.Net (upX d)).Value else -1 := rfl
    have tv := upV_tr d
    obtain ⟨V, hV⟩ : ∃ V, V = upV d := ⟨_, rfl⟩
    rw [← hV] at hv tv
    rw [← hV]
    obtain ⟨p, hp⟩ : ∃ p, p = upP d := ⟨_, rfl⟩
    rw [← hp] at ok2 hv eC eS eX eY
    rw [← hp]
    obtain ⟨a, b, rfl, la, lb⟩ := ok2
    have e1 : agentAt d.Net (a : Int) = d.Net.Agents[a] := by simp [agentAt, List.getElem?_eq_getElem la]
    have e2 : agentAt d.Net (b : Int) = d.Net.Agents[b] := by simp [agentAt, List.getElem?_eq_getElem lb]
    simp only [e1, e2] at eC eS
    refine lst_all (k := 2) (by rfl) (by rfl) (by exact ⟨_, rfl⟩) (by decide) ?_
    simp only [go_sem, Nat.reduceEqDiff, reduceIte, Bool.not_true, Nat.reduceAdd, eq_self]
    refine call_conv (conv2 _) (c751 la lb hn) ?_
    rw [← eC, ← eS]
    simp only [go_sem, Nat.reduceEqDiff, reduceIte, List.length_cons, List.length_nil, Nat.reduceAdd, List.getElem?_cons_zero, List.getElem?_cons_succ, eq_self]
    refine lst_all (k := 6) (by rfl) (by rfl) (by exact ⟨_, rfl⟩) (by decide) ?_
    simp only [go_sem, Nat.reduceEqDiff, reduceIte, eq_self]
    refine cnd_split ?_ ?_ <;> intro hc <;> simp only [hc, go_sem, Nat.reduceEqDiff, reduceIte, eq_self]
    · rw [if_pos hc] at eX eY
      rename_i hc0
      refine cnd_split ?_ ?_ <;> intro hc <;> simp only [hc, go_sem, Nat.reduceEqDiff, reduceIte, Nat.reduceAdd, List.getElem?_cons_zero, List.getElem?_cons_succ, eq_self]
      · rw [if_pos (by simpa using hc), eX] at eD
        simp only [List.getElem?_map, List.getElem?_eq_getElem lb, Option.map_some, go_sem, Nat.reduceEqDiff, reduceIte, Nat.reduceAdd, eq_self]
        refine lst_all (k := 6) (by rfl) (by rfl) (by exact ⟨_, rfl⟩) (by decide) ?_
        simp only [go_sem, Nat.reduceEqDiff, reduceIte, eq_self]
        refine fin_eqs tv ?_
        rw [hv, eX, eY, eD, e2]
      · rw [if_neg (by simpa using hc)] at eD
        refine lst_all (k := 6) (by rfl) (by rfl) (by exact ⟨_, rfl⟩) (by decide) ?_
        simp only [go_sem, Nat.reduceEqDiff, reduceIte, eq_self]
        refine fin_eqs tv ?_
        rw [hv, eX, eY, eD]
    · rw [if_neg (by simp [hc])] at eX eY
      refine cnd_split ?_ ?_ <;> intro hc <;> simp only [hc, go_sem, Nat.reduceEqDiff, reduceIte, Nat.reduceAdd, List.getElem?_cons_zero, List.getElem?_cons_succ, eq_self]
      · rw [if_pos (by simpa using hc), eX] at eD
        simp only [List.getElem?_map, List.getElem?_eq_getElem la, Option.map_some, go_sem, Nat.reduceEqDiff, reduceIte, Nat.reduceAdd, eq_self]
        refine lst_all (k := 6) (by rfl) (by rfl) (by exact ⟨_, rfl⟩) (by decide) ?_
        simp only [go_sem, Nat.reduceEqDiff, reduceIte, eq_self]
        refine fin_eqs tv ?_
        rw [hv, eX, eY, eD, e1]
      · rw [if_neg (by simpa using hc)] at eD
        refine lst_all (k := 6) (by rfl) (by rfl) (by exact ⟨_, rfl⟩) (by decide) ?_
        simp only [go_sem, Nat.reduceEqDiff, reduceIte, eq_self]
        refine fin_eqs tv ?_
        rw [hv, eX, eY, eD]
theorem c107 {d : GDebugger} (hz : d.sz ≤ 1048576) : Pure Gm 107 [d.enc] (nextI d) := by
  refine Pure.intro [1] [] g107 (by kernel_rfl) rfl (by simp [AV.trees, go_sem]) (by exact nextI_tr d) ?_
  simp only [F107, vparams, go_sem, Nat.reduceEqDiff, reduceIte, eq_self]
  have hz' := hz
  unfold GDebugger.sz at hz'
  refine hbox_ok rfl ?_
  simp only [go_sem, Nat.reduceEqDiff, reduceIte, Bool.not_true, List.length_nil, List.getElem?_cons_zero, eq_self, List.nil_append, List.set_cons_zero]
  refine call_pure (c373 hz) ?_
  simp only [go_sem, Nat.reduceEqDiff, reduceIte, eq_self]
  refine cnd_split ?_ ?_ <;> intro hc <;> simp only [hc, go_sem, Nat.reduceEqDiff, reduceIte, Bool.not_true, eq_self]
  · refine fin_eqs (nextI_tr d) ?_
    have : dbgOk d = false := by simpa using hc
    simp [nextI, this]
  · have ho : dbgOk d = true := by simpa using hc
    have hn := dbg_net ho
    have c := c374 hz ho
    have e := nextI_up ho
    have tr := nextI_tr d
    have conv {h : List AObj} : Cvs h [.ept d.enc 4] [.ept d.Net.enc 0] := Cvs.cons (.sub GDebugger.tr (GDebugger.q4_1) (by rw [GNet.ln]; decide)) Cvs.nil
    by_cases hne : netPairs d.Net = []
    · rw [if_pos hne] at e
      simp only [upV, if_pos hne] at c
      refine call_pure c ?_
      simp only [go_sem, Nat.reduceEqDiff, reduceIte, List.getElem?_cons_zero, List.getElem?_cons_succ, eq_self]
      refine lst_all (k := 6) (by rfl) (by rfl) (by exact ⟨_, rfl⟩) (by decide) ?_
      simp only [go_sem, Nat.reduceEqDiff, reduceIte, Bool.not_false, eq_self]
      exact fin_eqs tr e.symm
    · have hm : 0 < (netPairs d.Net).length := by cases hq : netPairs d.Net with
        | nil => exact absurd hq hne
        | cons a b => simp
      rw [if_neg hne] at e
      simp only [upV, if_neg hne] at c
      refine call_pure c ?_
      simp only [go_sem, Nat.reduceEqDiff, reduceIte, List.getElem?_cons_zero, List.getElem?_cons_succ, eq_self]
      refine lst_all (k := 6) (by rfl) (by rfl) (by exact ⟨_, rfl⟩) (by decide) ?_
      simp only [go_sem, Nat.reduceEqDiff, reduceIte, Bool.not_true, Nat.reduceAdd, List.getElem?_cons_zero, List.getElem?_cons_succ, eq_self]
      refine call_conv conv (c376 (by omega) hn) ?_
      simp only [go_sem, Nat.reduceEqDiff, reduceIte, Bool.not_true, eq_self]
      have hl := netPairs_len d.Net
      have hzz : d.Net.Agents.length ≤ d.Net.sz := by unfold GNet.sz; omega
      rw [show AV.agg [.int .i64 (upP d).A, .int .i64 (upP d).B] = (upP d).enc from rfl]
      refine call_pure (c375 (by omega)) ?_
      simp only [go_sem, Nat.reduceEqDiff, reduceIte, eq_self]
      refine fin_eqs tr ?_
      obtain ⟨sl, e3⟩ := upP_at hm
      rw [e, e3, pairs_idx sl]
theorem nextI_four (d : GDebugger) : ∃ a b c e : Int, nextI d = .tup [.int .i64 a, .int .i64 b, .int .i64 c, .int .i64 e] := by
  unfold nextI; split
  · split
    · exact ⟨_, _, _, _, rfl⟩
    · exact ⟨_, _, _, _, rfl⟩
  · exact ⟨_, _, _, _, rfl⟩
theorem c8 {d : GDebugger} (hb : d.bd) : Pure Gm 8 [d.enc] (.bool true) := by
  refine Pure.intro [] [] g8 (by kernel_rfl) rfl (by simp [AV.trees, GDebugger.tr]) rfl ?_
  simp only [F8, vparams, go_sem, reduceIte, eq_self]
  refine lbox_ok rfl ?_; simp only [go_sem, Nat.reduceEqDiff, reduceIte, Bool.not_true, eq_self]
  refine call_pure (c104 d hb 1048576 (by omega)) ?_
  simp only [go_sem, Nat.reduceEqDiff, reduceIte, eq_self]
  refine cnd_split ?_ ?_ <;> intro hc <;> simp only [hc, go_sem, Nat.reduceEqDiff, reduceIte, Bool.not_true, eq_self]
  · exact fin_eq rfl rfl
  · have hz : d.sz ≤ 1048576 := by
      have := of_decide_eq_false hc
      rw [leftI_lt] at this; omega
    obtain ⟨a, b, c, e, hn⟩ := nextI_four d
    have k1 := c105 hz
    have k2 := c107 hz
    rw [hn] at k1 k2
    refine call_pure (c106 d hz) ?_
    simp only [go_sem, Nat.reduceEqDiff, reduceIte, Bool.not_true, eq_self]
    refine call_pure k1 ?_
    simp only [go_sem, Nat.reduceEqDiff, reduceIte, Bool.not_true, List.getElem?_cons_zero, List.getElem?_cons_succ, eq_self]
    refine call_pure (c106 d hz) ?_
    simp only [go_sem, Nat.reduceEqDiff, reduceIte, eq_self]
    refine lst_all (k := 8) (by rfl) (by rfl) (by exact ⟨_, rfl⟩) (by decide) ?_
    simp only [go_sem, Nat.reduceEqDiff, reduceIte, Bool.not_true, eq_self]
    refine call_pure k2 ?_
    simp only [go_sem, Nat.reduceEqDiff, reduceIte, Bool.not_true, List.getElem?_cons_zero, List.getElem?_cons_succ, decide_true, eq_self]
    refine call_pure (c106 d hz) ?_
    simp only [go_sem, Nat.reduceEqDiff, reduceIte, Bool.not_true, eq_self]
    refine call_pure (c108 d hz) ?_
    simp only [go_sem, Nat.reduceEqDiff, reduceIte, Bool.not_true, eq_self]
    exact fin_eq rfl rfl
end Go.Ab
namespace Go.Ab
open Go
set_option maxRecDepth 10000
set_option maxHeartbeats 2000000
def meetI (c f n : Int) (b : GBreak) : Bool := decide (b.Kind = 1) && decide (b.Value = c) || decide (b.Kind = 2) && decide (b.Value = f) || decide (b.Kind = 3) && decide (b.Value ≤ n)
def meetJ (c f n : Int) (b : GBreak) : Bool := if b.Kind = 1 then decide (b.Value = c) else if b.Kind = 2 then decide (b.Value = f) else decide (b.Value ≤ n)
theorem meet_eq {c f n : Int} {b : GBreak} (h : breakOk b = true) : meetJ c f n b = meetI c f n b := by
  unfold breakOk at h
  unfold meetJ meetI
  repeat' (split at h)
  all_goals first | (simp [*]; done) | (cases h; done)
theorem idx_congr {α : Type} {p q : α → Bool} : ∀ {xs : List α} {i : Nat}, (∀ x ∈ xs, p x = q x) → idxFrom p xs i = idxFrom q xs i
  | [], _, _ => rfl
  | x :: xs, i, h => by
    simp only [idxFrom, h x (by simp)]
    rw [idx_congr (xs := xs) (i := i + 1) fun y hy => h y (by simp [hy])]
def metI (d : GDebugger) : Int := if netPairs d.Net = [] then -1 else idxFrom (meetI (upC d) (upD d) d.Net.Agents.length) d.Breaks 0
theorem upD_eq (d : GDebugger) : upD d = if upC d = 7 then (agentAt d.Net (orderP d.Net (upP d)).A).Value else -1 := by
  by_cases h7 : upC d = 7
  · simp only [if_pos h7, upD, upX_eq (show upC d ≠ 8 by omega)]
  · simp only [if_neg h7, upD]
theorem nextV_up {d : GDebugger} (h : netPairs d.Net ≠ []) : ∃ k : Int, nextV d = .tup [.int .i64 k, (orderP d.Net (upP d)).enc, .int .i64 (upC d), .bool true] := by
  have hl : 0 < (netPairs d.Net).length := by cases hq : netPairs d.Net with
    | nil => exact absurd hq h
    | cons a b => simp
  obtain ⟨sl, e⟩ := upP_at hl
  refine ⟨(selK d (netPairs d.Net).length : Nat), ?_⟩
  rw [upC_eq, e, nextV, nextOf, List.getElem?_eq_getElem sl]
theorem order_at {d : GDebugger} (ok : dbgOk d = true) (h : netPairs d.Net ≠ []) : (orderP d.Net (upP d)).A.toNat < d.Net.Agents.length ∧ 0 ≤ (orderP d.Net (upP d)).A := by
  have hl : 0 < (netPairs d.Net).length := by cases hq : netPairs d.Net with
    | nil => exact absurd hq h
    | cons a b => simp
  obtain ⟨sl, e⟩ := upP_at hl
  have hn := dbg_net ok
  have ok2 := pairsTo_ok hn (show (netPairs d.Net)[selK d (netPairs d.Net).length] ∈ pairsTo d.Net.Agents (d.Net.Agents.length - 1) from List.getElem_mem sl)
  rw [← e] at ok2
  obtain ⟨a, b, hp, la, lb⟩ := order_ok ok2
  rw [hp]
  exact ⟨by simpa using la, by simp⟩
def matchI (d : GDebugger) : AV := if dbgOk d then (if metI d < 0 then .tup [.int .i64 0, .int .i64 3] else .tup [.int .i64 (metI d), .int .i64 0]) else .tup [.int .i64 0, .int .i64 1]
theorem matchI_tr (d : GDebugger) : (matchI d).tree = true := by unfold matchI; repeat' (split <;> try rfl)
theorem matchI_two (d : GDebugger) : ∃ a b : Int, matchI d = .tup [.int .i64 a, .int .i64 b] := by
  unfold matchI; repeat' split
  all_goals exact ⟨_, _, rfl⟩
theorem dbg_breaks {d : GDebugger} (h : dbgOk d = true) : ∀ b ∈ d.Breaks, breakOk b = true := by
  simp only [dbgOk, Bool.and_eq_true] at h
  exact fun b hb => List.all_eq_true.1 h.1.1.2 b hb
theorem c393 {d : GDebugger} (hz : d.sz ≤ 1048576) (ok : dbgOk d = true) : Pure Gm 393 [.ept d.enc 0] (.int .i64 (metI d)) := by
  refine Pure.intro [] [] g393 (by kernel_rfl) rfl (by simp [AV.trees, AV.tree, go_sem]) rfl ?_
  simp only [F393, vparams, go_sem, Nat.reduceEqDiff, reduceIte, Bool.not_true, eq_self]
  have hz' := hz
  unfold GDebugger.sz at hz'
  have c := c368 hz ok
  by_cases hne : netPairs d.Net = []
  · have e : nextV d = .tup [.int .i64 0, .agg [.int .i64 0, .int .i64 0], .int .i64 0, .bool false] := by simp [nextV, nextOf, hne]
    rw [e] at c
    refine call_pure c ?_
    simp only [go_sem, Nat.reduceEqDiff, reduceIte, List.getElem?_cons_zero, List.getElem?_cons_succ, eq_self]
    refine lst_all (k := 2) (by rfl) (by rfl) (by exact ⟨_, rfl⟩) (by decide) ?_
    simp only [go_sem, Nat.reduceEqDiff, reduceIte, eq_self]
    refine Sem.loop (fun _ : Unit => True) (fun _ => (⟨[(0, .ept d.enc 0), (6, .bool false), (7, .int .i64 0)], [], []⟩ : VSt)) (fun _ => 0) () (by kernel_rfl) trivial (Can.sub (by simp [go_sem]) (by simp [go_sem])) ?_
    rintro _ _
    simp only [go_sem, Nat.reduceEqDiff, reduceIte, Nat.reduceAdd, eq_self, List.length_map]
    refine grd_split ?_ ?_ <;> intro hc <;> simp only [hc, go_sem, Nat.reduceEqDiff, reduceIte, Bool.not_true, eq_self]
    · refine fin_eq rfl ?_
      simp [metI, hne]
    · refine fin_eq rfl ?_
      simp [metI, hne]
  · obtain ⟨k, e⟩ := nextV_up hne
    have hp := order_at ok hne
    have hD := upD_eq d
    have hM : metI d = idxFrom (meetI (upC d) (upD d) d.Net.Agents.length) d.Breaks 0 := by rw [metI, if_neg hne]
    rw [e] at c
    obtain ⟨M, hMM⟩ : ∃ M, M = metI d := ⟨_, rfl⟩
    rw [← hMM] at hM
    rw [← hMM]
    obtain ⟨p, hpp⟩ : ∃ p, p = orderP d.Net (upP d) := ⟨_, rfl⟩
    rw [← hpp] at c hp hD
    obtain ⟨cl, hcl⟩ : ∃ cl, cl = upC d := ⟨_, rfl⟩
    rw [← hcl] at c hD hM
    refine call_pure c ?_
    simp only [go_sem, Nat.reduceEqDiff, reduceIte, List.getElem?_cons_zero, List.getElem?_cons_succ, eq_self]
    refine lst_all (k := 2) (by rfl) (by rfl) (by exact ⟨_, rfl⟩) (by decide) ?_
    simp only [go_sem, Nat.reduceEqDiff, reduceIte, eq_self]
    refine Sem.loop (fun i : Nat => i ≤ d.Breaks.length ∧ M = idxFrom (meetI cl (upD d) d.Net.Agents.length) (d.Breaks.drop i) i) (fun i => (⟨[(0, .ept d.enc 0), (5, .int .i64 cl), (6, .bool true), (7, .int .i64 (i : Nat))], [(4, p.enc)], []⟩ : VSt)) (fun i => d.Breaks.length - i) 0 (by kernel_rfl) ⟨Nat.zero_le _, by rw [hM]; simp⟩ (Can.sub (by simp [go_sem]) (by simp [go_sem])) ?_
    rintro i ⟨hi, hI⟩
    simp only [go_sem, Nat.reduceEqDiff, reduceIte, Nat.reduceAdd, eq_self, List.length_map]
    refine grd_split ?_ ?_ <;> intro hc <;> simp only [hc, go_sem, Nat.reduceEqDiff, reduceIte, Bool.not_true, Nat.reduceAdd, eq_self]
    · have hlt : i < d.Breaks.length := by have := of_decide_eq_true hc; omega
      simp only [List.getElem?_map, List.getElem?_eq_getElem hlt, Option.map_some, go_sem, Nat.reduceEqDiff, reduceIte, eq_self]
      refine lst_all (k := 2) (by rfl) (by rfl) (by exact ⟨_, rfl⟩) (by decide) ?_
      simp only [go_sem, Nat.reduceEqDiff, reduceIte, eq_self]
      rw [drop_at hlt] at hI
      simp only [idxFrom] at hI
      clear hM hc
      repeat' (first | (first | (refine grd_split ?_ ?_ <;> intro hc <;> simp only [hc, go_sem, Nat.reduceEqDiff, reduceIte, Bool.not_true, Bool.not_false, Nat.reduceAdd, eq_self, List.length_map]) | (refine cnd_split ?_ ?_ <;> intro hc <;> simp only [hc, go_sem, Nat.reduceEqDiff, reduceIte, eq_self])) | (refine call_pure (c369 hp.1 hp.2) ?_; simp only [go_sem, Nat.reduceEqDiff, reduceIte, eq_self]))
      all_goals simp only [Bool.not_true, Bool.not_false, decide_eq_true_eq, decide_eq_false_iff_not, ← hD] at *
      all_goals first
        | (refine fin_eq rfl ?_; rw [hI]; simp [meetI, *]; done)
        | (refine fin_eq rfl ?_; rw [hI]; simp [meetI, *]; omega)
        | (simp only [wrap_succ (show i < 4611686018427387904 by omega)]; refine loopQ_nrm (i + 1) ⟨by omega, ?_⟩ (by omega) (Can.sub (by simp [go_sem]) (by simp [go_sem])); rw [hI]; simp [meetI, *]; done)
        | (simp only [wrap_succ (show i < 4611686018427387904 by omega)]; refine loopQ_nrm (i + 1) ⟨by omega, ?_⟩ (by omega) (Can.sub (by simp [go_sem]) (by simp [go_sem])); rw [hI]; simp [meetI, *]; omega)
    · obtain rfl : i = d.Breaks.length := by have := of_decide_eq_false hc; omega
      refine fin_eq rfl ?_
      rw [hI]; simp [idxFrom]
theorem c116 {d : GDebugger} (hz : d.sz ≤ 1048576) : Pure Gm 116 [d.enc] (matchI d) := by
  refine Pure.intro [1] [] g116 (by kernel_rfl) rfl (by simp [AV.trees, go_sem]) (by exact matchI_tr d) ?_
  simp only [F116, vparams, go_sem, Nat.reduceEqDiff, reduceIte, eq_self]
  refine hbox_ok rfl ?_
  simp only [go_sem, Nat.reduceEqDiff, reduceIte, Bool.not_true, List.length_nil, List.getElem?_cons_zero, eq_self, List.nil_append, List.set_cons_zero]
  refine call_pure (c367 hz) ?_
  simp only [go_sem, Nat.reduceEqDiff, reduceIte, eq_self]
  have tr := matchI_tr d
  refine cnd_split ?_ ?_ <;> intro hc <;> simp only [hc, go_sem, Nat.reduceEqDiff, reduceIte, Bool.not_true, eq_self]
  · refine fin_eqs tr ?_
    have : dbgOk d = false := by simpa using hc
    simp [matchI, this]
  · have ok : dbgOk d = true := by simpa using hc
    refine call_pure (c393 hz ok) ?_
    simp only [go_sem, Nat.reduceEqDiff, reduceIte, eq_self]
    refine cnd_split ?_ ?_ <;> intro hc <;> simp only [hc, go_sem, Nat.reduceEqDiff, reduceIte, eq_self]
    · refine fin_eqs tr ?_
      simp_all [matchI]
    · refine fin_eqs tr ?_
      simp [matchI, ok, of_decide_eq_false hc]
theorem c772 {b : GBreak} {d : GDebugger} {a x c y z f : Int} : Pure Gm 772 [b.enc, .ept (.agg [.int .i64 a, .int .i64 x, .int .i64 c, .int .i64 y, .int .i64 z, .int .i64 f]) 0, .ept (.ept d.enc 0) 0] (.bool (meetJ c f d.Net.Agents.length b)) := by
  refine Pure.intro [] [] g772 (by kernel_rfl) rfl (by simp [AV.trees, AV.tree, GBreak.tr, GDebugger.tr]) rfl ?_
  simp only [F772, vparams, go_sem, Nat.reduceEqDiff, reduceIte, Nat.reduceAdd, eq_self]
  refine lbox_ok rfl ?_; simp only [go_sem, Nat.reduceEqDiff, reduceIte, eq_self]
  repeat' (first | (first | (refine grd_split ?_ ?_ <;> intro hc <;> simp only [hc, go_sem, Nat.reduceEqDiff, reduceIte, Bool.not_true, Bool.not_false, Bool.false_eq_true, List.length_cons, List.length_nil, Nat.reduceAdd, List.getElem?_cons_zero, List.getElem?_cons_succ, decide_true, eq_self, List.length_map]) | (refine cnd_split ?_ ?_ <;> intro hc <;> simp only [hc, go_sem, Nat.reduceEqDiff, reduceIte, Nat.reduceAdd, List.getElem?_cons_zero, List.getElem?_cons_succ, eq_self, List.length_map])) | refine fin_eq rfl ?_)
  all_goals (simp only [decide_eq_true_eq, decide_eq_false_iff_not] at *; simp [meetJ, *])
theorem c771 {f : AV} (p : GBreak → Bool) (hft : f.tree = true) (xs : List GBreak) (hf : ∀ x ∈ xs, PureV Gm f [x.enc] (.bool (p x))) (hl : xs.length ≤ 1048576) : Pure Gm 771 [.lst 2 (xs.map GBreak.enc) false, f] (.int .i64 (idxFrom p xs 0)) :=
  idxF_ok GBreak.isSh g771 f p hft xs hf hl
theorem c394 {d : GDebugger} (hz : d.sz ≤ 1048576) (ok : dbgOk d = true) : Pure Gm 394 [.ept d.enc 0] (.int .i64 (metI d)) := by
  refine Pure.intro [1,3] [] g394 (by kernel_rfl) rfl (by simp [AV.trees, AV.tree, go_sem]) rfl ?_
  simp only [F394, vparams, go_sem, Nat.reduceEqDiff, reduceIte, eq_self]
  have hz' := hz
  unfold GDebugger.sz at hz'
  have c := c374 hz ok
  have hb := dbg_breaks ok
  refine hbox_ok rfl ?_
  simp only [go_sem, Nat.reduceEqDiff, reduceIte, Bool.not_true, List.length_nil, List.getElem?_cons_zero, eq_self, List.nil_append, List.set_cons_zero]
  by_cases hne : netPairs d.Net = []
  · simp only [upV, if_pos hne] at c
    refine call_pure c ?_
    simp only [go_sem, Nat.reduceEqDiff, reduceIte, List.length_cons, List.length_nil, Nat.reduceAdd, List.getElem?_cons_zero, List.getElem?_cons_succ, eq_self]
    refine sto_ok (by rfl) (by rfl) (by rfl) (by rfl) ?_
    simp only [go_sem, Nat.reduceEqDiff, reduceIte, Bool.not_false, List.length_cons, List.length_nil, Nat.reduceAdd, List.getElem?_cons_zero, List.getElem?_cons_succ, eq_self, List.nil_append, List.cons_append, List.set_cons_zero, List.set_cons_succ]
    refine fin_eq rfl ?_
    simp [metI, hne]
  · simp only [upV, if_neg hne] at c
    refine call_pure c ?_
    simp only [go_sem, Nat.reduceEqDiff, reduceIte, List.length_cons, List.length_nil, Nat.reduceAdd, List.getElem?_cons_zero, List.getElem?_cons_succ, eq_self]
    refine sto_ok (e' := .agg [.int .i64 (upP d).A, .int .i64 (upP d).B, .int .i64 (upC d), .int .i64 (upX d), .int .i64 (upY d), .int .i64 (upD d)]) (by rfl) (by rfl) (by rfl) (by rfl) ?_
    simp only [go_sem, Nat.reduceEqDiff, reduceIte, Bool.not_true, Nat.reduceAdd, List.getElem?_cons_zero, List.getElem?_cons_succ, eq_self, List.nil_append, List.cons_append, List.set_cons_zero, List.set_cons_succ]
    refine call_pure (c771 (meetJ (upC d) (upD d) d.Net.Agents.length) (by simp [AV.tree, AV.trees, GDebugger.tr]) _ (fun b _ => ⟨772, _, rfl, c772⟩) (by omega)) ?_
    simp only [go_sem, Nat.reduceEqDiff, reduceIte, eq_self]
    refine fin_eq rfl ?_
    rw [metI, if_neg hne, idx_congr fun x hx => meet_eq (hb x hx)]
theorem c117 {d : GDebugger} (hz : d.sz ≤ 1048576) : Pure Gm 117 [d.enc] (matchI d) := by
  refine Pure.intro [1] [] g117 (by kernel_rfl) rfl (by simp [AV.trees, go_sem]) (by exact matchI_tr d) ?_
  simp only [F117, vparams, go_sem, Nat.reduceEqDiff, reduceIte, eq_self]
  refine hbox_ok rfl ?_
  simp only [go_sem, Nat.reduceEqDiff, reduceIte, Bool.not_true, List.length_nil, List.getElem?_cons_zero, eq_self, List.nil_append, List.set_cons_zero]
  refine call_pure (c373 hz) ?_
  simp only [go_sem, Nat.reduceEqDiff, reduceIte, eq_self]
  have tr := matchI_tr d
  refine cnd_split ?_ ?_ <;> intro hc <;> simp only [hc, go_sem, Nat.reduceEqDiff, reduceIte, Bool.not_true, eq_self]
  · refine fin_eqs tr ?_
    have : dbgOk d = false := by simpa using hc
    simp [matchI, this]
  · have ok : dbgOk d = true := by simpa using hc
    refine call_pure (c394 hz ok) ?_
    simp only [go_sem, Nat.reduceEqDiff, reduceIte, eq_self]
    refine cnd_split ?_ ?_ <;> intro hc <;> simp only [hc, go_sem, Nat.reduceEqDiff, reduceIte, eq_self]
    · refine fin_eqs tr ?_
      simp_all [matchI]
    · refine fin_eqs tr ?_
      simp [matchI, ok, of_decide_eq_false hc]
theorem c10 {d : GDebugger} (hb : d.bd) : Pure Gm 10 [d.enc] (.bool true) := by
  refine Pure.intro [] [] g10 (by kernel_rfl) rfl (by simp [AV.trees, GDebugger.tr]) rfl ?_
  simp only [F10, vparams, go_sem, reduceIte, eq_self]
  refine lbox_ok rfl ?_; simp only [go_sem, Nat.reduceEqDiff, reduceIte, Bool.not_true, eq_self]
  refine call_pure (c104 d hb 1048576 (by omega)) ?_
  simp only [go_sem, Nat.reduceEqDiff, reduceIte, eq_self]
  refine cnd_split ?_ ?_ <;> intro hc <;> simp only [hc, go_sem, Nat.reduceEqDiff, reduceIte, Bool.not_true, eq_self]
  · exact fin_eq rfl rfl
  · have hz : d.sz ≤ 1048576 := by
      have := of_decide_eq_false hc
      rw [leftI_lt] at this; omega
    obtain ⟨a, b, hn⟩ := matchI_two d
    have k1 := c116 hz
    have k2 := c117 hz
    rw [hn] at k1 k2
    refine call_pure (c106 d hz) ?_
    simp only [go_sem, Nat.reduceEqDiff, reduceIte, Bool.not_true, eq_self]
    refine call_pure k1 ?_
    simp only [go_sem, Nat.reduceEqDiff, reduceIte, Bool.not_true, List.getElem?_cons_zero, List.getElem?_cons_succ, eq_self]
    refine call_pure (c106 d hz) ?_
    simp only [go_sem, Nat.reduceEqDiff, reduceIte, eq_self]
    refine lst_all (k := 8) (by rfl) (by rfl) (by exact ⟨_, rfl⟩) (by decide) ?_
    simp only [go_sem, Nat.reduceEqDiff, reduceIte, Bool.not_true, eq_self]
    refine call_pure k2 ?_
    simp only [go_sem, Nat.reduceEqDiff, reduceIte, Bool.not_true, List.getElem?_cons_zero, List.getElem?_cons_succ, decide_true, eq_self]
    refine call_pure (c106 d hz) ?_
    simp only [go_sem, Nat.reduceEqDiff, reduceIte, Bool.not_true, eq_self]
    refine call_pure (c108 d hz) ?_
    simp only [go_sem, Nat.reduceEqDiff, reduceIte, Bool.not_true, eq_self]
    exact fin_eq rfl rfl
end Go.Ab
