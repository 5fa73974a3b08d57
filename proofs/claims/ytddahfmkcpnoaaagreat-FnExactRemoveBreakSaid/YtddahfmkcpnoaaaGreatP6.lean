/- Texts Dbg0 .. Dbg26: the abstract machine, its laws and contracts of functions: lemmas for the statement. No condition. -/
import Derived.Test.YtddahfmkcpnoaaaGreatP4
namespace Go.Ab
open Go
structure GPort where
  Agent : Int
  Slot : Int
deriving DecidableEq
def GPort.enc (x : GPort) : AV := .agg [.int .i64 x.Agent, .int .i64 x.Slot]
theorem GPort.isSh : Sh GPort.enc 2 (some 2) := ⟨fun x => by simp [GPort.enc, AV.tree, AV.trees], fun _ => rfl, fun _ => rfl, by decide, fun x => by simp [GPort.enc]⟩
section
variable {x : GPort}
@[go_sem] theorem GPort.tr : x.enc.tree = true := GPort.isSh.tree x
@[go_sem] theorem GPort.ln : x.enc.cells.length = 2 := nr rfl
@[go_sem] theorem GPort.all : x.enc.part 0 (some 2) = some x.enc := nr rfl
@[go_sem] theorem GPort.cs : x.enc.cells = [.int .i64 x.Agent, .int .i64 x.Slot] := nr rfl
@[go_sem] theorem GPort.p0 : x.enc.part 0 none = some (.int .i64 x.Agent) := nr rfl
@[go_sem] theorem GPort.p1 : x.enc.part 1 none = some (.int .i64 x.Slot) := nr rfl
@[go_sem] theorem GPort.eqf {y : GPort} : seq2 false [1, 1] (some x.enc) (some y.enc) = some (.bool (decide (x = y))) := by
  obtain ⟨a0, a1⟩ := x; obtain ⟨b0, b1⟩ := y
  simp only [seq2, GPort.enc, List.map_cons, List.map_nil, dig, and_self, if_true, cellsEq, sclEq, GPort.mk.injEq]
  repeat' (split <;> simp_all)
@[go_sem] theorem GPort.eqt {y : GPort} : seq2 true [1, 1] (some x.enc) (some y.enc) = some (.bool (!decide (x = y))) := by
  have h := GPort.eqf (x := x) (y := y)
  unfold seq2 at h ⊢
  split <;> simp_all
end
structure GAgent where
  Kind : Int
  Level : Int
  Value : Int
  Data : List Int
  Ports : List GPort
def GAgent.enc (x : GAgent) : AV := .agg [.int .i64 x.Kind, .int .i64 x.Level, .int .i64 x.Value, .lst 1 (x.Data.map encI) false, .lst 2 (x.Ports.map GPort.enc) false]
theorem GAgent.isSh : Sh GAgent.enc 5 (some 5) := ⟨fun x => by simp [GAgent.enc, AV.tree, AV.trees, trees_map GPort.isSh.tree, trees_map shI.tree], fun _ => rfl, fun _ => rfl, by decide, fun x => by simp [GAgent.enc]⟩
section
variable {x : GAgent}
@[go_sem] theorem GAgent.tr : x.enc.tree = true := GAgent.isSh.tree x
@[go_sem] theorem GAgent.ln : x.enc.cells.length = 5 := nr rfl
@[go_sem] theorem GAgent.all : x.enc.part 0 (some 5) = some x.enc := nr rfl
@[go_sem] theorem GAgent.cs : x.enc.cells = [.int .i64 x.Kind, .int .i64 x.Level, .int .i64 x.Value, .lst 1 (x.Data.map encI) false, .lst 2 (x.Ports.map GPort.enc) false] := nr rfl
@[go_sem] theorem GAgent.p0 : x.enc.part 0 none = some (.int .i64 x.Kind) := nr rfl
@[go_sem] theorem GAgent.p1 : x.enc.part 1 none = some (.int .i64 x.Level) := nr rfl
@[go_sem] theorem GAgent.p2 : x.enc.part 2 none = some (.int .i64 x.Value) := nr rfl
@[go_sem] theorem GAgent.p3 : x.enc.part 3 none = some (.lst 1 (x.Data.map encI) false) := nr rfl
@[go_sem] theorem GAgent.p4 : x.enc.part 4 none = some (.lst 2 (x.Ports.map GPort.enc) false) := nr rfl
end
def GAgent.sz (x : GAgent) : Nat := x.Data.length + x.Ports.length
def GAgent.bd (x : GAgent) : Prop := x.Data.length ≤ 140737488355328 ∧ x.Ports.length ≤ 140737488355328
structure GNet where
  Agents : List GAgent
def GNet.enc (x : GNet) : AV := .agg [.lst 5 (x.Agents.map GAgent.enc) false]
theorem GNet.isSh : Sh GNet.enc 1 (some 1) := ⟨fun x => by simp [GNet.enc, AV.tree, AV.trees, trees_map GAgent.isSh.tree], fun _ => rfl, fun _ => rfl, by decide, fun x => by simp [GNet.enc]⟩
section
variable {x : GNet}
@[go_sem] theorem GNet.tr : x.enc.tree = true := GNet.isSh.tree x
@[go_sem] theorem GNet.ln : x.enc.cells.length = 1 := nr rfl
@[go_sem] theorem GNet.all : x.enc.part 0 (some 1) = some x.enc := nr rfl
@[go_sem] theorem GNet.cs : x.enc.cells = [.lst 5 (x.Agents.map GAgent.enc) false] := nr rfl
@[go_sem] theorem GNet.p0 : x.enc.part 0 none = some (.lst 5 (x.Agents.map GAgent.enc) false) := nr rfl
@[go_sem] theorem GNet.lst1 {E : Ev} {t off : Nat} {cs : List AV} {l : List AOper} {ks : List Fr1} {s m : LEnv} {h : List AObj} {Q : AExit → VSt → Prop} : Lst E t off 1 (some (.agg cs)) (some x.enc) l ks ⟨s, m, h⟩ Q = LstP E t (setc cs off (.lst 5 (x.Agents.map GAgent.enc) false)) l ks ⟨s, m, h⟩ Q := lst_one rfl
end
def GNet.sz (x : GNet) : Nat := (x.Agents.length + sumN GAgent.sz x.Agents)
def GNet.bd (x : GNet) : Prop := x.Agents.length ≤ 140737488355328 ∧ (∀ y ∈ x.Agents, GAgent.bd y)
structure GOrigin where
  Step : Int
  Def : Int
  Source : Int
deriving DecidableEq
def GOrigin.enc (x : GOrigin) : AV := .agg [.int .i64 x.Step, .int .i64 x.Def, .int .i64 x.Source]
theorem GOrigin.isSh : Sh GOrigin.enc 3 (some 3) := ⟨fun x => by simp [GOrigin.enc, AV.tree, AV.trees], fun _ => rfl, fun _ => rfl, by decide, fun x => by simp [GOrigin.enc]⟩
section
variable {x : GOrigin}
@[go_sem] theorem GOrigin.tr : x.enc.tree = true := GOrigin.isSh.tree x
@[go_sem] theorem GOrigin.ln : x.enc.cells.length = 3 := nr rfl
@[go_sem] theorem GOrigin.all : x.enc.part 0 (some 3) = some x.enc := nr rfl
@[go_sem] theorem GOrigin.cs : x.enc.cells = [.int .i64 x.Step, .int .i64 x.Def, .int .i64 x.Source] := nr rfl
@[go_sem] theorem GOrigin.p0 : x.enc.part 0 none = some (.int .i64 x.Step) := nr rfl
@[go_sem] theorem GOrigin.p1 : x.enc.part 1 none = some (.int .i64 x.Def) := nr rfl
@[go_sem] theorem GOrigin.p2 : x.enc.part 2 none = some (.int .i64 x.Source) := nr rfl
@[go_sem] theorem GOrigin.eqf {y : GOrigin} : seq2 false [1, 1, 1] (some x.enc) (some y.enc) = some (.bool (decide (x = y))) := by
  obtain ⟨a0, a1, a2⟩ := x; obtain ⟨b0, b1, b2⟩ := y
  simp only [seq2, GOrigin.enc, List.map_cons, List.map_nil, dig, and_self, if_true, cellsEq, sclEq, GOrigin.mk.injEq]
  repeat' (split <;> simp_all)
@[go_sem] theorem GOrigin.eqt {y : GOrigin} : seq2 true [1, 1, 1] (some x.enc) (some y.enc) = some (.bool (!decide (x = y))) := by
  have h := GOrigin.eqf (x := x) (y := y)
  unfold seq2 at h ⊢
  split <;> simp_all
end
structure GBreak where
  Kind : Int
  Value : Int
deriving DecidableEq
def GBreak.enc (x : GBreak) : AV := .agg [.int .i64 x.Kind, .int .i64 x.Value]
theorem GBreak.isSh : Sh GBreak.enc 2 (some 2) := ⟨fun x => by simp [GBreak.enc, AV.tree, AV.trees], fun _ => rfl, fun _ => rfl, by decide, fun x => by simp [GBreak.enc]⟩
section
variable {x : GBreak}
@[go_sem] theorem GBreak.tr : x.enc.tree = true := GBreak.isSh.tree x
@[go_sem] theorem GBreak.ln : x.enc.cells.length = 2 := nr rfl
@[go_sem] theorem GBreak.all : x.enc.part 0 (some 2) = some x.enc := nr rfl
@[go_sem] theorem GBreak.cs : x.enc.cells = [.int .i64 x.Kind, .int .i64 x.Value] := nr rfl
@[go_sem] theorem GBreak.p0 : x.enc.part 0 none = some (.int .i64 x.Kind) := nr rfl
@[go_sem] theorem GBreak.p1 : x.enc.part 1 none = some (.int .i64 x.Value) := nr rfl
@[go_sem] theorem GBreak.eqf {y : GBreak} : seq2 false [1, 1] (some x.enc) (some y.enc) = some (.bool (decide (x = y))) := by
  obtain ⟨a0, a1⟩ := x; obtain ⟨b0, b1⟩ := y
  simp only [seq2, GBreak.enc, List.map_cons, List.map_nil, dig, and_self, if_true, cellsEq, sclEq, GBreak.mk.injEq]
  repeat' (split <;> simp_all)
@[go_sem] theorem GBreak.eqt {y : GBreak} : seq2 true [1, 1] (some x.enc) (some y.enc) = some (.bool (!decide (x = y))) := by
  have h := GBreak.eqf (x := x) (y := y)
  unfold seq2 at h ⊢
  split <;> simp_all
end
structure GCheckpoint where
  At : Int
  Net : GNet
  Origins : List GOrigin
def GCheckpoint.enc (x : GCheckpoint) : AV := .agg [.int .i64 x.At, .lst 5 (x.Net.Agents.map GAgent.enc) false, .lst 3 (x.Origins.map GOrigin.enc) false]
theorem GCheckpoint.isSh : Sh GCheckpoint.enc 3 (some 3) := ⟨fun x => by simp [GCheckpoint.enc, AV.tree, AV.trees, trees_map GAgent.isSh.tree, trees_map GOrigin.isSh.tree], fun _ => rfl, fun _ => rfl, by decide, fun x => by simp [GCheckpoint.enc]⟩
section
variable {x : GCheckpoint}
@[go_sem] theorem GCheckpoint.tr : x.enc.tree = true := GCheckpoint.isSh.tree x
@[go_sem] theorem GCheckpoint.ln : x.enc.cells.length = 3 := nr rfl
@[go_sem] theorem GCheckpoint.all : x.enc.part 0 (some 3) = some x.enc := nr rfl
@[go_sem] theorem GCheckpoint.cs : x.enc.cells = [.int .i64 x.At, .lst 5 (x.Net.Agents.map GAgent.enc) false, .lst 3 (x.Origins.map GOrigin.enc) false] := nr rfl
@[go_sem] theorem GCheckpoint.p0 : x.enc.part 0 none = some (.int .i64 x.At) := nr rfl
@[go_sem] theorem GCheckpoint.p1 : x.enc.part 1 none = some (.lst 5 (x.Net.Agents.map GAgent.enc) false) := nr rfl
@[go_sem] theorem GCheckpoint.p2 : x.enc.part 2 none = some (.lst 3 (x.Origins.map GOrigin.enc) false) := nr rfl
@[go_sem] theorem GCheckpoint.q1_1 : x.enc.part 1 (some 1) = some (GNet.enc x.Net) := nr rfl
end
def GCheckpoint.sz (x : GCheckpoint) : Nat := GNet.sz x.Net + x.Origins.length
def GCheckpoint.bd (x : GCheckpoint) : Prop := GNet.bd x.Net ∧ x.Origins.length ≤ 140737488355328
structure GDebugger where
  Book : List GNet
  Schedule : List Int
  Every : Int
  At : Int
  Net : GNet
  Origins : List GOrigin
  Breaks : List GBreak
  Points : List GCheckpoint
def GDebugger.enc (x : GDebugger) : AV := .agg [.lst 1 (x.Book.map GNet.enc) false, .lst 1 (x.Schedule.map encI) false, .int .i64 x.Every, .int .i64 x.At, .lst 5 (x.Net.Agents.map GAgent.enc) false, .lst 3 (x.Origins.map GOrigin.enc) false, .lst 2 (x.Breaks.map GBreak.enc) false, .lst 3 (x.Points.map GCheckpoint.enc) false]
theorem GDebugger.isSh : Sh GDebugger.enc 8 (some 8) := ⟨fun x => by simp [GDebugger.enc, AV.tree, AV.trees, trees_map GAgent.isSh.tree, trees_map GBreak.isSh.tree, trees_map GCheckpoint.isSh.tree, trees_map GNet.isSh.tree, trees_map GOrigin.isSh.tree, trees_map shI.tree], fun _ => rfl, fun _ => rfl, by decide, fun x => by simp [GDebugger.enc]⟩
section
variable {x : GDebugger}
@[go_sem] theorem GDebugger.tr : x.enc.tree = true := GDebugger.isSh.tree x
@[go_sem] theorem GDebugger.ln : x.enc.cells.length = 8 := nr rfl
@[go_sem] theorem GDebugger.all : x.enc.part 0 (some 8) = some x.enc := nr rfl
@[go_sem] theorem GDebugger.cs : x.enc.cells = [.lst 1 (x.Book.map GNet.enc) false, .lst 1 (x.Schedule.map encI) false, .int .i64 x.Every, .int .i64 x.At, .lst 5 (x.Net.Agents.map GAgent.enc) false, .lst 3 (x.Origins.map GOrigin.enc) false, .lst 2 (x.Breaks.map GBreak.enc) false, .lst 3 (x.Points.map GCheckpoint.enc) false] := nr rfl
@[go_sem] theorem GDebugger.p0 : x.enc.part 0 none = some (.lst 1 (x.Book.map GNet.enc) false) := nr rfl
@[go_sem] theorem GDebugger.p1 : x.enc.part 1 none = some (.lst 1 (x.Schedule.map encI) false) := nr rfl
@[go_sem] theorem GDebugger.p2 : x.enc.part 2 none = some (.int .i64 x.Every) := nr rfl
@[go_sem] theorem GDebugger.p3 : x.enc.part 3 none = some (.int .i64 x.At) := nr rfl
@[go_sem] theorem GDebugger.p4 : x.enc.part 4 none = some (.lst 5 (x.Net.Agents.map GAgent.enc) false) := nr rfl
@[go_sem] theorem GDebugger.p5 : x.enc.part 5 none = some (.lst 3 (x.Origins.map GOrigin.enc) false) := nr rfl
@[go_sem] theorem GDebugger.p6 : x.enc.part 6 none = some (.lst 2 (x.Breaks.map GBreak.enc) false) := nr rfl
@[go_sem] theorem GDebugger.p7 : x.enc.part 7 none = some (.lst 3 (x.Points.map GCheckpoint.enc) false) := nr rfl
@[go_sem] theorem GDebugger.q4_1 : x.enc.part 4 (some 1) = some (GNet.enc x.Net) := nr rfl
end
def GDebugger.sz (x : GDebugger) : Nat := (x.Book.length + sumN GNet.sz x.Book) + x.Schedule.length + GNet.sz x.Net + x.Origins.length + x.Breaks.length + (x.Points.length + sumN GCheckpoint.sz x.Points)
def GDebugger.bd (x : GDebugger) : Prop := x.Book.length ≤ 140737488355328 ∧ (∀ y ∈ x.Book, GNet.bd y) ∧ x.Schedule.length ≤ 140737488355328 ∧ GNet.bd x.Net ∧ x.Origins.length ≤ 140737488355328 ∧ x.Breaks.length ≤ 140737488355328 ∧ x.Points.length ≤ 140737488355328 ∧ (∀ y ∈ x.Points, GCheckpoint.bd y)
end Go.Ab
namespace Go.Ab
open Go
set_option maxRecDepth 10000
def F338 : AFun := szS0 
def F1173 : AFun := szS0 
def F852_r0 : List AOper := [oP 0 5 (.nop 2), oP 1 6 (.lload 2 3 none), oM 2 7 1, oP 3 8 (.call 338 [.t 6, .t 7]), oM 4 1 8]
@[go_sem] theorem F852_r0_r : OE F852_r0.eq_1 := OEM F852_r0.eq_1
def F852_r1 : List AOper := [oP 0 11 (.nop 2), oP 1 12 (.lload 2 4 none), oM 2 13 1, oP 3 14 (.call 1173 [.t 12, .t 13]), oM 4 1 14]
@[go_sem] theorem F852_r1_r : OE F852_r1.eq_1 := OEM F852_r1.eq_1
def F852_k2 : ACode := .seq (.reg true F852_r1) (.seq (.seq (.reg true [oM 0 15 1, oP 1 16 (.bin .lss (.t 15) (.c (.int .i64 0)))]) (.cond (.t 16) (.seq (.reg true [oP 0 4 (.mov (.c (.int .i64 (-1))))]) (.ret)) (.skip))) (.seq (.reg true [oM 0 17 1, oM 1 4 17]) (.ret)))
@[go_sem] theorem F852_k2_r : CE F852_k2.eq_1 := CEM F852_k2.eq_1
def F852 : AFun := ⟨2, 18, [.t 4], .seq (.reg true [oP 0 2 (.lbox 5 (.t 0)), oP 1 4 (.mov (.c (.int .i64 0)))]) (.seq (.reg true F852_r0) (.seq (.seq (.reg true [oM 0 9 1, oP 1 10 (.bin .lss (.t 9) (.c (.int .i64 0)))]) (.cond (.t 10) (.seq (.reg true [oP 0 4 (.mov (.c (.int .i64 (-1))))]) (.ret)) (.skip))) F852_k2))⟩
def F501 : AFun := szS 5 (some 5) 852
def F182_r0 : List AOper := [oP 0 5 (.nop 2), oP 1 6 (.lload 2 0 none), oM 2 7 1, oP 3 8 (.call 501 [.t 6, .t 7]), oM 4 1 8]
@[go_sem] theorem F182_r0_r : OE F182_r0.eq_1 := OEM F182_r0.eq_1
def F182_k1 : ACode := .seq (.reg true F182_r0) (.seq (.seq (.reg true [oM 0 9 1, oP 1 10 (.bin .lss (.t 9) (.c (.int .i64 0)))]) (.cond (.t 10) (.seq (.reg true [oP 0 4 (.mov (.c (.int .i64 (-1))))]) (.ret)) (.skip))) (.seq (.reg true [oM 0 11 1, oM 1 4 11]) (.ret)))
@[go_sem] theorem F182_k1_r : CE F182_k1.eq_1 := CEM F182_k1.eq_1
def F182 : AFun := ⟨2, 12, [.t 4], .seq (.reg true [oP 0 2 (.lbox 1 (.t 0)), oP 1 4 (.mov (.c (.int .i64 0)))]) F182_k1⟩
def F181 : AFun := szS 1 (some 1) 182
def F364 : AFun := szS0 
def F365 : AFun := szS0 
def F740_r0 : List AOper := [oP 0 5 (.nop 2), oP 1 6 (.lload 2 1 (some 1)), oM 2 7 1, oP 3 8 (.call 182 [.t 6, .t 7]), oM 4 1 8]
@[go_sem] theorem F740_r0_r : OE F740_r0.eq_1 := OEM F740_r0.eq_1
def F740_r1 : List AOper := [oP 0 11 (.nop 2), oP 1 12 (.lload 2 2 none), oM 2 13 1, oP 3 14 (.call 364 [.t 12, .t 13]), oM 4 1 14]
@[go_sem] theorem F740_r1_r : OE F740_r1.eq_1 := OEM F740_r1.eq_1
def F740_k2 : ACode := .seq (.reg true F740_r1) (.seq (.seq (.reg true [oM 0 15 1, oP 1 16 (.bin .lss (.t 15) (.c (.int .i64 0)))]) (.cond (.t 16) (.seq (.reg true [oP 0 4 (.mov (.c (.int .i64 (-1))))]) (.ret)) (.skip))) (.seq (.reg true [oM 0 17 1, oM 1 4 17]) (.ret)))
@[go_sem] theorem F740_k2_r : CE F740_k2.eq_1 := CEM F740_k2.eq_1
def F740 : AFun := ⟨2, 18, [.t 4], .seq (.reg true [oP 0 2 (.lbox 3 (.t 0)), oP 1 4 (.mov (.c (.int .i64 0)))]) (.seq (.reg true F740_r0) (.seq (.seq (.reg true [oM 0 9 1, oP 1 10 (.bin .lss (.t 9) (.c (.int .i64 0)))]) (.cond (.t 10) (.seq (.reg true [oP 0 4 (.mov (.c (.int .i64 (-1))))]) (.ret)) (.skip))) F740_k2))⟩
def F366 : AFun := szS 3 (some 3) 740
def F104_r0 : List AOper := [oP 0 5 (.nop 2), oP 1 6 (.lload 2 0 none), oM 2 7 1, oP 3 8 (.call 181 [.t 6, .t 7]), oM 4 1 8]
@[go_sem] theorem F104_r0_r : OE F104_r0.eq_1 := OEM F104_r0.eq_1
def F104_r1 : List AOper := [oP 0 11 (.nop 2), oP 1 12 (.lload 2 1 none), oM 2 13 1, oP 3 14 (.call 338 [.t 12, .t 13]), oM 4 1 14]
@[go_sem] theorem F104_r1_r : OE F104_r1.eq_1 := OEM F104_r1.eq_1
def F104_r2 : List AOper := [oP 0 17 (.nop 2), oP 1 18 (.lload 2 4 (some 1)), oM 2 19 1, oP 3 20 (.call 182 [.t 18, .t 19]), oM 4 1 20]
@[go_sem] theorem F104_r2_r : OE F104_r2.eq_1 := OEM F104_r2.eq_1
def F104_r3 : List AOper := [oP 0 23 (.nop 2), oP 1 24 (.lload 2 5 none), oM 2 25 1, oP 3 26 (.call 364 [.t 24, .t 25]), oM 4 1 26]
@[go_sem] theorem F104_r3_r : OE F104_r3.eq_1 := OEM F104_r3.eq_1
def F104_r4 : List AOper := [oP 0 29 (.nop 2), oP 1 30 (.lload 2 6 none), oM 2 31 1, oP 3 32 (.call 365 [.t 30, .t 31]), oM 4 1 32]
@[go_sem] theorem F104_r4_r : OE F104_r4.eq_1 := OEM F104_r4.eq_1
def F104_r5 : List AOper := [oP 0 35 (.nop 2), oP 1 36 (.lload 2 7 none), oM 2 37 1, oP 3 38 (.call 366 [.t 36, .t 37]), oM 4 1 38]
@[go_sem] theorem F104_r5_r : OE F104_r5.eq_1 := OEM F104_r5.eq_1
def F104_k6 : ACode := .seq (.reg true F104_r5) (.seq (.seq (.reg true [oM 0 39 1, oP 1 40 (.bin .lss (.t 39) (.c (.int .i64 0)))]) (.cond (.t 40) (.seq (.reg true [oP 0 4 (.mov (.c (.int .i64 (-1))))]) (.ret)) (.skip))) (.seq (.reg true [oM 0 41 1, oM 1 4 41]) (.ret)))
@[go_sem] theorem F104_k6_r : CE F104_k6.eq_1 := CEM F104_k6.eq_1
def F104_k7 : ACode := .seq (.seq (.reg true [oM 0 27 1, oP 1 28 (.bin .lss (.t 27) (.c (.int .i64 0)))]) (.cond (.t 28) (.seq (.reg true [oP 0 4 (.mov (.c (.int .i64 (-1))))]) (.ret)) (.skip))) (.seq (.reg true F104_r4) (.seq (.seq (.reg true [oM 0 33 1, oP 1 34 (.bin .lss (.t 33) (.c (.int .i64 0)))]) (.cond (.t 34) (.seq (.reg true [oP 0 4 (.mov (.c (.int .i64 (-1))))]) (.ret)) (.skip))) F104_k6))
@[go_sem] theorem F104_k7_r : CE F104_k7.eq_1 := CEM F104_k7.eq_1
def F104_k8 : ACode := .seq (.seq (.reg true [oM 0 15 1, oP 1 16 (.bin .lss (.t 15) (.c (.int .i64 0)))]) (.cond (.t 16) (.seq (.reg true [oP 0 4 (.mov (.c (.int .i64 (-1))))]) (.ret)) (.skip))) (.seq (.reg true F104_r2) (.seq (.seq (.reg true [oM 0 21 1, oP 1 22 (.bin .lss (.t 21) (.c (.int .i64 0)))]) (.cond (.t 22) (.seq (.reg true [oP 0 4 (.mov (.c (.int .i64 (-1))))]) (.ret)) (.skip))) (.seq (.reg true F104_r3) F104_k7)))
@[go_sem] theorem F104_k8_r : CE F104_k8.eq_1 := CEM F104_k8.eq_1
def F104 : AFun := ⟨2, 42, [.t 4], .seq (.reg true [oP 0 2 (.lbox 8 (.t 0)), oP 1 4 (.mov (.c (.int .i64 0)))]) (.seq (.reg true F104_r0) (.seq (.seq (.reg true [oM 0 9 1, oP 1 10 (.bin .lss (.t 9) (.c (.int .i64 0)))]) (.cond (.t 10) (.seq (.reg true [oP 0 4 (.mov (.c (.int .i64 (-1))))]) (.ret)) (.skip))) (.seq (.reg true F104_r1) F104_k8)))⟩
def F340_r0 : List AOper := [oM 0 7 0, oM 1 8 1, oP 2 9 (.bin .geq (.t 7) (.t 8)), oM 3 10 9, oG 4 11 10 true (.mov (.t 0)), oG 5 12 10 true (.mov (.t 2)), oG 6 13 10 true (.bin .leq (.t 11) (.t 12)), oP 7 14 (.pick (.t 10) (.t 13) (.c (.bool false))), oM 8 6 14]
@[go_sem] theorem F340_r0_r : OE F340_r0.eq_1 := OEM F340_r0.eq_1
def F340 : AFun := ⟨3, 15, [.t 6], .seq (.reg true [oP 0 6 (.mov (.c (.bool false)))]) (.seq (.reg true F340_r0) (.ret))⟩
def F412_r0 : List AOper := [oM 0 7 3, oM 1 8 0, oP 2 9 (.len (.t 8)), oP 3 10 (.bin .lss (.t 7) (.t 9))]
@[go_sem] theorem F412_r0_r : OE F412_r0.eq_1 := OEM F412_r0.eq_1
def F412_r1 : List AOper := [oM 0 13 0, oM 1 14 3, oP 2 15 (.iaddr 1 (.t 13) (.t 14)), oP 3 16 (.load none (.t 15)), oP 4 17 (.call 340 [.t 16, .c (.int .i64 0), .c (.int .i64 600)]), oP 5 18 (.not (.t 17))]
@[go_sem] theorem F412_r1_r : OE F412_r1.eq_1 := OEM F412_r1.eq_1
def F412_k2 : ACode := .loop (.seq (.seq (.reg true F412_r0) (.cond (.t 10) (.skip) (.exit 0))) (.seq (.blk 1 (.seq (.reg true F412_r1) (.cond (.t 18) (.seq (.reg true [oP 0 2 (.mov (.c (.bool false)))]) (.ret)) (.skip)))) (.reg true [oM 0 11 3, oP 1 12 (.bin .add (.t 11) (.c (.int .i64 1))), oM 2 3 12])))
@[go_sem] theorem F412_k2_r : CE F412_k2.eq_1 := CEM F412_k2.eq_1
def F412_k3 : ACode := .seq (.seq (.reg true [oM 0 4 0, oP 1 5 (.len (.t 4)), oP 2 6 (.bin .gtr (.t 5) (.c (.int .i64 200)))]) (.cond (.t 6) (.seq (.reg true [oP 0 2 (.mov (.c (.bool false)))]) (.ret)) (.skip))) (.seq (.seq (.reg true [oP 0 3 (.mov (.c (.int .i64 0)))]) (.blk 0 F412_k2)) (.seq (.reg true [oP 0 2 (.mov (.c (.bool true)))]) (.ret)))
@[go_sem] theorem F412_k3_r : CE F412_k3.eq_1 := CEM F412_k3.eq_1
def F412 : AFun := ⟨1, 19, [.t 2], .seq (.reg true [oP 0 2 (.mov (.c (.bool false)))]) F412_k3⟩
def F426_r0 : List AOper := [oM 0 3 0, oP 1 4 (.nilchk (.t 3)), oP 2 5 (.faddr 0 (.t 4)), oP 3 6 (.load none (.t 5))]
@[go_sem] theorem F426_r0_r : OE F426_r0.eq_1 := OEM F426_r0.eq_1
def F426_r1 : List AOper := [oM 0 9 0, oP 1 10 (.nilchk (.t 9)), oP 2 11 (.faddr 1 (.t 10)), oP 3 12 (.load none (.t 11)), oP 4 13 (.call 340 [.t 12, .c (.int .i64 1), .c (.int .i64 8)]), oM 5 2 13]
@[go_sem] theorem F426_r1_r : OE F426_r1.eq_1 := OEM F426_r1.eq_1
def F426_r2 : List AOper := [oM 0 16 0, oP 1 17 (.nilchk (.t 16)), oP 2 18 (.faddr 1 (.t 17)), oP 3 19 (.load none (.t 18)), oP 4 20 (.call 340 [.t 19, .c (.int .i64 0), .c (.int .i64 23)]), oM 5 2 20]
@[go_sem] theorem F426_r2_r : OE F426_r2.eq_1 := OEM F426_r2.eq_1
def F426_r3 : List AOper := [oM 0 23 0, oP 1 24 (.nilchk (.t 23)), oP 2 25 (.faddr 1 (.t 24)), oP 3 26 (.load none (.t 25)), oP 4 27 (.call 340 [.t 26, .c (.int .i64 1), .c (.int .i64 600)]), oM 5 2 27]
@[go_sem] theorem F426_r3_r : OE F426_r3.eq_1 := OEM F426_r3.eq_1
def F426_k4 : ACode := .cond (.t 7) (.seq (.reg true F426_r1) (.ret)) (.seq (.reg true [oP 0 15 (.bin .eql (.t 6) (.c (.int .i64 2))), oM 1 14 15]) (.cond (.t 14) (.seq (.reg true F426_r2) (.ret)) (.seq (.reg true [oP 0 22 (.bin .eql (.t 6) (.c (.int .i64 3))), oM 1 21 22]) (.cond (.t 21) (.seq (.reg true F426_r3) (.ret)) (.skip)))))
@[go_sem] theorem F426_k4_r : CE F426_k4.eq_1 := CEM F426_k4.eq_1
def F426 : AFun := ⟨1, 28, [.t 2], .seq (.reg true [oP 0 2 (.mov (.c (.bool false)))]) (.seq (.seq (.reg true F426_r0) (.blk 0 (.seq (.reg true [oP 0 8 (.bin .eql (.t 6) (.c (.int .i64 1))), oM 1 7 8]) F426_k4))) (.seq (.reg true [oP 0 2 (.mov (.c (.bool false)))]) (.ret)))⟩
def F488_r0 : List AOper := [oP 0 5 (.nop 3), oP 1 6 (.lload 3 0 none), oM 2 7 0, oP 3 8 (.len (.t 7)), oP 4 9 (.bin .sub (.t 8) (.c (.int .i64 1))), oP 5 10 (.call 340 [.t 6, .c (.int .i64 0), .t 9]), oM 6 11 10, oG 7 12 11 true (.nop 3), oG 8 13 11 true (.lload 3 1 none), oG 9 14 11 true (.mov (.t 0)), oG 10 15 11 true (.nop 3), oG 11 16 11 true (.lload 3 0 none), oG 12 17 11 true (.iaddr 5 (.t 14) (.t 16)), oG 13 18 11 true (.faddr 4 (.t 17)), oG 14 19 11 true (.load none (.t 18)), oG 15 20 11 true (.len (.t 19)), oG 16 21 11 true (.bin .sub (.t 20) (.c (.int .i64 1))), oG 17 22 11 true (.call 340 [.t 13, .c (.int .i64 0), .t 21]), oP 18 23 (.pick (.t 11) (.t 22) (.c (.bool false))), oM 19 4 23]
@[go_sem] theorem F488_r0_r : OE F488_r0.eq_1 := OEM F488_r0.eq_1
def F488 : AFun := ⟨2, 24, [.t 4], .seq (.reg true [oP 0 3 (.lbox 2 (.t 1)), oP 1 4 (.mov (.c (.bool false)))]) (.seq (.reg true F488_r0) (.ret))⟩
def F1371_k0 : ACode := .seq (.seq (.reg true [oM 0 7 1, oP 1 8 (.call 340 [.t 7, .c (.int .i64 0), .c (.int .i64 3)])]) (.cond (.t 8) (.seq (.reg true [oM 0 9 1, oP 1 10 (.bin .add (.c (.int .i64 1)) (.t 9)), oM 2 4 10]) (.ret)) (.skip))) (.seq (.reg true [oP 0 4 (.mov (.c (.int .i64 0)))]) (.ret))
@[go_sem] theorem F1371_k0_r : CE F1371_k0.eq_1 := CEM F1371_k0.eq_1
def F1371_k1 : ACode := .seq (.reg true [oP 0 16 (.bin .eql (.t 13) (.c (.int .i64 5))), oM 1 14 16]) (.cond (.t 14) (.skip) (.seq (.reg true [oP 0 17 (.bin .eql (.t 13) (.c (.int .i64 6))), oM 1 14 17]) (.cond (.t 14) (.skip) (.reg true [oP 0 18 (.bin .eql (.t 13) (.c (.int .i64 12))), oM 1 14 18]))))
@[go_sem] theorem F1371_k1_r : CE F1371_k1.eq_1 := CEM F1371_k1.eq_1
def F1371_k2 : ACode := .seq (.reg true [oP 0 20 (.bin .eql (.t 13) (.c (.int .i64 8))), oM 1 19 20]) (.cond (.t 19) (.skip) (.seq (.reg true [oP 0 21 (.bin .eql (.t 13) (.c (.int .i64 10))), oM 1 19 21]) (.cond (.t 19) (.skip) (.reg true [oP 0 22 (.bin .eql (.t 13) (.c (.int .i64 11))), oM 1 19 22]))))
@[go_sem] theorem F1371_k2_r : CE F1371_k2.eq_1 := CEM F1371_k2.eq_1
def F1371_k3 : ACode := .seq (.reg true [oP 0 25 (.bin .eql (.t 13) (.c (.int .i64 3))), oM 1 23 25]) (.cond (.t 23) (.skip) (.seq (.reg true [oP 0 26 (.bin .eql (.t 13) (.c (.int .i64 4))), oM 1 23 26]) (.cond (.t 23) (.skip) (.reg true [oP 0 27 (.bin .eql (.t 13) (.c (.int .i64 7))), oM 1 23 27]))))
@[go_sem] theorem F1371_k3_r : CE F1371_k3.eq_1 := CEM F1371_k3.eq_1
def F1371_k4 : ACode := .cond (.t 14) (.seq (.reg true [oP 0 4 (.mov (.c (.int .i64 1)))]) (.ret)) (.seq F1371_k2 (.cond (.t 19) (.seq (.reg true [oP 0 4 (.mov (.c (.int .i64 2)))]) (.ret)) (.seq (.seq (.reg true [oP 0 24 (.bin .eql (.t 13) (.c (.int .i64 2))), oM 1 23 24]) (.cond (.t 23) (.skip) F1371_k3)) (.cond (.t 23) (.seq (.reg true [oP 0 4 (.mov (.c (.int .i64 3)))]) (.ret)) (.skip)))))
@[go_sem] theorem F1371_k4_r : CE F1371_k4.eq_1 := CEM F1371_k4.eq_1
def F1371_k5 : ACode := .seq (.seq (.reg true [oM 0 11 1, oP 1 12 (.bin .neq (.t 11) (.c (.int .i64 0)))]) (.cond (.t 12) (.seq (.reg true [oP 0 4 (.mov (.c (.int .i64 0)))]) (.ret)) (.skip))) (.seq (.seq (.reg true [oM 0 13 0]) (.blk 0 (.seq (.seq (.reg true [oP 0 15 (.bin .eql (.t 13) (.c (.int .i64 1))), oM 1 14 15]) (.cond (.t 14) (.skip) F1371_k1)) F1371_k4))) (.seq (.reg true [oP 0 4 (.mov (.c (.int .i64 0)))]) (.ret)))
@[go_sem] theorem F1371_k5_r : CE F1371_k5.eq_1 := CEM F1371_k5.eq_1
def F1371 : AFun := ⟨2, 28, [.t 4], .seq (.reg true [oP 0 4 (.mov (.c (.int .i64 0)))]) (.seq (.seq (.reg true [oM 0 5 0, oP 1 6 (.bin .eql (.t 5) (.c (.int .i64 9)))]) (.cond (.t 6) F1371_k0 (.skip))) F1371_k5)⟩
def F1384_r0 : List AOper := [oM 0 3 0, oP 1 4 (.nilchk (.t 3)), oP 2 5 (.faddr 0 (.t 4)), oP 3 6 (.load none (.t 5)), oP 4 7 (.bin .eql (.t 6) (.c (.int .i64 9)))]
@[go_sem] theorem F1384_r0_r : OE F1384_r0.eq_1 := OEM F1384_r0.eq_1
def F1384_r1 : List AOper := [oM 0 8 0, oP 1 9 (.nilchk (.t 8)), oP 2 10 (.faddr 4 (.t 9)), oP 3 11 (.load none (.t 10)), oP 4 12 (.len (.t 11)), oP 5 13 (.bin .sub (.t 12) (.c (.int .i64 1))), oM 6 2 13]
@[go_sem] theorem F1384_r1_r : OE F1384_r1.eq_1 := OEM F1384_r1.eq_1
def F1384 : AFun := ⟨1, 14, [.t 2], .seq (.reg true [oP 0 2 (.mov (.c (.int .i64 0)))]) (.seq (.seq (.reg true F1384_r0) (.cond (.t 7) (.seq (.reg true F1384_r1) (.ret)) (.skip))) (.seq (.reg true [oP 0 2 (.mov (.c (.int .i64 0)))]) (.ret)))⟩
def F1372_k0 : ACode := .seq (.reg true [oP 0 11 (.bin .eql (.t 3) (.c (.int .i64 10))), oM 1 4 11]) (.cond (.t 4) (.skip) (.seq (.reg true [oP 0 12 (.bin .eql (.t 3) (.c (.int .i64 11))), oM 1 4 12]) (.cond (.t 4) (.skip) (.reg true [oP 0 13 (.bin .eql (.t 3) (.c (.int .i64 12))), oM 1 4 13]))))
@[go_sem] theorem F1372_k0_r : CE F1372_k0.eq_1 := CEM F1372_k0.eq_1
def F1372_k1 : ACode := .seq (.reg true [oP 0 8 (.bin .eql (.t 3) (.c (.int .i64 7))), oM 1 4 8]) (.cond (.t 4) (.skip) (.seq (.reg true [oP 0 9 (.bin .eql (.t 3) (.c (.int .i64 8))), oM 1 4 9]) (.cond (.t 4) (.skip) (.seq (.reg true [oP 0 10 (.bin .eql (.t 3) (.c (.int .i64 9))), oM 1 4 10]) (.cond (.t 4) (.skip) F1372_k0)))))
@[go_sem] theorem F1372_k1_r : CE F1372_k1.eq_1 := CEM F1372_k1.eq_1
def F1372_k2 : ACode := .seq (.reg true [oP 0 5 (.bin .eql (.t 3) (.c (.int .i64 2))), oM 1 4 5]) (.cond (.t 4) (.skip) (.seq (.reg true [oP 0 6 (.bin .eql (.t 3) (.c (.int .i64 3))), oM 1 4 6]) (.cond (.t 4) (.skip) (.seq (.reg true [oP 0 7 (.bin .eql (.t 3) (.c (.int .i64 4))), oM 1 4 7]) (.cond (.t 4) (.skip) F1372_k1)))))
@[go_sem] theorem F1372_k2_r : CE F1372_k2.eq_1 := CEM F1372_k2.eq_1
def F1372 : AFun := ⟨1, 14, [.t 2], .seq (.reg true [oP 0 2 (.mov (.c (.bool false)))]) (.seq (.seq (.reg true [oM 0 3 0]) (.blk 0 (.seq F1372_k2 (.cond (.t 4) (.seq (.reg true [oP 0 2 (.mov (.c (.bool true)))]) (.ret)) (.skip))))) (.seq (.reg true [oP 0 2 (.mov (.c (.bool false)))]) (.ret)))⟩
def F1489 : AFun := ⟨1, 5, [.t 2], .seq (.reg true [oP 0 2 (.mov (.c (.bool false)))]) (.seq (.reg true [oM 0 3 0, oP 1 4 (.call 340 [.t 3, .c (.int .i64 1), .c (.int .i64 12)]), oM 2 2 4]) (.ret))⟩
def F1385_r0 : List AOper := [oM 0 9 0, oP 1 10 (.call 1489 [.t 9]), oM 2 11 10, oG 3 12 11 true (.mov (.t 1)), oG 4 13 11 true (.bin .eql (.t 12) (.c (.int .i64 0))), oP 5 14 (.pick (.t 11) (.t 13) (.c (.bool false))), oM 6 4 14]
@[go_sem] theorem F1385_r0_r : OE F1385_r0.eq_1 := OEM F1385_r0.eq_1
def F1385 : AFun := ⟨2, 15, [.t 4], .seq (.reg true [oP 0 4 (.mov (.c (.bool false)))]) (.seq (.seq (.reg true [oM 0 5 0, oP 1 6 (.call 1372 [.t 5])]) (.cond (.t 6) (.seq (.reg true [oM 0 7 1, oP 1 8 (.call 340 [.t 7, .c (.int .i64 0), .c (.int .i64 8)]), oM 2 4 8]) (.ret)) (.skip))) (.seq (.reg true F1385_r0) (.ret)))⟩
def F1494 : AFun := ⟨1, 5, [.t 2], .seq (.reg true [oP 0 2 (.mov (.c (.bool false)))]) (.seq (.reg true [oM 0 3 0, oP 1 4 (.call 340 [.t 3, .c (.int .i64 0), .c (.int .i64 23)]), oM 2 2 4]) (.ret))⟩
def F1386_r0 : List AOper := [oM 0 4 0, oP 1 5 (.nilchk (.t 4)), oP 2 6 (.faddr 0 (.t 5)), oP 3 7 (.load none (.t 6))]
@[go_sem] theorem F1386_r0_r : OE F1386_r0.eq_1 := OEM F1386_r0.eq_1
def F1386_r1 : List AOper := [oM 0 10 0, oP 1 11 (.nilchk (.t 10)), oP 2 12 (.faddr 3 (.t 11)), oP 3 13 (.load none (.t 12)), oP 4 14 (.len (.t 13)), oP 5 15 (.bin .eql (.t 14) (.c (.int .i64 0))), oM 6 16 15, oG 7 17 16 true (.mov (.t 0)), oG 8 18 16 true (.nilchk (.t 17)), oG 9 19 16 true (.faddr 2 (.t 18)), oG 10 20 16 true (.load none (.t 19)), oG 11 21 16 true (.call 340 [.t 20, .c (.int .i64 (-2147483648)), .c (.int .i64 2147483647)]), oP 12 22 (.pick (.t 16) (.t 21) (.c (.bool false))), oM 13 2 22]
@[go_sem] theorem F1386_r1_r : OE F1386_r1.eq_1 := OEM F1386_r1.eq_1
def F1386_r2 : List AOper := [oM 0 25 0, oP 1 26 (.nilchk (.t 25)), oP 2 27 (.faddr 3 (.t 26)), oP 3 28 (.load none (.t 27)), oP 4 29 (.len (.t 28)), oP 5 30 (.bin .eql (.t 29) (.c (.int .i64 0))), oM 6 31 30, oG 7 32 31 true (.mov (.t 0)), oG 8 33 31 true (.nilchk (.t 32)), oG 9 34 31 true (.faddr 2 (.t 33)), oG 10 35 31 true (.load none (.t 34)), oG 11 36 31 true (.call 340 [.t 35, .c (.int .i64 1), .c (.int .i64 6)]), oP 12 37 (.pick (.t 31) (.t 36) (.c (.bool false))), oM 13 2 37]
@[go_sem] theorem F1386_r2_r : OE F1386_r2.eq_1 := OEM F1386_r2.eq_1
def F1386_r3 : List AOper := [oM 0 40 0, oP 1 41 (.nilchk (.t 40)), oP 2 42 (.faddr 3 (.t 41)), oP 3 43 (.load none (.t 42)), oP 4 44 (.len (.t 43)), oP 5 45 (.bin .eql (.t 44) (.c (.int .i64 1))), oM 6 46 45, oG 7 47 46 true (.mov (.t 0)), oG 8 48 46 true (.nilchk (.t 47)), oG 9 49 46 true (.faddr 2 (.t 48)), oG 10 50 46 true (.load none (.t 49)), oG 11 51 46 true (.call 340 [.t 50, .c (.int .i64 1), .c (.int .i64 6)]), oP 12 52 (.pick (.t 46) (.t 51) (.c (.bool false))), oM 13 53 52, oG 14 54 53 true (.mov (.t 0)), oG 15 55 53 true (.nilchk (.t 54)), oG 16 56 53 true (.faddr 3 (.t 55)), oG 17 57 53 true (.load none (.t 56)), oG 18 58 53 true (.iaddr 1 (.t 57) (.c (.int .i64 0))), oG 19 59 53 true (.load none (.t 58)), oG 20 60 53 true (.call 340 [.t 59, .c (.int .i64 (-2147483648)), .c (.int .i64 2147483647)]), oP 21 61 (.pick (.t 53) (.t 60) (.c (.bool false))), oM 22 2 61]
@[go_sem] theorem F1386_r3_r : OE F1386_r3.eq_1 := OEM F1386_r3.eq_1
def F1386_r4 : List AOper := [oM 0 64 0, oP 1 65 (.nilchk (.t 64)), oP 2 66 (.faddr 3 (.t 65)), oP 3 67 (.load none (.t 66)), oP 4 68 (.len (.t 67)), oP 5 69 (.bin .eql (.t 68) (.c (.int .i64 0))), oM 6 70 69, oG 7 71 70 true (.mov (.t 0)), oG 8 72 70 true (.nilchk (.t 71)), oG 9 73 70 true (.faddr 2 (.t 72)), oG 10 74 70 true (.load none (.t 73)), oG 11 75 70 true (.call 340 [.t 74, .c (.int .i64 0), .c (.int .i64 3)]), oP 12 76 (.pick (.t 70) (.t 75) (.c (.bool false))), oM 13 2 76]
@[go_sem] theorem F1386_r4_r : OE F1386_r4.eq_1 := OEM F1386_r4.eq_1
def F1386_r5 : List AOper := [oM 0 79 0, oP 1 80 (.nilchk (.t 79)), oP 2 81 (.faddr 3 (.t 80)), oP 3 82 (.load none (.t 81)), oP 4 83 (.len (.t 82)), oP 5 84 (.bin .eql (.t 83) (.c (.int .i64 0))), oM 6 85 84, oG 7 86 85 true (.mov (.t 0)), oG 8 87 85 true (.nilchk (.t 86)), oG 9 88 85 true (.faddr 2 (.t 87)), oG 10 89 85 true (.load none (.t 88)), oG 11 90 85 true (.call 1494 [.t 89]), oP 12 91 (.pick (.t 85) (.t 90) (.c (.bool false))), oM 13 2 91]
@[go_sem] theorem F1386_r5_r : OE F1386_r5.eq_1 := OEM F1386_r5.eq_1
def F1386_r6 : List AOper := [oM 0 95 0, oP 1 96 (.nilchk (.t 95)), oP 2 97 (.faddr 2 (.t 96)), oP 3 98 (.load none (.t 97)), oP 4 99 (.bin .neq (.t 98) (.c (.int .i64 0))), oM 5 100 99, oG 6 101 100 false (.mov (.t 0)), oG 7 102 100 false (.nilchk (.t 101)), oG 8 103 100 false (.faddr 0 (.t 102)), oG 9 104 100 false (.load none (.t 103)), oG 10 105 100 false (.bin .eql (.t 104) (.c (.int .i64 11))), oG 11 106 100 false (.mov (.t 105)), oG 12 107 106 true (.mov (.t 0)), oG 13 108 106 true (.nilchk (.t 107)), oG 14 109 106 true (.faddr 3 (.t 108)), oG 15 110 106 true (.load none (.t 109)), oG 16 111 106 true (.len (.t 110)), oG 17 112 106 true (.bin .neq (.t 111) (.c (.int .i64 2))), oG 18 113 100 false (.pick (.t 106) (.t 112) (.c (.bool false))), oP 19 114 (.pick (.t 100) (.c (.bool true)) (.t 113)), oM 20 115 114, oG 21 116 115 false (.mov (.t 0)), oG 22 117 115 false (.nilchk (.t 116)), oG 23 118 115 false (.faddr 0 (.t 117)), oG 24 119 115 false (.load none (.t 118)), oG 25 120 115 false (.bin .eql (.t 119) (.c (.int .i64 10))), oG 26 121 115 false (.mov (.t 120)), oG 27 122 121 true (.mov (.t 0)), oG 28 123 121 true (.nilchk (.t 122)), oG 29 124 121 true (.faddr 3 (.t 123)), oG 30 125 121 true (.load none (.t 124)), oG 31 126 121 true (.len (.t 125)), oG 32 127 121 true (.call 340 [.t 126, .c (.int .i64 1), .c (.int .i64 4)]), oG 33 128 121 true (.not (.t 127)), oG 34 129 115 false (.pick (.t 121) (.t 128) (.c (.bool false))), oP 35 130 (.pick (.t 115) (.c (.bool true)) (.t 129))]
@[go_sem] theorem F1386_r6_r : OE F1386_r6.eq_1 := OEM F1386_r6.eq_1
def F1386_r7 : List AOper := [oM 0 131 3, oM 1 132 0, oP 2 133 (.nilchk (.t 132)), oP 3 134 (.faddr 3 (.t 133)), oP 4 135 (.load none (.t 134)), oP 5 136 (.len (.t 135)), oP 6 137 (.bin .lss (.t 131) (.t 136))]
@[go_sem] theorem F1386_r7_r : OE F1386_r7.eq_1 := OEM F1386_r7.eq_1
def F1386_r8 : List AOper := [oM 0 140 0, oP 1 141 (.nilchk (.t 140)), oP 2 142 (.faddr 3 (.t 141)), oP 3 143 (.load none (.t 142)), oM 4 144 3, oP 5 145 (.iaddr 1 (.t 143) (.t 144)), oP 6 146 (.load none (.t 145)), oP 7 147 (.call 1494 [.t 146]), oP 8 148 (.not (.t 147))]
@[go_sem] theorem F1386_r8_r : OE F1386_r8.eq_1 := OEM F1386_r8.eq_1
def F1386_k9 : ACode := .loop (.seq (.seq (.reg true F1386_r7) (.cond (.t 137) (.skip) (.exit 1))) (.seq (.blk 2 (.seq (.reg true F1386_r8) (.cond (.t 148) (.seq (.reg true [oP 0 2 (.mov (.c (.bool false)))]) (.ret)) (.skip)))) (.reg true [oM 0 138 3, oP 1 139 (.bin .add (.t 138) (.c (.int .i64 1))), oM 2 3 139])))
@[go_sem] theorem F1386_k9_r : CE F1386_k9.eq_1 := CEM F1386_k9.eq_1
def F1386_k10 : ACode := .seq (.seq (.reg true [oP 0 93 (.bin .eql (.t 7) (.c (.int .i64 10))), oM 1 92 93]) (.cond (.t 92) (.skip) (.reg true [oP 0 94 (.bin .eql (.t 7) (.c (.int .i64 11))), oM 1 92 94]))) (.cond (.t 92) (.seq (.seq (.reg true F1386_r6) (.cond (.t 130) (.seq (.reg true [oP 0 2 (.mov (.c (.bool false)))]) (.ret)) (.skip))) (.seq (.seq (.reg true [oP 0 3 (.mov (.c (.int .i64 0)))]) (.blk 1 F1386_k9)) (.seq (.reg true [oP 0 2 (.mov (.c (.bool true)))]) (.ret)))) (.skip))
@[go_sem] theorem F1386_k10_r : CE F1386_k10.eq_1 := CEM F1386_k10.eq_1
def F1386_k11 : ACode := .cond (.t 38) (.seq (.reg true F1386_r3) (.ret)) (.seq (.reg true [oP 0 63 (.bin .eql (.t 7) (.c (.int .i64 9))), oM 1 62 63]) (.cond (.t 62) (.seq (.reg true F1386_r4) (.ret)) (.seq (.reg true [oP 0 78 (.bin .eql (.t 7) (.c (.int .i64 12))), oM 1 77 78]) (.cond (.t 77) (.seq (.reg true F1386_r5) (.ret)) F1386_k10))))
@[go_sem] theorem F1386_k11_r : CE F1386_k11.eq_1 := CEM F1386_k11.eq_1
def F1386_k12 : ACode := .seq (.reg true [oP 0 9 (.bin .eql (.t 7) (.c (.int .i64 6))), oM 1 8 9]) (.cond (.t 8) (.seq (.reg true F1386_r1) (.ret)) (.seq (.reg true [oP 0 24 (.bin .eql (.t 7) (.c (.int .i64 7))), oM 1 23 24]) (.cond (.t 23) (.seq (.reg true F1386_r2) (.ret)) (.seq (.reg true [oP 0 39 (.bin .eql (.t 7) (.c (.int .i64 8))), oM 1 38 39]) F1386_k11))))
@[go_sem] theorem F1386_k12_r : CE F1386_k12.eq_1 := CEM F1386_k12.eq_1
def F1386_r13 : List AOper := [oM 0 149 0, oP 1 150 (.nilchk (.t 149)), oP 2 151 (.faddr 2 (.t 150)), oP 3 152 (.load none (.t 151)), oP 4 153 (.bin .eql (.t 152) (.c (.int .i64 0))), oM 5 154 153, oG 6 155 154 true (.mov (.t 0)), oG 7 156 154 true (.nilchk (.t 155)), oG 8 157 154 true (.faddr 3 (.t 156)), oG 9 158 154 true (.load none (.t 157)), oG 10 159 154 true (.len (.t 158)), oG 11 160 154 true (.bin .eql (.t 159) (.c (.int .i64 0))), oP 12 161 (.pick (.t 154) (.t 160) (.c (.bool false))), oM 13 2 161]
@[go_sem] theorem F1386_r13_r : OE F1386_r13.eq_1 := OEM F1386_r13.eq_1
def F1386 : AFun := ⟨1, 162, [.t 2], .seq (.reg true [oP 0 2 (.mov (.c (.bool false)))]) (.seq (.seq (.reg true F1386_r0) (.blk 0 F1386_k12)) (.seq (.reg true F1386_r13) (.ret)))⟩
def F1096_r0 : List AOper := [oM 0 4 0, oP 1 5 (.nilchk (.t 4)), oP 2 6 (.faddr 0 (.t 5)), oP 3 7 (.load none (.t 6)), oM 4 8 0, ⟨5, some 9, none, .call 1384 [.t 8], [⟨3, some 7, none, .load none (.t 6), []⟩]⟩, oP 6 10 (.call 1371 [.t 7, .t 9]), oM 7 3 10]
@[go_sem] theorem F1096_r0_r : OE F1096_r0.eq_1 := OEM F1096_r0.eq_1
def F1096_r1 : List AOper := [oM 0 11 3, oP 1 12 (.bin .gtr (.t 11) (.c (.int .i64 0))), oM 2 13 12, oG 3 14 13 true (.mov (.t 0)), oG 4 15 13 true (.nilchk (.t 14)), oG 5 16 13 true (.faddr 4 (.t 15)), oG 6 17 13 true (.load none (.t 16)), oG 7 18 13 true (.len (.t 17)), oG 8 19 13 true (.mov (.t 3)), oG 9 20 13 true (.bin .eql (.t 18) (.t 19)), oP 10 21 (.pick (.t 13) (.t 20) (.c (.bool false))), oM 11 22 21, oG 12 23 22 true (.mov (.t 0)), oG 13 24 22 true (.nilchk (.t 23)), oG 14 25 22 true (.faddr 0 (.t 24)), oG 15 26 22 true (.load none (.t 25)), oG 16 27 22 true (.mov (.t 0)), oG 17 28 22 true (.nilchk (.t 27)), oG 18 29 22 true (.faddr 1 (.t 28)), oG 19 30 22 true (.load none (.t 29)), oG 20 31 22 true (.call 1385 [.t 26, .t 30]), oP 21 32 (.pick (.t 22) (.t 31) (.c (.bool false))), oM 22 33 32, oG 23 34 33 true (.mov (.t 0)), oG 24 35 33 true (.call 1386 [.t 34]), oP 25 36 (.pick (.t 33) (.t 35) (.c (.bool false))), oM 26 2 36]
@[go_sem] theorem F1096_r1_r : OE F1096_r1.eq_1 := OEM F1096_r1.eq_1
def F1096 : AFun := ⟨1, 37, [.t 2], .seq (.reg true [oP 0 2 (.mov (.c (.bool false)))]) (.seq (.reg true F1096_r0) (.seq (.reg true F1096_r1) (.ret)))⟩
def F710_r0 : List AOper := [oM 0 4 0, oP 1 5 (.len (.t 4)), oP 2 6 (.call 340 [.t 5, .c (.int .i64 1), .c (.int .i64 600)]), oP 3 7 (.not (.t 6))]
@[go_sem] theorem F710_r0_r : OE F710_r0.eq_1 := OEM F710_r0.eq_1
def F710_r1 : List AOper := [oM 0 8 3, oM 1 9 0, oP 2 10 (.len (.t 9)), oP 3 11 (.bin .lss (.t 8) (.t 10))]
@[go_sem] theorem F710_r1_r : OE F710_r1.eq_1 := OEM F710_r1.eq_1
def F710_r2 : List AOper := [oM 0 14 0, oM 1 15 3, oP 2 16 (.iaddr 5 (.t 14) (.t 15)), oP 3 17 (.call 1096 [.t 16]), oP 4 18 (.not (.t 17)), oM 5 19 18, oG 6 20 19 false (.mov (.t 0)), oG 7 21 19 false (.mov (.t 3)), oG 8 22 19 false (.iaddr 5 (.t 20) (.t 21)), oG 9 23 19 false (.faddr 0 (.t 22)), oG 10 24 19 false (.load none (.t 23)), oG 11 25 19 false (.bin .eql (.t 24) (.c (.int .i64 1))), oG 12 26 19 false (.mov (.t 3)), oG 13 27 19 false (.bin .eql (.t 26) (.c (.int .i64 0))), oG 14 28 19 false (.beq true (.t 25) (.t 27)), oP 15 29 (.pick (.t 19) (.c (.bool true)) (.t 28))]
@[go_sem] theorem F710_r2_r : OE F710_r2.eq_1 := OEM F710_r2.eq_1
def F710_k3 : ACode := .loop (.seq (.seq (.reg true F710_r1) (.cond (.t 11) (.skip) (.exit 0))) (.seq (.blk 1 (.seq (.reg true F710_r2) (.cond (.t 29) (.seq (.reg true [oP 0 2 (.mov (.c (.bool false)))]) (.ret)) (.skip)))) (.reg true [oM 0 12 3, oP 1 13 (.bin .add (.t 12) (.c (.int .i64 1))), oM 2 3 13])))
@[go_sem] theorem F710_k3_r : CE F710_k3.eq_1 := CEM F710_k3.eq_1
def F710 : AFun := ⟨1, 30, [.t 2], .seq (.reg true [oP 0 2 (.mov (.c (.bool false)))]) (.seq (.seq (.reg true F710_r0) (.cond (.t 7) (.seq (.reg true [oP 0 2 (.mov (.c (.bool false)))]) (.ret)) (.skip))) (.seq (.seq (.reg true [oP 0 3 (.mov (.c (.int .i64 0)))]) (.blk 0 F710_k3)) (.seq (.reg true [oP 0 2 (.mov (.c (.bool true)))]) (.ret))))⟩
def F318_r0 : List AOper := [oM 0 8 0, oP 1 9 (.nilchk (.t 8)), oP 2 10 (.faddr 0 (.t 9)), oP 3 11 (.load none (.t 10)), oP 4 12 (.call 710 [.t 11]), oP 5 13 (.not (.t 12))]
@[go_sem] theorem F318_r0_r : OE F318_r0.eq_1 := OEM F318_r0.eq_1
def F318_r1 : List AOper := [oM 0 14 3, oM 1 15 0, oP 2 16 (.nilchk (.t 15)), oP 3 17 (.faddr 0 (.t 16)), oP 4 18 (.load none (.t 17)), oP 5 19 (.len (.t 18)), oP 6 20 (.bin .lss (.t 14) (.t 19))]
@[go_sem] theorem F318_r1_r : OE F318_r1.eq_1 := OEM F318_r1.eq_1
def F318_r2 : List AOper := [oM 0 23 0, oP 1 24 (.nilchk (.t 23)), oP 2 25 (.faddr 0 (.t 24)), oP 3 26 (.load none (.t 25)), oM 4 27 3, oP 5 28 (.iaddr 5 (.t 26) (.t 27)), oM 6 4 28]
@[go_sem] theorem F318_r2_r : OE F318_r2.eq_1 := OEM F318_r2.eq_1
def F318_r3 : List AOper := [oM 0 29 5, oM 1 30 4, oP 2 31 (.nilchk (.t 30)), oP 3 32 (.faddr 4 (.t 31)), oP 4 33 (.load none (.t 32)), oP 5 34 (.len (.t 33)), oP 6 35 (.bin .lss (.t 29) (.t 34))]
@[go_sem] theorem F318_r3_r : OE F318_r3.eq_1 := OEM F318_r3.eq_1
def F318_r4 : List AOper := [oM 0 38 3, oM 1 39 5, oP 2 40 (.build (.agg [.int .i64 0, .int .i64 0]) [(0, 1, .t 38), (1, 1, .t 39)]), oP 3 6 (.lalloc (.agg [.int .i64 0, .int .i64 0])), oN 4 (.lstore 6 0 2 (.t 40))]
@[go_sem] theorem F318_r4_r : OE F318_r4.eq_1 := OEM F318_r4.eq_1
def F318_r5 : List AOper := [oM 0 41 4, oP 1 42 (.nilchk (.t 41)), oP 2 43 (.faddr 4 (.t 42)), oP 3 44 (.load none (.t 43)), oM 4 45 5, oP 5 46 (.iaddr 2 (.t 44) (.t 45)), oP 6 47 (.load (some 2) (.t 46)), oP 7 7 (.lalloc (.agg [.int .i64 0, .int .i64 0])), oN 8 (.lstore 7 0 2 (.t 47))]
@[go_sem] theorem F318_r5_r : OE F318_r5.eq_1 := OEM F318_r5.eq_1
def F318_r6 : List AOper := [oP 0 48 (.lload 7 0 (some 2)), oP 1 49 (.lload 6 0 (some 2)), oP 2 50 (.seq false [1, 1] (.t 48) (.t 49)), oM 3 51 50, oG 4 52 51 false (.mov (.t 0)), oG 5 53 51 false (.nilchk (.t 52)), oG 6 54 51 false (.faddr 0 (.t 53)), oG 7 55 51 false (.load none (.t 54)), oG 8 56 51 false (.lload 7 0 (some 2)), oG 9 57 51 false (.call 488 [.t 55, .t 56]), oG 10 58 51 false (.not (.t 57)), oP 11 59 (.pick (.t 51) (.c (.bool true)) (.t 58)), oM 12 60 59, oG 13 61 60 false (.mov (.t 0)), oG 14 62 60 false (.nilchk (.t 61)), oG 15 63 60 false (.faddr 0 (.t 62)), oG 16 64 60 false (.load none (.t 63)), oG 17 65 60 false (.nop 7), oG 18 66 60 false (.lload 7 0 none), oG 19 67 60 false (.iaddr 5 (.t 64) (.t 66)), oG 20 68 60 false (.faddr 4 (.t 67)), oG 21 69 60 false (.load none (.t 68)), oG 22 70 60 false (.nop 7), oG 23 71 60 false (.lload 7 1 none), oG 24 72 60 false (.iaddr 2 (.t 69) (.t 71)), oG 25 73 60 false (.load (some 2) (.t 72)), oG 26 74 60 false (.lload 6 0 (some 2)), oG 27 75 60 false (.seq true [1, 1] (.t 73) (.t 74)), oP 28 76 (.pick (.t 60) (.c (.bool true)) (.t 75))]
@[go_sem] theorem F318_r6_r : OE F318_r6.eq_1 := OEM F318_r6.eq_1
def F318_k7 : ACode := .seq (.blk 3 (.seq (.reg true F318_r4) (.seq (.reg true F318_r5) (.seq (.reg true F318_r6) (.cond (.t 76) (.seq (.reg true [oP 0 2 (.mov (.c (.bool false)))]) (.ret)) (.skip)))))) (.reg true [oM 0 36 5, oP 1 37 (.bin .add (.t 36) (.c (.int .i64 1))), oM 2 5 37])
@[go_sem] theorem F318_k7_r : CE F318_k7.eq_1 := CEM F318_k7.eq_1
def F318_k8 : ACode := .seq (.blk 1 (.seq (.reg true F318_r2) (.seq (.reg true [oP 0 5 (.mov (.c (.int .i64 0)))]) (.blk 2 (.loop (.seq (.seq (.reg true F318_r3) (.cond (.t 35) (.skip) (.exit 2))) F318_k7)))))) (.reg true [oM 0 21 3, oP 1 22 (.bin .add (.t 21) (.c (.int .i64 1))), oM 2 3 22])
@[go_sem] theorem F318_k8_r : CE F318_k8.eq_1 := CEM F318_k8.eq_1
def F318_k9 : ACode := .seq (.seq (.reg true F318_r0) (.cond (.t 13) (.seq (.reg true [oP 0 2 (.mov (.c (.bool false)))]) (.ret)) (.skip))) (.seq (.seq (.reg true [oP 0 3 (.mov (.c (.int .i64 0)))]) (.blk 0 (.loop (.seq (.seq (.reg true F318_r1) (.cond (.t 20) (.skip) (.exit 0))) F318_k8)))) (.seq (.reg true [oP 0 2 (.mov (.c (.bool true)))]) (.ret)))
@[go_sem] theorem F318_k9_r : CE F318_k9.eq_1 := CEM F318_k9.eq_1
def F318 : AFun := ⟨1, 77, [.t 2], .seq (.reg true [oP 0 2 (.mov (.c (.bool false)))]) F318_k9⟩
def F598_r0 : List AOper := [oM 0 7 3, oM 1 8 0, oP 2 9 (.len (.t 8)), oP 3 10 (.bin .lss (.t 7) (.t 9))]
@[go_sem] theorem F598_r0_r : OE F598_r0.eq_1 := OEM F598_r0.eq_1
def F598_r1 : List AOper := [oM 0 13 0, oM 1 14 3, oP 2 15 (.iaddr 1 (.t 13) (.t 14)), oP 3 16 (.call 318 [.t 15]), oP 4 17 (.not (.t 16))]
@[go_sem] theorem F598_r1_r : OE F598_r1.eq_1 := OEM F598_r1.eq_1
def F598_k2 : ACode := .loop (.seq (.seq (.reg true F598_r0) (.cond (.t 10) (.skip) (.exit 0))) (.seq (.blk 1 (.seq (.reg true F598_r1) (.cond (.t 17) (.seq (.reg true [oP 0 2 (.mov (.c (.bool false)))]) (.ret)) (.skip)))) (.reg true [oM 0 11 3, oP 1 12 (.bin .add (.t 11) (.c (.int .i64 1))), oM 2 3 12])))
@[go_sem] theorem F598_k2_r : CE F598_k2.eq_1 := CEM F598_k2.eq_1
def F598_k3 : ACode := .seq (.seq (.reg true [oM 0 4 0, oP 1 5 (.len (.t 4)), oP 2 6 (.bin .gtr (.t 5) (.c (.int .i64 24)))]) (.cond (.t 6) (.seq (.reg true [oP 0 2 (.mov (.c (.bool false)))]) (.ret)) (.skip))) (.seq (.seq (.reg true [oP 0 3 (.mov (.c (.int .i64 0)))]) (.blk 0 F598_k2)) (.seq (.reg true [oP 0 2 (.mov (.c (.bool true)))]) (.ret)))
@[go_sem] theorem F598_k3_r : CE F598_k3.eq_1 := CEM F598_k3.eq_1
def F598 : AFun := ⟨1, 18, [.t 2], .seq (.reg true [oP 0 2 (.mov (.c (.bool false)))]) F598_k3⟩
def F1109_r0 : List AOper := [oM 0 5 0, oP 1 6 (.nilchk (.t 5)), oP 2 7 (.faddr 0 (.t 6)), oP 3 8 (.load none (.t 7)), oM 4 9 1, oP 5 10 (.call 340 [.t 8, .c (.int .i64 0), .t 9]), oM 6 11 10, oG 7 12 11 true (.mov (.t 0)), oG 8 13 11 true (.nilchk (.t 12)), oG 9 14 11 true (.faddr 1 (.t 13)), oG 10 15 11 true (.load none (.t 14)), oG 11 16 11 true (.call 340 [.t 15, .c (.int .i64 (-1)), .c (.int .i64 23)]), oP 12 17 (.pick (.t 11) (.t 16) (.c (.bool false))), oM 13 18 17, oG 14 19 18 true (.mov (.t 0)), oG 15 20 18 true (.nilchk (.t 19)), oG 16 21 18 true (.faddr 2 (.t 20)), oG 17 22 18 true (.load none (.t 21)), oG 18 23 18 true (.call 340 [.t 22, .c (.int .i64 (-1)), .c (.int .i64 599)]), oP 19 24 (.pick (.t 18) (.t 23) (.c (.bool false))), oM 20 25 24, oG 21 26 25 true (.mov (.t 0)), oG 22 27 25 true (.nilchk (.t 26)), oG 23 28 25 true (.faddr 2 (.t 27)), oG 24 29 25 true (.load none (.t 28)), oG 25 30 25 true (.bin .geq (.t 29) (.c (.int .i64 0))), oG 26 31 25 true (.mov (.t 30)), oG 27 32 31 false (.mov (.t 0)), oG 28 33 31 false (.nilchk (.t 32)), oG 29 34 31 false (.faddr 1 (.t 33)), oG 30 35 31 false (.load none (.t 34)), oG 31 36 31 false (.bin .lss (.t 35) (.c (.int .i64 0))), oG 32 37 25 true (.pick (.t 31) (.c (.bool true)) (.t 36)), oP 33 38 (.pick (.t 25) (.t 37) (.c (.bool false))), oM 34 4 38]
@[go_sem] theorem F1109_r0_r : OE F1109_r0.eq_1 := OEM F1109_r0.eq_1
def F1109 : AFun := ⟨2, 39, [.t 4], .seq (.reg true [oP 0 4 (.mov (.c (.bool false)))]) (.seq (.reg true F1109_r0) (.ret))⟩
def F741_r0 : List AOper := [oM 0 8 0, oP 1 9 (.call 318 [.t 8]), oP 2 10 (.not (.t 9)), oM 3 11 10, oG 4 12 11 false (.mov (.t 1)), oG 5 13 11 false (.len (.t 12)), oG 6 14 11 false (.mov (.t 0)), oG 7 15 11 false (.nilchk (.t 14)), oG 8 16 11 false (.faddr 0 (.t 15)), oG 9 17 11 false (.load none (.t 16)), oG 10 18 11 false (.len (.t 17)), oG 11 19 11 false (.bin .neq (.t 13) (.t 18)), oP 12 20 (.pick (.t 11) (.c (.bool true)) (.t 19))]
@[go_sem] theorem F741_r0_r : OE F741_r0.eq_1 := OEM F741_r0.eq_1
def F741_r1 : List AOper := [oM 0 21 7, oM 1 22 1, oP 2 23 (.len (.t 22)), oP 3 24 (.bin .lss (.t 21) (.t 23))]
@[go_sem] theorem F741_r1_r : OE F741_r1.eq_1 := OEM F741_r1.eq_1
def F741_r2 : List AOper := [oM 0 27 1, oM 1 28 7, oP 2 29 (.iaddr 3 (.t 27) (.t 28)), oM 3 30 2, oP 4 31 (.call 1109 [.t 29, .t 30]), oP 5 32 (.not (.t 31))]
@[go_sem] theorem F741_r2_r : OE F741_r2.eq_1 := OEM F741_r2.eq_1
def F741_k3 : ACode := .loop (.seq (.seq (.reg true F741_r1) (.cond (.t 24) (.skip) (.exit 0))) (.seq (.blk 1 (.seq (.reg true F741_r2) (.cond (.t 32) (.seq (.reg true [oP 0 6 (.mov (.c (.bool false)))]) (.ret)) (.skip)))) (.reg true [oM 0 25 7, oP 1 26 (.bin .add (.t 25) (.c (.int .i64 1))), oM 2 7 26])))
@[go_sem] theorem F741_k3_r : CE F741_k3.eq_1 := CEM F741_k3.eq_1
def F741 : AFun := ⟨3, 33, [.t 6], .seq (.reg true [oP 0 6 (.mov (.c (.bool false)))]) (.seq (.seq (.reg true F741_r0) (.cond (.t 20) (.seq (.reg true [oP 0 6 (.mov (.c (.bool false)))]) (.ret)) (.skip))) (.seq (.seq (.reg true [oP 0 7 (.mov (.c (.int .i64 0)))]) (.blk 0 F741_k3)) (.seq (.reg true [oP 0 6 (.mov (.c (.bool true)))]) (.ret))))⟩
def F367_r0 : List AOper := [oM 0 6 0, oP 1 7 (.nilchk (.t 6)), oP 2 8 (.faddr 0 (.t 7)), oP 3 9 (.load none (.t 8)), oP 4 10 (.call 598 [.t 9]), oP 5 11 (.not (.t 10)), oM 6 12 11, oG 7 13 12 false (.mov (.t 0)), oG 8 14 12 false (.nilchk (.t 13)), oG 9 15 12 false (.faddr 1 (.t 14)), oG 10 16 12 false (.load none (.t 15)), oG 11 17 12 false (.call 412 [.t 16]), oG 12 18 12 false (.not (.t 17)), oP 13 19 (.pick (.t 12) (.c (.bool true)) (.t 18)), oM 14 20 19, oG 15 21 20 false (.mov (.t 0)), oG 16 22 20 false (.nilchk (.t 21)), oG 17 23 20 false (.faddr 2 (.t 22)), oG 18 24 20 false (.load none (.t 23)), oG 19 25 20 false (.call 340 [.t 24, .c (.int .i64 1), .c (.int .i64 50)]), oG 20 26 20 false (.not (.t 25)), oP 21 27 (.pick (.t 20) (.c (.bool true)) (.t 26)), oM 22 28 27, oG 23 29 28 false (.mov (.t 0)), oG 24 30 28 false (.nilchk (.t 29)), oG 25 31 28 false (.faddr 3 (.t 30)), oG 26 32 28 false (.load none (.t 31)), oG 27 33 28 false (.call 340 [.t 32, .c (.int .i64 0), .c (.int .i64 4000)]), oG 28 34 28 false (.not (.t 33)), oP 29 35 (.pick (.t 28) (.c (.bool true)) (.t 34)), oM 30 36 35, oG 31 37 36 false (.mov (.t 0)), oG 32 38 36 false (.nilchk (.t 37)), oG 33 39 36 false (.faddr 4 (.t 38)), oG 34 40 36 false (.mov (.t 0)), oG 35 41 36 false (.nilchk (.t 40)), oG 36 42 36 false (.faddr 5 (.t 41)), oG 37 43 36 false (.load none (.t 42)), oG 38 44 36 false (.mov (.t 0)), oG 39 45 36 false (.nilchk (.t 44)), oG 40 46 36 false (.faddr 3 (.t 45)), oG 41 47 36 false (.load none (.t 46)), oG 42 48 36 false (.call 741 [.t 39, .t 43, .t 47]), oG 43 49 36 false (.not (.t 48)), oP 44 50 (.pick (.t 36) (.c (.bool true)) (.t 49)), oM 45 51 50, oG 46 52 51 false (.mov (.t 0)), oG 47 53 51 false (.nilchk (.t 52)), oG 48 54 51 false (.faddr 6 (.t 53)), oG 49 55 51 false (.load none (.t 54)), oG 50 56 51 false (.len (.t 55)), oG 51 57 51 false (.bin .gtr (.t 56) (.c (.int .i64 8))), oP 52 58 (.pick (.t 51) (.c (.bool true)) (.t 57))]
@[go_sem] theorem F367_r0_r : OE F367_r0.eq_1 := OEM F367_r0.eq_1
def F367_r1 : List AOper := [oM 0 59 3, oM 1 60 0, oP 2 61 (.nilchk (.t 60)), oP 3 62 (.faddr 6 (.t 61)), oP 4 63 (.load none (.t 62)), oP 5 64 (.len (.t 63)), oP 6 65 (.bin .lss (.t 59) (.t 64))]
@[go_sem] theorem F367_r1_r : OE F367_r1.eq_1 := OEM F367_r1.eq_1
def F367_r2 : List AOper := [oM 0 68 0, oP 1 69 (.nilchk (.t 68)), oP 2 70 (.faddr 6 (.t 69)), oP 3 71 (.load none (.t 70)), oM 4 72 3, oP 5 73 (.iaddr 2 (.t 71) (.t 72)), oP 6 74 (.call 426 [.t 73]), oP 7 75 (.not (.t 74))]
@[go_sem] theorem F367_r2_r : OE F367_r2.eq_1 := OEM F367_r2.eq_1
def F367_k3 : ACode := .loop (.seq (.seq (.reg true F367_r1) (.cond (.t 65) (.skip) (.exit 0))) (.seq (.blk 1 (.seq (.reg true F367_r2) (.cond (.t 75) (.seq (.reg true [oP 0 2 (.mov (.c (.bool false)))]) (.ret)) (.skip)))) (.reg true [oM 0 66 3, oP 1 67 (.bin .add (.t 66) (.c (.int .i64 1))), oM 2 3 67])))
@[go_sem] theorem F367_k3_r : CE F367_k3.eq_1 := CEM F367_k3.eq_1
def F367_r4 : List AOper := [oM 0 76 0, oP 1 77 (.nilchk (.t 76)), oP 2 78 (.faddr 7 (.t 77)), oP 3 79 (.load none (.t 78)), oP 4 80 (.len (.t 79)), oM 5 81 0, oP 6 82 (.nilchk (.t 81)), oP 7 83 (.faddr 3 (.t 82)), oP 8 84 (.load none (.t 83)), oM 9 85 0, oP 10 86 (.nilchk (.t 85)), oP 11 87 (.faddr 2 (.t 86)), oP 12 88 (.load none (.t 87)), oP 13 89 (.bin .quo (.t 84) (.t 88)), oP 14 90 (.bin .add (.t 89) (.c (.int .i64 1))), oM 15 91 0, oP 16 92 (.nilchk (.t 91)), oP 17 93 (.faddr 2 (.t 92)), oP 18 94 (.load none (.t 93)), oP 19 95 (.bin .quo (.c (.int .i64 4000)) (.t 94)), oP 20 96 (.bin .add (.t 95) (.c (.int .i64 1))), oP 21 97 (.call 340 [.t 80, .t 90, .t 96]), oP 22 98 (.not (.t 97))]
@[go_sem] theorem F367_r4_r : OE F367_r4.eq_1 := OEM F367_r4.eq_1
def F367_r5 : List AOper := [oM 0 99 4, oM 1 100 0, oP 2 101 (.nilchk (.t 100)), oP 3 102 (.faddr 7 (.t 101)), oP 4 103 (.load none (.t 102)), oP 5 104 (.len (.t 103)), oP 6 105 (.bin .lss (.t 99) (.t 104))]
@[go_sem] theorem F367_r5_r : OE F367_r5.eq_1 := OEM F367_r5.eq_1
def F367_r6 : List AOper := [oM 0 108 0, oP 1 109 (.nilchk (.t 108)), oP 2 110 (.faddr 7 (.t 109)), oP 3 111 (.load none (.t 110)), oM 4 112 4, oP 5 113 (.iaddr 3 (.t 111) (.t 112)), oM 6 5 113]
@[go_sem] theorem F367_r6_r : OE F367_r6.eq_1 := OEM F367_r6.eq_1
def F367_r7 : List AOper := [oM 0 114 5, oP 1 115 (.nilchk (.t 114)), oP 2 116 (.faddr 0 (.t 115)), oP 3 117 (.load none (.t 116)), oM 4 118 4, oM 5 119 0, oP 6 120 (.nilchk (.t 119)), oP 7 121 (.faddr 2 (.t 120)), oP 8 122 (.load none (.t 121)), oP 9 123 (.bin .mul (.t 118) (.t 122)), oP 10 124 (.bin .neq (.t 117) (.t 123)), oM 11 125 124, oG 12 126 125 false (.mov (.t 5)), oG 13 127 125 false (.nilchk (.t 126)), oG 14 128 125 false (.faddr 1 (.t 127)), oG 15 129 125 false (.mov (.t 5)), oG 16 130 125 false (.nilchk (.t 129)), oG 17 131 125 false (.faddr 2 (.t 130)), oG 18 132 125 false (.load none (.t 131)), oG 19 133 125 false (.mov (.t 5)), oG 20 134 125 false (.nilchk (.t 133)), oG 21 135 125 false (.faddr 0 (.t 134)), oG 22 136 125 false (.load none (.t 135)), oG 23 137 125 false (.call 741 [.t 128, .t 132, .t 136]), oG 24 138 125 false (.not (.t 137)), oP 25 139 (.pick (.t 125) (.c (.bool true)) (.t 138))]
@[go_sem] theorem F367_r7_r : OE F367_r7.eq_1 := OEM F367_r7.eq_1
def F367_k8 : ACode := .seq (.seq (.reg true F367_r5) (.cond (.t 105) (.skip) (.exit 2))) (.seq (.blk 3 (.seq (.reg true F367_r6) (.seq (.reg true F367_r7) (.cond (.t 139) (.seq (.reg true [oP 0 2 (.mov (.c (.bool false)))]) (.ret)) (.skip))))) (.reg true [oM 0 106 4, oP 1 107 (.bin .add (.t 106) (.c (.int .i64 1))), oM 2 4 107]))
@[go_sem] theorem F367_k8_r : CE F367_k8.eq_1 := CEM F367_k8.eq_1
def F367_k9 : ACode := .seq (.seq (.reg true F367_r4) (.cond (.t 98) (.seq (.reg true [oP 0 2 (.mov (.c (.bool false)))]) (.ret)) (.skip))) (.seq (.seq (.reg true [oP 0 4 (.mov (.c (.int .i64 0)))]) (.blk 2 (.loop F367_k8))) (.seq (.reg true [oP 0 2 (.mov (.c (.bool true)))]) (.ret)))
@[go_sem] theorem F367_k9_r : CE F367_k9.eq_1 := CEM F367_k9.eq_1
def F367 : AFun := ⟨1, 140, [.t 2], .seq (.reg true [oP 0 2 (.mov (.c (.bool false)))]) (.seq (.seq (.reg true F367_r0) (.cond (.t 58) (.seq (.reg true [oP 0 2 (.mov (.c (.bool false)))]) (.ret)) (.skip))) (.seq (.seq (.reg true [oP 0 3 (.mov (.c (.int .i64 0)))]) (.blk 0 F367_k3)) F367_k9))⟩
def F147 : AFun := toS0 
def F1419_r0 : List AOper := [oP 0 4 (.nop 1), oP 1 5 (.lload 1 0 none), oP 2 6 (.nop 3), oN 3 (.lstore 3 0 1 (.t 5))]
@[go_sem] theorem F1419_r0_r : OE F1419_r0.eq_1 := OEM F1419_r0.eq_1
def F1419_r1 : List AOper := [oP 0 7 (.nop 1), oP 1 8 (.lload 1 1 none), oP 2 9 (.nop 3), oN 3 (.lstore 3 1 1 (.t 8))]
@[go_sem] theorem F1419_r1_r : OE F1419_r1.eq_1 := OEM F1419_r1.eq_1
def F1419 : AFun := ⟨1, 11, [.l 2 (some 2)], .seq (.reg true [oP 0 1 (.lbox 2 (.t 0)), oP 1 2 (.lalloc (.agg [.int .i64 0, .int .i64 0]))]) (.seq (.reg true [oP 0 3 (.lalloc (.agg [.int .i64 0, .int .i64 0]))]) (.seq (.reg true F1419_r0) (.seq (.reg true F1419_r1) (.seq (.reg true [oP 0 10 (.lload 3 0 (some 2)), oN 1 (.lstore 2 0 2 (.t 10))]) (.ret)))))⟩
def F1178 : AFun := toS 2 (some 2) (.agg [.int .i64 0, .int .i64 0]) 1419
def F858_r0 : List AOper := [oP 0 4 (.nop 1), oP 1 5 (.lload 1 0 none), oP 2 6 (.nop 3), oN 3 (.lstore 3 0 1 (.t 5))]
@[go_sem] theorem F858_r0_r : OE F858_r0.eq_1 := OEM F858_r0.eq_1
def F858_r1 : List AOper := [oP 0 7 (.nop 1), oP 1 8 (.lload 1 1 none), oP 2 9 (.nop 3), oN 3 (.lstore 3 1 1 (.t 8))]
@[go_sem] theorem F858_r1_r : OE F858_r1.eq_1 := OEM F858_r1.eq_1
def F858_r2 : List AOper := [oP 0 10 (.nop 1), oP 1 11 (.lload 1 2 none), oP 2 12 (.nop 3), oN 3 (.lstore 3 2 1 (.t 11))]
@[go_sem] theorem F858_r2_r : OE F858_r2.eq_1 := OEM F858_r2.eq_1
def F858_r3 : List AOper := [oP 0 13 (.nop 1), oP 1 14 (.lload 1 3 none), oP 2 15 (.call 147 [.t 14]), oP 3 16 (.nop 3), oN 4 (.lstore 3 3 1 (.t 15))]
@[go_sem] theorem F858_r3_r : OE F858_r3.eq_1 := OEM F858_r3.eq_1
def F858_r4 : List AOper := [oP 0 17 (.nop 1), oP 1 18 (.lload 1 4 none), oP 2 19 (.call 1178 [.t 18]), oP 3 20 (.nop 3), oN 4 (.lstore 3 4 1 (.t 19))]
@[go_sem] theorem F858_r4_r : OE F858_r4.eq_1 := OEM F858_r4.eq_1
def F858_k5 : ACode := .seq (.reg true [oP 0 3 (.lalloc (.agg [.int .i64 0, .int .i64 0, .int .i64 0, .nils, .nils]))]) (.seq (.reg true F858_r0) (.seq (.reg true F858_r1) (.seq (.reg true F858_r2) (.seq (.reg true F858_r3) (.seq (.reg true F858_r4) (.seq (.reg true [oP 0 21 (.lload 3 0 (some 5)), oN 1 (.lstore 2 0 5 (.t 21))]) (.ret)))))))
@[go_sem] theorem F858_k5_r : CE F858_k5.eq_1 := CEM F858_k5.eq_1
def F858 : AFun := ⟨1, 22, [.l 2 (some 5)], .seq (.reg true [oP 0 1 (.lbox 5 (.t 0)), oP 1 2 (.lalloc (.agg [.int .i64 0, .int .i64 0, .int .i64 0, .nils, .nils]))]) F858_k5⟩
def F504 : AFun := toS 5 (some 5) (.agg [.int .i64 0, .int .i64 0, .int .i64 0, .nils, .nils]) 858
def F185_r0 : List AOper := [oP 0 4 (.nop 1), oP 1 5 (.lload 1 0 none), oP 2 6 (.call 504 [.t 5]), oP 3 7 (.nop 3), oN 4 (.lstore 3 0 1 (.t 6))]
@[go_sem] theorem F185_r0_r : OE F185_r0.eq_1 := OEM F185_r0.eq_1
def F185 : AFun := ⟨1, 9, [.l 2 (some 1)], .seq (.reg true [oP 0 1 (.lbox 1 (.t 0)), oP 1 2 (.lalloc (.agg [.nils]))]) (.seq (.reg true [oP 0 3 (.lalloc (.agg [.nils]))]) (.seq (.reg true F185_r0) (.seq (.reg true [oP 0 8 (.lload 3 0 (some 1)), oN 1 (.lstore 2 0 1 (.t 8))]) (.ret))))⟩
def F184 : AFun := toS 1 (some 1) (.agg [.nils]) 185
def F745_r0 : List AOper := [oP 0 4 (.nop 1), oP 1 5 (.lload 1 0 none), oP 2 6 (.nop 3), oN 3 (.lstore 3 0 1 (.t 5))]
@[go_sem] theorem F745_r0_r : OE F745_r0.eq_1 := OEM F745_r0.eq_1
def F745_r1 : List AOper := [oP 0 7 (.nop 1), oP 1 8 (.lload 1 1 none), oP 2 9 (.nop 3), oN 3 (.lstore 3 1 1 (.t 8))]
@[go_sem] theorem F745_r1_r : OE F745_r1.eq_1 := OEM F745_r1.eq_1
def F745_r2 : List AOper := [oP 0 10 (.nop 1), oP 1 11 (.lload 1 2 none), oP 2 12 (.nop 3), oN 3 (.lstore 3 2 1 (.t 11))]
@[go_sem] theorem F745_r2_r : OE F745_r2.eq_1 := OEM F745_r2.eq_1
def F745 : AFun := ⟨1, 14, [.l 2 (some 3)], .seq (.reg true [oP 0 1 (.lbox 3 (.t 0)), oP 1 2 (.lalloc (.agg [.int .i64 0, .int .i64 0, .int .i64 0]))]) (.seq (.reg true [oP 0 3 (.lalloc (.agg [.int .i64 0, .int .i64 0, .int .i64 0]))]) (.seq (.reg true F745_r0) (.seq (.reg true F745_r1) (.seq (.reg true F745_r2) (.seq (.reg true [oP 0 13 (.lload 3 0 (some 3)), oN 1 (.lstore 2 0 3 (.t 13))]) (.ret))))))⟩
def F370 : AFun := toS 3 (some 3) (.agg [.int .i64 0, .int .i64 0, .int .i64 0]) 745
def F134_r0 : List AOper := [oP 0 4 (.nop 1), oP 1 5 (.lload 1 0 none), oP 2 6 (.nop 3), oN 3 (.lstore 3 0 1 (.t 5))]
@[go_sem] theorem F134_r0_r : OE F134_r0.eq_1 := OEM F134_r0.eq_1
def F134_r1 : List AOper := [oP 0 7 (.nop 1), oP 1 8 (.lload 1 1 none), oP 2 9 (.nop 3), oN 3 (.lstore 3 1 1 (.t 8))]
@[go_sem] theorem F134_r1_r : OE F134_r1.eq_1 := OEM F134_r1.eq_1
def F134 : AFun := ⟨1, 11, [.l 2 (some 2)], .seq (.reg true [oP 0 1 (.lbox 2 (.t 0)), oP 1 2 (.lalloc (.agg [.int .i64 0, .int .i64 0]))]) (.seq (.reg true [oP 0 3 (.lalloc (.agg [.int .i64 0, .int .i64 0]))]) (.seq (.reg true F134_r0) (.seq (.reg true F134_r1) (.seq (.reg true [oP 0 10 (.lload 3 0 (some 2)), oN 1 (.lstore 2 0 2 (.t 10))]) (.ret)))))⟩
def F371 : AFun := toS 2 (some 2) (.agg [.int .i64 0, .int .i64 0]) 134
def F746_r0 : List AOper := [oP 0 4 (.nop 1), oP 1 5 (.lload 1 0 none), oP 2 6 (.nop 3), oN 3 (.lstore 3 0 1 (.t 5))]
@[go_sem] theorem F746_r0_r : OE F746_r0.eq_1 := OEM F746_r0.eq_1
def F746_r1 : List AOper := [oP 0 7 (.nop 1), oP 1 8 (.lload 1 1 (some 1)), oP 2 9 (.call 185 [.t 8]), oP 3 10 (.nop 3), oN 4 (.lstore 3 1 1 (.t 9))]
@[go_sem] theorem F746_r1_r : OE F746_r1.eq_1 := OEM F746_r1.eq_1
def F746_r2 : List AOper := [oP 0 11 (.nop 1), oP 1 12 (.lload 1 2 none), oP 2 13 (.call 370 [.t 12]), oP 3 14 (.nop 3), oN 4 (.lstore 3 2 1 (.t 13))]
@[go_sem] theorem F746_r2_r : OE F746_r2.eq_1 := OEM F746_r2.eq_1
def F746 : AFun := ⟨1, 16, [.l 2 (some 3)], .seq (.reg true [oP 0 1 (.lbox 3 (.t 0)), oP 1 2 (.lalloc (.agg [.int .i64 0, .nils, .nils]))]) (.seq (.reg true [oP 0 3 (.lalloc (.agg [.int .i64 0, .nils, .nils]))]) (.seq (.reg true F746_r0) (.seq (.reg true F746_r1) (.seq (.reg true F746_r2) (.seq (.reg true [oP 0 15 (.lload 3 0 (some 3)), oN 1 (.lstore 2 0 3 (.t 15))]) (.ret))))))⟩
def F372 : AFun := toS 3 (some 3) (.agg [.int .i64 0, .nils, .nils]) 746
def F106_r0 : List AOper := [oP 0 4 (.nop 1), oP 1 5 (.lload 1 0 none), oP 2 6 (.call 184 [.t 5]), oP 3 7 (.nop 3), oN 4 (.lstore 3 0 1 (.t 6))]
@[go_sem] theorem F106_r0_r : OE F106_r0.eq_1 := OEM F106_r0.eq_1
def F106_r1 : List AOper := [oP 0 8 (.nop 1), oP 1 9 (.lload 1 1 none), oP 2 10 (.call 147 [.t 9]), oP 3 11 (.nop 3), oN 4 (.lstore 3 1 1 (.t 10))]
@[go_sem] theorem F106_r1_r : OE F106_r1.eq_1 := OEM F106_r1.eq_1
def F106_r2 : List AOper := [oP 0 12 (.nop 1), oP 1 13 (.lload 1 2 none), oP 2 14 (.nop 3), oN 3 (.lstore 3 2 1 (.t 13))]
@[go_sem] theorem F106_r2_r : OE F106_r2.eq_1 := OEM F106_r2.eq_1
def F106_r3 : List AOper := [oP 0 15 (.nop 1), oP 1 16 (.lload 1 3 none), oP 2 17 (.nop 3), oN 3 (.lstore 3 3 1 (.t 16))]
@[go_sem] theorem F106_r3_r : OE F106_r3.eq_1 := OEM F106_r3.eq_1
def F106_r4 : List AOper := [oP 0 18 (.nop 1), oP 1 19 (.lload 1 4 (some 1)), oP 2 20 (.call 185 [.t 19]), oP 3 21 (.nop 3), oN 4 (.lstore 3 4 1 (.t 20))]
@[go_sem] theorem F106_r4_r : OE F106_r4.eq_1 := OEM F106_r4.eq_1
def F106_r5 : List AOper := [oP 0 22 (.nop 1), oP 1 23 (.lload 1 5 none), oP 2 24 (.call 370 [.t 23]), oP 3 25 (.nop 3), oN 4 (.lstore 3 5 1 (.t 24))]
@[go_sem] theorem F106_r5_r : OE F106_r5.eq_1 := OEM F106_r5.eq_1
def F106_r6 : List AOper := [oP 0 26 (.nop 1), oP 1 27 (.lload 1 6 none), oP 2 28 (.call 371 [.t 27]), oP 3 29 (.nop 3), oN 4 (.lstore 3 6 1 (.t 28))]
@[go_sem] theorem F106_r6_r : OE F106_r6.eq_1 := OEM F106_r6.eq_1
def F106_r7 : List AOper := [oP 0 30 (.nop 1), oP 1 31 (.lload 1 7 none), oP 2 32 (.call 372 [.t 31]), oP 3 33 (.nop 3), oN 4 (.lstore 3 7 1 (.t 32))]
@[go_sem] theorem F106_r7_r : OE F106_r7.eq_1 := OEM F106_r7.eq_1
def F106_k8 : ACode := .seq (.reg true F106_r2) (.seq (.reg true F106_r3) (.seq (.reg true F106_r4) (.seq (.reg true F106_r5) (.seq (.reg true F106_r6) (.seq (.reg true F106_r7) (.seq (.reg true [oP 0 34 (.lload 3 0 (some 8)), oN 1 (.lstore 2 0 8 (.t 34))]) (.ret)))))))
@[go_sem] theorem F106_k8_r : CE F106_k8.eq_1 := CEM F106_k8.eq_1
def F106 : AFun := ⟨1, 35, [.l 2 (some 8)], .seq (.reg true [oP 0 1 (.lbox 8 (.t 0)), oP 1 2 (.lalloc (.agg [.nils, .nils, .int .i64 0, .int .i64 0, .nils, .nils, .nils, .nils]))]) (.seq (.reg true [oP 0 3 (.lalloc (.agg [.nils, .nils, .int .i64 0, .int .i64 0, .nils, .nils, .nils, .nils]))]) (.seq (.reg true F106_r0) (.seq (.reg true F106_r1) F106_k8)))⟩
def F774 : AFun := idxF 1 none
def F397 : AFun := ctnF 774
def F775_r0 : List AOper := [oM 0 3 0, oP 1 4 (.bin .lss (.t 3) (.c (.int .i64 0))), oM 2 5 4, oG 3 6 5 false (.mov (.t 0)), oG 4 7 5 false (.bin .gtr (.t 6) (.c (.int .i64 600))), oP 5 8 (.pick (.t 5) (.c (.bool true)) (.t 7)), oM 6 2 8]
@[go_sem] theorem F775_r0_r : OE F775_r0.eq_1 := OEM F775_r0.eq_1
def F775 : AFun := ⟨1, 9, [.t 2], .seq (.reg true [oP 0 2 (.mov (.c (.bool false)))]) (.seq (.reg true F775_r0) (.ret))⟩
def F406_r0 : List AOper := [oM 0 3 0, oP 1 4 (.len (.t 3)), oP 2 5 (.bin .leq (.t 4) (.c (.int .i64 200))), oM 3 6 5, oG 4 7 6 true (.mov (.t 0)), oG 5 8 6 true (.call 397 [.t 7, .f 775]), oG 6 9 6 true (.not (.t 8)), oP 7 10 (.pick (.t 6) (.t 9) (.c (.bool false))), oM 8 2 10]
@[go_sem] theorem F406_r0_r : OE F406_r0.eq_1 := OEM F406_r0.eq_1
def F406 : AFun := ⟨1, 11, [.t 2], .seq (.reg true [oP 0 2 (.mov (.c (.bool false)))]) (.seq (.reg true F406_r0) (.ret))⟩
def F801_r0 : List AOper := [oM 0 4 0, oP 1 5 (.bin .lss (.t 4) (.c (.int .i64 0))), oM 2 6 5, oG 3 7 6 false (.mov (.t 0)), oG 4 8 6 false (.load none (.t 1)), oG 5 9 6 false (.bin .gtr (.t 7) (.t 8)), oP 6 10 (.pick (.t 6) (.c (.bool true)) (.t 9)), oM 7 3 10]
@[go_sem] theorem F801_r0_r : OE F801_r0.eq_1 := OEM F801_r0.eq_1
def F801 : AFun := ⟨2, 11, [.t 3], .seq (.reg true [oP 0 3 (.mov (.c (.bool false)))]) (.seq (.reg true F801_r0) (.ret))⟩
def F436_r0 : List AOper := [oM 0 5 1, oP 1 6 (.mkfn 801 [.t 2]), oP 2 7 (.call 397 [.t 5, .t 6]), oP 3 8 (.not (.t 7)), oM 4 4 8]
@[go_sem] theorem F436_r0_r : OE F436_r0.eq_1 := OEM F436_r0.eq_1
def F436 : AFun := ⟨2, 9, [.t 4], .seq (.reg true [oP 0 2 (.hbox 1 (.t 0)), oP 1 4 (.mov (.c (.bool false)))]) (.seq (.reg true F436_r0) (.ret))⟩
def F1179 : AFun := idxF 1 (some 1)
def F859 : AFun := ctnF 1179
def F554_r0 : List AOper := [oM 0 7 0, oP 1 8 (.nilchk (.t 7)), oP 2 9 (.faddr 0 (.t 8)), oP 3 10 (.load none (.t 9)), oP 4 11 (.len (.t 10)), oP 5 12 (.mov (.c (.int .i64 0)))]
@[go_sem] theorem F554_r0_r : OE F554_r0.eq_1 := OEM F554_r0.eq_1
def F554_r1 : List AOper := [oM 0 14 12, oP 1 15 (.iaddr 5 (.t 10) (.t 12)), oP 2 16 (.load (some 5) (.t 15)), oP 3 5 (.lalloc (.agg [.int .i64 0, .int .i64 0, .int .i64 0, .nils, .nils])), oM 4 4 14, oN 5 (.lstore 5 0 5 (.t 16))]
@[go_sem] theorem F554_r1_r : OE F554_r1.eq_1 := OEM F554_r1.eq_1
def F554_r2 : List AOper := [oP 0 17 (.nop 5), oP 1 18 (.lload 5 4 none), oP 2 19 (.len (.t 18)), oP 3 20 (.mov (.c (.int .i64 0)))]
@[go_sem] theorem F554_r2_r : OE F554_r2.eq_1 := OEM F554_r2.eq_1
def F554_r3 : List AOper := [oM 0 23 3, oM 1 24 4, oM 2 25 6, oP 3 26 (.build (.agg [.int .i64 0, .int .i64 0]) [(0, 1, .t 24), (1, 1, .t 25)]), oP 4 27 (.bslice 2 (.agg [.int .i64 0, .int .i64 0]) 1 [(0, .t 26)]), oP 5 28 (.app 2 (.t 23) (.t 27)), oM 6 3 28]
@[go_sem] theorem F554_r3_r : OE F554_r3.eq_1 := OEM F554_r3.eq_1
def F554_k4 : ACode := .seq (.reg true [oP 0 21 (.bin .lss (.t 20) (.t 19))]) (.seq (.cond (.t 21) (.skip) (.exit 2)) (.seq (.blk 3 (.seq (.reg true [oM 0 22 20, oM 1 6 22]) (.reg true F554_r3))) (.reg true [oP 0 29 (.bin .add (.t 20) (.c (.int .i64 1))), oM 1 20 29])))
@[go_sem] theorem F554_k4_r : CE F554_k4.eq_1 := CEM F554_k4.eq_1
def F554_k5 : ACode := .seq (.reg true [oP 0 13 (.bin .lss (.t 12) (.t 11))]) (.seq (.cond (.t 13) (.skip) (.exit 0)) (.seq (.blk 1 (.seq (.reg true F554_r1) (.seq (.reg true F554_r2) (.blk 2 (.loop F554_k4))))) (.reg true [oP 0 30 (.bin .add (.t 12) (.c (.int .i64 1))), oM 1 12 30])))
@[go_sem] theorem F554_k5_r : CE F554_k5.eq_1 := CEM F554_k5.eq_1
def F554 : AFun := ⟨1, 32, [.t 2], .seq (.reg true [oP 0 2 (.mov (.c (.nils)))]) (.seq (.reg true [oP 0 3 (.mov (.c (.nils)))]) (.seq (.seq (.reg true F554_r0) (.blk 0 (.loop F554_k5))) (.seq (.reg true [oM 0 31 3, oM 1 2 31]) (.ret))))⟩
def F796_r0 : List AOper := [oM 0 3 0, oP 1 4 (.bin .geq (.t 3) (.c (.int .i64 0))), oM 2 5 4, oG 3 6 5 true (.mov (.t 0)), oG 4 7 5 true (.bin .lss (.t 6) (.c (.int .i64 24))), oP 5 8 (.pick (.t 5) (.t 7) (.c (.bool false))), oM 6 2 8]
@[go_sem] theorem F796_r0_r : OE F796_r0.eq_1 := OEM F796_r0.eq_1
def F796 : AFun := ⟨1, 9, [.t 2], .seq (.reg true [oP 0 2 (.mov (.c (.bool false)))]) (.seq (.reg true F796_r0) (.ret))⟩
def F1050_r0 : List AOper := [oM 0 3 0, oP 1 4 (.bin .geq (.t 3) (.c (.int .i64 1))), oM 2 5 4, oG 3 6 5 true (.mov (.t 0)), oG 4 7 5 true (.bin .leq (.t 6) (.c (.int .i64 6))), oP 5 8 (.pick (.t 5) (.t 7) (.c (.bool false))), oM 6 2 8]
@[go_sem] theorem F1050_r0_r : OE F1050_r0.eq_1 := OEM F1050_r0.eq_1
def F1050 : AFun := ⟨1, 9, [.t 2], .seq (.reg true [oP 0 2 (.mov (.c (.bool false)))]) (.seq (.reg true F1050_r0) (.ret))⟩
def F1051_r0 : List AOper := [oM 0 3 0, oP 1 4 (.bin .geq (.t 3) (.c (.int .i64 (-2147483648)))), oM 2 5 4, oG 3 6 5 true (.mov (.t 0)), oG 4 7 5 true (.bin .leq (.t 6) (.c (.int .i64 2147483647))), oP 5 8 (.pick (.t 5) (.t 7) (.c (.bool false))), oM 6 2 8]
@[go_sem] theorem F1051_r0_r : OE F1051_r0.eq_1 := OEM F1051_r0.eq_1
def F1051 : AFun := ⟨1, 9, [.t 2], .seq (.reg true [oP 0 2 (.mov (.c (.bool false)))]) (.seq (.reg true F1051_r0) (.ret))⟩
def F1487_r0 : List AOper := [oM 0 3 0, oP 1 4 (.bin .geq (.t 3) (.c (.int .i64 1))), oM 2 5 4, oG 3 6 5 true (.mov (.t 0)), oG 4 7 5 true (.bin .leq (.t 6) (.c (.int .i64 12))), oP 5 8 (.pick (.t 5) (.t 7) (.c (.bool false))), oM 6 2 8]
@[go_sem] theorem F1487_r0_r : OE F1487_r0.eq_1 := OEM F1487_r0.eq_1
def F1487 : AFun := ⟨1, 9, [.t 2], .seq (.reg true [oP 0 2 (.mov (.c (.bool false)))]) (.seq (.reg true F1487_r0) (.ret))⟩
def F1387_r0 : List AOper := [oM 0 6 0, oP 1 7 (.bin .eql (.t 6) (.c (.int .i64 9))), oM 2 8 7, oG 3 9 8 true (.mov (.t 1)), oG 4 10 8 true (.bin .geq (.t 9) (.c (.int .i64 0))), oP 5 11 (.pick (.t 8) (.t 10) (.c (.bool false))), oM 6 12 11, oG 7 13 12 true (.mov (.t 1)), oG 8 14 12 true (.bin .leq (.t 13) (.c (.int .i64 3))), oP 9 15 (.pick (.t 12) (.t 14) (.c (.bool false))), oM 10 5 15]
@[go_sem] theorem F1387_r0_r : OE F1387_r0.eq_1 := OEM F1387_r0.eq_1
def F1387_r1 : List AOper := [oM 0 19 0, oP 1 20 (.call 1487 [.t 19]), oP 2 21 (.not (.t 20)), oM 3 22 21, oG 4 23 22 false (.mov (.t 0)), oG 5 24 22 false (.bin .eql (.t 23) (.c (.int .i64 9))), oP 6 25 (.pick (.t 22) (.c (.bool true)) (.t 24)), oM 7 26 25, oG 8 27 26 false (.mov (.t 1)), oG 9 28 26 false (.bin .neq (.t 27) (.c (.int .i64 0))), oP 10 29 (.pick (.t 26) (.c (.bool true)) (.t 28)), oM 11 18 29]
@[go_sem] theorem F1387_r1_r : OE F1387_r1.eq_1 := OEM F1387_r1.eq_1
def F1387_r2 : List AOper := [oP 0 30 (.build (.agg [.int .i64 0, .int .i64 0, .int .i64 0, .int .i64 0, .int .i64 0, .int .i64 0, .int .i64 0, .int .i64 0, .int .i64 0, .int .i64 0, .int .i64 0, .int .i64 0, .int .i64 0]) [(1, 1, .c (.int .i64 1)), (2, 1, .c (.int .i64 3)), (3, 1, .c (.int .i64 3)), (4, 1, .c (.int .i64 3)), (5, 1, .c (.int .i64 1)), (6, 1, .c (.int .i64 1)), (7, 1, .c (.int .i64 3)), (8, 1, .c (.int .i64 2)), (10, 1, .c (.int .i64 2)), (11, 1, .c (.int .i64 2)), (12, 1, .c (.int .i64 1))]), oM 1 31 0, oP 2 32 (.aidx 13 1 none (.t 30) (.t 31)), oM 3 4 32]
@[go_sem] theorem F1387_r2_r : OE F1387_r2.eq_1 := OEM F1387_r2.eq_1
def F1387_k3 : ACode := .seq (.blk 0 (.seq (.reg true F1387_r0) (.cond (.t 5) (.seq (.reg true [oM 0 16 1, oP 1 17 (.bin .add (.t 16) (.c (.int .i64 1))), oM 2 4 17]) (.ret)) (.seq (.reg true F1387_r1) (.cond (.t 18) (.seq (.reg true [oP 0 4 (.mov (.c (.int .i64 0)))]) (.ret)) (.skip)))))) (.seq (.reg true F1387_r2) (.ret))
@[go_sem] theorem F1387_k3_r : CE F1387_k3.eq_1 := CEM F1387_k3.eq_1
def F1387 : AFun := ⟨2, 33, [.t 4], .seq (.reg true [oP 0 4 (.mov (.c (.int .i64 0)))]) F1387_k3⟩
def F1388_k0 : ACode := .seq (.seq (.reg true [oM 0 5 0, oP 1 6 (.bin .eql (.t 5) (.c (.int .i64 9)))]) (.cond (.t 6) (.seq (.reg true [oM 0 7 1, oP 1 8 (.bin .sub (.t 7) (.c (.int .i64 1))), oM 2 4 8]) (.ret)) (.skip))) (.seq (.reg true [oP 0 4 (.mov (.c (.int .i64 0)))]) (.ret))
@[go_sem] theorem F1388_k0_r : CE F1388_k0.eq_1 := CEM F1388_k0.eq_1
def F1388 : AFun := ⟨2, 9, [.t 4], .seq (.reg true [oP 0 4 (.mov (.c (.int .i64 0)))]) F1388_k0⟩
def F1375_r0 : List AOper := [oM 0 3 0, oP 1 4 (.call 1487 [.t 3]), oM 2 5 4, oG 3 6 5 true (.mov (.t 0)), oG 4 7 5 true (.bin .neq (.t 6) (.c (.int .i64 1))), oP 5 8 (.pick (.t 5) (.t 7) (.c (.bool false))), oM 6 9 8, oG 7 10 9 true (.mov (.t 0)), oG 8 11 9 true (.bin .neq (.t 10) (.c (.int .i64 5))), oP 9 12 (.pick (.t 9) (.t 11) (.c (.bool false))), oM 10 13 12, oG 11 14 13 true (.mov (.t 0)), oG 12 15 13 true (.bin .neq (.t 14) (.c (.int .i64 6))), oP 13 16 (.pick (.t 13) (.t 15) (.c (.bool false))), oM 14 2 16]
@[go_sem] theorem F1375_r0_r : OE F1375_r0.eq_1 := OEM F1375_r0.eq_1
def F1375 : AFun := ⟨1, 17, [.t 2], .seq (.reg true [oP 0 2 (.mov (.c (.bool false)))]) (.seq (.reg true F1375_r0) (.ret))⟩
def F1495_r0 : List AOper := [oM 0 3 0, oP 1 4 (.bin .geq (.t 3) (.c (.int .i64 0))), oM 2 5 4, oG 3 6 5 true (.mov (.t 0)), oG 4 7 5 true (.bin .leq (.t 6) (.c (.int .i64 8))), oP 5 8 (.pick (.t 5) (.t 7) (.c (.bool false))), oM 6 2 8]
@[go_sem] theorem F1495_r0_r : OE F1495_r0.eq_1 := OEM F1495_r0.eq_1
def F1495 : AFun := ⟨1, 9, [.t 2], .seq (.reg true [oP 0 2 (.mov (.c (.bool false)))]) (.seq (.reg true F1495_r0) (.ret))⟩
def F1389_r0 : List AOper := [oM 0 5 0, oP 1 6 (.call 1487 [.t 5]), oM 2 7 6, oG 3 8 7 true (.mov (.t 1)), oG 4 9 7 true (.bin .eql (.t 8) (.c (.int .i64 0))), oG 5 10 7 true (.mov (.t 9)), oG 6 11 10 false (.mov (.t 0)), oG 7 12 10 false (.call 1375 [.t 11]), oG 8 13 10 false (.mov (.t 12)), oG 9 14 13 true (.mov (.t 1)), oG 10 15 13 true (.call 1495 [.t 14]), oG 11 16 10 false (.pick (.t 13) (.t 15) (.c (.bool false))), oG 12 17 7 true (.pick (.t 10) (.c (.bool true)) (.t 16)), oP 13 18 (.pick (.t 7) (.t 17) (.c (.bool false))), oM 14 4 18]
@[go_sem] theorem F1389_r0_r : OE F1389_r0.eq_1 := OEM F1389_r0.eq_1
def F1389 : AFun := ⟨2, 19, [.t 4], .seq (.reg true [oP 0 4 (.mov (.c (.bool false)))]) (.seq (.reg true F1389_r0) (.ret))⟩
def F1390_r0 : List AOper := [oM 0 3 0, oP 1 4 (.call 796 [.t 3]), oP 2 5 (.not (.t 4)), oM 3 2 5]
@[go_sem] theorem F1390_r0_r : OE F1390_r0.eq_1 := OEM F1390_r0.eq_1
def F1390 : AFun := ⟨1, 6, [.t 2], .seq (.reg true [oP 0 2 (.mov (.c (.bool false)))]) (.seq (.reg true F1390_r0) (.ret))⟩
def F1097_r0 : List AOper := [oP 0 6 (.nop 1), oP 1 7 (.lload 1 4 none), oP 2 8 (.len (.t 7)), oP 3 9 (.bin .eql (.t 8) (.c (.int .i64 0))), oM 4 10 9, oG 5 11 10 false (.nop 1), oG 6 12 10 false (.lload 1 0 none), oG 7 13 10 false (.nop 1), oG 8 14 10 false (.lload 1 0 none), oG 9 15 10 false (.nop 1), oG 10 16 10 false (.lload 1 4 none), oG 11 17 10 false (.len (.t 16)), oG 14 20 10 false (.nop 1), oG 15 21 10 false (.lload 1 4 none), oG 16 22 10 false (.len (.t 21)), oG 12 18 10 false (.call 1388 [.t 14, .t 17]), oG 13 19 10 false (.call 1387 [.t 12, .t 18]), oG 17 23 10 false (.bin .neq (.t 19) (.t 22)), oP 18 24 (.pick (.t 10) (.c (.bool true)) (.t 23)), oM 19 25 24, oG 20 26 25 false (.nop 1), oG 21 27 25 false (.lload 1 0 none), oG 22 28 25 false (.nop 1), oG 23 29 25 false (.lload 1 1 none), oG 24 30 25 false (.call 1389 [.t 27, .t 29]), oG 25 31 25 false (.not (.t 30)), oP 26 32 (.pick (.t 25) (.c (.bool true)) (.t 31))]
@[go_sem] theorem F1097_r0_r : OE F1097_r0.eq_1 := OEM F1097_r0.eq_1
def F1097_r1 : List AOper := [oP 0 33 (.nop 1), oP 1 34 (.lload 1 2 none), oP 2 35 (.bin .eql (.t 34) (.c (.int .i64 0))), oP 3 36 (.nop 1), oP 4 37 (.lload 1 3 none), oP 5 38 (.len (.t 37)), oP 6 39 (.bin .eql (.t 38) (.c (.int .i64 0))), oM 7 3 35, oM 8 4 39]
@[go_sem] theorem F1097_r1_r : OE F1097_r1.eq_1 := OEM F1097_r1.eq_1
def F1097_r2 : List AOper := [oP 0 40 (.nop 1), oP 1 41 (.lload 1 3 none), oP 2 42 (.call 397 [.t 41, .f 1390]), oP 3 43 (.not (.t 42)), oM 4 5 43]
@[go_sem] theorem F1097_r2_r : OE F1097_r2.eq_1 := OEM F1097_r2.eq_1
def F1097_r3 : List AOper := [oP 0 48 (.nop 1), oP 1 49 (.lload 1 2 none), oP 2 50 (.call 1051 [.t 49]), oM 3 3 50]
@[go_sem] theorem F1097_r3_r : OE F1097_r3.eq_1 := OEM F1097_r3.eq_1
def F1097_r4 : List AOper := [oP 0 53 (.nop 1), oP 1 54 (.lload 1 2 none), oP 2 55 (.call 1050 [.t 54]), oM 3 3 55]
@[go_sem] theorem F1097_r4_r : OE F1097_r4.eq_1 := OEM F1097_r4.eq_1
def F1097_r5 : List AOper := [oP 0 58 (.nop 1), oP 1 59 (.lload 1 2 none), oP 2 60 (.call 1050 [.t 59]), oM 3 61 60, oG 4 62 61 true (.nop 1), oG 5 63 61 true (.lload 1 3 none), oG 6 64 61 true (.len (.t 63)), oG 7 65 61 true (.bin .eql (.t 64) (.c (.int .i64 1))), oP 8 66 (.pick (.t 61) (.t 65) (.c (.bool false))), oM 9 67 66, oG 10 68 67 true (.nop 1), oG 11 69 67 true (.lload 1 3 none), oG 12 70 67 true (.iaddr 1 (.t 69) (.c (.int .i64 0))), oG 13 71 67 true (.load none (.t 70)), oG 14 72 67 true (.call 1051 [.t 71]), oP 15 73 (.pick (.t 67) (.t 72) (.c (.bool false))), oM 16 2 73]
@[go_sem] theorem F1097_r5_r : OE F1097_r5.eq_1 := OEM F1097_r5.eq_1
def F1097_r6 : List AOper := [oP 0 76 (.nop 1), oP 1 77 (.lload 1 2 none), oP 2 78 (.bin .geq (.t 77) (.c (.int .i64 0))), oM 3 79 78, oG 4 80 79 true (.nop 1), oG 5 81 79 true (.lload 1 2 none), oG 6 82 79 true (.bin .lss (.t 81) (.c (.int .i64 4))), oP 7 83 (.pick (.t 79) (.t 82) (.c (.bool false))), oM 8 3 83]
@[go_sem] theorem F1097_r6_r : OE F1097_r6.eq_1 := OEM F1097_r6.eq_1
def F1097_r7 : List AOper := [oP 0 86 (.nop 1), oP 1 87 (.lload 1 3 none), oP 2 88 (.len (.t 87)), oP 3 89 (.bin .geq (.t 88) (.c (.int .i64 1))), oM 4 90 89, oG 5 91 90 true (.nop 1), oG 6 92 90 true (.lload 1 3 none), oG 7 93 90 true (.len (.t 92)), oG 8 94 90 true (.bin .leq (.t 93) (.c (.int .i64 4))), oP 9 95 (.pick (.t 90) (.t 94) (.c (.bool false))), oM 10 96 95, oG 11 97 96 true (.mov (.t 5)), oP 12 98 (.pick (.t 96) (.t 97) (.c (.bool false))), oM 13 4 98]
@[go_sem] theorem F1097_r7_r : OE F1097_r7.eq_1 := OEM F1097_r7.eq_1
def F1097_r8 : List AOper := [oP 0 101 (.nop 1), oP 1 102 (.lload 1 3 none), oP 2 103 (.len (.t 102)), oP 3 104 (.bin .eql (.t 103) (.c (.int .i64 2))), oM 4 105 104, oG 5 106 105 true (.mov (.t 5)), oP 6 107 (.pick (.t 105) (.t 106) (.c (.bool false))), oM 7 4 107]
@[go_sem] theorem F1097_r8_r : OE F1097_r8.eq_1 := OEM F1097_r8.eq_1
def F1097_r9 : List AOper := [oP 0 110 (.nop 1), oP 1 111 (.lload 1 2 none), oP 2 112 (.call 796 [.t 111]), oM 3 3 112]
@[go_sem] theorem F1097_r9_r : OE F1097_r9.eq_1 := OEM F1097_r9.eq_1
def F1097_k10 : ACode := .cond (.t 84) (.reg true F1097_r7) (.seq (.reg true [oP 0 100 (.bin .eql (.t 45) (.c (.int .i64 11))), oM 1 99 100]) (.cond (.t 99) (.reg true F1097_r8) (.seq (.reg true [oP 0 109 (.bin .eql (.t 45) (.c (.int .i64 12))), oM 1 108 109]) (.cond (.t 108) (.reg true F1097_r9) (.skip)))))
@[go_sem] theorem F1097_k10_r : CE F1097_k10.eq_1 := CEM F1097_k10.eq_1
def F1097_k11 : ACode := .seq (.reg true [oP 0 57 (.bin .eql (.t 45) (.c (.int .i64 8))), oM 1 56 57]) (.cond (.t 56) (.seq (.reg true F1097_r5) (.ret)) (.seq (.reg true [oP 0 75 (.bin .eql (.t 45) (.c (.int .i64 9))), oM 1 74 75]) (.cond (.t 74) (.reg true F1097_r6) (.seq (.reg true [oP 0 85 (.bin .eql (.t 45) (.c (.int .i64 10))), oM 1 84 85]) F1097_k10))))
@[go_sem] theorem F1097_k11_r : CE F1097_k11.eq_1 := CEM F1097_k11.eq_1
def F1097_k12 : ACode := .seq (.reg true [oP 0 44 (.nop 1), oP 1 45 (.lload 1 0 none)]) (.blk 0 (.seq (.reg true [oP 0 47 (.bin .eql (.t 45) (.c (.int .i64 6))), oM 1 46 47]) (.cond (.t 46) (.reg true F1097_r3) (.seq (.reg true [oP 0 52 (.bin .eql (.t 45) (.c (.int .i64 7))), oM 1 51 52]) (.cond (.t 51) (.reg true F1097_r4) F1097_k11)))))
@[go_sem] theorem F1097_k12_r : CE F1097_k12.eq_1 := CEM F1097_k12.eq_1
def F1097_r13 : List AOper := [oM 0 113 3, oM 1 114 113, oG 2 115 114 true (.mov (.t 4)), oP 3 116 (.pick (.t 114) (.t 115) (.c (.bool false))), oM 4 2 116]
@[go_sem] theorem F1097_r13_r : OE F1097_r13.eq_1 := OEM F1097_r13.eq_1
def F1097 : AFun := ⟨1, 117, [.t 2], .seq (.reg true [oP 0 1 (.lbox 5 (.t 0)), oP 1 2 (.mov (.c (.bool false)))]) (.seq (.seq (.reg true F1097_r0) (.cond (.t 32) (.seq (.reg true [oP 0 2 (.mov (.c (.bool false)))]) (.ret)) (.skip))) (.seq (.reg true F1097_r1) (.seq (.reg true F1097_r2) (.seq F1097_k12 (.seq (.reg true F1097_r13) (.ret))))))⟩
def F711_r0 : List AOper := [oM 0 5 0, oP 1 6 (.len (.t 5)), oP 2 7 (.bin .lss (.t 6) (.c (.int .i64 1))), oM 3 8 7, oG 4 9 8 false (.mov (.t 0)), oG 5 10 8 false (.len (.t 9)), oG 6 11 8 false (.bin .gtr (.t 10) (.c (.int .i64 600))), oP 7 12 (.pick (.t 8) (.c (.bool true)) (.t 11))]
@[go_sem] theorem F711_r0_r : OE F711_r0.eq_1 := OEM F711_r0.eq_1
def F711_r1 : List AOper := [oM 0 17 15, oP 1 18 (.iaddr 5 (.t 13) (.t 15)), oP 2 19 (.load (some 5) (.t 18)), oP 3 4 (.lalloc (.agg [.int .i64 0, .int .i64 0, .int .i64 0, .nils, .nils])), oM 4 3 17, oN 5 (.lstore 4 0 5 (.t 19))]
@[go_sem] theorem F711_r1_r : OE F711_r1.eq_1 := OEM F711_r1.eq_1
def F711_r2 : List AOper := [oP 0 20 (.lload 4 0 (some 5)), oP 1 21 (.call 1097 [.t 20]), oP 2 22 (.not (.t 21)), oM 3 23 22, oG 4 24 23 false (.nop 4), oG 5 25 23 false (.lload 4 0 none), oG 6 26 23 false (.bin .eql (.t 25) (.c (.int .i64 1))), oG 7 27 23 false (.mov (.t 3)), oG 8 28 23 false (.bin .eql (.t 27) (.c (.int .i64 0))), oG 9 29 23 false (.beq true (.t 26) (.t 28)), oP 10 30 (.pick (.t 23) (.c (.bool true)) (.t 29))]
@[go_sem] theorem F711_r2_r : OE F711_r2.eq_1 := OEM F711_r2.eq_1
def F711_k3 : ACode := .seq (.reg true [oP 0 16 (.bin .lss (.t 15) (.t 14))]) (.seq (.cond (.t 16) (.skip) (.exit 0)) (.seq (.blk 1 (.seq (.reg true F711_r1) (.seq (.reg true F711_r2) (.cond (.t 30) (.seq (.reg true [oP 0 2 (.mov (.c (.bool false)))]) (.ret)) (.skip))))) (.reg true [oP 0 31 (.bin .add (.t 15) (.c (.int .i64 1))), oM 1 15 31])))
@[go_sem] theorem F711_k3_r : CE F711_k3.eq_1 := CEM F711_k3.eq_1
def F711_k4 : ACode := .seq (.seq (.reg true F711_r0) (.cond (.t 12) (.seq (.reg true [oP 0 2 (.mov (.c (.bool false)))]) (.ret)) (.skip))) (.seq (.seq (.reg true [oM 0 13 0, oP 1 14 (.len (.t 13)), oP 2 15 (.mov (.c (.int .i64 0)))]) (.blk 0 (.loop F711_k3))) (.seq (.reg true [oP 0 2 (.mov (.c (.bool true)))]) (.ret)))
@[go_sem] theorem F711_k4_r : CE F711_k4.eq_1 := CEM F711_k4.eq_1
def F711 : AFun := ⟨1, 32, [.t 2], .seq (.reg true [oP 0 2 (.mov (.c (.bool false)))]) F711_k4⟩
def F1098 : AFun := idxF 2 (some 2)
def F712 : AFun := ctnF 1098
def F555_r0 : List AOper := [oM 0 5 0, oP 1 6 (.nilchk (.t 5)), oP 2 7 (.faddr 0 (.t 6)), oP 3 8 (.load none (.t 7)), oP 4 9 (.nop 3), oP 5 10 (.lload 3 0 none), oP 6 11 (.iaddr 5 (.t 8) (.t 10)), oP 7 12 (.faddr 4 (.t 11)), oP 8 13 (.load none (.t 12)), oP 9 14 (.nop 3), oP 10 15 (.lload 3 1 none), oP 11 16 (.iaddr 2 (.t 13) (.t 15)), oP 12 17 (.load (some 2) (.t 16)), oN 13 (.lstore 4 0 2 (.t 17))]
@[go_sem] theorem F555_r0_r : OE F555_r0.eq_1 := OEM F555_r0.eq_1
def F555 : AFun := ⟨2, 18, [.l 4 (some 2)], .seq (.reg true [oP 0 3 (.lbox 2 (.t 1)), oP 1 4 (.lalloc (.agg [.int .i64 0, .int .i64 0]))]) (.seq (.reg true F555_r0) (.ret))⟩
def F714_r0 : List AOper := [oP 0 5 (.nop 3), oP 1 6 (.lload 3 0 none), oP 2 7 (.bin .geq (.t 6) (.c (.int .i64 0))), oM 3 8 7, oG 4 9 8 true (.nop 3), oG 5 10 8 true (.lload 3 0 none), oG 6 11 8 true (.mov (.t 0)), oG 7 12 8 true (.len (.t 11)), oG 8 13 8 true (.bin .lss (.t 10) (.t 12)), oP 9 14 (.pick (.t 8) (.t 13) (.c (.bool false))), oM 10 15 14, oG 11 16 15 true (.nop 3), oG 12 17 15 true (.lload 3 1 none), oG 13 18 15 true (.bin .geq (.t 17) (.c (.int .i64 0))), oP 14 19 (.pick (.t 15) (.t 18) (.c (.bool false))), oM 15 20 19, oG 16 21 20 true (.nop 3), oG 17 22 20 true (.lload 3 1 none), oG 18 23 20 true (.mov (.t 0)), oG 19 24 20 true (.nop 3), oG 20 25 20 true (.lload 3 0 none), oG 21 26 20 true (.iaddr 5 (.t 23) (.t 25)), oG 22 27 20 true (.faddr 4 (.t 26)), oG 23 28 20 true (.load none (.t 27)), oG 24 29 20 true (.len (.t 28)), oG 25 30 20 true (.bin .lss (.t 22) (.t 29)), oP 26 31 (.pick (.t 20) (.t 30) (.c (.bool false))), oM 27 4 31]
@[go_sem] theorem F714_r0_r : OE F714_r0.eq_1 := OEM F714_r0.eq_1
def F714 : AFun := ⟨2, 32, [.t 4], .seq (.reg true [oP 0 3 (.lbox 2 (.t 1)), oP 1 4 (.mov (.c (.bool false)))]) (.seq (.reg true F714_r0) (.ret))⟩
def F713_r0 : List AOper := [oP 0 5 (.lload 2 0 (some 2)), oP 1 6 (.call 555 [.t 1, .t 5]), oP 2 4 (.lalloc (.agg [.int .i64 0, .int .i64 0])), oN 3 (.lstore 4 0 2 (.t 6))]
@[go_sem] theorem F713_r0_r : OE F713_r0.eq_1 := OEM F713_r0.eq_1
def F713_r1 : List AOper := [oP 0 7 (.lload 4 0 (some 2)), oP 1 8 (.lload 2 0 (some 2)), oP 2 9 (.seq false [1, 1] (.t 7) (.t 8)), oM 3 10 9, oG 4 11 10 false (.faddr 0 (.t 1)), oG 5 12 10 false (.load none (.t 11)), oG 6 13 10 false (.lload 4 0 (some 2)), oG 7 14 10 false (.call 714 [.t 12, .t 13]), oG 8 15 10 false (.not (.t 14)), oP 9 16 (.pick (.t 10) (.c (.bool true)) (.t 15)), oM 10 17 16, oG 11 18 17 false (.lload 4 0 (some 2)), oG 13 20 17 false (.lload 2 0 (some 2)), oG 12 19 17 false (.call 555 [.t 1, .t 18]), oG 14 21 17 false (.seq true [1, 1] (.t 19) (.t 20)), oP 15 22 (.pick (.t 17) (.c (.bool true)) (.t 21)), oM 16 3 22]
@[go_sem] theorem F713_r1_r : OE F713_r1.eq_1 := OEM F713_r1.eq_1
def F713 : AFun := ⟨2, 23, [.t 3], .seq (.reg true [oP 0 2 (.lbox 2 (.t 0)), oP 1 3 (.mov (.c (.bool false)))]) (.seq (.reg true F713_r0) (.seq (.reg true F713_r1) (.ret)))⟩
def F319_r0 : List AOper := [oP 0 3 (.faddr 0 (.t 1)), oP 1 4 (.load none (.t 3)), oP 2 5 (.call 711 [.t 4]), oP 3 6 (.not (.t 5))]
@[go_sem] theorem F319_r0_r : OE F319_r0.eq_1 := OEM F319_r0.eq_1
def F319_r1 : List AOper := [oP 0 7 (.call 554 [.t 1]), oP 1 8 (.mkfn 713 [.t 1]), oP 2 9 (.call 712 [.t 7, .t 8]), oP 3 10 (.not (.t 9)), oM 4 2 10]
@[go_sem] theorem F319_r1_r : OE F319_r1.eq_1 := OEM F319_r1.eq_1
def F319 : AFun := ⟨1, 11, [.t 2], .seq (.reg true [oP 0 1 (.hbox 1 (.t 0)), oP 1 2 (.mov (.c (.bool false)))]) (.seq (.seq (.reg true F319_r0) (.cond (.t 6) (.seq (.reg true [oP 0 2 (.mov (.c (.bool false)))]) (.ret)) (.skip))) (.seq (.reg true F319_r1) (.ret)))⟩
def F860_r0 : List AOper := [oP 0 3 (.lload 1 0 (some 1)), oP 1 4 (.call 319 [.t 3]), oP 2 5 (.not (.t 4)), oM 3 2 5]
@[go_sem] theorem F860_r0_r : OE F860_r0.eq_1 := OEM F860_r0.eq_1
def F860 : AFun := ⟨1, 6, [.t 2], .seq (.reg true [oP 0 1 (.lbox 1 (.t 0)), oP 1 2 (.mov (.c (.bool false)))]) (.seq (.reg true F860_r0) (.ret))⟩
def F505_r0 : List AOper := [oM 0 3 0, oP 1 4 (.len (.t 3)), oP 2 5 (.bin .leq (.t 4) (.c (.int .i64 24))), oM 3 6 5, oG 4 7 6 true (.mov (.t 0)), oG 5 8 6 true (.call 859 [.t 7, .f 860]), oG 6 9 6 true (.not (.t 8)), oP 7 10 (.pick (.t 6) (.t 9) (.c (.bool false))), oM 8 2 10]
@[go_sem] theorem F505_r0_r : OE F505_r0.eq_1 := OEM F505_r0.eq_1
def F505 : AFun := ⟨1, 11, [.t 2], .seq (.reg true [oP 0 2 (.mov (.c (.bool false)))]) (.seq (.reg true F505_r0) (.ret))⟩
def F1397 : AFun := idxF 3 (some 3)
def F1112 : AFun := ctnF 1397
def F1114_r0 : List AOper := [oM 0 5 1, oP 1 6 (.nop 2), oP 2 7 (.lload 2 0 none), oP 3 8 (.bslice 1 (.int .i64 0) 1 [(0, .t 7)]), oP 4 9 (.call 436 [.t 5, .t 8]), oM 5 10 9, oG 6 11 10 true (.nop 2), oG 7 12 10 true (.lload 2 1 none), oG 8 13 10 true (.bin .geq (.t 12) (.c (.int .i64 (-1)))), oP 9 14 (.pick (.t 10) (.t 13) (.c (.bool false))), oM 10 15 14, oG 11 16 15 true (.nop 2), oG 12 17 15 true (.lload 2 1 none), oG 13 18 15 true (.bin .lss (.t 17) (.c (.int .i64 24))), oP 14 19 (.pick (.t 15) (.t 18) (.c (.bool false))), oM 15 20 19, oG 16 21 20 true (.nop 2), oG 17 22 20 true (.lload 2 2 none), oG 18 23 20 true (.bin .geq (.t 22) (.c (.int .i64 (-1)))), oP 19 24 (.pick (.t 20) (.t 23) (.c (.bool false))), oM 20 25 24, oG 21 26 25 true (.nop 2), oG 22 27 25 true (.lload 2 2 none), oG 23 28 25 true (.bin .lss (.t 27) (.c (.int .i64 600))), oP 24 29 (.pick (.t 25) (.t 28) (.c (.bool false))), oM 25 30 29, oG 26 31 30 true (.nop 2), oG 27 32 30 true (.lload 2 2 none), oG 28 33 30 true (.bin .neq (.t 32) (.c (.int .i64 (-1)))), oG 29 34 30 true (.mov (.t 33)), oG 30 35 34 false (.nop 2), oG 31 36 34 false (.lload 2 1 none), oG 32 37 34 false (.bin .eql (.t 36) (.c (.int .i64 (-1)))), oG 33 38 30 true (.pick (.t 34) (.c (.bool true)) (.t 37)), oP 34 39 (.pick (.t 30) (.t 38) (.c (.bool false))), oM 35 4 39]
@[go_sem] theorem F1114_r0_r : OE F1114_r0.eq_1 := OEM F1114_r0.eq_1
def F1114 : AFun := ⟨2, 40, [.t 4], .seq (.reg true [oP 0 2 (.lbox 3 (.t 0)), oP 1 4 (.mov (.c (.bool false)))]) (.seq (.reg true F1114_r0) (.ret))⟩
def F1113_r0 : List AOper := [oP 0 4 (.lload 2 0 (some 3)), oP 1 5 (.load none (.t 1)), oP 2 6 (.call 1114 [.t 4, .t 5]), oP 3 7 (.not (.t 6)), oM 4 3 7]
@[go_sem] theorem F1113_r0_r : OE F1113_r0.eq_1 := OEM F1113_r0.eq_1
def F1113 : AFun := ⟨2, 8, [.t 3], .seq (.reg true [oP 0 2 (.lbox 3 (.t 0)), oP 1 3 (.mov (.c (.bool false)))]) (.seq (.reg true F1113_r0) (.ret))⟩
def F747_r0 : List AOper := [oP 0 7 (.lload 3 0 (some 1)), oP 1 8 (.call 319 [.t 7]), oM 2 9 8, oG 3 10 9 true (.mov (.t 1)), oG 4 11 9 true (.len (.t 10)), oG 5 12 9 true (.nop 3), oG 6 13 9 true (.lload 3 0 none), oG 7 14 9 true (.len (.t 13)), oG 8 15 9 true (.bin .eql (.t 11) (.t 14)), oP 9 16 (.pick (.t 9) (.t 15) (.c (.bool false))), oM 10 17 16, oG 11 18 17 true (.mov (.t 1)), oG 12 19 17 true (.mkfn 1113 [.t 5]), oG 13 20 17 true (.call 1112 [.t 18, .t 19]), oG 14 21 17 true (.not (.t 20)), oP 15 22 (.pick (.t 17) (.t 21) (.c (.bool false))), oM 16 6 22]
@[go_sem] theorem F747_r0_r : OE F747_r0.eq_1 := OEM F747_r0.eq_1
def F747 : AFun := ⟨3, 23, [.t 6], .seq (.reg true [oP 0 3 (.lbox 1 (.t 0)), oP 1 5 (.hbox 1 (.t 2)), oP 2 6 (.mov (.c (.bool false)))]) (.seq (.reg true F747_r0) (.ret))⟩
def F771 : AFun := idxF 2 (some 2)
def F748 : AFun := ctnF 771
def F428_r0 : List AOper := [oP 0 7 (.nop 1), oP 1 8 (.lload 1 1 none), oP 2 9 (.bin .geq (.t 8) (.c (.int .i64 1))), oM 3 10 9, oG 4 11 10 true (.nop 1), oG 5 12 10 true (.lload 1 1 none), oG 6 13 10 true (.bin .leq (.t 12) (.c (.int .i64 8))), oP 7 14 (.pick (.t 10) (.t 13) (.c (.bool false))), oM 8 2 14]
@[go_sem] theorem F428_r0_r : OE F428_r0.eq_1 := OEM F428_r0.eq_1
def F428_r1 : List AOper := [oP 0 17 (.nop 1), oP 1 18 (.lload 1 1 none), oP 2 19 (.call 796 [.t 18]), oM 3 2 19]
@[go_sem] theorem F428_r1_r : OE F428_r1.eq_1 := OEM F428_r1.eq_1
def F428_r2 : List AOper := [oP 0 22 (.nop 1), oP 1 23 (.lload 1 1 none), oP 2 24 (.bin .geq (.t 23) (.c (.int .i64 1))), oM 3 25 24, oG 4 26 25 true (.nop 1), oG 5 27 25 true (.lload 1 1 none), oG 6 28 25 true (.bin .leq (.t 27) (.c (.int .i64 600))), oP 7 29 (.pick (.t 25) (.t 28) (.c (.bool false))), oM 8 2 29]
@[go_sem] theorem F428_r2_r : OE F428_r2.eq_1 := OEM F428_r2.eq_1
def F428_k3 : ACode := .cond (.t 5) (.seq (.reg true F428_r0) (.ret)) (.seq (.reg true [oP 0 16 (.bin .eql (.t 4) (.c (.int .i64 2))), oM 1 15 16]) (.cond (.t 15) (.seq (.reg true F428_r1) (.ret)) (.seq (.reg true [oP 0 21 (.bin .eql (.t 4) (.c (.int .i64 3))), oM 1 20 21]) (.cond (.t 20) (.seq (.reg true F428_r2) (.ret)) (.skip)))))
@[go_sem] theorem F428_k3_r : CE F428_k3.eq_1 := CEM F428_k3.eq_1
def F428 : AFun := ⟨1, 30, [.t 2], .seq (.reg true [oP 0 1 (.lbox 2 (.t 0)), oP 1 2 (.mov (.c (.bool false)))]) (.seq (.seq (.reg true [oP 0 3 (.nop 1), oP 1 4 (.lload 1 0 none)]) (.blk 0 (.seq (.reg true [oP 0 6 (.bin .eql (.t 4) (.c (.int .i64 1))), oM 1 5 6]) F428_k3))) (.seq (.reg true [oP 0 2 (.mov (.c (.bool false)))]) (.ret)))⟩
def F749_r0 : List AOper := [oP 0 3 (.lload 1 0 (some 2)), oP 1 4 (.call 428 [.t 3]), oP 2 5 (.not (.t 4)), oM 3 2 5]
@[go_sem] theorem F749_r0_r : OE F749_r0.eq_1 := OEM F749_r0.eq_1
def F749 : AFun := ⟨1, 6, [.t 2], .seq (.reg true [oP 0 1 (.lbox 2 (.t 0)), oP 1 2 (.mov (.c (.bool false)))]) (.seq (.reg true F749_r0) (.ret))⟩
def F373_r0 : List AOper := [oP 0 6 (.nop 1), oP 1 7 (.lload 1 0 none), oP 2 8 (.call 505 [.t 7]), oP 3 9 (.not (.t 8)), oM 4 10 9, oG 5 11 10 false (.nop 1), oG 6 12 10 false (.lload 1 1 none), oG 7 13 10 false (.call 406 [.t 12]), oG 8 14 10 false (.not (.t 13)), oP 9 15 (.pick (.t 10) (.c (.bool true)) (.t 14)), oM 10 16 15, oG 11 17 16 false (.nop 1), oG 12 18 16 false (.lload 1 2 none), oG 13 19 16 false (.bin .lss (.t 18) (.c (.int .i64 1))), oP 14 20 (.pick (.t 16) (.c (.bool true)) (.t 19)), oM 15 21 20, oG 16 22 21 false (.nop 1), oG 17 23 21 false (.lload 1 2 none), oG 18 24 21 false (.bin .gtr (.t 23) (.c (.int .i64 50))), oP 19 25 (.pick (.t 21) (.c (.bool true)) (.t 24)), oM 20 26 25, oG 21 27 26 false (.nop 1), oG 22 28 26 false (.lload 1 3 none), oG 23 29 26 false (.bslice 1 (.int .i64 0) 1 [(0, .t 28)]), oG 24 30 26 false (.call 436 [.c (.int .i64 4000), .t 29]), oG 25 31 26 false (.not (.t 30)), oP 26 32 (.pick (.t 26) (.c (.bool true)) (.t 31)), oM 27 33 32, oG 28 34 33 false (.nop 1), oG 29 35 33 false (.lload 1 4 (some 1)), oG 30 36 33 false (.nop 1), oG 31 37 33 false (.lload 1 5 none), oG 32 38 33 false (.nop 1), oG 33 39 33 false (.lload 1 3 none), oG 34 40 33 false (.call 747 [.t 35, .t 37, .t 39]), oG 35 41 33 false (.not (.t 40)), oP 36 42 (.pick (.t 33) (.c (.bool true)) (.t 41))]
@[go_sem] theorem F373_r0_r : OE F373_r0.eq_1 := OEM F373_r0.eq_1
def F373_r1 : List AOper := [oP 0 43 (.nop 1), oP 1 44 (.lload 1 6 none), oP 2 45 (.len (.t 44)), oP 3 46 (.bin .gtr (.t 45) (.c (.int .i64 8))), oM 4 47 46, oG 5 48 47 false (.nop 1), oG 6 49 47 false (.lload 1 6 none), oG 7 50 47 false (.call 748 [.t 49, .f 749]), oP 8 51 (.pick (.t 47) (.c (.bool true)) (.t 50))]
@[go_sem] theorem F373_r1_r : OE F373_r1.eq_1 := OEM F373_r1.eq_1
def F373_r2 : List AOper := [oP 0 52 (.nop 1), oP 1 53 (.lload 1 7 none), oP 2 54 (.len (.t 53)), oM 3 3 54]
@[go_sem] theorem F373_r2_r : OE F373_r2.eq_1 := OEM F373_r2.eq_1
def F373_r3 : List AOper := [oM 0 55 3, oP 1 56 (.nop 1), oP 2 57 (.lload 1 3 none), oP 3 58 (.nop 1), oP 4 59 (.lload 1 2 none), oP 5 60 (.bin .quo (.t 57) (.t 59)), oP 6 61 (.bin .add (.t 60) (.c (.int .i64 1))), oP 7 62 (.bin .lss (.t 55) (.t 61)), oM 8 63 62, oG 9 64 63 false (.mov (.t 3)), oG 10 65 63 false (.nop 1), oG 11 66 63 false (.lload 1 2 none), oG 12 67 63 false (.bin .quo (.c (.int .i64 4000)) (.t 66)), oG 13 68 63 false (.bin .add (.t 67) (.c (.int .i64 1))), oG 14 69 63 false (.bin .gtr (.t 64) (.t 68)), oP 15 70 (.pick (.t 63) (.c (.bool true)) (.t 69))]
@[go_sem] theorem F373_r3_r : OE F373_r3.eq_1 := OEM F373_r3.eq_1
def F373_r4 : List AOper := [oP 0 71 (.nop 1), oP 1 72 (.lload 1 7 none), oP 2 73 (.len (.t 72)), oP 3 74 (.mov (.c (.int .i64 0)))]
@[go_sem] theorem F373_r4_r : OE F373_r4.eq_1 := OEM F373_r4.eq_1
def F373_r5 : List AOper := [oM 0 76 74, oP 1 77 (.iaddr 3 (.t 72) (.t 74)), oP 2 78 (.load (some 3) (.t 77)), oP 3 5 (.lalloc (.agg [.int .i64 0, .nils, .nils])), oM 4 4 76, oN 5 (.lstore 5 0 3 (.t 78))]
@[go_sem] theorem F373_r5_r : OE F373_r5.eq_1 := OEM F373_r5.eq_1
def F373_r6 : List AOper := [oP 0 79 (.nop 5), oP 1 80 (.lload 5 0 none), oM 2 81 4, oP 3 82 (.nop 1), oP 4 83 (.lload 1 2 none), oP 5 84 (.bin .mul (.t 81) (.t 83)), oP 6 85 (.bin .neq (.t 80) (.t 84)), oM 7 86 85, oG 8 87 86 false (.nop 5), oG 9 88 86 false (.lload 5 1 (some 1)), oG 10 89 86 false (.nop 5), oG 11 90 86 false (.lload 5 2 none), oG 12 91 86 false (.nop 5), oG 13 92 86 false (.lload 5 0 none), oG 14 93 86 false (.call 747 [.t 88, .t 90, .t 92]), oG 15 94 86 false (.not (.t 93)), oP 16 95 (.pick (.t 86) (.c (.bool true)) (.t 94))]
@[go_sem] theorem F373_r6_r : OE F373_r6.eq_1 := OEM F373_r6.eq_1
def F373_k7 : ACode := .seq (.reg true [oP 0 75 (.bin .lss (.t 74) (.t 73))]) (.seq (.cond (.t 75) (.skip) (.exit 0)) (.seq (.blk 1 (.seq (.reg true F373_r5) (.seq (.reg true F373_r6) (.cond (.t 95) (.seq (.reg true [oP 0 2 (.mov (.c (.bool false)))]) (.ret)) (.skip))))) (.reg true [oP 0 96 (.bin .add (.t 74) (.c (.int .i64 1))), oM 1 74 96])))
@[go_sem] theorem F373_k7_r : CE F373_k7.eq_1 := CEM F373_k7.eq_1
def F373_k8 : ACode := .seq (.reg true F373_r2) (.seq (.seq (.reg true F373_r3) (.cond (.t 70) (.seq (.reg true [oP 0 2 (.mov (.c (.bool false)))]) (.ret)) (.skip))) (.seq (.seq (.reg true F373_r4) (.blk 0 (.loop F373_k7))) (.seq (.reg true [oP 0 2 (.mov (.c (.bool true)))]) (.ret))))
@[go_sem] theorem F373_k8_r : CE F373_k8.eq_1 := CEM F373_k8.eq_1
def F373 : AFun := ⟨1, 97, [.t 2], .seq (.reg true [oP 0 1 (.lbox 8 (.t 0)), oP 1 2 (.mov (.c (.bool false)))]) (.seq (.seq (.reg true F373_r0) (.cond (.t 42) (.seq (.reg true [oP 0 2 (.mov (.c (.bool false)))]) (.ret)) (.skip))) (.seq (.seq (.reg true F373_r1) (.cond (.t 51) (.seq (.reg true [oP 0 2 (.mov (.c (.bool false)))]) (.ret)) (.skip))) F373_k8))⟩
def F86 : AFun := eqS0 
def F1422_r0 : List AOper := [oP 0 5 (.nop 2), oP 1 6 (.lload 2 0 none), oP 2 7 (.nop 3), oP 3 8 (.lload 3 0 none), oP 4 9 (.bin .neq (.t 6) (.t 8))]
@[go_sem] theorem F1422_r0_r : OE F1422_r0.eq_1 := OEM F1422_r0.eq_1
def F1422_r1 : List AOper := [oP 0 10 (.nop 2), oP 1 11 (.lload 2 1 none), oP 2 12 (.nop 3), oP 3 13 (.lload 3 1 none), oP 4 14 (.bin .neq (.t 11) (.t 13))]
@[go_sem] theorem F1422_r1_r : OE F1422_r1.eq_1 := OEM F1422_r1.eq_1
def F1422 : AFun := ⟨2, 15, [.t 4], .seq (.reg true [oP 0 2 (.lbox 2 (.t 0)), oP 1 3 (.lbox 2 (.t 1)), oP 2 4 (.mov (.c (.bool false)))]) (.seq (.seq (.reg true F1422_r0) (.cond (.t 9) (.seq (.reg true [oP 0 4 (.mov (.c (.bool false)))]) (.ret)) (.skip))) (.seq (.seq (.reg true F1422_r1) (.cond (.t 14) (.seq (.reg true [oP 0 4 (.mov (.c (.bool false)))]) (.ret)) (.skip))) (.seq (.reg true [oP 0 4 (.mov (.c (.bool true)))]) (.ret))))⟩
def F1184 : AFun := eqS 2 (some 2) 1422
def F870_r0 : List AOper := [oP 0 5 (.nop 2), oP 1 6 (.lload 2 0 none), oP 2 7 (.nop 3), oP 3 8 (.lload 3 0 none), oP 4 9 (.bin .neq (.t 6) (.t 8))]
@[go_sem] theorem F870_r0_r : OE F870_r0.eq_1 := OEM F870_r0.eq_1
def F870_r1 : List AOper := [oP 0 10 (.nop 2), oP 1 11 (.lload 2 1 none), oP 2 12 (.nop 3), oP 3 13 (.lload 3 1 none), oP 4 14 (.bin .neq (.t 11) (.t 13))]
@[go_sem] theorem F870_r1_r : OE F870_r1.eq_1 := OEM F870_r1.eq_1
def F870_r2 : List AOper := [oP 0 15 (.nop 2), oP 1 16 (.lload 2 2 none), oP 2 17 (.nop 3), oP 3 18 (.lload 3 2 none), oP 4 19 (.bin .neq (.t 16) (.t 18))]
@[go_sem] theorem F870_r2_r : OE F870_r2.eq_1 := OEM F870_r2.eq_1
def F870_r3 : List AOper := [oP 0 20 (.nop 2), oP 1 21 (.lload 2 3 none), oP 2 22 (.nop 3), oP 3 23 (.lload 3 3 none), oP 4 24 (.call 86 [.t 21, .t 23]), oP 5 25 (.not (.t 24))]
@[go_sem] theorem F870_r3_r : OE F870_r3.eq_1 := OEM F870_r3.eq_1
def F870_r4 : List AOper := [oP 0 26 (.nop 2), oP 1 27 (.lload 2 4 none), oP 2 28 (.nop 3), oP 3 29 (.lload 3 4 none), oP 4 30 (.call 1184 [.t 27, .t 29]), oP 5 31 (.not (.t 30))]
@[go_sem] theorem F870_r4_r : OE F870_r4.eq_1 := OEM F870_r4.eq_1
def F870_k5 : ACode := .seq (.seq (.reg true F870_r2) (.cond (.t 19) (.seq (.reg true [oP 0 4 (.mov (.c (.bool false)))]) (.ret)) (.skip))) (.seq (.seq (.reg true F870_r3) (.cond (.t 25) (.seq (.reg true [oP 0 4 (.mov (.c (.bool false)))]) (.ret)) (.skip))) (.seq (.seq (.reg true F870_r4) (.cond (.t 31) (.seq (.reg true [oP 0 4 (.mov (.c (.bool false)))]) (.ret)) (.skip))) (.seq (.reg true [oP 0 4 (.mov (.c (.bool true)))]) (.ret))))
@[go_sem] theorem F870_k5_r : CE F870_k5.eq_1 := CEM F870_k5.eq_1
def F870 : AFun := ⟨2, 32, [.t 4], .seq (.reg true [oP 0 2 (.lbox 5 (.t 0)), oP 1 3 (.lbox 5 (.t 1)), oP 2 4 (.mov (.c (.bool false)))]) (.seq (.seq (.reg true F870_r0) (.cond (.t 9) (.seq (.reg true [oP 0 4 (.mov (.c (.bool false)))]) (.ret)) (.skip))) (.seq (.seq (.reg true F870_r1) (.cond (.t 14) (.seq (.reg true [oP 0 4 (.mov (.c (.bool false)))]) (.ret)) (.skip))) F870_k5))⟩
def F508 : AFun := eqS 5 (some 5) 870
def F188_r0 : List AOper := [oP 0 5 (.nop 2), oP 1 6 (.lload 2 0 none), oP 2 7 (.nop 3), oP 3 8 (.lload 3 0 none), oP 4 9 (.call 508 [.t 6, .t 8]), oP 5 10 (.not (.t 9))]
@[go_sem] theorem F188_r0_r : OE F188_r0.eq_1 := OEM F188_r0.eq_1
def F188 : AFun := ⟨2, 11, [.t 4], .seq (.reg true [oP 0 2 (.lbox 1 (.t 0)), oP 1 3 (.lbox 1 (.t 1)), oP 2 4 (.mov (.c (.bool false)))]) (.seq (.seq (.reg true F188_r0) (.cond (.t 10) (.seq (.reg true [oP 0 4 (.mov (.c (.bool false)))]) (.ret)) (.skip))) (.seq (.reg true [oP 0 4 (.mov (.c (.bool true)))]) (.ret)))⟩
def F187 : AFun := eqS 1 (some 1) 188
def F752_r0 : List AOper := [oP 0 5 (.nop 2), oP 1 6 (.lload 2 0 none), oP 2 7 (.nop 3), oP 3 8 (.lload 3 0 none), oP 4 9 (.bin .neq (.t 6) (.t 8))]
@[go_sem] theorem F752_r0_r : OE F752_r0.eq_1 := OEM F752_r0.eq_1
def F752_r1 : List AOper := [oP 0 10 (.nop 2), oP 1 11 (.lload 2 1 none), oP 2 12 (.nop 3), oP 3 13 (.lload 3 1 none), oP 4 14 (.bin .neq (.t 11) (.t 13))]
@[go_sem] theorem F752_r1_r : OE F752_r1.eq_1 := OEM F752_r1.eq_1
def F752_r2 : List AOper := [oP 0 15 (.nop 2), oP 1 16 (.lload 2 2 none), oP 2 17 (.nop 3), oP 3 18 (.lload 3 2 none), oP 4 19 (.bin .neq (.t 16) (.t 18))]
@[go_sem] theorem F752_r2_r : OE F752_r2.eq_1 := OEM F752_r2.eq_1
def F752_k3 : ACode := .seq (.seq (.reg true F752_r0) (.cond (.t 9) (.seq (.reg true [oP 0 4 (.mov (.c (.bool false)))]) (.ret)) (.skip))) (.seq (.seq (.reg true F752_r1) (.cond (.t 14) (.seq (.reg true [oP 0 4 (.mov (.c (.bool false)))]) (.ret)) (.skip))) (.seq (.seq (.reg true F752_r2) (.cond (.t 19) (.seq (.reg true [oP 0 4 (.mov (.c (.bool false)))]) (.ret)) (.skip))) (.seq (.reg true [oP 0 4 (.mov (.c (.bool true)))]) (.ret))))
@[go_sem] theorem F752_k3_r : CE F752_k3.eq_1 := CEM F752_k3.eq_1
def F752 : AFun := ⟨2, 20, [.t 4], .seq (.reg true [oP 0 2 (.lbox 3 (.t 0)), oP 1 3 (.lbox 3 (.t 1)), oP 2 4 (.mov (.c (.bool false)))]) F752_k3⟩
def F377 : AFun := eqS 3 (some 3) 752
def F753_r0 : List AOper := [oP 0 5 (.nop 2), oP 1 6 (.lload 2 0 none), oP 2 7 (.nop 3), oP 3 8 (.lload 3 0 none), oP 4 9 (.bin .neq (.t 6) (.t 8))]
@[go_sem] theorem F753_r0_r : OE F753_r0.eq_1 := OEM F753_r0.eq_1
def F753_r1 : List AOper := [oP 0 10 (.nop 2), oP 1 11 (.lload 2 1 none), oP 2 12 (.nop 3), oP 3 13 (.lload 3 1 none), oP 4 14 (.bin .neq (.t 11) (.t 13))]
@[go_sem] theorem F753_r1_r : OE F753_r1.eq_1 := OEM F753_r1.eq_1
def F753 : AFun := ⟨2, 15, [.t 4], .seq (.reg true [oP 0 2 (.lbox 2 (.t 0)), oP 1 3 (.lbox 2 (.t 1)), oP 2 4 (.mov (.c (.bool false)))]) (.seq (.seq (.reg true F753_r0) (.cond (.t 9) (.seq (.reg true [oP 0 4 (.mov (.c (.bool false)))]) (.ret)) (.skip))) (.seq (.seq (.reg true F753_r1) (.cond (.t 14) (.seq (.reg true [oP 0 4 (.mov (.c (.bool false)))]) (.ret)) (.skip))) (.seq (.reg true [oP 0 4 (.mov (.c (.bool true)))]) (.ret))))⟩
def F378 : AFun := eqS 2 (some 2) 753
def F754_r0 : List AOper := [oP 0 5 (.nop 2), oP 1 6 (.lload 2 0 none), oP 2 7 (.nop 3), oP 3 8 (.lload 3 0 none), oP 4 9 (.bin .neq (.t 6) (.t 8))]
@[go_sem] theorem F754_r0_r : OE F754_r0.eq_1 := OEM F754_r0.eq_1
def F754_r1 : List AOper := [oP 0 10 (.nop 2), oP 1 11 (.lload 2 1 (some 1)), oP 2 12 (.nop 3), oP 3 13 (.lload 3 1 (some 1)), oP 4 14 (.call 188 [.t 11, .t 13]), oP 5 15 (.not (.t 14))]
@[go_sem] theorem F754_r1_r : OE F754_r1.eq_1 := OEM F754_r1.eq_1
def F754_r2 : List AOper := [oP 0 16 (.nop 2), oP 1 17 (.lload 2 2 none), oP 2 18 (.nop 3), oP 3 19 (.lload 3 2 none), oP 4 20 (.call 377 [.t 17, .t 19]), oP 5 21 (.not (.t 20))]
@[go_sem] theorem F754_r2_r : OE F754_r2.eq_1 := OEM F754_r2.eq_1
def F754_k3 : ACode := .seq (.seq (.reg true F754_r0) (.cond (.t 9) (.seq (.reg true [oP 0 4 (.mov (.c (.bool false)))]) (.ret)) (.skip))) (.seq (.seq (.reg true F754_r1) (.cond (.t 15) (.seq (.reg true [oP 0 4 (.mov (.c (.bool false)))]) (.ret)) (.skip))) (.seq (.seq (.reg true F754_r2) (.cond (.t 21) (.seq (.reg true [oP 0 4 (.mov (.c (.bool false)))]) (.ret)) (.skip))) (.seq (.reg true [oP 0 4 (.mov (.c (.bool true)))]) (.ret))))
@[go_sem] theorem F754_k3_r : CE F754_k3.eq_1 := CEM F754_k3.eq_1
def F754 : AFun := ⟨2, 22, [.t 4], .seq (.reg true [oP 0 2 (.lbox 3 (.t 0)), oP 1 3 (.lbox 3 (.t 1)), oP 2 4 (.mov (.c (.bool false)))]) F754_k3⟩
def F379 : AFun := eqS 3 (some 3) 754
def F108_r0 : List AOper := [oP 0 5 (.nop 2), oP 1 6 (.lload 2 0 none), oP 2 7 (.nop 3), oP 3 8 (.lload 3 0 none), oP 4 9 (.call 187 [.t 6, .t 8]), oP 5 10 (.not (.t 9))]
@[go_sem] theorem F108_r0_r : OE F108_r0.eq_1 := OEM F108_r0.eq_1
def F108_r1 : List AOper := [oP 0 11 (.nop 2), oP 1 12 (.lload 2 1 none), oP 2 13 (.nop 3), oP 3 14 (.lload 3 1 none), oP 4 15 (.call 86 [.t 12, .t 14]), oP 5 16 (.not (.t 15))]
@[go_sem] theorem F108_r1_r : OE F108_r1.eq_1 := OEM F108_r1.eq_1
def F108_r2 : List AOper := [oP 0 17 (.nop 2), oP 1 18 (.lload 2 2 none), oP 2 19 (.nop 3), oP 3 20 (.lload 3 2 none), oP 4 21 (.bin .neq (.t 18) (.t 20))]
@[go_sem] theorem F108_r2_r : OE F108_r2.eq_1 := OEM F108_r2.eq_1
def F108_r3 : List AOper := [oP 0 22 (.nop 2), oP 1 23 (.lload 2 3 none), oP 2 24 (.nop 3), oP 3 25 (.lload 3 3 none), oP 4 26 (.bin .neq (.t 23) (.t 25))]
@[go_sem] theorem F108_r3_r : OE F108_r3.eq_1 := OEM F108_r3.eq_1
def F108_r4 : List AOper := [oP 0 27 (.nop 2), oP 1 28 (.lload 2 4 (some 1)), oP 2 29 (.nop 3), oP 3 30 (.lload 3 4 (some 1)), oP 4 31 (.call 188 [.t 28, .t 30]), oP 5 32 (.not (.t 31))]
@[go_sem] theorem F108_r4_r : OE F108_r4.eq_1 := OEM F108_r4.eq_1
def F108_r5 : List AOper := [oP 0 33 (.nop 2), oP 1 34 (.lload 2 5 none), oP 2 35 (.nop 3), oP 3 36 (.lload 3 5 none), oP 4 37 (.call 377 [.t 34, .t 36]), oP 5 38 (.not (.t 37))]
@[go_sem] theorem F108_r5_r : OE F108_r5.eq_1 := OEM F108_r5.eq_1
def F108_r6 : List AOper := [oP 0 39 (.nop 2), oP 1 40 (.lload 2 6 none), oP 2 41 (.nop 3), oP 3 42 (.lload 3 6 none), oP 4 43 (.call 378 [.t 40, .t 42]), oP 5 44 (.not (.t 43))]
@[go_sem] theorem F108_r6_r : OE F108_r6.eq_1 := OEM F108_r6.eq_1
def F108_r7 : List AOper := [oP 0 45 (.nop 2), oP 1 46 (.lload 2 7 none), oP 2 47 (.nop 3), oP 3 48 (.lload 3 7 none), oP 4 49 (.call 379 [.t 46, .t 48]), oP 5 50 (.not (.t 49))]
@[go_sem] theorem F108_r7_r : OE F108_r7.eq_1 := OEM F108_r7.eq_1
def F108_k8 : ACode := .seq (.seq (.reg true F108_r5) (.cond (.t 38) (.seq (.reg true [oP 0 4 (.mov (.c (.bool false)))]) (.ret)) (.skip))) (.seq (.seq (.reg true F108_r6) (.cond (.t 44) (.seq (.reg true [oP 0 4 (.mov (.c (.bool false)))]) (.ret)) (.skip))) (.seq (.seq (.reg true F108_r7) (.cond (.t 50) (.seq (.reg true [oP 0 4 (.mov (.c (.bool false)))]) (.ret)) (.skip))) (.seq (.reg true [oP 0 4 (.mov (.c (.bool true)))]) (.ret))))
@[go_sem] theorem F108_k8_r : CE F108_k8.eq_1 := CEM F108_k8.eq_1
def F108_k9 : ACode := .seq (.seq (.reg true F108_r2) (.cond (.t 21) (.seq (.reg true [oP 0 4 (.mov (.c (.bool false)))]) (.ret)) (.skip))) (.seq (.seq (.reg true F108_r3) (.cond (.t 26) (.seq (.reg true [oP 0 4 (.mov (.c (.bool false)))]) (.ret)) (.skip))) (.seq (.seq (.reg true F108_r4) (.cond (.t 32) (.seq (.reg true [oP 0 4 (.mov (.c (.bool false)))]) (.ret)) (.skip))) F108_k8))
@[go_sem] theorem F108_k9_r : CE F108_k9.eq_1 := CEM F108_k9.eq_1
def F108 : AFun := ⟨2, 51, [.t 4], .seq (.reg true [oP 0 2 (.lbox 8 (.t 0)), oP 1 3 (.lbox 8 (.t 1)), oP 2 4 (.mov (.c (.bool false)))]) (.seq (.seq (.reg true F108_r0) (.cond (.t 10) (.seq (.reg true [oP 0 4 (.mov (.c (.bool false)))]) (.ret)) (.skip))) (.seq (.seq (.reg true F108_r1) (.cond (.t 16) (.seq (.reg true [oP 0 4 (.mov (.c (.bool false)))]) (.ret)) (.skip))) F108_k9))⟩
def F402_r0 : List AOper := [oP 0 3 (.mov (.c (.lst 1 [] true))), oM 1 4 0, oP 2 5 (.app 1 (.t 3) (.t 4)), oM 3 2 5]
@[go_sem] theorem F402_r0_r : OE F402_r0.eq_1 := OEM F402_r0.eq_1
def F402 : AFun := ⟨1, 6, [.t 2], .seq (.reg true [oP 0 2 (.mov (.c (.nils)))]) (.seq (.reg true F402_r0) (.ret))⟩
def F837_r0 : List AOper := [oM 0 3 0, oP 1 4 (.nilchk (.t 3)), oP 2 5 (.faddr 0 (.t 4)), oP 3 6 (.load none (.t 5)), oM 4 7 0, oP 5 8 (.nilchk (.t 7)), oP 6 9 (.faddr 1 (.t 8)), oP 7 10 (.load none (.t 9)), oM 8 11 0, oP 9 12 (.nilchk (.t 11)), oP 10 13 (.faddr 2 (.t 12)), oP 11 14 (.load none (.t 13)), oM 12 15 0, oP 13 16 (.nilchk (.t 15)), oP 14 17 (.faddr 3 (.t 16)), oP 15 18 (.load none (.t 17)), oP 17 20 (.mov (.c (.lst 2 [] true))), oM 18 21 0, oP 19 22 (.nilchk (.t 21)), oP 20 23 (.faddr 4 (.t 22)), oP 21 24 (.load none (.t 23)), ⟨16, some 19, none, .call 402 [.t 18], [⟨3, some 6, none, .load none (.t 5), []⟩, ⟨7, some 10, none, .load none (.t 9), []⟩, ⟨11, some 14, none, .load none (.t 13), []⟩, ⟨21, some 24, none, .load none (.t 23), []⟩]⟩, ⟨22, some 25, none, .app 2 (.t 20) (.t 24), [⟨3, some 6, none, .load none (.t 5), []⟩, ⟨7, some 10, none, .load none (.t 9), []⟩, ⟨11, some 14, none, .load none (.t 13), []⟩]⟩, oP 23 26 (.build (.agg [.int .i64 0, .int .i64 0, .int .i64 0, .nils, .nils]) [(0, 1, .t 6), (1, 1, .t 10), (2, 1, .t 14), (3, 1, .t 19), (4, 1, .t 25)]), oN 24 (.lstore 2 0 5 (.t 26))]
@[go_sem] theorem F837_r0_r : OE F837_r0.eq_1 := OEM F837_r0.eq_1
def F837 : AFun := ⟨1, 27, [.l 2 (some 5)], .seq (.reg true [oP 0 2 (.lalloc (.agg [.int .i64 0, .int .i64 0, .int .i64 0, .nils, .nils]))]) (.seq (.reg true F837_r0) (.ret))⟩
def F489_r0 : List AOper := [oM 0 6 4, oM 1 7 0, oP 2 8 (.nilchk (.t 7)), oP 3 9 (.faddr 0 (.t 8)), oP 4 10 (.load none (.t 9)), oP 5 11 (.len (.t 10)), oP 6 12 (.bin .lss (.t 6) (.t 11))]
@[go_sem] theorem F489_r0_r : OE F489_r0.eq_1 := OEM F489_r0.eq_1
def F489_r1 : List AOper := [oP 0 15 (.nop 3), oP 1 16 (.lload 3 0 none), oM 2 17 0, oP 3 18 (.nilchk (.t 17)), oP 4 19 (.faddr 0 (.t 18)), oP 5 20 (.load none (.t 19)), oM 6 21 4, oP 7 22 (.iaddr 5 (.t 20) (.t 21)), oP 8 23 (.call 837 [.t 22]), oP 9 24 (.bslice 5 (.agg [.int .i64 0, .int .i64 0, .int .i64 0, .nils, .nils]) 1 [(0, .t 23)]), oP 10 25 (.app 5 (.t 16) (.t 24)), oP 11 26 (.nop 3), oN 12 (.lstore 3 0 1 (.t 25))]
@[go_sem] theorem F489_r1_r : OE F489_r1.eq_1 := OEM F489_r1.eq_1
def F489_k2 : ACode := .seq (.reg true [oP 0 4 (.mov (.c (.int .i64 0)))]) (.blk 0 (.loop (.seq (.seq (.reg true F489_r0) (.cond (.t 12) (.skip) (.exit 0))) (.seq (.blk 1 (.reg true F489_r1)) (.reg true [oM 0 13 4, oP 1 14 (.bin .add (.t 13) (.c (.int .i64 1))), oM 2 4 14])))))
@[go_sem] theorem F489_k2_r : CE F489_k2.eq_1 := CEM F489_k2.eq_1
def F489 : AFun := ⟨1, 28, [.l 2 (some 1)], .seq (.reg true [oP 0 2 (.lalloc (.agg [.nils]))]) (.seq (.reg true [oP 0 5 (.build (.agg [.nils]) []), oP 1 3 (.lalloc (.agg [.nils])), oN 2 (.lstore 3 0 1 (.t 5))]) (.seq F489_k2 (.seq (.reg true [oP 0 27 (.lload 3 0 (some 1)), oN 1 (.lstore 2 0 1 (.t 27))]) (.ret))))⟩
def F795_r0 : List AOper := [oM 0 3 0, oP 1 4 (.nilchk (.t 3)), oP 2 5 (.faddr 0 (.t 4)), oP 3 6 (.load none (.t 5)), oM 4 7 0, oP 5 8 (.nilchk (.t 7)), oP 6 9 (.faddr 1 (.t 8)), oP 8 11 (.mov (.c (.lst 3 [] true))), oM 9 12 0, oP 10 13 (.nilchk (.t 12)), oP 11 14 (.faddr 2 (.t 13)), oP 12 15 (.load none (.t 14)), ⟨7, some 10, none, .call 489 [.t 9], [⟨3, some 6, none, .load none (.t 5), []⟩, ⟨12, some 15, none, .load none (.t 14), []⟩]⟩, ⟨13, some 16, none, .app 3 (.t 11) (.t 15), [⟨3, some 6, none, .load none (.t 5), []⟩]⟩, oP 14 17 (.build (.agg [.int .i64 0, .nils, .nils]) [(0, 1, .t 6), (1, 1, .t 10), (2, 1, .t 16)]), oN 15 (.lstore 2 0 3 (.t 17))]
@[go_sem] theorem F795_r0_r : OE F795_r0.eq_1 := OEM F795_r0.eq_1
def F795 : AFun := ⟨1, 18, [.l 2 (some 3)], .seq (.reg true [oP 0 2 (.lalloc (.agg [.int .i64 0, .nils, .nils]))]) (.seq (.reg true F795_r0) (.ret))⟩
def F427_r0 : List AOper := [oM 0 6 0, oP 1 7 (.nilchk (.t 6)), oP 2 8 (.faddr 1 (.t 7)), oP 3 9 (.load none (.t 8)), oM 5 11 0, oP 6 12 (.nilchk (.t 11)), oP 7 13 (.faddr 2 (.t 12)), oP 8 14 (.load none (.t 13)), oM 9 15 0, oP 10 16 (.nilchk (.t 15)), oP 11 17 (.faddr 3 (.t 16)), oP 12 18 (.load none (.t 17)), oM 13 19 0, oP 14 20 (.nilchk (.t 19)), oP 15 21 (.faddr 4 (.t 20)), oP 17 23 (.mov (.c (.lst 3 [] true))), oM 18 24 0, oP 19 25 (.nilchk (.t 24)), oP 20 26 (.faddr 5 (.t 25)), oP 21 27 (.load none (.t 26)), oP 23 29 (.mov (.c (.lst 2 [] true))), oM 24 30 0, oP 25 31 (.nilchk (.t 30)), oP 26 32 (.faddr 6 (.t 31)), oP 27 33 (.load none (.t 32)), oP 30 3 (.lalloc (.agg [.nils, .nils, .int .i64 0, .int .i64 0, .nils, .nils, .nils, .nils])), ⟨4, some 10, none, .call 402 [.t 9], [⟨8, some 14, none, .load none (.t 13), []⟩, ⟨12, some 18, none, .load none (.t 17), []⟩, ⟨21, some 27, none, .load none (.t 26), []⟩, ⟨27, some 33, none, .load none (.t 32), []⟩]⟩, ⟨16, some 22, none, .call 489 [.t 21], [⟨8, some 14, none, .load none (.t 13), []⟩, ⟨12, some 18, none, .load none (.t 17), []⟩, ⟨21, some 27, none, .load none (.t 26), []⟩, ⟨27, some 33, none, .load none (.t 32), []⟩]⟩, ⟨22, some 28, none, .app 3 (.t 23) (.t 27), [⟨8, some 14, none, .load none (.t 13), []⟩, ⟨12, some 18, none, .load none (.t 17), []⟩, ⟨27, some 33, none, .load none (.t 32), []⟩]⟩, ⟨28, some 34, none, .app 2 (.t 29) (.t 33), [⟨8, some 14, none, .load none (.t 13), []⟩, ⟨12, some 18, none, .load none (.t 17), []⟩]⟩, oP 29 35 (.build (.agg [.nils, .nils, .int .i64 0, .int .i64 0, .nils, .nils, .nils, .nils]) [(1, 1, .t 10), (2, 1, .t 14), (3, 1, .t 18), (4, 1, .t 22), (5, 1, .t 28), (6, 1, .t 34)]), oN 31 (.lstore 3 0 8 (.t 35))]
@[go_sem] theorem F427_r0_r : OE F427_r0.eq_1 := OEM F427_r0.eq_1
def F427_r1 : List AOper := [oM 0 36 4, oM 1 37 0, oP 2 38 (.nilchk (.t 37)), oP 3 39 (.faddr 0 (.t 38)), oP 4 40 (.load none (.t 39)), oP 5 41 (.len (.t 40)), oP 6 42 (.bin .lss (.t 36) (.t 41))]
@[go_sem] theorem F427_r1_r : OE F427_r1.eq_1 := OEM F427_r1.eq_1
def F427_r2 : List AOper := [oP 0 45 (.nop 3), oP 1 46 (.lload 3 0 none), oM 2 47 0, oP 3 48 (.nilchk (.t 47)), oP 4 49 (.faddr 0 (.t 48)), oP 5 50 (.load none (.t 49)), oM 6 51 4, oP 7 52 (.iaddr 1 (.t 50) (.t 51)), oP 8 53 (.call 489 [.t 52]), oP 9 54 (.bslice 1 (.agg [.nils]) 1 [(0, .t 53)]), oP 10 55 (.app 1 (.t 46) (.t 54)), oP 11 56 (.nop 3), oN 12 (.lstore 3 0 1 (.t 55))]
@[go_sem] theorem F427_r2_r : OE F427_r2.eq_1 := OEM F427_r2.eq_1
def F427_k3 : ACode := .seq (.reg true [oP 0 4 (.mov (.c (.int .i64 0)))]) (.blk 0 (.loop (.seq (.seq (.reg true F427_r1) (.cond (.t 42) (.skip) (.exit 0))) (.seq (.blk 1 (.reg true F427_r2)) (.reg true [oM 0 43 4, oP 1 44 (.bin .add (.t 43) (.c (.int .i64 1))), oM 2 4 44])))))
@[go_sem] theorem F427_k3_r : CE F427_k3.eq_1 := CEM F427_k3.eq_1
def F427_r4 : List AOper := [oM 0 57 5, oM 1 58 0, oP 2 59 (.nilchk (.t 58)), oP 3 60 (.faddr 7 (.t 59)), oP 4 61 (.load none (.t 60)), oP 5 62 (.len (.t 61)), oP 6 63 (.bin .lss (.t 57) (.t 62))]
@[go_sem] theorem F427_r4_r : OE F427_r4.eq_1 := OEM F427_r4.eq_1
def F427_r5 : List AOper := [oP 0 66 (.nop 3), oP 1 67 (.lload 3 7 none), oM 2 68 0, oP 3 69 (.nilchk (.t 68)), oP 4 70 (.faddr 7 (.t 69)), oP 5 71 (.load none (.t 70)), oM 6 72 5, oP 7 73 (.iaddr 3 (.t 71) (.t 72)), oP 8 74 (.call 795 [.t 73]), oP 9 75 (.bslice 3 (.agg [.int .i64 0, .nils, .nils]) 1 [(0, .t 74)]), oP 10 76 (.app 3 (.t 67) (.t 75)), oP 11 77 (.nop 3), oN 12 (.lstore 3 7 1 (.t 76))]
@[go_sem] theorem F427_r5_r : OE F427_r5.eq_1 := OEM F427_r5.eq_1
def F427_k6 : ACode := .seq (.reg true [oP 0 5 (.mov (.c (.int .i64 0)))]) (.blk 2 (.loop (.seq (.seq (.reg true F427_r4) (.cond (.t 63) (.skip) (.exit 2))) (.seq (.blk 3 (.reg true F427_r5)) (.reg true [oM 0 64 5, oP 1 65 (.bin .add (.t 64) (.c (.int .i64 1))), oM 2 5 65])))))
@[go_sem] theorem F427_k6_r : CE F427_k6.eq_1 := CEM F427_k6.eq_1
def F427 : AFun := ⟨1, 79, [.l 2 (some 8)], .seq (.reg true [oP 0 2 (.lalloc (.agg [.nils, .nils, .int .i64 0, .int .i64 0, .nils, .nils, .nils, .nils]))]) (.seq (.reg true F427_r0) (.seq F427_k3 (.seq F427_k6 (.seq (.reg true [oP 0 78 (.lload 3 0 (some 8)), oN 1 (.lstore 2 0 8 (.t 78))]) (.ret)))))⟩
def F401_r0 : List AOper := [oP 0 5 (.mov (.c (.lst 1 [] true))), oM 1 6 0, oP 2 7 (.app 1 (.t 5) (.t 6)), oM 3 2 7]
@[go_sem] theorem F401_r0_r : OE F401_r0.eq_1 := OEM F401_r0.eq_1
def F401 : AFun := ⟨1, 8, [.t 2], .seq (.reg true [oP 0 2 (.mov (.c (.nils)))]) (.seq (.seq (.reg true [oM 0 3 0, oP 1 4 (.isnil 1 false (.t 3))]) (.cond (.t 4) (.seq (.reg true [oP 0 2 (.mov (.c (.nils)))]) (.ret)) (.skip))) (.seq (.reg true F401_r0) (.ret)))⟩
def F1373_r0 : List AOper := [oP 0 5 (.mov (.c (.lst 2 [] true))), oM 1 6 0, oP 2 7 (.app 2 (.t 5) (.t 6)), oM 3 2 7]
@[go_sem] theorem F1373_r0_r : OE F1373_r0.eq_1 := OEM F1373_r0.eq_1
def F1373 : AFun := ⟨1, 8, [.t 2], .seq (.reg true [oP 0 2 (.mov (.c (.nils)))]) (.seq (.seq (.reg true [oM 0 3 0, oP 1 4 (.isnil 1 false (.t 3))]) (.cond (.t 4) (.seq (.reg true [oP 0 2 (.mov (.c (.nils)))]) (.ret)) (.skip))) (.seq (.reg true F1373_r0) (.ret)))⟩
def F1085_r0 : List AOper := [oP 0 3 (.nop 1), oP 1 4 (.lload 1 3 none), oP 3 6 (.nop 1), oP 4 7 (.lload 1 4 none), oP 2 5 (.call 401 [.t 4]), oP 6 9 (.nop 1), oP 5 8 (.call 1373 [.t 7]), oN 7 (.lstore 1 3 1 (.t 5)), oP 8 10 (.nop 1), oN 9 (.lstore 1 4 1 (.t 8))]
@[go_sem] theorem F1085_r0_r : OE F1085_r0.eq_1 := OEM F1085_r0.eq_1
def F1085 : AFun := ⟨1, 12, [.l 2 (some 5)], .seq (.reg true [oP 0 1 (.lbox 5 (.t 0)), oP 1 2 (.lalloc (.agg [.int .i64 0, .int .i64 0, .int .i64 0, .nils, .nils]))]) (.seq (.reg true F1085_r0) (.seq (.reg true [oP 0 11 (.lload 1 0 (some 5)), oN 1 (.lstore 2 0 5 (.t 11))]) (.ret)))⟩
def F798_r0 : List AOper := [oP 0 6 (.nop 1), oP 1 7 (.lload 1 0 none), oP 2 8 (.len (.t 7)), oP 3 9 (.mksl 5 (.agg [.int .i64 0, .int .i64 0, .int .i64 0, .nils, .nils]) (.c (.int .i64 0)) (.t 8)), oP 4 10 (.build (.agg [.nils]) [(0, 1, .t 9)]), oP 5 3 (.lalloc (.agg [.nils])), oN 6 (.lstore 3 0 1 (.t 10))]
@[go_sem] theorem F798_r0_r : OE F798_r0.eq_1 := OEM F798_r0.eq_1
def F798_r1 : List AOper := [oP 0 11 (.nop 1), oP 1 12 (.lload 1 0 none), oP 2 13 (.len (.t 12)), oP 3 14 (.mov (.c (.int .i64 0)))]
@[go_sem] theorem F798_r1_r : OE F798_r1.eq_1 := OEM F798_r1.eq_1
def F798_r2 : List AOper := [oP 0 16 (.iaddr 5 (.t 12) (.t 14)), oP 1 17 (.load (some 5) (.t 16)), oP 2 5 (.lalloc (.agg [.int .i64 0, .int .i64 0, .int .i64 0, .nils, .nils])), oN 3 (.lstore 5 0 5 (.t 17))]
@[go_sem] theorem F798_r2_r : OE F798_r2.eq_1 := OEM F798_r2.eq_1
def F798_r3 : List AOper := [oP 0 18 (.nop 3), oP 1 19 (.lload 3 0 none), oP 2 20 (.lload 5 0 (some 5)), oP 3 21 (.call 1085 [.t 20]), oP 4 22 (.bslice 5 (.agg [.int .i64 0, .int .i64 0, .int .i64 0, .nils, .nils]) 1 [(0, .t 21)]), oP 5 23 (.app 5 (.t 19) (.t 22)), oP 6 24 (.nop 3), oN 7 (.lstore 3 0 1 (.t 23))]
@[go_sem] theorem F798_r3_r : OE F798_r3.eq_1 := OEM F798_r3.eq_1
def F798_k4 : ACode := .loop (.seq (.reg true [oP 0 15 (.bin .lss (.t 14) (.t 13))]) (.seq (.cond (.t 15) (.skip) (.exit 0)) (.seq (.blk 1 (.seq (.reg true F798_r2) (.reg true F798_r3))) (.reg true [oP 0 25 (.bin .add (.t 14) (.c (.int .i64 1))), oM 1 14 25]))))
@[go_sem] theorem F798_k4_r : CE F798_k4.eq_1 := CEM F798_k4.eq_1
def F798 : AFun := ⟨1, 27, [.l 2 (some 1)], .seq (.reg true [oP 0 1 (.lbox 1 (.t 0)), oP 1 2 (.lalloc (.agg [.nils]))]) (.seq (.reg true F798_r0) (.seq (.seq (.reg true F798_r1) (.blk 0 F798_k4)) (.seq (.reg true [oP 0 26 (.lload 3 0 (some 1)), oN 1 (.lstore 2 0 1 (.t 26))]) (.ret))))⟩
def F797_r0 : List AOper := [oP 0 10 (.iaddr 1 (.t 6) (.t 8)), oP 1 11 (.load (some 1) (.t 10)), oP 2 5 (.lalloc (.agg [.nils])), oN 3 (.lstore 5 0 1 (.t 11))]
@[go_sem] theorem F797_r0_r : OE F797_r0.eq_1 := OEM F797_r0.eq_1
def F797_r1 : List AOper := [oM 0 12 3, oP 1 13 (.lload 5 0 (some 1)), oP 2 14 (.call 798 [.t 13]), oP 3 15 (.bslice 1 (.agg [.nils]) 1 [(0, .t 14)]), oP 4 16 (.app 1 (.t 12) (.t 15)), oM 5 3 16]
@[go_sem] theorem F797_r1_r : OE F797_r1.eq_1 := OEM F797_r1.eq_1
def F797_k2 : ACode := .loop (.seq (.reg true [oP 0 9 (.bin .lss (.t 8) (.t 7))]) (.seq (.cond (.t 9) (.skip) (.exit 0)) (.seq (.blk 1 (.seq (.reg true F797_r0) (.reg true F797_r1))) (.reg true [oP 0 17 (.bin .add (.t 8) (.c (.int .i64 1))), oM 1 8 17]))))
@[go_sem] theorem F797_k2_r : CE F797_k2.eq_1 := CEM F797_k2.eq_1
def F797_k3 : ACode := .seq (.reg true [oP 0 3 (.mov (.c (.nils)))]) (.seq (.seq (.reg true [oM 0 6 0, oP 1 7 (.len (.t 6)), oP 2 8 (.mov (.c (.int .i64 0)))]) (.blk 0 F797_k2)) (.seq (.reg true [oM 0 18 3, oM 1 2 18]) (.ret)))
@[go_sem] theorem F797_k3_r : CE F797_k3.eq_1 := CEM F797_k3.eq_1
def F797 : AFun := ⟨1, 19, [.t 2], .seq (.reg true [oP 0 2 (.mov (.c (.nils)))]) F797_k3⟩
def F799_r0 : List AOper := [oP 0 5 (.mov (.c (.lst 3 [] true))), oM 1 6 0, oP 2 7 (.app 3 (.t 5) (.t 6)), oM 3 2 7]
@[go_sem] theorem F799_r0_r : OE F799_r0.eq_1 := OEM F799_r0.eq_1
def F799 : AFun := ⟨1, 8, [.t 2], .seq (.reg true [oP 0 2 (.mov (.c (.nils)))]) (.seq (.seq (.reg true [oM 0 3 0, oP 1 4 (.isnil 1 false (.t 3))]) (.cond (.t 4) (.seq (.reg true [oP 0 2 (.mov (.c (.nils)))]) (.ret)) (.skip))) (.seq (.reg true F799_r0) (.ret)))⟩
def F800_r0 : List AOper := [oP 0 5 (.mov (.c (.lst 2 [] true))), oM 1 6 0, oP 2 7 (.app 2 (.t 5) (.t 6)), oM 3 2 7]
@[go_sem] theorem F800_r0_r : OE F800_r0.eq_1 := OEM F800_r0.eq_1
def F800 : AFun := ⟨1, 8, [.t 2], .seq (.reg true [oP 0 2 (.mov (.c (.nils)))]) (.seq (.seq (.reg true [oM 0 3 0, oP 1 4 (.isnil 1 false (.t 3))]) (.cond (.t 4) (.seq (.reg true [oP 0 2 (.mov (.c (.nils)))]) (.ret)) (.skip))) (.seq (.reg true F800_r0) (.ret)))⟩
def F429_r0 : List AOper := [oP 0 8 (.nop 1), oP 1 9 (.lload 1 0 none), oP 3 11 (.nop 1), oP 4 12 (.lload 1 1 none), oP 6 14 (.nop 1), oP 7 15 (.lload 1 4 (some 1)), oP 9 17 (.nop 1), oP 10 18 (.lload 1 5 none), oP 12 20 (.nop 1), oP 13 21 (.lload 1 6 none), oP 2 10 (.call 797 [.t 9]), oP 15 23 (.nop 1), oP 5 13 (.call 401 [.t 12]), oP 8 16 (.call 798 [.t 15]), oP 11 19 (.call 799 [.t 18]), oP 14 22 (.call 800 [.t 21]), oN 16 (.lstore 1 0 1 (.t 10)), oP 17 24 (.nop 1), oN 18 (.lstore 1 1 1 (.t 13)), oP 19 25 (.nop 1), oN 20 (.lstore 1 4 1 (.t 16)), oP 21 26 (.nop 1), oN 22 (.lstore 1 5 1 (.t 19)), oP 23 27 (.nop 1), oN 24 (.lstore 1 6 1 (.t 22)), oP 25 28 (.nop 1), oN 26 (.lstore 1 7 1 (.c (.nils)))]
@[go_sem] theorem F429_r0_r : OE F429_r0.eq_1 := OEM F429_r0.eq_1
def F429_r1 : List AOper := [oP 0 33 (.iaddr 3 (.t 29) (.t 31)), oP 1 34 (.load (some 3) (.t 33)), oP 2 5 (.lalloc (.agg [.int .i64 0, .nils, .nils])), oN 3 (.lstore 5 0 3 (.t 34))]
@[go_sem] theorem F429_r1_r : OE F429_r1.eq_1 := OEM F429_r1.eq_1
def F429_r2 : List AOper := [oP 0 35 (.nop 1), oP 1 36 (.lload 1 7 none), oP 2 37 (.nop 5), oP 3 38 (.lload 5 0 none), oP 4 39 (.nop 5), oP 5 40 (.lload 5 1 (some 1)), oP 7 42 (.nop 5), oP 8 43 (.lload 5 2 none), oP 6 41 (.call 798 [.t 40]), oP 9 44 (.call 799 [.t 43]), oP 10 45 (.build (.agg [.int .i64 0, .nils, .nils]) [(0, 1, .t 38), (1, 1, .t 41), (2, 1, .t 44)]), oP 11 46 (.bslice 3 (.agg [.int .i64 0, .nils, .nils]) 1 [(0, .t 45)]), oP 12 47 (.app 3 (.t 36) (.t 46)), oP 13 48 (.nop 1), oN 14 (.lstore 1 7 1 (.t 47))]
@[go_sem] theorem F429_r2_r : OE F429_r2.eq_1 := OEM F429_r2.eq_1
def F429_k3 : ACode := .loop (.seq (.reg true [oP 0 32 (.bin .lss (.t 31) (.t 30))]) (.seq (.cond (.t 32) (.skip) (.exit 0)) (.seq (.blk 1 (.seq (.reg true F429_r1) (.reg true F429_r2))) (.reg true [oP 0 49 (.bin .add (.t 31) (.c (.int .i64 1))), oM 1 31 49]))))
@[go_sem] theorem F429_k3_r : CE F429_k3.eq_1 := CEM F429_k3.eq_1
def F429_k4 : ACode := .seq (.reg true [oP 0 6 (.nop 1), oP 1 7 (.lload 1 7 none), oM 2 3 7]) (.seq (.reg true F429_r0) (.seq (.seq (.reg true [oM 0 29 3, oP 1 30 (.len (.t 29)), oP 2 31 (.mov (.c (.int .i64 0)))]) (.blk 0 F429_k3)) (.seq (.reg true [oP 0 50 (.lload 1 0 (some 8)), oN 1 (.lstore 2 0 8 (.t 50))]) (.ret))))
@[go_sem] theorem F429_k4_r : CE F429_k4.eq_1 := CEM F429_k4.eq_1
def F429 : AFun := ⟨1, 51, [.l 2 (some 8)], .seq (.reg true [oP 0 1 (.lbox 8 (.t 0)), oP 1 2 (.lalloc (.agg [.nils, .nils, .int .i64 0, .int .i64 0, .nils, .nils, .nils, .nils]))]) F429_k4⟩
def F90_r0 : List AOper := [oM 0 6 5, oM 1 7 0, oP 2 8 (.len (.t 7)), oP 3 9 (.bin .lss (.t 6) (.t 8))]
@[go_sem] theorem F90_r0_r : OE F90_r0.eq_1 := OEM F90_r0.eq_1
def F90_r1 : List AOper := [oM 0 12 0, oM 1 13 5, oM 2 14 1, oP 3 15 (.iaddr 1 (.t 12) (.t 13)), oN 4 (.store 1 (.t 15) (.t 14))]
@[go_sem] theorem F90_r1_r : OE F90_r1.eq_1 := OEM F90_r1.eq_1
def F90_k2 : ACode := .seq (.blk 1 (.seq (.reg true F90_r1) (.reg true [oM 0 16 1, oP 1 17 (.bin .add (.t 16) (.c (.int .i64 1))), oM 2 1 17]))) (.reg true [oM 0 10 5, oP 1 11 (.bin .add (.t 10) (.c (.int .i64 1))), oM 2 5 11])
@[go_sem] theorem F90_k2_r : CE F90_k2.eq_1 := CEM F90_k2.eq_1
def F90 : AFun := ⟨2, 19, [.t 4], .seq (.reg true [oP 0 4 (.mov (.c (.int .i64 0)))]) (.seq (.seq (.reg true [oP 0 5 (.mov (.c (.int .i64 0)))]) (.blk 0 (.loop (.seq (.seq (.reg true F90_r0) (.cond (.t 9) (.skip) (.exit 0))) F90_k2)))) (.seq (.reg true [oM 0 18 1, oM 1 4 18]) (.ret)))⟩
def F885_r0 : List AOper := [oM 0 6 5, oM 1 7 0, oP 2 8 (.len (.t 7)), oP 3 9 (.bin .lss (.t 6) (.t 8))]
@[go_sem] theorem F885_r0_r : OE F885_r0.eq_1 := OEM F885_r0.eq_1
def F885_r1 : List AOper := [oM 0 12 0, oM 1 13 5, oM 2 14 1, oP 3 15 (.iaddr 2 (.t 12) (.t 13)), oP 4 16 (.faddr 0 (.t 15)), oN 5 (.store 1 (.t 16) (.t 14))]
@[go_sem] theorem F885_r1_r : OE F885_r1.eq_1 := OEM F885_r1.eq_1
def F885_r2 : List AOper := [oM 0 19 0, oM 1 20 5, oM 2 21 1, oP 3 22 (.iaddr 2 (.t 19) (.t 20)), oP 4 23 (.faddr 1 (.t 22)), oN 5 (.store 1 (.t 23) (.t 21))]
@[go_sem] theorem F885_r2_r : OE F885_r2.eq_1 := OEM F885_r2.eq_1
def F885_k3 : ACode := .seq (.reg true [oM 0 17 1, oP 1 18 (.bin .add (.t 17) (.c (.int .i64 1))), oM 2 1 18]) (.seq (.reg true F885_r2) (.reg true [oM 0 24 1, oP 1 25 (.bin .add (.t 24) (.c (.int .i64 1))), oM 2 1 25]))
@[go_sem] theorem F885_k3_r : CE F885_k3.eq_1 := CEM F885_k3.eq_1
def F885_k4 : ACode := .seq (.reg true [oP 0 5 (.mov (.c (.int .i64 0)))]) (.blk 0 (.loop (.seq (.seq (.reg true F885_r0) (.cond (.t 9) (.skip) (.exit 0))) (.seq (.blk 1 (.seq (.reg true F885_r1) F885_k3)) (.reg true [oM 0 10 5, oP 1 11 (.bin .add (.t 10) (.c (.int .i64 1))), oM 2 5 11])))))
@[go_sem] theorem F885_k4_r : CE F885_k4.eq_1 := CEM F885_k4.eq_1
def F885 : AFun := ⟨2, 27, [.t 4], .seq (.reg true [oP 0 4 (.mov (.c (.int .i64 0)))]) (.seq F885_k4 (.seq (.reg true [oM 0 26 1, oM 1 4 26]) (.ret)))⟩
def F524_r0 : List AOper := [oM 0 6 5, oM 1 7 0, oP 2 8 (.len (.t 7)), oP 3 9 (.bin .lss (.t 6) (.t 8))]
@[go_sem] theorem F524_r0_r : OE F524_r0.eq_1 := OEM F524_r0.eq_1
def F524_r1 : List AOper := [oM 0 12 0, oM 1 13 5, oM 2 14 1, oP 3 15 (.iaddr 5 (.t 12) (.t 13)), oP 4 16 (.faddr 0 (.t 15)), oN 5 (.store 1 (.t 16) (.t 14))]
@[go_sem] theorem F524_r1_r : OE F524_r1.eq_1 := OEM F524_r1.eq_1
def F524_r2 : List AOper := [oM 0 19 0, oM 1 20 5, oM 2 21 1, oP 3 22 (.iaddr 5 (.t 19) (.t 20)), oP 4 23 (.faddr 1 (.t 22)), oN 5 (.store 1 (.t 23) (.t 21))]
@[go_sem] theorem F524_r2_r : OE F524_r2.eq_1 := OEM F524_r2.eq_1
def F524_r3 : List AOper := [oM 0 26 0, oM 1 27 5, oM 2 28 1, oP 3 29 (.iaddr 5 (.t 26) (.t 27)), oP 4 30 (.faddr 2 (.t 29)), oN 5 (.store 1 (.t 30) (.t 28))]
@[go_sem] theorem F524_r3_r : OE F524_r3.eq_1 := OEM F524_r3.eq_1
def F524_r4 : List AOper := [oM 0 33 0, oM 1 34 5, oP 2 35 (.iaddr 5 (.t 33) (.t 34)), oP 3 36 (.faddr 3 (.t 35)), oP 4 37 (.load none (.t 36)), oM 5 38 1, oP 6 39 (.call 90 [.t 37, .t 38]), oM 7 1 39]
@[go_sem] theorem F524_r4_r : OE F524_r4.eq_1 := OEM F524_r4.eq_1
def F524_r5 : List AOper := [oM 0 40 0, oM 1 41 5, oP 2 42 (.iaddr 5 (.t 40) (.t 41)), oP 3 43 (.faddr 4 (.t 42)), oP 4 44 (.load none (.t 43)), oM 5 45 1, oP 6 46 (.call 885 [.t 44, .t 45]), oM 7 1 46]
@[go_sem] theorem F524_r5_r : OE F524_r5.eq_1 := OEM F524_r5.eq_1
def F524_k6 : ACode := .seq (.reg true [oM 0 24 1, oP 1 25 (.bin .add (.t 24) (.c (.int .i64 1))), oM 2 1 25]) (.seq (.reg true F524_r3) (.seq (.reg true [oM 0 31 1, oP 1 32 (.bin .add (.t 31) (.c (.int .i64 1))), oM 2 1 32]) (.seq (.reg true F524_r4) (.reg true F524_r5))))
@[go_sem] theorem F524_k6_r : CE F524_k6.eq_1 := CEM F524_k6.eq_1
def F524_k7 : ACode := .seq (.blk 1 (.seq (.reg true F524_r1) (.seq (.reg true [oM 0 17 1, oP 1 18 (.bin .add (.t 17) (.c (.int .i64 1))), oM 2 1 18]) (.seq (.reg true F524_r2) F524_k6)))) (.reg true [oM 0 10 5, oP 1 11 (.bin .add (.t 10) (.c (.int .i64 1))), oM 2 5 11])
@[go_sem] theorem F524_k7_r : CE F524_k7.eq_1 := CEM F524_k7.eq_1
def F524 : AFun := ⟨2, 48, [.t 4], .seq (.reg true [oP 0 4 (.mov (.c (.int .i64 0)))]) (.seq (.seq (.reg true [oP 0 5 (.mov (.c (.int .i64 0)))]) (.blk 0 (.loop (.seq (.seq (.reg true F524_r0) (.cond (.t 9) (.skip) (.exit 0))) F524_k7)))) (.seq (.reg true [oM 0 47 1, oM 1 4 47]) (.ret)))⟩
def F198_r0 : List AOper := [oP 0 5 (.nop 2), oP 1 6 (.lload 2 0 none), oM 2 7 1, oP 3 8 (.call 524 [.t 6, .t 7]), oM 4 1 8]
@[go_sem] theorem F198_r0_r : OE F198_r0.eq_1 := OEM F198_r0.eq_1
def F198 : AFun := ⟨2, 10, [.t 4], .seq (.reg true [oP 0 2 (.lbox 1 (.t 0)), oP 1 4 (.mov (.c (.int .i64 0)))]) (.seq (.reg true F198_r0) (.seq (.reg true [oM 0 9 1, oM 1 4 9]) (.ret)))⟩
def F225_r0 : List AOper := [oM 0 6 5, oM 1 7 0, oP 2 8 (.len (.t 7)), oP 3 9 (.bin .lss (.t 6) (.t 8))]
@[go_sem] theorem F225_r0_r : OE F225_r0.eq_1 := OEM F225_r0.eq_1
def F225_r1 : List AOper := [oM 0 12 0, oM 1 13 5, oP 2 14 (.iaddr 1 (.t 12) (.t 13)), oP 3 15 (.faddr 0 (.t 14)), oP 4 16 (.load none (.t 15)), oM 5 17 1, oP 6 18 (.call 524 [.t 16, .t 17]), oM 7 1 18]
@[go_sem] theorem F225_r1_r : OE F225_r1.eq_1 := OEM F225_r1.eq_1
def F225_k2 : ACode := .seq (.reg true [oP 0 5 (.mov (.c (.int .i64 0)))]) (.blk 0 (.loop (.seq (.seq (.reg true F225_r0) (.cond (.t 9) (.skip) (.exit 0))) (.seq (.blk 1 (.reg true F225_r1)) (.reg true [oM 0 10 5, oP 1 11 (.bin .add (.t 10) (.c (.int .i64 1))), oM 2 5 11])))))
@[go_sem] theorem F225_k2_r : CE F225_k2.eq_1 := CEM F225_k2.eq_1
def F225 : AFun := ⟨2, 20, [.t 4], .seq (.reg true [oP 0 4 (.mov (.c (.int .i64 0)))]) (.seq F225_k2 (.seq (.reg true [oM 0 19 1, oM 1 4 19]) (.ret)))⟩
def F430_r0 : List AOper := [oM 0 6 5, oM 1 7 0, oP 2 8 (.len (.t 7)), oP 3 9 (.bin .lss (.t 6) (.t 8))]
@[go_sem] theorem F430_r0_r : OE F430_r0.eq_1 := OEM F430_r0.eq_1
def F430_r1 : List AOper := [oM 0 12 0, oM 1 13 5, oM 2 14 1, oP 3 15 (.iaddr 3 (.t 12) (.t 13)), oP 4 16 (.faddr 0 (.t 15)), oN 5 (.store 1 (.t 16) (.t 14))]
@[go_sem] theorem F430_r1_r : OE F430_r1.eq_1 := OEM F430_r1.eq_1
def F430_r2 : List AOper := [oM 0 19 0, oM 1 20 5, oM 2 21 1, oP 3 22 (.iaddr 3 (.t 19) (.t 20)), oP 4 23 (.faddr 1 (.t 22)), oN 5 (.store 1 (.t 23) (.t 21))]
@[go_sem] theorem F430_r2_r : OE F430_r2.eq_1 := OEM F430_r2.eq_1
def F430_r3 : List AOper := [oM 0 26 0, oM 1 27 5, oM 2 28 1, oP 3 29 (.iaddr 3 (.t 26) (.t 27)), oP 4 30 (.faddr 2 (.t 29)), oN 5 (.store 1 (.t 30) (.t 28))]
@[go_sem] theorem F430_r3_r : OE F430_r3.eq_1 := OEM F430_r3.eq_1
def F430_k4 : ACode := .seq (.reg true [oM 0 24 1, oP 1 25 (.bin .add (.t 24) (.c (.int .i64 1))), oM 2 1 25]) (.seq (.reg true F430_r3) (.reg true [oM 0 31 1, oP 1 32 (.bin .add (.t 31) (.c (.int .i64 1))), oM 2 1 32]))
@[go_sem] theorem F430_k4_r : CE F430_k4.eq_1 := CEM F430_k4.eq_1
def F430_k5 : ACode := .seq (.blk 1 (.seq (.reg true F430_r1) (.seq (.reg true [oM 0 17 1, oP 1 18 (.bin .add (.t 17) (.c (.int .i64 1))), oM 2 1 18]) (.seq (.reg true F430_r2) F430_k4)))) (.reg true [oM 0 10 5, oP 1 11 (.bin .add (.t 10) (.c (.int .i64 1))), oM 2 5 11])
@[go_sem] theorem F430_k5_r : CE F430_k5.eq_1 := CEM F430_k5.eq_1
def F430 : AFun := ⟨2, 34, [.t 4], .seq (.reg true [oP 0 4 (.mov (.c (.int .i64 0)))]) (.seq (.seq (.reg true [oP 0 5 (.mov (.c (.int .i64 0)))]) (.blk 0 (.loop (.seq (.seq (.reg true F430_r0) (.cond (.t 9) (.skip) (.exit 0))) F430_k5)))) (.seq (.reg true [oM 0 33 1, oM 1 4 33]) (.ret)))⟩
def F431_r0 : List AOper := [oM 0 6 5, oM 1 7 0, oP 2 8 (.len (.t 7)), oP 3 9 (.bin .lss (.t 6) (.t 8))]
@[go_sem] theorem F431_r0_r : OE F431_r0.eq_1 := OEM F431_r0.eq_1
def F431_r1 : List AOper := [oM 0 12 0, oM 1 13 5, oM 2 14 1, oP 3 15 (.iaddr 2 (.t 12) (.t 13)), oP 4 16 (.faddr 0 (.t 15)), oN 5 (.store 1 (.t 16) (.t 14))]
@[go_sem] theorem F431_r1_r : OE F431_r1.eq_1 := OEM F431_r1.eq_1
def F431_r2 : List AOper := [oM 0 19 0, oM 1 20 5, oM 2 21 1, oP 3 22 (.iaddr 2 (.t 19) (.t 20)), oP 4 23 (.faddr 1 (.t 22)), oN 5 (.store 1 (.t 23) (.t 21))]
@[go_sem] theorem F431_r2_r : OE F431_r2.eq_1 := OEM F431_r2.eq_1
def F431_k3 : ACode := .seq (.reg true [oM 0 17 1, oP 1 18 (.bin .add (.t 17) (.c (.int .i64 1))), oM 2 1 18]) (.seq (.reg true F431_r2) (.reg true [oM 0 24 1, oP 1 25 (.bin .add (.t 24) (.c (.int .i64 1))), oM 2 1 25]))
@[go_sem] theorem F431_k3_r : CE F431_k3.eq_1 := CEM F431_k3.eq_1
def F431_k4 : ACode := .seq (.reg true [oP 0 5 (.mov (.c (.int .i64 0)))]) (.blk 0 (.loop (.seq (.seq (.reg true F431_r0) (.cond (.t 9) (.skip) (.exit 0))) (.seq (.blk 1 (.seq (.reg true F431_r1) F431_k3)) (.reg true [oM 0 10 5, oP 1 11 (.bin .add (.t 10) (.c (.int .i64 1))), oM 2 5 11])))))
@[go_sem] theorem F431_k4_r : CE F431_k4.eq_1 := CEM F431_k4.eq_1
def F431 : AFun := ⟨2, 27, [.t 4], .seq (.reg true [oP 0 4 (.mov (.c (.int .i64 0)))]) (.seq F431_k4 (.seq (.reg true [oM 0 26 1, oM 1 4 26]) (.ret)))⟩
def F432_r0 : List AOper := [oM 0 6 5, oM 1 7 0, oP 2 8 (.len (.t 7)), oP 3 9 (.bin .lss (.t 6) (.t 8))]
@[go_sem] theorem F432_r0_r : OE F432_r0.eq_1 := OEM F432_r0.eq_1
def F432_r1 : List AOper := [oM 0 12 0, oM 1 13 5, oM 2 14 1, oP 3 15 (.iaddr 3 (.t 12) (.t 13)), oP 4 16 (.faddr 0 (.t 15)), oN 5 (.store 1 (.t 16) (.t 14))]
@[go_sem] theorem F432_r1_r : OE F432_r1.eq_1 := OEM F432_r1.eq_1
def F432_r2 : List AOper := [oM 0 19 0, oM 1 20 5, oP 2 21 (.iaddr 3 (.t 19) (.t 20)), oP 3 22 (.faddr 1 (.t 21)), oP 4 23 (.faddr 0 (.t 22)), oP 5 24 (.load none (.t 23)), oM 6 25 1, oP 7 26 (.call 524 [.t 24, .t 25]), oM 8 1 26]
@[go_sem] theorem F432_r2_r : OE F432_r2.eq_1 := OEM F432_r2.eq_1
def F432_r3 : List AOper := [oM 0 27 0, oM 1 28 5, oP 2 29 (.iaddr 3 (.t 27) (.t 28)), oP 3 30 (.faddr 2 (.t 29)), oP 4 31 (.load none (.t 30)), oM 5 32 1, oP 6 33 (.call 430 [.t 31, .t 32]), oM 7 1 33]
@[go_sem] theorem F432_r3_r : OE F432_r3.eq_1 := OEM F432_r3.eq_1
def F432_k4 : ACode := .seq (.blk 1 (.seq (.reg true F432_r1) (.seq (.reg true [oM 0 17 1, oP 1 18 (.bin .add (.t 17) (.c (.int .i64 1))), oM 2 1 18]) (.seq (.reg true F432_r2) (.reg true F432_r3))))) (.reg true [oM 0 10 5, oP 1 11 (.bin .add (.t 10) (.c (.int .i64 1))), oM 2 5 11])
@[go_sem] theorem F432_k4_r : CE F432_k4.eq_1 := CEM F432_k4.eq_1
def F432 : AFun := ⟨2, 35, [.t 4], .seq (.reg true [oP 0 4 (.mov (.c (.int .i64 0)))]) (.seq (.seq (.reg true [oP 0 5 (.mov (.c (.int .i64 0)))]) (.blk 0 (.loop (.seq (.seq (.reg true F432_r0) (.cond (.t 9) (.skip) (.exit 0))) F432_k4)))) (.seq (.reg true [oM 0 34 1, oM 1 4 34]) (.ret)))⟩
def F136_r0 : List AOper := [oP 0 5 (.nop 2), oP 1 6 (.lload 2 0 none), oM 2 7 1, oP 3 8 (.call 225 [.t 6, .t 7]), oM 4 1 8]
@[go_sem] theorem F136_r0_r : OE F136_r0.eq_1 := OEM F136_r0.eq_1
def F136_r1 : List AOper := [oP 0 9 (.nop 2), oP 1 10 (.lload 2 1 none), oM 2 11 1, oP 3 12 (.call 90 [.t 10, .t 11]), oM 4 1 12]
@[go_sem] theorem F136_r1_r : OE F136_r1.eq_1 := OEM F136_r1.eq_1
def F136_r2 : List AOper := [oP 0 13 (.nop 2), oP 1 14 (.lload 2 4 (some 1)), oM 2 15 1, oP 3 16 (.call 198 [.t 14, .t 15]), oM 4 1 16]
@[go_sem] theorem F136_r2_r : OE F136_r2.eq_1 := OEM F136_r2.eq_1
def F136_r3 : List AOper := [oP 0 17 (.nop 2), oP 1 18 (.lload 2 5 none), oM 2 19 1, oP 3 20 (.call 430 [.t 18, .t 19]), oM 4 1 20]
@[go_sem] theorem F136_r3_r : OE F136_r3.eq_1 := OEM F136_r3.eq_1
def F136_r4 : List AOper := [oP 0 21 (.nop 2), oP 1 22 (.lload 2 6 none), oM 2 23 1, oP 3 24 (.call 431 [.t 22, .t 23]), oM 4 1 24]
@[go_sem] theorem F136_r4_r : OE F136_r4.eq_1 := OEM F136_r4.eq_1
def F136_r5 : List AOper := [oP 0 25 (.nop 2), oP 1 26 (.lload 2 7 none), oM 2 27 1, oP 3 28 (.call 432 [.t 26, .t 27]), oM 4 1 28]
@[go_sem] theorem F136_r5_r : OE F136_r5.eq_1 := OEM F136_r5.eq_1
def F136_k6 : ACode := .seq (.reg true F136_r0) (.seq (.reg true F136_r1) (.seq (.reg true F136_r2) (.seq (.reg true F136_r3) (.seq (.reg true F136_r4) (.seq (.reg true F136_r5) (.seq (.reg true [oM 0 29 1, oM 1 4 29]) (.ret)))))))
@[go_sem] theorem F136_k6_r : CE F136_k6.eq_1 := CEM F136_k6.eq_1
def F136 : AFun := ⟨2, 30, [.t 4], .seq (.reg true [oP 0 2 (.lbox 8 (.t 0)), oP 1 4 (.mov (.c (.int .i64 0)))]) F136_k6⟩
def F92_r0 : List AOper := [oM 0 6 5, oM 1 7 0, oP 2 8 (.len (.t 7)), oP 3 9 (.bin .lss (.t 6) (.t 8))]
@[go_sem] theorem F92_r0_r : OE F92_r0.eq_1 := OEM F92_r0.eq_1
def F92_r1 : List AOper := [oM 0 12 0, oM 1 13 5, oP 2 14 (.iaddr 1 (.t 12) (.t 13)), oP 3 15 (.load none (.t 14)), oM 4 16 1, oP 5 17 (.bin .neq (.t 15) (.t 16))]
@[go_sem] theorem F92_r1_r : OE F92_r1.eq_1 := OEM F92_r1.eq_1
def F92_k2 : ACode := .seq (.blk 1 (.seq (.seq (.reg true F92_r1) (.cond (.t 17) (.seq (.reg true [oP 0 4 (.mov (.c (.int .i64 (-1))))]) (.ret)) (.skip))) (.reg true [oM 0 18 1, oP 1 19 (.bin .add (.t 18) (.c (.int .i64 1))), oM 2 1 19]))) (.reg true [oM 0 10 5, oP 1 11 (.bin .add (.t 10) (.c (.int .i64 1))), oM 2 5 11])
@[go_sem] theorem F92_k2_r : CE F92_k2.eq_1 := CEM F92_k2.eq_1
def F92 : AFun := ⟨2, 21, [.t 4], .seq (.reg true [oP 0 4 (.mov (.c (.int .i64 0)))]) (.seq (.seq (.reg true [oP 0 5 (.mov (.c (.int .i64 0)))]) (.blk 0 (.loop (.seq (.seq (.reg true F92_r0) (.cond (.t 9) (.skip) (.exit 0))) F92_k2)))) (.seq (.reg true [oM 0 20 1, oM 1 4 20]) (.ret)))⟩
def F886_r0 : List AOper := [oM 0 6 5, oM 1 7 0, oP 2 8 (.len (.t 7)), oP 3 9 (.bin .lss (.t 6) (.t 8))]
@[go_sem] theorem F886_r0_r : OE F886_r0.eq_1 := OEM F886_r0.eq_1
def F886_r1 : List AOper := [oM 0 12 0, oM 1 13 5, oP 2 14 (.iaddr 2 (.t 12) (.t 13)), oP 3 15 (.faddr 0 (.t 14)), oP 4 16 (.load none (.t 15)), oM 5 17 1, oP 6 18 (.bin .neq (.t 16) (.t 17))]
@[go_sem] theorem F886_r1_r : OE F886_r1.eq_1 := OEM F886_r1.eq_1
def F886_r2 : List AOper := [oM 0 21 0, oM 1 22 5, oP 2 23 (.iaddr 2 (.t 21) (.t 22)), oP 3 24 (.faddr 1 (.t 23)), oP 4 25 (.load none (.t 24)), oM 5 26 1, oP 6 27 (.bin .neq (.t 25) (.t 26))]
@[go_sem] theorem F886_r2_r : OE F886_r2.eq_1 := OEM F886_r2.eq_1
def F886_k3 : ACode := .seq (.reg true [oM 0 19 1, oP 1 20 (.bin .add (.t 19) (.c (.int .i64 1))), oM 2 1 20]) (.seq (.seq (.reg true F886_r2) (.cond (.t 27) (.seq (.reg true [oP 0 4 (.mov (.c (.int .i64 (-1))))]) (.ret)) (.skip))) (.reg true [oM 0 28 1, oP 1 29 (.bin .add (.t 28) (.c (.int .i64 1))), oM 2 1 29]))
@[go_sem] theorem F886_k3_r : CE F886_k3.eq_1 := CEM F886_k3.eq_1
def F886_k4 : ACode := .loop (.seq (.seq (.reg true F886_r0) (.cond (.t 9) (.skip) (.exit 0))) (.seq (.blk 1 (.seq (.seq (.reg true F886_r1) (.cond (.t 18) (.seq (.reg true [oP 0 4 (.mov (.c (.int .i64 (-1))))]) (.ret)) (.skip))) F886_k3)) (.reg true [oM 0 10 5, oP 1 11 (.bin .add (.t 10) (.c (.int .i64 1))), oM 2 5 11])))
@[go_sem] theorem F886_k4_r : CE F886_k4.eq_1 := CEM F886_k4.eq_1
def F886 : AFun := ⟨2, 31, [.t 4], .seq (.reg true [oP 0 4 (.mov (.c (.int .i64 0)))]) (.seq (.seq (.reg true [oP 0 5 (.mov (.c (.int .i64 0)))]) (.blk 0 F886_k4)) (.seq (.reg true [oM 0 30 1, oM 1 4 30]) (.ret)))⟩
def F525_r0 : List AOper := [oM 0 6 5, oM 1 7 0, oP 2 8 (.len (.t 7)), oP 3 9 (.bin .lss (.t 6) (.t 8))]
@[go_sem] theorem F525_r0_r : OE F525_r0.eq_1 := OEM F525_r0.eq_1
def F525_r1 : List AOper := [oM 0 12 0, oM 1 13 5, oP 2 14 (.iaddr 5 (.t 12) (.t 13)), oP 3 15 (.faddr 0 (.t 14)), oP 4 16 (.load none (.t 15)), oM 5 17 1, oP 6 18 (.bin .neq (.t 16) (.t 17))]
@[go_sem] theorem F525_r1_r : OE F525_r1.eq_1 := OEM F525_r1.eq_1
def F525_r2 : List AOper := [oM 0 21 0, oM 1 22 5, oP 2 23 (.iaddr 5 (.t 21) (.t 22)), oP 3 24 (.faddr 1 (.t 23)), oP 4 25 (.load none (.t 24)), oM 5 26 1, oP 6 27 (.bin .neq (.t 25) (.t 26))]
@[go_sem] theorem F525_r2_r : OE F525_r2.eq_1 := OEM F525_r2.eq_1
def F525_r3 : List AOper := [oM 0 30 0, oM 1 31 5, oP 2 32 (.iaddr 5 (.t 30) (.t 31)), oP 3 33 (.faddr 2 (.t 32)), oP 4 34 (.load none (.t 33)), oM 5 35 1, oP 6 36 (.bin .neq (.t 34) (.t 35))]
@[go_sem] theorem F525_r3_r : OE F525_r3.eq_1 := OEM F525_r3.eq_1
def F525_r4 : List AOper := [oM 0 39 0, oM 1 40 5, oP 2 41 (.iaddr 5 (.t 39) (.t 40)), oP 3 42 (.faddr 3 (.t 41)), oP 4 43 (.load none (.t 42)), oM 5 44 1, oP 6 45 (.call 92 [.t 43, .t 44]), oM 7 1 45]
@[go_sem] theorem F525_r4_r : OE F525_r4.eq_1 := OEM F525_r4.eq_1
def F525_r5 : List AOper := [oM 0 48 0, oM 1 49 5, oP 2 50 (.iaddr 5 (.t 48) (.t 49)), oP 3 51 (.faddr 4 (.t 50)), oP 4 52 (.load none (.t 51)), oM 5 53 1, oP 6 54 (.call 886 [.t 52, .t 53]), oM 7 1 54]
@[go_sem] theorem F525_r5_r : OE F525_r5.eq_1 := OEM F525_r5.eq_1
def F525_k6 : ACode := .seq (.seq (.reg true [oM 0 46 1, oP 1 47 (.bin .lss (.t 46) (.c (.int .i64 0)))]) (.cond (.t 47) (.seq (.reg true [oP 0 4 (.mov (.c (.int .i64 (-1))))]) (.ret)) (.skip))) (.seq (.reg true F525_r5) (.seq (.reg true [oM 0 55 1, oP 1 56 (.bin .lss (.t 55) (.c (.int .i64 0)))]) (.cond (.t 56) (.seq (.reg true [oP 0 4 (.mov (.c (.int .i64 (-1))))]) (.ret)) (.skip))))
@[go_sem] theorem F525_k6_r : CE F525_k6.eq_1 := CEM F525_k6.eq_1
def F525_k7 : ACode := .seq (.reg true [oM 0 28 1, oP 1 29 (.bin .add (.t 28) (.c (.int .i64 1))), oM 2 1 29]) (.seq (.seq (.reg true F525_r3) (.cond (.t 36) (.seq (.reg true [oP 0 4 (.mov (.c (.int .i64 (-1))))]) (.ret)) (.skip))) (.seq (.reg true [oM 0 37 1, oP 1 38 (.bin .add (.t 37) (.c (.int .i64 1))), oM 2 1 38]) (.seq (.reg true F525_r4) F525_k6)))
@[go_sem] theorem F525_k7_r : CE F525_k7.eq_1 := CEM F525_k7.eq_1
def F525_k8 : ACode := .seq (.seq (.reg true F525_r1) (.cond (.t 18) (.seq (.reg true [oP 0 4 (.mov (.c (.int .i64 (-1))))]) (.ret)) (.skip))) (.seq (.reg true [oM 0 19 1, oP 1 20 (.bin .add (.t 19) (.c (.int .i64 1))), oM 2 1 20]) (.seq (.seq (.reg true F525_r2) (.cond (.t 27) (.seq (.reg true [oP 0 4 (.mov (.c (.int .i64 (-1))))]) (.ret)) (.skip))) F525_k7))
@[go_sem] theorem F525_k8_r : CE F525_k8.eq_1 := CEM F525_k8.eq_1
def F525_k9 : ACode := .seq (.reg true [oP 0 5 (.mov (.c (.int .i64 0)))]) (.blk 0 (.loop (.seq (.seq (.reg true F525_r0) (.cond (.t 9) (.skip) (.exit 0))) (.seq (.blk 1 F525_k8) (.reg true [oM 0 10 5, oP 1 11 (.bin .add (.t 10) (.c (.int .i64 1))), oM 2 5 11])))))
@[go_sem] theorem F525_k9_r : CE F525_k9.eq_1 := CEM F525_k9.eq_1
def F525 : AFun := ⟨2, 58, [.t 4], .seq (.reg true [oP 0 4 (.mov (.c (.int .i64 0)))]) (.seq F525_k9 (.seq (.reg true [oM 0 57 1, oM 1 4 57]) (.ret)))⟩
def F199_r0 : List AOper := [oP 0 5 (.nop 2), oP 1 6 (.lload 2 0 none), oM 2 7 1, oP 3 8 (.call 525 [.t 6, .t 7]), oM 4 1 8]
@[go_sem] theorem F199_r0_r : OE F199_r0.eq_1 := OEM F199_r0.eq_1
def F199_k1 : ACode := .seq (.reg true F199_r0) (.seq (.seq (.reg true [oM 0 9 1, oP 1 10 (.bin .lss (.t 9) (.c (.int .i64 0)))]) (.cond (.t 10) (.seq (.reg true [oP 0 4 (.mov (.c (.int .i64 (-1))))]) (.ret)) (.skip))) (.seq (.reg true [oM 0 11 1, oM 1 4 11]) (.ret)))
@[go_sem] theorem F199_k1_r : CE F199_k1.eq_1 := CEM F199_k1.eq_1
def F199 : AFun := ⟨2, 12, [.t 4], .seq (.reg true [oP 0 2 (.lbox 1 (.t 0)), oP 1 4 (.mov (.c (.int .i64 0)))]) F199_k1⟩
def F230_r0 : List AOper := [oM 0 6 5, oM 1 7 0, oP 2 8 (.len (.t 7)), oP 3 9 (.bin .lss (.t 6) (.t 8))]
@[go_sem] theorem F230_r0_r : OE F230_r0.eq_1 := OEM F230_r0.eq_1
def F230_r1 : List AOper := [oM 0 12 0, oM 1 13 5, oP 2 14 (.iaddr 1 (.t 12) (.t 13)), oP 3 15 (.faddr 0 (.t 14)), oP 4 16 (.load none (.t 15)), oM 5 17 1, oP 6 18 (.call 525 [.t 16, .t 17]), oM 7 1 18]
@[go_sem] theorem F230_r1_r : OE F230_r1.eq_1 := OEM F230_r1.eq_1
def F230_k2 : ACode := .seq (.blk 1 (.seq (.reg true F230_r1) (.seq (.reg true [oM 0 19 1, oP 1 20 (.bin .lss (.t 19) (.c (.int .i64 0)))]) (.cond (.t 20) (.seq (.reg true [oP 0 4 (.mov (.c (.int .i64 (-1))))]) (.ret)) (.skip))))) (.reg true [oM 0 10 5, oP 1 11 (.bin .add (.t 10) (.c (.int .i64 1))), oM 2 5 11])
@[go_sem] theorem F230_k2_r : CE F230_k2.eq_1 := CEM F230_k2.eq_1
def F230 : AFun := ⟨2, 22, [.t 4], .seq (.reg true [oP 0 4 (.mov (.c (.int .i64 0)))]) (.seq (.seq (.reg true [oP 0 5 (.mov (.c (.int .i64 0)))]) (.blk 0 (.loop (.seq (.seq (.reg true F230_r0) (.cond (.t 9) (.skip) (.exit 0))) F230_k2)))) (.seq (.reg true [oM 0 21 1, oM 1 4 21]) (.ret)))⟩
def F433_r0 : List AOper := [oM 0 6 5, oM 1 7 0, oP 2 8 (.len (.t 7)), oP 3 9 (.bin .lss (.t 6) (.t 8))]
@[go_sem] theorem F433_r0_r : OE F433_r0.eq_1 := OEM F433_r0.eq_1
def F433_r1 : List AOper := [oM 0 12 0, oM 1 13 5, oP 2 14 (.iaddr 3 (.t 12) (.t 13)), oP 3 15 (.faddr 0 (.t 14)), oP 4 16 (.load none (.t 15)), oM 5 17 1, oP 6 18 (.bin .neq (.t 16) (.t 17))]
@[go_sem] theorem F433_r1_r : OE F433_r1.eq_1 := OEM F433_r1.eq_1
def F433_r2 : List AOper := [oM 0 21 0, oM 1 22 5, oP 2 23 (.iaddr 3 (.t 21) (.t 22)), oP 3 24 (.faddr 1 (.t 23)), oP 4 25 (.load none (.t 24)), oM 5 26 1, oP 6 27 (.bin .neq (.t 25) (.t 26))]
@[go_sem] theorem F433_r2_r : OE F433_r2.eq_1 := OEM F433_r2.eq_1
def F433_r3 : List AOper := [oM 0 30 0, oM 1 31 5, oP 2 32 (.iaddr 3 (.t 30) (.t 31)), oP 3 33 (.faddr 2 (.t 32)), oP 4 34 (.load none (.t 33)), oM 5 35 1, oP 6 36 (.bin .neq (.t 34) (.t 35))]
@[go_sem] theorem F433_r3_r : OE F433_r3.eq_1 := OEM F433_r3.eq_1
def F433_k4 : ACode := .seq (.reg true [oM 0 28 1, oP 1 29 (.bin .add (.t 28) (.c (.int .i64 1))), oM 2 1 29]) (.seq (.seq (.reg true F433_r3) (.cond (.t 36) (.seq (.reg true [oP 0 4 (.mov (.c (.int .i64 (-1))))]) (.ret)) (.skip))) (.reg true [oM 0 37 1, oP 1 38 (.bin .add (.t 37) (.c (.int .i64 1))), oM 2 1 38]))
@[go_sem] theorem F433_k4_r : CE F433_k4.eq_1 := CEM F433_k4.eq_1
def F433_k5 : ACode := .seq (.seq (.reg true F433_r1) (.cond (.t 18) (.seq (.reg true [oP 0 4 (.mov (.c (.int .i64 (-1))))]) (.ret)) (.skip))) (.seq (.reg true [oM 0 19 1, oP 1 20 (.bin .add (.t 19) (.c (.int .i64 1))), oM 2 1 20]) (.seq (.seq (.reg true F433_r2) (.cond (.t 27) (.seq (.reg true [oP 0 4 (.mov (.c (.int .i64 (-1))))]) (.ret)) (.skip))) F433_k4))
@[go_sem] theorem F433_k5_r : CE F433_k5.eq_1 := CEM F433_k5.eq_1
def F433_k6 : ACode := .seq (.reg true [oP 0 5 (.mov (.c (.int .i64 0)))]) (.blk 0 (.loop (.seq (.seq (.reg true F433_r0) (.cond (.t 9) (.skip) (.exit 0))) (.seq (.blk 1 F433_k5) (.reg true [oM 0 10 5, oP 1 11 (.bin .add (.t 10) (.c (.int .i64 1))), oM 2 5 11])))))
@[go_sem] theorem F433_k6_r : CE F433_k6.eq_1 := CEM F433_k6.eq_1
def F433 : AFun := ⟨2, 40, [.t 4], .seq (.reg true [oP 0 4 (.mov (.c (.int .i64 0)))]) (.seq F433_k6 (.seq (.reg true [oM 0 39 1, oM 1 4 39]) (.ret)))⟩
def F434_r0 : List AOper := [oM 0 6 5, oM 1 7 0, oP 2 8 (.len (.t 7)), oP 3 9 (.bin .lss (.t 6) (.t 8))]
@[go_sem] theorem F434_r0_r : OE F434_r0.eq_1 := OEM F434_r0.eq_1
def F434_r1 : List AOper := [oM 0 12 0, oM 1 13 5, oP 2 14 (.iaddr 2 (.t 12) (.t 13)), oP 3 15 (.faddr 0 (.t 14)), oP 4 16 (.load none (.t 15)), oM 5 17 1, oP 6 18 (.bin .neq (.t 16) (.t 17))]
@[go_sem] theorem F434_r1_r : OE F434_r1.eq_1 := OEM F434_r1.eq_1
def F434_r2 : List AOper := [oM 0 21 0, oM 1 22 5, oP 2 23 (.iaddr 2 (.t 21) (.t 22)), oP 3 24 (.faddr 1 (.t 23)), oP 4 25 (.load none (.t 24)), oM 5 26 1, oP 6 27 (.bin .neq (.t 25) (.t 26))]
@[go_sem] theorem F434_r2_r : OE F434_r2.eq_1 := OEM F434_r2.eq_1
def F434_k3 : ACode := .seq (.reg true [oM 0 19 1, oP 1 20 (.bin .add (.t 19) (.c (.int .i64 1))), oM 2 1 20]) (.seq (.seq (.reg true F434_r2) (.cond (.t 27) (.seq (.reg true [oP 0 4 (.mov (.c (.int .i64 (-1))))]) (.ret)) (.skip))) (.reg true [oM 0 28 1, oP 1 29 (.bin .add (.t 28) (.c (.int .i64 1))), oM 2 1 29]))
@[go_sem] theorem F434_k3_r : CE F434_k3.eq_1 := CEM F434_k3.eq_1
def F434_k4 : ACode := .loop (.seq (.seq (.reg true F434_r0) (.cond (.t 9) (.skip) (.exit 0))) (.seq (.blk 1 (.seq (.seq (.reg true F434_r1) (.cond (.t 18) (.seq (.reg true [oP 0 4 (.mov (.c (.int .i64 (-1))))]) (.ret)) (.skip))) F434_k3)) (.reg true [oM 0 10 5, oP 1 11 (.bin .add (.t 10) (.c (.int .i64 1))), oM 2 5 11])))
@[go_sem] theorem F434_k4_r : CE F434_k4.eq_1 := CEM F434_k4.eq_1
def F434 : AFun := ⟨2, 31, [.t 4], .seq (.reg true [oP 0 4 (.mov (.c (.int .i64 0)))]) (.seq (.seq (.reg true [oP 0 5 (.mov (.c (.int .i64 0)))]) (.blk 0 F434_k4)) (.seq (.reg true [oM 0 30 1, oM 1 4 30]) (.ret)))⟩
def F435_r0 : List AOper := [oM 0 6 5, oM 1 7 0, oP 2 8 (.len (.t 7)), oP 3 9 (.bin .lss (.t 6) (.t 8))]
@[go_sem] theorem F435_r0_r : OE F435_r0.eq_1 := OEM F435_r0.eq_1
def F435_r1 : List AOper := [oM 0 12 0, oM 1 13 5, oP 2 14 (.iaddr 3 (.t 12) (.t 13)), oP 3 15 (.faddr 0 (.t 14)), oP 4 16 (.load none (.t 15)), oM 5 17 1, oP 6 18 (.bin .neq (.t 16) (.t 17))]
@[go_sem] theorem F435_r1_r : OE F435_r1.eq_1 := OEM F435_r1.eq_1
def F435_r2 : List AOper := [oM 0 21 0, oM 1 22 5, oP 2 23 (.iaddr 3 (.t 21) (.t 22)), oP 3 24 (.faddr 1 (.t 23)), oP 4 25 (.faddr 0 (.t 24)), oP 5 26 (.load none (.t 25)), oM 6 27 1, oP 7 28 (.call 525 [.t 26, .t 27]), oM 8 1 28]
@[go_sem] theorem F435_r2_r : OE F435_r2.eq_1 := OEM F435_r2.eq_1
def F435_r3 : List AOper := [oM 0 31 0, oM 1 32 5, oP 2 33 (.iaddr 3 (.t 31) (.t 32)), oP 3 34 (.faddr 2 (.t 33)), oP 4 35 (.load none (.t 34)), oM 5 36 1, oP 6 37 (.call 433 [.t 35, .t 36]), oM 7 1 37]
@[go_sem] theorem F435_r3_r : OE F435_r3.eq_1 := OEM F435_r3.eq_1
def F435_k4 : ACode := .seq (.seq (.reg true [oM 0 29 1, oP 1 30 (.bin .lss (.t 29) (.c (.int .i64 0)))]) (.cond (.t 30) (.seq (.reg true [oP 0 4 (.mov (.c (.int .i64 (-1))))]) (.ret)) (.skip))) (.seq (.reg true F435_r3) (.seq (.reg true [oM 0 38 1, oP 1 39 (.bin .lss (.t 38) (.c (.int .i64 0)))]) (.cond (.t 39) (.seq (.reg true [oP 0 4 (.mov (.c (.int .i64 (-1))))]) (.ret)) (.skip))))
@[go_sem] theorem F435_k4_r : CE F435_k4.eq_1 := CEM F435_k4.eq_1
def F435_k5 : ACode := .seq (.blk 1 (.seq (.seq (.reg true F435_r1) (.cond (.t 18) (.seq (.reg true [oP 0 4 (.mov (.c (.int .i64 (-1))))]) (.ret)) (.skip))) (.seq (.reg true [oM 0 19 1, oP 1 20 (.bin .add (.t 19) (.c (.int .i64 1))), oM 2 1 20]) (.seq (.reg true F435_r2) F435_k4)))) (.reg true [oM 0 10 5, oP 1 11 (.bin .add (.t 10) (.c (.int .i64 1))), oM 2 5 11])
@[go_sem] theorem F435_k5_r : CE F435_k5.eq_1 := CEM F435_k5.eq_1
def F435 : AFun := ⟨2, 41, [.t 4], .seq (.reg true [oP 0 4 (.mov (.c (.int .i64 0)))]) (.seq (.seq (.reg true [oP 0 5 (.mov (.c (.int .i64 0)))]) (.blk 0 (.loop (.seq (.seq (.reg true F435_r0) (.cond (.t 9) (.skip) (.exit 0))) F435_k5)))) (.seq (.reg true [oM 0 40 1, oM 1 4 40]) (.ret)))⟩
def F137_r0 : List AOper := [oP 0 5 (.nop 2), oP 1 6 (.lload 2 0 none), oM 2 7 1, oP 3 8 (.call 230 [.t 6, .t 7]), oM 4 1 8]
@[go_sem] theorem F137_r0_r : OE F137_r0.eq_1 := OEM F137_r0.eq_1
def F137_r1 : List AOper := [oP 0 11 (.nop 2), oP 1 12 (.lload 2 1 none), oM 2 13 1, oP 3 14 (.call 92 [.t 12, .t 13]), oM 4 1 14]
@[go_sem] theorem F137_r1_r : OE F137_r1.eq_1 := OEM F137_r1.eq_1
def F137_r2 : List AOper := [oP 0 17 (.nop 2), oP 1 18 (.lload 2 4 (some 1)), oM 2 19 1, oP 3 20 (.call 199 [.t 18, .t 19]), oM 4 1 20]
@[go_sem] theorem F137_r2_r : OE F137_r2.eq_1 := OEM F137_r2.eq_1
def F137_r3 : List AOper := [oP 0 23 (.nop 2), oP 1 24 (.lload 2 5 none), oM 2 25 1, oP 3 26 (.call 433 [.t 24, .t 25]), oM 4 1 26]
@[go_sem] theorem F137_r3_r : OE F137_r3.eq_1 := OEM F137_r3.eq_1
def F137_r4 : List AOper := [oP 0 29 (.nop 2), oP 1 30 (.lload 2 6 none), oM 2 31 1, oP 3 32 (.call 434 [.t 30, .t 31]), oM 4 1 32]
@[go_sem] theorem F137_r4_r : OE F137_r4.eq_1 := OEM F137_r4.eq_1
def F137_r5 : List AOper := [oP 0 35 (.nop 2), oP 1 36 (.lload 2 7 none), oM 2 37 1, oP 3 38 (.call 435 [.t 36, .t 37]), oM 4 1 38]
@[go_sem] theorem F137_r5_r : OE F137_r5.eq_1 := OEM F137_r5.eq_1
def F137_k6 : ACode := .seq (.reg true F137_r5) (.seq (.seq (.reg true [oM 0 39 1, oP 1 40 (.bin .lss (.t 39) (.c (.int .i64 0)))]) (.cond (.t 40) (.seq (.reg true [oP 0 4 (.mov (.c (.int .i64 (-1))))]) (.ret)) (.skip))) (.seq (.reg true [oM 0 41 1, oM 1 4 41]) (.ret)))
@[go_sem] theorem F137_k6_r : CE F137_k6.eq_1 := CEM F137_k6.eq_1
def F137_k7 : ACode := .seq (.seq (.reg true [oM 0 27 1, oP 1 28 (.bin .lss (.t 27) (.c (.int .i64 0)))]) (.cond (.t 28) (.seq (.reg true [oP 0 4 (.mov (.c (.int .i64 (-1))))]) (.ret)) (.skip))) (.seq (.reg true F137_r4) (.seq (.seq (.reg true [oM 0 33 1, oP 1 34 (.bin .lss (.t 33) (.c (.int .i64 0)))]) (.cond (.t 34) (.seq (.reg true [oP 0 4 (.mov (.c (.int .i64 (-1))))]) (.ret)) (.skip))) F137_k6))
@[go_sem] theorem F137_k7_r : CE F137_k7.eq_1 := CEM F137_k7.eq_1
def F137_k8 : ACode := .seq (.seq (.reg true [oM 0 15 1, oP 1 16 (.bin .lss (.t 15) (.c (.int .i64 0)))]) (.cond (.t 16) (.seq (.reg true [oP 0 4 (.mov (.c (.int .i64 (-1))))]) (.ret)) (.skip))) (.seq (.reg true F137_r2) (.seq (.seq (.reg true [oM 0 21 1, oP 1 22 (.bin .lss (.t 21) (.c (.int .i64 0)))]) (.cond (.t 22) (.seq (.reg true [oP 0 4 (.mov (.c (.int .i64 (-1))))]) (.ret)) (.skip))) (.seq (.reg true F137_r3) F137_k7)))
@[go_sem] theorem F137_k8_r : CE F137_k8.eq_1 := CEM F137_k8.eq_1
def F137 : AFun := ⟨2, 42, [.t 4], .seq (.reg true [oP 0 2 (.lbox 8 (.t 0)), oP 1 4 (.mov (.c (.int .i64 0)))]) (.seq (.reg true F137_r0) (.seq (.seq (.reg true [oM 0 9 1, oP 1 10 (.bin .lss (.t 9) (.c (.int .i64 0)))]) (.cond (.t 10) (.seq (.reg true [oP 0 4 (.mov (.c (.int .i64 (-1))))]) (.ret)) (.skip))) (.seq (.reg true F137_r1) F137_k8)))⟩
def F138_r0 : List AOper := [oM 0 10 1, oP 1 11 (.faddr 6 (.t 2)), oP 2 12 (.load none (.t 11)), oP 3 13 (.len (.t 12)), oP 4 14 (.bin .sub (.t 13) (.c (.int .i64 1))), oP 5 15 (.call 340 [.t 10, .c (.int .i64 0), .t 14]), oP 6 16 (.not (.t 15))]
@[go_sem] theorem F138_r0_r : OE F138_r0.eq_1 := OEM F138_r0.eq_1
def F138_r1 : List AOper := [oP 0 19 (.mov (.c (.lst 2 [] true))), oP 1 20 (.nop 6), oP 2 21 (.lload 6 6 none), oM 3 22 1, oP 4 23 (.slc 2 (.t 21) none (some (.t 22)) none), oP 6 25 (.nop 6), oP 7 26 (.lload 6 6 none), oM 8 27 1, oP 9 28 (.bin .add (.t 27) (.c (.int .i64 1))), oP 10 29 (.slc 2 (.t 26) (some (.t 28)) none none), oP 5 24 (.app 2 (.t 19) (.t 23)), oP 11 30 (.app 2 (.t 24) (.t 29)), oP 12 31 (.nop 6), oN 13 (.lstore 6 6 1 (.t 30))]
@[go_sem] theorem F138_r1_r : OE F138_r1.eq_1 := OEM F138_r1.eq_1
def F138_k2 : ACode := .seq (.reg true [oP 0 18 (.call 427 [.t 2]), oP 1 6 (.lalloc (.agg [.nils, .nils, .int .i64 0, .int .i64 0, .nils, .nils, .nils, .nils])), oN 2 (.lstore 6 0 8 (.t 18))]) (.seq (.reg true F138_r1) (.seq (.reg true [oP 0 32 (.lload 6 0 (some 8)), oN 1 (.lstore 4 0 8 (.t 32)), oP 2 5 (.mov (.c (.int .i64 0)))]) (.ret)))
@[go_sem] theorem F138_k2_r : CE F138_k2.eq_1 := CEM F138_k2.eq_1
def F138_k3 : ACode := .seq (.seq (.reg true [oP 0 7 (.call 367 [.t 2]), oP 1 8 (.not (.t 7))]) (.cond (.t 8) (.seq (.reg true [oP 0 9 (.build (.agg [.nils, .nils, .int .i64 0, .int .i64 0, .nils, .nils, .nils, .nils]) []), oN 1 (.lstore 4 0 8 (.t 9)), oP 2 5 (.mov (.c (.int .i64 1)))]) (.ret)) (.skip))) (.seq (.seq (.reg true F138_r0) (.cond (.t 16) (.seq (.reg true [oP 0 17 (.build (.agg [.nils, .nils, .int .i64 0, .int .i64 0, .nils, .nils, .nils, .nils]) []), oN 1 (.lstore 4 0 8 (.t 17)), oP 2 5 (.mov (.c (.int .i64 2)))]) (.ret)) (.skip))) F138_k2)
@[go_sem] theorem F138_k3_r : CE F138_k3.eq_1 := CEM F138_k3.eq_1
def F138 : AFun := ⟨2, 33, [.l 4 (some 8), .t 5], .seq (.reg true [oP 0 2 (.hbox 8 (.t 0)), oP 1 4 (.lalloc (.agg [.nils, .nils, .int .i64 0, .int .i64 0, .nils, .nils, .nils, .nils])), oP 2 5 (.mov (.c (.int .i64 0)))]) F138_k3⟩
def F437_r0 : List AOper := [oM 0 8 0, oM 1 9 1, oM 2 10 2, oM 3 11 0, oP 4 12 (.len (.t 11)), oP 5 13 (.slcm 2 (.t 8) (.t 9) (.t 10) (.t 12))]
@[go_sem] theorem F437_r0_r : OE F437_r0.eq_1 := OEM F437_r0.eq_1
def F437_r1 : List AOper := [oM 0 20 0, oM 1 21 1, oP 2 22 (.slc 2 (.t 20) none (some (.t 21)) none), oM 3 23 0, oM 4 24 2, oP 5 25 (.slc 2 (.t 23) (some (.t 24)) none none), oP 6 26 (.appx 2 (.t 22) (.t 25)), oM 7 0 26]
@[go_sem] theorem F437_r1_r : OE F437_r1.eq_1 := OEM F437_r1.eq_1
def F437_r2 : List AOper := [oM 0 27 0, oM 1 28 0, oP 2 29 (.len (.t 28)), oM 3 30 7, oP 4 31 (.slcx 2 (.t 27) (some (.t 29)) (some (.t 30))), oN 5 (.clear 2 (.agg [.int .i64 0, .int .i64 0]) (.t 31))]
@[go_sem] theorem F437_r2_r : OE F437_r2.eq_1 := OEM F437_r2.eq_1
def F437_k3 : ACode := .seq (.reg true [oM 0 18 0, oP 1 19 (.len (.t 18)), oM 2 7 19]) (.seq (.reg true F437_r1) (.seq (.reg true F437_r2) (.seq (.reg true [oM 0 32 0, oM 1 6 32]) (.ret))))
@[go_sem] theorem F437_k3_r : CE F437_k3.eq_1 := CEM F437_k3.eq_1
def F437 : AFun := ⟨3, 33, [.t 6], .seq (.reg true [oP 0 6 (.mov (.c (.nils)))]) (.seq (.reg true F437_r0) (.seq (.seq (.reg true [oM 0 14 1, oM 1 15 2, oP 2 16 (.bin .eql (.t 14) (.t 15))]) (.cond (.t 16) (.seq (.reg true [oM 0 17 0, oM 1 6 17]) (.ret)) (.skip))) F437_k3))⟩
def F139_r0 : List AOper := [oP 0 8 (.lload 2 0 (some 8)), oP 1 9 (.call 373 [.t 8]), oP 2 10 (.not (.t 9)), oM 3 7 10]
@[go_sem] theorem F139_r0_r : OE F139_r0.eq_1 := OEM F139_r0.eq_1
def F139_r1 : List AOper := [oP 0 13 (.nop 2), oP 1 14 (.lload 2 6 none), oP 2 15 (.len (.t 14)), oP 3 16 (.bin .sub (.t 15) (.c (.int .i64 1))), oM 4 17 1, oP 5 18 (.bslice 1 (.int .i64 0) 1 [(0, .t 17)]), oP 6 19 (.call 436 [.t 16, .t 18]), oP 7 20 (.not (.t 19)), oM 8 12 20]
@[go_sem] theorem F139_r1_r : OE F139_r1.eq_1 := OEM F139_r1.eq_1
def F139_k2 : ACode := .cond (.t 7) (.seq (.reg true [oP 0 11 (.build (.agg [.nils, .nils, .int .i64 0, .int .i64 0, .nils, .nils, .nils, .nils]) []), oN 1 (.lstore 4 0 8 (.t 11)), oP 2 5 (.mov (.c (.int .i64 1)))]) (.ret)) (.seq (.reg true F139_r1) (.cond (.t 12) (.seq (.reg true [oP 0 21 (.build (.agg [.nils, .nils, .int .i64 0, .int .i64 0, .nils, .nils, .nils, .nils]) []), oN 1 (.lstore 4 0 8 (.t 21)), oP 2 5 (.mov (.c (.int .i64 2)))]) (.ret)) (.skip)))
@[go_sem] theorem F139_k2_r : CE F139_k2.eq_1 := CEM F139_k2.eq_1
def F139_r3 : List AOper := [oP 0 22 (.lload 2 0 (some 8)), oP 1 23 (.call 429 [.t 22]), oP 2 6 (.lalloc (.agg [.nils, .nils, .int .i64 0, .int .i64 0, .nils, .nils, .nils, .nils])), oN 3 (.lstore 6 0 8 (.t 23))]
@[go_sem] theorem F139_r3_r : OE F139_r3.eq_1 := OEM F139_r3.eq_1
def F139_r4 : List AOper := [oP 0 24 (.nop 6), oP 1 25 (.lload 6 6 none), oM 2 26 1, oM 3 27 1, oP 4 28 (.bin .add (.t 27) (.c (.int .i64 1))), oP 5 29 (.call 437 [.t 25, .t 26, .t 28]), oP 6 30 (.nop 6), oN 7 (.lstore 6 6 1 (.t 29))]
@[go_sem] theorem F139_r4_r : OE F139_r4.eq_1 := OEM F139_r4.eq_1
def F139 : AFun := ⟨2, 32, [.l 4 (some 8), .t 5], .seq (.reg true [oP 0 2 (.lbox 8 (.t 0)), oP 1 4 (.lalloc (.agg [.nils, .nils, .int .i64 0, .int .i64 0, .nils, .nils, .nils, .nils])), oP 2 5 (.mov (.c (.int .i64 0)))]) (.seq (.blk 0 (.seq (.reg true F139_r0) F139_k2)) (.seq (.reg true F139_r3) (.seq (.reg true F139_r4) (.seq (.reg true [oP 0 31 (.lload 6 0 (some 8)), oN 1 (.lstore 4 0 8 (.t 31)), oP 2 5 (.mov (.c (.int .i64 0)))]) (.ret)))))⟩
def F13_r0 : List AOper := [oP 0 16 (.lload 2 0 (some 8)), oM 1 17 5, oP 2 18 (.call 104 [.t 16, .t 17]), oM 3 5 18]
@[go_sem] theorem F13_r0_r : OE F13_r0.eq_1 := OEM F13_r0.eq_1
def F13_r1 : List AOper := [oP 0 22 (.lload 2 0 (some 8)), oP 1 23 (.call 106 [.t 22]), oM 2 24 1, oP 3 25 (.call 138 [.t 23, .t 24]), oM 4 21 25, oP 5 26 (.ext (.t 21) 0), oP 6 27 (.ext (.t 21) 1), oP 7 6 (.lalloc (.agg [.nils, .nils, .int .i64 0, .int .i64 0, .nils, .nils, .nils, .nils])), oN 8 (.lstore 6 0 8 (.t 26)), oM 9 7 27]
@[go_sem] theorem F13_r1_r : OE F13_r1.eq_1 := OEM F13_r1.eq_1
def F13_r2 : List AOper := [oP 0 28 (.lload 2 0 (some 8)), oP 1 29 (.call 106 [.t 28]), oP 2 8 (.lalloc (.agg [.nils, .nils, .int .i64 0, .int .i64 0, .nils, .nils, .nils, .nils])), oN 3 (.lstore 8 0 8 (.t 29))]
@[go_sem] theorem F13_r2_r : OE F13_r2.eq_1 := OEM F13_r2.eq_1
def F13_r3 : List AOper := [oP 0 31 (.lload 8 0 (some 8)), oM 1 32 1, oP 2 33 (.call 139 [.t 31, .t 32]), oM 3 30 33, oP 4 34 (.ext (.t 30) 0), oP 5 35 (.ext (.t 30) 1), oP 6 9 (.lalloc (.agg [.nils, .nils, .int .i64 0, .int .i64 0, .nils, .nils, .nils, .nils])), oN 7 (.lstore 9 0 8 (.t 34)), oM 8 10 35]
@[go_sem] theorem F13_r3_r : OE F13_r3.eq_1 := OEM F13_r3.eq_1
def F13_r4 : List AOper := [oP 0 36 (.lload 9 0 (some 8)), oP 1 37 (.lload 6 0 (some 8)), oP 2 38 (.call 108 [.t 36, .t 37]), oP 3 39 (.not (.t 38)), oM 4 40 39, oG 5 41 40 false (.mov (.t 10)), oG 6 42 40 false (.mov (.t 7)), oG 7 43 40 false (.bin .neq (.t 41) (.t 42)), oP 8 44 (.pick (.t 40) (.c (.bool true)) (.t 43))]
@[go_sem] theorem F13_r4_r : OE F13_r4.eq_1 := OEM F13_r4.eq_1
def F13_r5 : List AOper := [oP 0 45 (.lload 8 0 (some 8)), oP 1 46 (.lload 2 0 (some 8)), oP 2 47 (.call 106 [.t 46]), oP 3 48 (.call 108 [.t 45, .t 47]), oP 4 49 (.not (.t 48))]
@[go_sem] theorem F13_r5_r : OE F13_r5.eq_1 := OEM F13_r5.eq_1
def F13_r6 : List AOper := [oP 0 50 (.lload 8 0 (some 8)), oM 1 51 11, oP 2 52 (.call 136 [.t 50, .t 51]), oM 3 11 52]
@[go_sem] theorem F13_r6_r : OE F13_r6.eq_1 := OEM F13_r6.eq_1
def F13_r7 : List AOper := [oM 0 53 11, oP 1 54 (.bin .lss (.t 53) (.c (.int .i64 0))), oM 2 55 54, oG 3 56 55 false (.lload 9 0 (some 8)), oG 4 57 55 false (.lload 6 0 (some 8)), oG 5 58 55 false (.call 108 [.t 56, .t 57]), oG 6 59 55 false (.not (.t 58)), oP 7 60 (.pick (.t 55) (.c (.bool true)) (.t 59)), oM 8 61 60, oG 9 62 61 false (.mov (.t 10)), oG 10 63 61 false (.mov (.t 7)), oG 11 64 61 false (.bin .neq (.t 62) (.t 63)), oP 12 65 (.pick (.t 61) (.c (.bool true)) (.t 64))]
@[go_sem] theorem F13_r7_r : OE F13_r7.eq_1 := OEM F13_r7.eq_1
def F13_r8 : List AOper := [oP 0 66 (.lload 9 0 (some 8)), oM 1 67 12, oP 2 68 (.call 136 [.t 66, .t 67]), oM 3 12 68]
@[go_sem] theorem F13_r8_r : OE F13_r8.eq_1 := OEM F13_r8.eq_1
def F13_r9 : List AOper := [oP 0 69 (.lload 9 0 (some 8)), oM 1 70 13, oP 2 71 (.call 137 [.t 69, .t 70]), oM 3 13 71]
@[go_sem] theorem F13_r9_r : OE F13_r9.eq_1 := OEM F13_r9.eq_1
def F13_r10 : List AOper := [oP 0 78 (.lload 2 0 (some 8)), oP 1 79 (.call 106 [.t 78]), oM 2 80 1, oP 3 81 (.call 139 [.t 79, .t 80]), oM 4 77 81, oP 5 82 (.ext (.t 77) 0), oP 6 83 (.ext (.t 77) 1), oP 7 14 (.lalloc (.agg [.nils, .nils, .int .i64 0, .int .i64 0, .nils, .nils, .nils, .nils])), oN 8 (.lstore 14 0 8 (.t 82)), oM 9 15 83]
@[go_sem] theorem F13_r10_r : OE F13_r10.eq_1 := OEM F13_r10.eq_1
def F13_r11 : List AOper := [oP 0 84 (.lload 14 0 (some 8)), oP 1 85 (.lload 6 0 (some 8)), oP 2 86 (.call 108 [.t 84, .t 85]), oP 3 87 (.not (.t 86)), oM 4 88 87, oG 5 89 88 false (.mov (.t 15)), oG 6 90 88 false (.mov (.t 7)), oG 7 91 88 false (.bin .neq (.t 89) (.t 90)), oP 8 92 (.pick (.t 88) (.c (.bool true)) (.t 91))]
@[go_sem] theorem F13_r11_r : OE F13_r11.eq_1 := OEM F13_r11.eq_1
def F13_r12 : List AOper := [oP 0 93 (.lload 9 0 (some 8)), oM 1 94 13, oP 2 95 (.call 137 [.t 93, .t 94]), oM 3 13 95]
@[go_sem] theorem F13_r12_r : OE F13_r12.eq_1 := OEM F13_r12.eq_1
def F13_k13 : ACode := .seq (.seq (.reg true [oM 0 96 13, oP 1 97 (.bin .lss (.t 96) (.c (.int .i64 0)))]) (.cond (.t 97) (.seq (.reg true [oP 0 4 (.mov (.c (.bool false)))]) (.ret)) (.skip))) (.seq (.seq (.reg true [oM 0 98 13, oM 1 99 12, oP 2 100 (.bin .neq (.t 98) (.t 99))]) (.cond (.t 100) (.seq (.reg true [oP 0 4 (.mov (.c (.bool false)))]) (.ret)) (.skip))) (.seq (.reg true [oP 0 4 (.mov (.c (.bool true)))]) (.ret)))
@[go_sem] theorem F13_k13_r : CE F13_k13.eq_1 := CEM F13_k13.eq_1
def F13_k14 : ACode := .seq (.seq (.reg true [oM 0 74 13, oM 1 75 12, oP 2 76 (.bin .neq (.t 74) (.t 75))]) (.cond (.t 76) (.seq (.reg true [oP 0 4 (.mov (.c (.bool false)))]) (.ret)) (.skip))) (.seq (.reg true F13_r10) (.seq (.seq (.reg true F13_r11) (.cond (.t 92) (.seq (.reg true [oP 0 4 (.mov (.c (.bool false)))]) (.ret)) (.skip))) (.seq (.reg true [oP 0 13 (.mov (.c (.int .i64 1)))]) (.seq (.reg true F13_r12) F13_k13))))
@[go_sem] theorem F13_k14_r : CE F13_k14.eq_1 := CEM F13_k14.eq_1
def F13_k15 : ACode := .seq (.reg true F13_r8) (.seq (.reg true [oP 0 13 (.mov (.c (.int .i64 1)))]) (.seq (.reg true F13_r9) (.seq (.seq (.reg true [oM 0 72 13, oP 1 73 (.bin .lss (.t 72) (.c (.int .i64 0)))]) (.cond (.t 73) (.seq (.reg true [oP 0 4 (.mov (.c (.bool false)))]) (.ret)) (.skip))) F13_k14)))
@[go_sem] theorem F13_k15_r : CE F13_k15.eq_1 := CEM F13_k15.eq_1
def F13_k16 : ACode := .seq (.seq (.reg true F13_r5) (.cond (.t 49) (.seq (.reg true [oP 0 4 (.mov (.c (.bool false)))]) (.ret)) (.skip))) (.seq (.reg true [oP 0 11 (.mov (.c (.int .i64 1)))]) (.seq (.reg true F13_r6) (.seq (.seq (.reg true F13_r7) (.cond (.t 65) (.seq (.reg true [oP 0 4 (.mov (.c (.bool false)))]) (.ret)) (.skip))) (.seq (.reg true [oP 0 12 (.mov (.c (.int .i64 1)))]) F13_k15))))
@[go_sem] theorem F13_k16_r : CE F13_k16.eq_1 := CEM F13_k16.eq_1
def F13_k17 : ACode := .seq (.seq (.reg true [oM 0 19 5, oP 1 20 (.bin .lss (.t 19) (.c (.int .i64 0)))]) (.cond (.t 20) (.seq (.reg true [oP 0 4 (.mov (.c (.bool true)))]) (.ret)) (.skip))) (.seq (.reg true F13_r1) (.seq (.reg true F13_r2) (.seq (.reg true F13_r3) (.seq (.seq (.reg true F13_r4) (.cond (.t 44) (.seq (.reg true [oP 0 4 (.mov (.c (.bool false)))]) (.ret)) (.skip))) F13_k16))))
@[go_sem] theorem F13_k17_r : CE F13_k17.eq_1 := CEM F13_k17.eq_1
def F13 : AFun := ⟨2, 101, [.t 4], .seq (.reg true [oP 0 2 (.lbox 8 (.t 0)), oP 1 4 (.mov (.c (.bool false)))]) (.seq (.reg true [oP 0 5 (.mov (.c (.int .i64 1048576)))]) (.seq (.reg true F13_r0) F13_k17))⟩
def tabm : List (Nat × AFun) := [(338, F338), (1173, F1173), (852, F852), (501, F501), (182, F182), (181, F181), (364, F364), (365, F365), (740, F740), (366, F366), (104, F104), (340, F340), (412, F412), (426, F426), (488, F488), (1371, F1371), (1384, F1384), (1372, F1372), (1489, F1489), (1385, F1385), (1494, F1494), (1386, F1386), (1096, F1096), (710, F710), (318, F318), (598, F598), (1109, F1109), (741, F741), (367, F367), (147, F147), (1419, F1419), (1178, F1178), (858, F858), (504, F504), (185, F185), (184, F184), (745, F745), (370, F370), (134, F134), (371, F371), (746, F746), (372, F372), (106, F106), (774, F774), (397, F397), (775, F775), (406, F406), (801, F801), (436, F436), (1179, F1179), (859, F859), (554, F554), (796, F796), (1050, F1050), (1051, F1051), (1487, F1487), (1387, F1387), (1388, F1388), (1375, F1375), (1495, F1495), (1389, F1389), (1390, F1390), (1097, F1097), (711, F711), (1098, F1098), (712, F712), (555, F555), (714, F714), (713, F713), (319, F319), (860, F860), (505, F505), (1397, F1397), (1112, F1112), (1114, F1114), (1113, F1113), (747, F747), (771, F771), (748, F748), (428, F428), (749, F749), (373, F373), (86, F86), (1422, F1422), (1184, F1184), (870, F870), (508, F508), (188, F188), (187, F187), (752, F752), (377, F377), (753, F753), (378, F378), (754, F754), (379, F379), (108, F108), (402, F402), (837, F837), (489, F489), (795, F795), (427, F427), (401, F401), (1373, F1373), (1085, F1085), (798, F798), (797, F797), (799, F799), (800, F800), (429, F429), (90, F90), (885, F885), (524, F524), (198, F198), (225, F225), (430, F430), (431, F431), (432, F432), (136, F136), (92, F92), (886, F886), (525, F525), (199, F199), (230, F230), (433, F433), (434, F434), (435, F435), (137, F137), (138, F138), (437, F437), (139, F139), (13, F13)]
def Gm (g : Nat) : Option AFn := lookT g tabm
theorem g338 : Gm 338 = some (.fn F338) := by kernel_rfl
theorem g1173 : Gm 1173 = some (.fn F1173) := by kernel_rfl
theorem g852 : Gm 852 = some (.fn F852) := by kernel_rfl
theorem g501 : Gm 501 = some (.fn F501) := by kernel_rfl
theorem g182 : Gm 182 = some (.fn F182) := by kernel_rfl
theorem g181 : Gm 181 = some (.fn F181) := by kernel_rfl
theorem g364 : Gm 364 = some (.fn F364) := by kernel_rfl
theorem g365 : Gm 365 = some (.fn F365) := by kernel_rfl
theorem g740 : Gm 740 = some (.fn F740) := by kernel_rfl
theorem g366 : Gm 366 = some (.fn F366) := by kernel_rfl
theorem g104 : Gm 104 = some (.fn F104) := by kernel_rfl
theorem g340 : Gm 340 = some (.fn F340) := by kernel_rfl
theorem g412 : Gm 412 = some (.fn F412) := by kernel_rfl
theorem g426 : Gm 426 = some (.fn F426) := by kernel_rfl
theorem g488 : Gm 488 = some (.fn F488) := by kernel_rfl
theorem g1371 : Gm 1371 = some (.fn F1371) := by kernel_rfl
theorem g1384 : Gm 1384 = some (.fn F1384) := by kernel_rfl
theorem g1372 : Gm 1372 = some (.fn F1372) := by kernel_rfl
theorem g1489 : Gm 1489 = some (.fn F1489) := by kernel_rfl
theorem g1385 : Gm 1385 = some (.fn F1385) := by kernel_rfl
theorem g1494 : Gm 1494 = some (.fn F1494) := by kernel_rfl
theorem g1386 : Gm 1386 = some (.fn F1386) := by kernel_rfl
theorem g1096 : Gm 1096 = some (.fn F1096) := by kernel_rfl
theorem g710 : Gm 710 = some (.fn F710) := by kernel_rfl
theorem g318 : Gm 318 = some (.fn F318) := by kernel_rfl
theorem g598 : Gm 598 = some (.fn F598) := by kernel_rfl
theorem g1109 : Gm 1109 = some (.fn F1109) := by kernel_rfl
theorem g741 : Gm 741 = some (.fn F741) := by kernel_rfl
theorem g367 : Gm 367 = some (.fn F367) := by kernel_rfl
theorem g147 : Gm 147 = some (.fn F147) := by kernel_rfl
theorem g1419 : Gm 1419 = some (.fn F1419) := by kernel_rfl
theorem g1178 : Gm 1178 = some (.fn F1178) := by kernel_rfl
theorem g858 : Gm 858 = some (.fn F858) := by kernel_rfl
theorem g504 : Gm 504 = some (.fn F504) := by kernel_rfl
theorem g185 : Gm 185 = some (.fn F185) := by kernel_rfl
theorem g184 : Gm 184 = some (.fn F184) := by kernel_rfl
theorem g745 : Gm 745 = some (.fn F745) := by kernel_rfl
theorem g370 : Gm 370 = some (.fn F370) := by kernel_rfl
theorem g134 : Gm 134 = some (.fn F134) := by kernel_rfl
theorem g371 : Gm 371 = some (.fn F371) := by kernel_rfl
theorem g746 : Gm 746 = some (.fn F746) := by kernel_rfl
theorem g372 : Gm 372 = some (.fn F372) := by kernel_rfl
theorem g106 : Gm 106 = some (.fn F106) := by kernel_rfl
theorem g774 : Gm 774 = some (.fn F774) := by kernel_rfl
theorem g397 : Gm 397 = some (.fn F397) := by kernel_rfl
theorem g775 : Gm 775 = some (.fn F775) := by kernel_rfl
theorem g406 : Gm 406 = some (.fn F406) := by kernel_rfl
theorem g801 : Gm 801 = some (.fn F801) := by kernel_rfl
theorem g436 : Gm 436 = some (.fn F436) := by kernel_rfl
theorem g1179 : Gm 1179 = some (.fn F1179) := by kernel_rfl
theorem g859 : Gm 859 = some (.fn F859) := by kernel_rfl
theorem g554 : Gm 554 = some (.fn F554) := by kernel_rfl
theorem g796 : Gm 796 = some (.fn F796) := by kernel_rfl
theorem g1050 : Gm 1050 = some (.fn F1050) := by kernel_rfl
theorem g1051 : Gm 1051 = some (.fn F1051) := by kernel_rfl
theorem g1487 : Gm 1487 = some (.fn F1487) := by kernel_rfl
theorem g1387 : Gm 1387 = some (.fn F1387) := by kernel_rfl
theorem g1388 : Gm 1388 = some (.fn F1388) := by kernel_rfl
theorem g1375 : Gm 1375 = some (.fn F1375) := by kernel_rfl
theorem g1495 : Gm 1495 = some (.fn F1495) := by kernel_rfl
theorem g1389 : Gm 1389 = some (.fn F1389) := by kernel_rfl
theorem g1390 : Gm 1390 = some (.fn F1390) := by kernel_rfl
theorem g1097 : Gm 1097 = some (.fn F1097) := by kernel_rfl
theorem g711 : Gm 711 = some (.fn F711) := by kernel_rfl
theorem g1098 : Gm 1098 = some (.fn F1098) := by kernel_rfl
theorem g712 : Gm 712 = some (.fn F712) := by kernel_rfl
theorem g555 : Gm 555 = some (.fn F555) := by kernel_rfl
theorem g714 : Gm 714 = some (.fn F714) := by kernel_rfl
theorem g713 : Gm 713 = some (.fn F713) := by kernel_rfl
theorem g319 : Gm 319 = some (.fn F319) := by kernel_rfl
theorem g860 : Gm 860 = some (.fn F860) := by kernel_rfl
theorem g505 : Gm 505 = some (.fn F505) := by kernel_rfl
theorem g1397 : Gm 1397 = some (.fn F1397) := by kernel_rfl
theorem g1112 : Gm 1112 = some (.fn F1112) := by kernel_rfl
theorem g1114 : Gm 1114 = some (.fn F1114) := by kernel_rfl
theorem g1113 : Gm 1113 = some (.fn F1113) := by kernel_rfl
theorem g747 : Gm 747 = some (.fn F747) := by kernel_rfl
theorem g771 : Gm 771 = some (.fn F771) := by kernel_rfl
theorem g748 : Gm 748 = some (.fn F748) := by kernel_rfl
theorem g428 : Gm 428 = some (.fn F428) := by kernel_rfl
theorem g749 : Gm 749 = some (.fn F749) := by kernel_rfl
theorem g373 : Gm 373 = some (.fn F373) := by kernel_rfl
theorem g86 : Gm 86 = some (.fn F86) := by kernel_rfl
theorem g1422 : Gm 1422 = some (.fn F1422) := by kernel_rfl
theorem g1184 : Gm 1184 = some (.fn F1184) := by kernel_rfl
theorem g870 : Gm 870 = some (.fn F870) := by kernel_rfl
theorem g508 : Gm 508 = some (.fn F508) := by kernel_rfl
theorem g188 : Gm 188 = some (.fn F188) := by kernel_rfl
theorem g187 : Gm 187 = some (.fn F187) := by kernel_rfl
theorem g752 : Gm 752 = some (.fn F752) := by kernel_rfl
theorem g377 : Gm 377 = some (.fn F377) := by kernel_rfl
theorem g753 : Gm 753 = some (.fn F753) := by kernel_rfl
theorem g378 : Gm 378 = some (.fn F378) := by kernel_rfl
theorem g754 : Gm 754 = some (.fn F754) := by kernel_rfl
theorem g379 : Gm 379 = some (.fn F379) := by kernel_rfl
theorem g108 : Gm 108 = some (.fn F108) := by kernel_rfl
theorem g402 : Gm 402 = some (.fn F402) := by kernel_rfl
theorem g837 : Gm 837 = some (.fn F837) := by kernel_rfl
theorem g489 : Gm 489 = some (.fn F489) := by kernel_rfl
theorem g795 : Gm 795 = some (.fn F795) := by kernel_rfl
theorem g427 : Gm 427 = some (.fn F427) := by kernel_rfl
theorem g401 : Gm 401 = some (.fn F401) := by kernel_rfl
theorem g1373 : Gm 1373 = some (.fn F1373) := by kernel_rfl
theorem g1085 : Gm 1085 = some (.fn F1085) := by kernel_rfl
theorem g798 : Gm 798 = some (.fn F798) := by kernel_rfl
theorem g797 : Gm 797 = some (.fn F797) := by kernel_rfl
theorem g799 : Gm 799 = some (.fn F799) := by kernel_rfl
theorem g800 : Gm 800 = some (.fn F800) := by kernel_rfl
theorem g429 : Gm 429 = some (.fn F429) := by kernel_rfl
theorem g90 : Gm 90 = some (.fn F90) := by kernel_rfl
theorem g885 : Gm 885 = some (.fn F885) := by kernel_rfl
theorem g524 : Gm 524 = some (.fn F524) := by kernel_rfl
theorem g198 : Gm 198 = some (.fn F198) := by kernel_rfl
theorem g225 : Gm 225 = some (.fn F225) := by kernel_rfl
theorem g430 : Gm 430 = some (.fn F430) := by kernel_rfl
theorem g431 : Gm 431 = some (.fn F431) := by kernel_rfl
theorem g432 : Gm 432 = some (.fn F432) := by kernel_rfl
theorem g136 : Gm 136 = some (.fn F136) := by kernel_rfl
theorem g92 : Gm 92 = some (.fn F92) := by kernel_rfl
theorem g886 : Gm 886 = some (.fn F886) := by kernel_rfl
theorem g525 : Gm 525 = some (.fn F525) := by kernel_rfl
theorem g199 : Gm 199 = some (.fn F199) := by kernel_rfl
theorem g230 : Gm 230 = some (.fn F230) := by kernel_rfl
theorem g433 : Gm 433 = some (.fn F433) := by kernel_rfl
theorem g434 : Gm 434 = some (.fn F434) := by kernel_rfl
theorem g435 : Gm 435 = some (.fn F435) := by kernel_rfl
theorem g137 : Gm 137 = some (.fn F137) := by kernel_rfl
theorem g138 : Gm 138 = some (.fn F138) := by kernel_rfl
theorem g437 : Gm 437 = some (.fn F437) := by kernel_rfl
theorem g139 : Gm 139 = some (.fn F139) := by kernel_rfl
theorem g13 : Gm 13 = some (.fn F13) := by kernel_rfl
end Go.Ab
namespace Go.Ab
open Go
set_option maxRecDepth 10000
theorem c338 (xs : List Int) (hx : xs.length ≤ 140737488355328) (left : Nat) (hl : left ≤ 1048576) : Pure Gm 338 [.lst 1 (xs.map encI) false, .int .i64 left] (.int .i64 (leftI xs.length left)) :=
  szS0_ok g338 shI.tree xs left hl hx
theorem c1173 (xs : List GPort) (hx : xs.length ≤ 140737488355328) (left : Nat) (hl : left ≤ 1048576) : Pure Gm 1173 [.lst 2 (xs.map GPort.enc) false, .int .i64 left] (.int .i64 (leftI xs.length left)) :=
  szS0_ok g1173 GPort.isSh.tree xs left hl hx
theorem c852 (x : GAgent) (hb : x.bd) (left : Nat) (hl : left ≤ 1048576) : Pure Gm 852 [x.enc, .int .i64 left] (.int .i64 (leftI x.sz left)) := by
  refine Pure.intro [] [] g852 (by kernel_rfl) rfl (by simp [AV.trees, AV.tree, GAgent.tr]) rfl ?_
  simp only [F852, vparams, go_sem, Nat.reduceEqDiff, reduceIte, Nat.reduceAdd, eq_self]
  refine lbox_ok rfl ?_
  simp only [go_sem, Nat.reduceEqDiff, reduceIte, Bool.not_true, eq_self]
  unfold GAgent.bd at hb
  refine call_pure (c338 _ hb.1 _ (by omega)) ?_
  simp only [go_sem, Nat.reduceEqDiff, reduceIte, eq_self]
  refine cnd_split ?_ ?_ <;> intro hc <;> simp only [hc, go_sem, Nat.reduceEqDiff, reduceIte, Bool.not_true, eq_self]
  · have hq := of_decide_eq_true hc; rw [leftI_lt] at hq
    exact fin_eq rfl (by rw [leftI_neg (by unfold GAgent.sz; omega)])
  have hq := of_decide_eq_false hc; rw [leftI_lt] at hq; rw [leftI_pos (by omega)]; clear hc
  refine call_pure (c1173 _ hb.2 _ (by omega)) ?_
  simp only [go_sem, Nat.reduceEqDiff, reduceIte, eq_self]
  refine cnd_split ?_ ?_ <;> intro hc <;> simp only [hc, go_sem, Nat.reduceEqDiff, reduceIte, eq_self]
  · have hq := of_decide_eq_true hc; rw [leftI_lt] at hq
    exact fin_eq rfl (by rw [leftI_neg (by unfold GAgent.sz; omega)])
  have hq := of_decide_eq_false hc; rw [leftI_lt] at hq; rw [leftI_pos (by omega)]; clear hc
  exact fin_eq rfl (by rw [leftI_pos (by unfold GAgent.sz; omega)]; unfold GAgent.sz; first | rfl | (congr 2; omega))
theorem c501 (xs : List GAgent) (hx : xs.length ≤ 140737488355328 ∧ (∀ y ∈ xs, GAgent.bd y)) (left : Nat) (hl : left ≤ 1048576) : Pure Gm 501 [.lst 5 (xs.map GAgent.enc) false, .int .i64 left] (.int .i64 (leftI (xs.length + sumN GAgent.sz xs) left)) :=
  szS_ok GAgent.isSh g501 GAgent.sz xs (fun x hm lf hlf => c852 x (hx.2 x hm) lf hlf) left hl hx.1
theorem c182 (x : GNet) (hb : x.bd) (left : Nat) (hl : left ≤ 1048576) : Pure Gm 182 [x.enc, .int .i64 left] (.int .i64 (leftI x.sz left)) := by
  refine Pure.intro [] [] g182 (by kernel_rfl) rfl (by simp [AV.trees, AV.tree, GNet.tr]) rfl ?_
  simp only [F182, vparams, go_sem, Nat.reduceEqDiff, reduceIte, Nat.reduceAdd, eq_self]
  refine lbox_ok rfl ?_
  simp only [go_sem, Nat.reduceEqDiff, reduceIte, Bool.not_true, eq_self]
  unfold GNet.bd at hb
  refine call_pure (c501 _ ⟨hb.1, hb.2⟩ _ (by omega)) ?_
  simp only [go_sem, Nat.reduceEqDiff, reduceIte, eq_self]
  refine cnd_split ?_ ?_ <;> intro hc <;> simp only [hc, go_sem, Nat.reduceEqDiff, reduceIte, eq_self]
  · have hq := of_decide_eq_true hc; rw [leftI_lt] at hq
    exact fin_eq rfl (by rw [leftI_neg (by unfold GNet.sz; omega)])
  have hq := of_decide_eq_false hc; rw [leftI_lt] at hq; rw [leftI_pos (by omega)]; clear hc
  exact fin_eq rfl (by rw [leftI_pos (by unfold GNet.sz; omega)]; unfold GNet.sz; first | rfl | (congr 2; omega))
theorem c181 (xs : List GNet) (hx : xs.length ≤ 140737488355328 ∧ (∀ y ∈ xs, GNet.bd y)) (left : Nat) (hl : left ≤ 1048576) : Pure Gm 181 [.lst 1 (xs.map GNet.enc) false, .int .i64 left] (.int .i64 (leftI (xs.length + sumN GNet.sz xs) left)) :=
  szS_ok GNet.isSh g181 GNet.sz xs (fun x hm lf hlf => c182 x (hx.2 x hm) lf hlf) left hl hx.1
theorem c364 (xs : List GOrigin) (hx : xs.length ≤ 140737488355328) (left : Nat) (hl : left ≤ 1048576) : Pure Gm 364 [.lst 3 (xs.map GOrigin.enc) false, .int .i64 left] (.int .i64 (leftI xs.length left)) :=
  szS0_ok g364 GOrigin.isSh.tree xs left hl hx
theorem c365 (xs : List GBreak) (hx : xs.length ≤ 140737488355328) (left : Nat) (hl : left ≤ 1048576) : Pure Gm 365 [.lst 2 (xs.map GBreak.enc) false, .int .i64 left] (.int .i64 (leftI xs.length left)) :=
  szS0_ok g365 GBreak.isSh.tree xs left hl hx
theorem c740 (x : GCheckpoint) (hb : x.bd) (left : Nat) (hl : left ≤ 1048576) : Pure Gm 740 [x.enc, .int .i64 left] (.int .i64 (leftI x.sz left)) := by
  refine Pure.intro [] [] g740 (by kernel_rfl) rfl (by simp [AV.trees, AV.tree, GCheckpoint.tr]) rfl ?_
  simp only [F740, vparams, go_sem, Nat.reduceEqDiff, reduceIte, Nat.reduceAdd, eq_self]
  refine lbox_ok rfl ?_
  simp only [go_sem, Nat.reduceEqDiff, reduceIte, Bool.not_true, eq_self]
  unfold GCheckpoint.bd at hb
  refine call_pure (c182 _ hb.1 _ (by omega)) ?_
  simp only [go_sem, Nat.reduceEqDiff, reduceIte, eq_self]
  refine cnd_split ?_ ?_ <;> intro hc <;> simp only [hc, go_sem, Nat.reduceEqDiff, reduceIte, Bool.not_true, eq_self]
  · have hq := of_decide_eq_true hc; rw [leftI_lt] at hq
    exact fin_eq rfl (by rw [leftI_neg (by unfold GCheckpoint.sz; omega)])
  have hq := of_decide_eq_false hc; rw [leftI_lt] at hq; rw [leftI_pos (by omega)]; clear hc
  refine call_pure (c364 _ hb.2 _ (by omega)) ?_
  simp only [go_sem, Nat.reduceEqDiff, reduceIte, eq_self]
  refine cnd_split ?_ ?_ <;> intro hc <;> simp only [hc, go_sem, Nat.reduceEqDiff, reduceIte, eq_self]
  · have hq := of_decide_eq_true hc; rw [leftI_lt] at hq
    exact fin_eq rfl (by rw [leftI_neg (by unfold GCheckpoint.sz; omega)])
  have hq := of_decide_eq_false hc; rw [leftI_lt] at hq; rw [leftI_pos (by omega)]; clear hc
  exact fin_eq rfl (by rw [leftI_pos (by unfold GCheckpoint.sz; omega)]; unfold GCheckpoint.sz; first | rfl | (congr 2; omega))
theorem c366 (xs : List GCheckpoint) (hx : xs.length ≤ 140737488355328 ∧ (∀ y ∈ xs, GCheckpoint.bd y)) (left : Nat) (hl : left ≤ 1048576) : Pure Gm 366 [.lst 3 (xs.map GCheckpoint.enc) false, .int .i64 left] (.int .i64 (leftI (xs.length + sumN GCheckpoint.sz xs) left)) :=
  szS_ok GCheckpoint.isSh g366 GCheckpoint.sz xs (fun x hm lf hlf => c740 x (hx.2 x hm) lf hlf) left hl hx.1
theorem c104 (x : GDebugger) (hb : x.bd) (left : Nat) (hl : left ≤ 1048576) : Pure Gm 104 [x.enc, .int .i64 left] (.int .i64 (leftI x.sz left)) := by
  refine Pure.intro [] [] g104 (by kernel_rfl) rfl (by simp [AV.trees, AV.tree, GDebugger.tr]) rfl ?_
  simp only [F104, vparams, go_sem, Nat.reduceEqDiff, reduceIte, Nat.reduceAdd, eq_self]
  refine lbox_ok rfl ?_
  simp only [go_sem, Nat.reduceEqDiff, reduceIte, Bool.not_true, eq_self]
  unfold GDebugger.bd at hb
  refine call_pure (c181 _ ⟨hb.1, hb.2.1⟩ _ (by omega)) ?_
  simp only [go_sem, Nat.reduceEqDiff, reduceIte, eq_self]
  refine cnd_split ?_ ?_ <;> intro hc <;> simp only [hc, go_sem, Nat.reduceEqDiff, reduceIte, Bool.not_true, eq_self]
  · have hq := of_decide_eq_true hc; rw [leftI_lt] at hq
    exact fin_eq rfl (by rw [leftI_neg (by unfold GDebugger.sz; omega)])
  have hq := of_decide_eq_false hc; rw [leftI_lt] at hq; rw [leftI_pos (by omega)]; clear hc
  refine call_pure (c338 _ hb.2.2.1 _ (by omega)) ?_
  simp only [go_sem, Nat.reduceEqDiff, reduceIte, eq_self]
  refine cnd_split ?_ ?_ <;> intro hc <;> simp only [hc, go_sem, Nat.reduceEqDiff, reduceIte, Bool.not_true, eq_self]
  · have hq := of_decide_eq_true hc; rw [leftI_lt] at hq
    exact fin_eq rfl (by rw [leftI_neg (by unfold GDebugger.sz; omega)])
  have hq := of_decide_eq_false hc; rw [leftI_lt] at hq; rw [leftI_pos (by omega)]; clear hc
  refine call_pure (c182 _ hb.2.2.2.1 _ (by omega)) ?_
  simp only [go_sem, Nat.reduceEqDiff, reduceIte, eq_self]
  refine cnd_split ?_ ?_ <;> intro hc <;> simp only [hc, go_sem, Nat.reduceEqDiff, reduceIte, Bool.not_true, eq_self]
  · have hq := of_decide_eq_true hc; rw [leftI_lt] at hq
    exact fin_eq rfl (by rw [leftI_neg (by unfold GDebugger.sz; omega)])
  have hq := of_decide_eq_false hc; rw [leftI_lt] at hq; rw [leftI_pos (by omega)]; clear hc
  refine call_pure (c364 _ hb.2.2.2.2.1 _ (by omega)) ?_
  simp only [go_sem, Nat.reduceEqDiff, reduceIte, eq_self]
  refine cnd_split ?_ ?_ <;> intro hc <;> simp only [hc, go_sem, Nat.reduceEqDiff, reduceIte, Bool.not_true, eq_self]
  · have hq := of_decide_eq_true hc; rw [leftI_lt] at hq
    exact fin_eq rfl (by rw [leftI_neg (by unfold GDebugger.sz; omega)])
  have hq := of_decide_eq_false hc; rw [leftI_lt] at hq; rw [leftI_pos (by omega)]; clear hc
  refine call_pure (c365 _ hb.2.2.2.2.2.1 _ (by omega)) ?_
  simp only [go_sem, Nat.reduceEqDiff, reduceIte, eq_self]
  refine cnd_split ?_ ?_ <;> intro hc <;> simp only [hc, go_sem, Nat.reduceEqDiff, reduceIte, Bool.not_true, eq_self]
  · have hq := of_decide_eq_true hc; rw [leftI_lt] at hq
    exact fin_eq rfl (by rw [leftI_neg (by unfold GDebugger.sz; omega)])
  have hq := of_decide_eq_false hc; rw [leftI_lt] at hq; rw [leftI_pos (by omega)]; clear hc
  refine call_pure (c366 _ ⟨hb.2.2.2.2.2.2.1, hb.2.2.2.2.2.2.2⟩ _ (by omega)) ?_
  simp only [go_sem, Nat.reduceEqDiff, reduceIte, eq_self]
  refine cnd_split ?_ ?_ <;> intro hc <;> simp only [hc, go_sem, Nat.reduceEqDiff, reduceIte, eq_self]
  · have hq := of_decide_eq_true hc; rw [leftI_lt] at hq
    exact fin_eq rfl (by rw [leftI_neg (by unfold GDebugger.sz; omega)])
  have hq := of_decide_eq_false hc; rw [leftI_lt] at hq; rw [leftI_pos (by omega)]; clear hc
  exact fin_eq rfl (by rw [leftI_pos (by unfold GDebugger.sz; omega)]; unfold GDebugger.sz; first | rfl | (congr 2; omega))
theorem c147 (xs : List Int) (hl : xs.length ≤ 1048576) : Pure Gm 147 [.lst 1 (xs.map encI) false] (.lst 1 (xs.map encI) false) := toS0_ok g147 xs hl
theorem c1419 (x : GPort) : Pure Gm 1419 [x.enc] x.enc := by
  refine Pure.intro [] [] g1419 (by kernel_rfl) rfl (by simp [AV.trees, GPort.tr]) GPort.tr ?_
  simp only [F1419, vparams, go_sem, reduceIte, eq_self]
  refine lbox_ok rfl ?_
  simp only [go_sem, Nat.reduceEqDiff, reduceIte, eq_self]
  refine lst_all rfl rfl ⟨_, rfl⟩ (by decide) ?_
  simp only [go_sem, Nat.reduceEqDiff, reduceIte, eq_self]
  exact fin_eq GPort.tr rfl
theorem c1178 (xs : List GPort) (hl : xs.length ≤ 1048576) : Pure Gm 1178 [.lst 2 (xs.map GPort.enc) false] (.lst 2 (xs.map GPort.enc) false) :=
  toS_ok GPort.isSh rfl rfl (by simp) g1178 xs (fun x hm => c1419 x) (by omega)
theorem c858 (x : GAgent) (hz : x.sz ≤ 1048576) : Pure Gm 858 [x.enc] x.enc := by
  refine Pure.intro [] [] g858 (by kernel_rfl) rfl (by simp [AV.trees, GAgent.tr]) GAgent.tr ?_
  simp only [F858, vparams, go_sem, reduceIte, eq_self]
  refine lbox_ok rfl ?_
  simp only [go_sem, Nat.reduceEqDiff, reduceIte, Bool.not_true, eq_self]
  unfold GAgent.sz at hz
  refine call_pure (c147 _ (by omega)) ?_
  simp only [go_sem, Nat.reduceEqDiff, reduceIte, Bool.not_true, eq_self]
  refine call_pure (c1178 _ (by omega)) ?_
  simp only [go_sem, Nat.reduceEqDiff, reduceIte, eq_self]
  refine lst_all rfl rfl ⟨_, rfl⟩ (by decide) ?_
  simp only [go_sem, Nat.reduceEqDiff, reduceIte, eq_self]
  exact fin_eq GAgent.tr rfl
theorem c504 (xs : List GAgent) (hl : xs.length + sumN GAgent.sz xs ≤ 1048576) : Pure Gm 504 [.lst 5 (xs.map GAgent.enc) false] (.lst 5 (xs.map GAgent.enc) false) :=
  toS_ok GAgent.isSh rfl rfl (by simp) g504 xs (fun x hm => c858 x (by have := le_sumN (f := GAgent.sz) hm; omega)) (by omega)
theorem c185 (x : GNet) (hz : x.sz ≤ 1048576) : Pure Gm 185 [x.enc] x.enc := by
  refine Pure.intro [] [] g185 (by kernel_rfl) rfl (by simp [AV.trees, GNet.tr]) GNet.tr ?_
  simp only [F185, vparams, go_sem, reduceIte, eq_self]
  refine lbox_ok rfl ?_
  simp only [go_sem, Nat.reduceEqDiff, reduceIte, Bool.not_true, eq_self]
  unfold GNet.sz at hz
  refine call_pure (c504 _ (by omega)) ?_
  simp only [go_sem, Nat.reduceEqDiff, reduceIte, eq_self]
  exact fin_eq GNet.tr rfl
theorem c184 (xs : List GNet) (hl : xs.length + sumN GNet.sz xs ≤ 1048576) : Pure Gm 184 [.lst 1 (xs.map GNet.enc) false] (.lst 1 (xs.map GNet.enc) false) :=
  toS_ok GNet.isSh rfl rfl (by simp) g184 xs (fun x hm => c185 x (by have := le_sumN (f := GNet.sz) hm; omega)) (by omega)
theorem c745 (x : GOrigin) : Pure Gm 745 [x.enc] x.enc := by
  refine Pure.intro [] [] g745 (by kernel_rfl) rfl (by simp [AV.trees, GOrigin.tr]) GOrigin.tr ?_
  simp only [F745, vparams, go_sem, reduceIte, eq_self]
  refine lbox_ok rfl ?_
  simp only [go_sem, Nat.reduceEqDiff, reduceIte, eq_self]
  refine lst_all rfl rfl ⟨_, rfl⟩ (by decide) ?_
  simp only [go_sem, Nat.reduceEqDiff, reduceIte, eq_self]
  exact fin_eq GOrigin.tr rfl
theorem c370 (xs : List GOrigin) (hl : xs.length ≤ 1048576) : Pure Gm 370 [.lst 3 (xs.map GOrigin.enc) false] (.lst 3 (xs.map GOrigin.enc) false) :=
  toS_ok GOrigin.isSh rfl rfl (by simp) g370 xs (fun x hm => c745 x) (by omega)
theorem c134 (x : GBreak) : Pure Gm 134 [x.enc] x.enc := by
  refine Pure.intro [] [] g134 (by kernel_rfl) rfl (by simp [AV.trees, GBreak.tr]) GBreak.tr ?_
  simp only [F134, vparams, go_sem, reduceIte, eq_self]
  refine lbox_ok rfl ?_
  simp only [go_sem, Nat.reduceEqDiff, reduceIte, eq_self]
  refine lst_all rfl rfl ⟨_, rfl⟩ (by decide) ?_
  simp only [go_sem, Nat.reduceEqDiff, reduceIte, eq_self]
  exact fin_eq GBreak.tr rfl
theorem c371 (xs : List GBreak) (hl : xs.length ≤ 1048576) : Pure Gm 371 [.lst 2 (xs.map GBreak.enc) false] (.lst 2 (xs.map GBreak.enc) false) :=
  toS_ok GBreak.isSh rfl rfl (by simp) g371 xs (fun x hm => c134 x) (by omega)
theorem c746 (x : GCheckpoint) (hz : x.sz ≤ 1048576) : Pure Gm 746 [x.enc] x.enc := by
  refine Pure.intro [] [] g746 (by kernel_rfl) rfl (by simp [AV.trees, GCheckpoint.tr]) GCheckpoint.tr ?_
  simp only [F746, vparams, go_sem, reduceIte, eq_self]
  refine lbox_ok rfl ?_
  simp only [go_sem, Nat.reduceEqDiff, reduceIte, Bool.not_true, eq_self]
  unfold GCheckpoint.sz at hz
  refine call_pure (c185 _ (by omega)) ?_
  simp only [go_sem, Nat.reduceEqDiff, reduceIte, Bool.not_true, eq_self]
  refine call_pure (c370 _ (by omega)) ?_
  simp only [go_sem, Nat.reduceEqDiff, reduceIte, eq_self]
  refine lst_all rfl rfl ⟨_, rfl⟩ (by decide) ?_
  simp only [go_sem, Nat.reduceEqDiff, reduceIte, eq_self]
  exact fin_eq GCheckpoint.tr rfl
theorem c372 (xs : List GCheckpoint) (hl : xs.length + sumN GCheckpoint.sz xs ≤ 1048576) : Pure Gm 372 [.lst 3 (xs.map GCheckpoint.enc) false] (.lst 3 (xs.map GCheckpoint.enc) false) :=
  toS_ok GCheckpoint.isSh rfl rfl (by simp) g372 xs (fun x hm => c746 x (by have := le_sumN (f := GCheckpoint.sz) hm; omega)) (by omega)
theorem c106 (x : GDebugger) (hz : x.sz ≤ 1048576) : Pure Gm 106 [x.enc] x.enc := by
  refine Pure.intro [] [] g106 (by kernel_rfl) rfl (by simp [AV.trees, GDebugger.tr]) GDebugger.tr ?_
  simp only [F106, vparams, go_sem, reduceIte, eq_self]
  refine lbox_ok rfl ?_
  simp only [go_sem, Nat.reduceEqDiff, reduceIte, Bool.not_true, eq_self]
  unfold GDebugger.sz at hz
  refine call_pure (c184 _ (by omega)) ?_
  simp only [go_sem, Nat.reduceEqDiff, reduceIte, Bool.not_true, eq_self]
  refine call_pure (c147 _ (by omega)) ?_
  simp only [go_sem, Nat.reduceEqDiff, reduceIte, Bool.not_true, eq_self]
  refine call_pure (c185 _ (by omega)) ?_
  simp only [go_sem, Nat.reduceEqDiff, reduceIte, Bool.not_true, eq_self]
  refine call_pure (c370 _ (by omega)) ?_
  simp only [go_sem, Nat.reduceEqDiff, reduceIte, Bool.not_true, eq_self]
  refine call_pure (c371 _ (by omega)) ?_
  simp only [go_sem, Nat.reduceEqDiff, reduceIte, Bool.not_true, eq_self]
  refine call_pure (c372 _ (by omega)) ?_
  simp only [go_sem, Nat.reduceEqDiff, reduceIte, eq_self]
  refine lst_all rfl rfl ⟨_, rfl⟩ (by decide) ?_
  simp only [go_sem, Nat.reduceEqDiff, reduceIte, eq_self]
  exact fin_eq GDebugger.tr rfl
theorem c86 (xs : List Int) (hl : xs.length ≤ 2097152) : Pure Gm 86 [.lst 1 (xs.map encI) false, .lst 1 (xs.map encI) false] (.bool true) := eqS0_ok g86 xs hl
theorem c1422 (x : GPort) : Pure Gm 1422 [x.enc, x.enc] (.bool true) := by
  refine Pure.intro [] [] g1422 (by kernel_rfl) rfl (by simp [AV.trees, GPort.tr]) rfl ?_
  simp only [F1422, vparams, go_sem, Nat.reduceEqDiff, reduceIte, Nat.reduceAdd, eq_self]
  refine lbox_ok rfl ?_
  simp only [go_sem, Nat.reduceEqDiff, reduceIte, eq_self]
  refine lbox_ok rfl ?_
  simp only [go_sem, Nat.reduceEqDiff, reduceIte, Bool.not_true, decide_true, eq_self]
  exact fin_eq rfl rfl
theorem c1184 (xs : List GPort) (hl : xs.length ≤ 2097152) : Pure Gm 1184 [.lst 2 (xs.map GPort.enc) false, .lst 2 (xs.map GPort.enc) false] (.bool true) :=
  eqS_ok GPort.isSh g1184 xs (fun x hm => c1422 x) (by omega)
theorem c870 (x : GAgent) (hz : x.sz ≤ 2097152) : Pure Gm 870 [x.enc, x.enc] (.bool true) := by
  refine Pure.intro [] [] g870 (by kernel_rfl) rfl (by simp [AV.trees, GAgent.tr]) rfl ?_
  simp only [F870, vparams, go_sem, Nat.reduceEqDiff, reduceIte, Nat.reduceAdd, eq_self]
  refine lbox_ok rfl ?_
  simp only [go_sem, Nat.reduceEqDiff, reduceIte, eq_self]
  refine lbox_ok rfl ?_
  simp only [go_sem, Nat.reduceEqDiff, reduceIte, Bool.not_true, decide_true, eq_self]
  unfold GAgent.sz at hz
  refine call_pure (c86 _ (by omega)) ?_
  simp only [go_sem, Nat.reduceEqDiff, reduceIte, Bool.not_true, eq_self]
  refine call_pure (c1184 _ (by omega)) ?_
  simp only [go_sem, Nat.reduceEqDiff, reduceIte, Bool.not_true, eq_self]
  exact fin_eq rfl rfl
theorem c508 (xs : List GAgent) (hl : xs.length + sumN GAgent.sz xs ≤ 2097152) : Pure Gm 508 [.lst 5 (xs.map GAgent.enc) false, .lst 5 (xs.map GAgent.enc) false] (.bool true) :=
  eqS_ok GAgent.isSh g508 xs (fun x hm => c870 x (by have := le_sumN (f := GAgent.sz) hm; omega)) (by omega)
theorem c188 (x : GNet) (hz : x.sz ≤ 2097152) : Pure Gm 188 [x.enc, x.enc] (.bool true) := by
  refine Pure.intro [] [] g188 (by kernel_rfl) rfl (by simp [AV.trees, GNet.tr]) rfl ?_
  simp only [F188, vparams, go_sem, Nat.reduceEqDiff, reduceIte, Nat.reduceAdd, eq_self]
  refine lbox_ok rfl ?_
  simp only [go_sem, Nat.reduceEqDiff, reduceIte, eq_self]
  refine lbox_ok rfl ?_
  simp only [go_sem, Nat.reduceEqDiff, reduceIte, Bool.not_true, eq_self]
  unfold GNet.sz at hz
  refine call_pure (c508 _ (by omega)) ?_
  simp only [go_sem, Nat.reduceEqDiff, reduceIte, Bool.not_true, eq_self]
  exact fin_eq rfl rfl
theorem c187 (xs : List GNet) (hl : xs.length + sumN GNet.sz xs ≤ 2097152) : Pure Gm 187 [.lst 1 (xs.map GNet.enc) false, .lst 1 (xs.map GNet.enc) false] (.bool true) :=
  eqS_ok GNet.isSh g187 xs (fun x hm => c188 x (by have := le_sumN (f := GNet.sz) hm; omega)) (by omega)
theorem c752 (x : GOrigin) : Pure Gm 752 [x.enc, x.enc] (.bool true) := by
  refine Pure.intro [] [] g752 (by kernel_rfl) rfl (by simp [AV.trees, GOrigin.tr]) rfl ?_
  simp only [F752, vparams, go_sem, Nat.reduceEqDiff, reduceIte, Nat.reduceAdd, eq_self]
  refine lbox_ok rfl ?_
  simp only [go_sem, Nat.reduceEqDiff, reduceIte, eq_self]
  refine lbox_ok rfl ?_
  simp only [go_sem, Nat.reduceEqDiff, reduceIte, Bool.not_true, decide_true, eq_self]
  exact fin_eq rfl rfl
theorem c377 (xs : List GOrigin) (hl : xs.length ≤ 2097152) : Pure Gm 377 [.lst 3 (xs.map GOrigin.enc) false, .lst 3 (xs.map GOrigin.enc) false] (.bool true) :=
  eqS_ok GOrigin.isSh g377 xs (fun x hm => c752 x) (by omega)
theorem c753 (x : GBreak) : Pure Gm 753 [x.enc, x.enc] (.bool true) := by
  refine Pure.intro [] [] g753 (by kernel_rfl) rfl (by simp [AV.trees, GBreak.tr]) rfl ?_
  simp only [F753, vparams, go_sem, Nat.reduceEqDiff, reduceIte, Nat.reduceAdd, eq_self]
  refine lbox_ok rfl ?_
  simp only [go_sem, Nat.reduceEqDiff, reduceIte, eq_self]
  refine lbox_ok rfl ?_
  simp only [go_sem, Nat.reduceEqDiff, reduceIte, Bool.not_true, decide_true, eq_self]
  exact fin_eq rfl rfl
theorem c378 (xs : List GBreak) (hl : xs.length ≤ 2097152) : Pure Gm 378 [.lst 2 (xs.map GBreak.enc) false, .lst 2 (xs.map GBreak.enc) false] (.bool true) :=
  eqS_ok GBreak.isSh g378 xs (fun x hm => c753 x) (by omega)
theorem c754 (x : GCheckpoint) (hz : x.sz ≤ 2097152) : Pure Gm 754 [x.enc, x.enc] (.bool true) := by
  refine Pure.intro [] [] g754 (by kernel_rfl) rfl (by simp [AV.trees, GCheckpoint.tr]) rfl ?_
  simp only [F754, vparams, go_sem, Nat.reduceEqDiff, reduceIte, Nat.reduceAdd, eq_self]
  refine lbox_ok rfl ?_
  simp only [go_sem, Nat.reduceEqDiff, reduceIte, eq_self]
  refine lbox_ok rfl ?_
  simp only [go_sem, Nat.reduceEqDiff, reduceIte, Bool.not_true, decide_true, eq_self]
  unfold GCheckpoint.sz at hz
  refine call_pure (c188 _ (by omega)) ?_
  simp only [go_sem, Nat.reduceEqDiff, reduceIte, Bool.not_true, eq_self]
  refine call_pure (c377 _ (by omega)) ?_
  simp only [go_sem, Nat.reduceEqDiff, reduceIte, Bool.not_true, eq_self]
  exact fin_eq rfl rfl
theorem c379 (xs : List GCheckpoint) (hl : xs.length + sumN GCheckpoint.sz xs ≤ 2097152) : Pure Gm 379 [.lst 3 (xs.map GCheckpoint.enc) false, .lst 3 (xs.map GCheckpoint.enc) false] (.bool true) :=
  eqS_ok GCheckpoint.isSh g379 xs (fun x hm => c754 x (by have := le_sumN (f := GCheckpoint.sz) hm; omega)) (by omega)
theorem c108 (x : GDebugger) (hz : x.sz ≤ 2097152) : Pure Gm 108 [x.enc, x.enc] (.bool true) := by
  refine Pure.intro [] [] g108 (by kernel_rfl) rfl (by simp [AV.trees, GDebugger.tr]) rfl ?_
  simp only [F108, vparams, go_sem, Nat.reduceEqDiff, reduceIte, Nat.reduceAdd, eq_self]
  refine lbox_ok rfl ?_
  simp only [go_sem, Nat.reduceEqDiff, reduceIte, eq_self]
  refine lbox_ok rfl ?_
  simp only [go_sem, Nat.reduceEqDiff, reduceIte, Bool.not_true, eq_self]
  unfold GDebugger.sz at hz
  refine call_pure (c187 _ (by omega)) ?_
  simp only [go_sem, Nat.reduceEqDiff, reduceIte, Bool.not_true, eq_self]
  refine call_pure (c86 _ (by omega)) ?_
  simp only [go_sem, Nat.reduceEqDiff, reduceIte, Bool.not_true, decide_true, eq_self]
  refine call_pure (c188 _ (by omega)) ?_
  simp only [go_sem, Nat.reduceEqDiff, reduceIte, Bool.not_true, eq_self]
  refine call_pure (c377 _ (by omega)) ?_
  simp only [go_sem, Nat.reduceEqDiff, reduceIte, Bool.not_true, eq_self]
  refine call_pure (c378 _ (by omega)) ?_
  simp only [go_sem, Nat.reduceEqDiff, reduceIte, Bool.not_true, eq_self]
  refine call_pure (c379 _ (by omega)) ?_
  simp only [go_sem, Nat.reduceEqDiff, reduceIte, Bool.not_true, eq_self]
  exact fin_eq rfl rfl
end Go.Ab
namespace Go.Ab
open Go
set_option maxRecDepth 10000
set_option maxHeartbeats 2000000
theorem bsl_one {E : Ev} {d : Option Nat} {w : Nat} {z v : AV} {x : Ao} {l : List AOper} {ks : List Fr1} {s m : LEnv} {h : List AObj} {Q : AExit → VSt → Prop} (hx : ev (toE s) x = some v) (hl : v.cells.length = w)
    (hr : New1 E d (.row w [v] true) (.slice w h.length 0 1 false) l ks ⟨s, m, h⟩ Q) : Bsl E d w 1 (fillAV (toE s) w (List.replicate 1 z) [(0, x)]) l ks ⟨s, m, h⟩ Q := by
  have e : fillAV (toE s) w (List.replicate 1 z) [(0, x)] = some [v] := by simp [fillAV, hx, hl, List.replicate]
  rw [e, bsl_s]; exact hr
end Go.Ab
namespace Go.Ab
open Go
set_option maxRecDepth 10000
set_option maxHeartbeats 2000000
end Go.Ab
