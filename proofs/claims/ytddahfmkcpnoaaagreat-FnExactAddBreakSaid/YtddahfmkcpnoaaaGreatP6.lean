/- Texts Dbg0 .. Dbg0: the abstract machine, its laws and contracts of functions: lemmas for the statement. No condition. -/
import Derived.Test.YtddahfmkcpnoaaaGreatP4
namespace Go.Ab
open Go
structure GPort where
  Agent : Int
  Slot : Int
deriving DecidableEq
def GPort.enc (x : GPort) : AV := .agg [.int .i64 x.Agent, .int .i64 x.Slot]
theorem GPort.isSh : Sh GPort.enc 2 (some 2) := ⟨fun x => by simp [GPort.enc, AV.tree, AV.trees], fun _ => rfl, fun _ => rfl, by decide, fun x => by simp [GPort.enc]⟩
section
variable {x : GPort}
@[go_sem] theorem GPort.tr : x.enc.tree = true := GPort.isSh.tree x
@[go_sem] theorem GPort.ln : x.enc.cells.length = 2 := nr rfl
@[go_sem] theorem GPort.all : x.enc.part 0 (some 2) = some x.enc := nr rfl
@[go_sem] theorem GPort.cs : x.enc.cells = [.int .i64 x.Agent, .int .i64 x.Slot] := nr rfl
@[go_sem] theorem GPort.p0 : x.enc.part 0 none = some (.int .i64 x.Agent) := nr rfl
@[go_sem] theorem GPort.p1 : x.enc.part 1 none = some (.int .i64 x.Slot) := nr rfl
@[go_sem] theorem GPort.eqf {y : GPort} : seq2 false [1, 1] (some x.enc) (some y.enc) = some (.bool (decide (x = y))) := by
  obtain ⟨a0, a1⟩ := x; obtain ⟨b0, b1⟩ := y
  simp only [seq2, GPort.enc, List.map_cons, List.map_nil, dig, and_self, if_true, cellsEq, sclEq, GPort.mk.injEq]
  repeat' (split <;> simp_all)
@[go_sem] theorem GPort.eqt {y : GPort} : seq2 true [1, 1] (some x.enc) (some y.enc) = some (.bool (!decide (x = y))) := by
  have h := GPort.eqf (x := x) (y := y)
  unfold seq2 at h ⊢
  split <;> simp_all
end
structure GAgent where
  Kind : Int
  Level : Int
  Value : Int
  Data : List Int
  Ports : List GPort
def GAgent.enc (x : GAgent) : AV := .agg [.int .i64 x.Kind, .int .i64 x.Level, .int .i64 x.Value, .lst 1 (x.Data.map encI) false, .lst 2 (x.Ports.map GPort.enc) false]
theorem GAgent.isSh : Sh GAgent.enc 5 (some 5) := ⟨fun x => by simp [GAgent.enc, AV.tree, AV.trees, trees_map GPort.isSh.tree, trees_map shI.tree], fun _ => rfl, fun _ => rfl, by decide, fun x => by simp [GAgent.enc]⟩
section
variable {x : GAgent}
@[go_sem] theorem GAgent.tr : x.enc.tree = true := GAgent.isSh.tree x
@[go_sem] theorem GAgent.ln : x.enc.cells.length = 5 := nr rfl
@[go_sem] theorem GAgent.all : x.enc.part 0 (some 5) = some x.enc := nr rfl
@[go_sem] theorem GAgent.cs : x.enc.cells = [.int .i64 x.Kind, .int .i64 x.Level, .int .i64 x.Value, .lst 1 (x.Data.map encI) false, .lst 2 (x.Ports.map GPort.enc) false] := nr rfl
@[go_sem] theorem GAgent.p0 : x.enc.part 0 none = some (.int .i64 x.Kind) := nr rfl
@[go_sem] theorem GAgent.p1 : x.enc.part 1 none = some (.int .i64 x.Level) := nr rfl
@[go_sem] theorem GAgent.p2 : x.enc.part 2 none = some (.int .i64 x.Value) := nr rfl
@[go_sem] theorem GAgent.p3 : x.enc.part 3 none = some (.lst 1 (x.Data.map encI) false) := nr rfl
@[go_sem] theorem GAgent.p4 : x.enc.part 4 none = some (.lst 2 (x.Ports.map GPort.enc) false) := nr rfl
end
def GAgent.sz (x : GAgent) : Nat := x.Data.length + x.Ports.length
def GAgent.bd (x : GAgent) : Prop := x.Data.length ≤ 140737488355328 ∧ x.Ports.length ≤ 140737488355328
structure GNet where
  Agents : List GAgent
def GNet.enc (x : GNet) : AV := .agg [.lst 5 (x.Agents.map GAgent.enc) false]
theorem GNet.isSh : Sh GNet.enc 1 (some 1) := ⟨fun x => by simp [GNet.enc, AV.tree, AV.trees, trees_map GAgent.isSh.tree], fun _ => rfl, fun _ => rfl, by decide, fun x => by simp [GNet.enc]⟩
section
variable {x : GNet}
@[go_sem] theorem GNet.tr : x.enc.tree = true := GNet.isSh.tree x
@[go_sem] theorem GNet.ln : x.enc.cells.length = 1 := nr rfl
@[go_sem] theorem GNet.all : x.enc.part 0 (some 1) = some x.enc := nr rfl
@[go_sem] theorem GNet.cs : x.enc.cells = [.lst 5 (x.Agents.map GAgent.enc) false] := nr rfl
@[go_sem] theorem GNet.p0 : x.enc.part 0 none = some (.lst 5 (x.Agents.map GAgent.enc) false) := nr rfl
@[go_sem] theorem GNet.lst1 {E : Ev} {t off : Nat} {cs : List AV} {l : List AOper} {ks : List Fr1} {s m : LEnv} {h : List AObj} {Q : AExit → VSt → Prop} : Lst E t off 1 (some (.agg cs)) (some x.enc) l ks ⟨s, m, h⟩ Q = LstP E t (setc cs off (.lst 5 (x.Agents.map GAgent.enc) false)) l ks ⟨s, m, h⟩ Q := lst_one rfl
end
def GNet.sz (x : GNet) : Nat := (x.Agents.length + sumN GAgent.sz x.Agents)
def GNet.bd (x : GNet) : Prop := x.Agents.length ≤ 140737488355328 ∧ (∀ y ∈ x.Agents, GAgent.bd y)
structure GOrigin where
  Step : Int
  Def : Int
  Source : Int
deriving DecidableEq
def GOrigin.enc (x : GOrigin) : AV := .agg [.int .i64 x.Step, .int .i64 x.Def, .int .i64 x.Source]
theorem GOrigin.isSh : Sh GOrigin.enc 3 (some 3) := ⟨fun x => by simp [GOrigin.enc, AV.tree, AV.trees], fun _ => rfl, fun _ => rfl, by decide, fun x => by simp [GOrigin.enc]⟩
section
variable {x : GOrigin}
@[go_sem] theorem GOrigin.tr : x.enc.tree = true := GOrigin.isSh.tree x
@[go_sem] theorem GOrigin.ln : x.enc.cells.length = 3 := nr rfl
@[go_sem] theorem GOrigin.all : x.enc.part 0 (some 3) = some x.enc := nr rfl
@[go_sem] theorem GOrigin.cs : x.enc.cells = [.int .i64 x.Step, .int .i64 x.Def, .int .i64 x.Source] := nr rfl
@[go_sem] theorem GOrigin.p0 : x.enc.part 0 none = some (.int .i64 x.Step) := nr rfl
@[go_sem] theorem GOrigin.p1 : x.enc.part 1 none = some (.int .i64 x.Def) := nr rfl
@[go_sem] theorem GOrigin.p2 : x.enc.part 2 none = some (.int .i64 x.Source) := nr rfl
@[go_sem] theorem GOrigin.eqf {y : GOrigin} : seq2 false [1, 1, 1] (some x.enc) (some y.enc) = some (.bool (decide (x = y))) := by
  obtain ⟨a0, a1, a2⟩ := x; obtain ⟨b0, b1, b2⟩ := y
  simp only [seq2, GOrigin.enc, List.map_cons, List.map_nil, dig, and_self, if_true, cellsEq, sclEq, GOrigin.mk.injEq]
  repeat' (split <;> simp_all)
@[go_sem] theorem GOrigin.eqt {y : GOrigin} : seq2 true [1, 1, 1] (some x.enc) (some y.enc) = some (.bool (!decide (x = y))) := by
  have h := GOrigin.eqf (x := x) (y := y)
  unfold seq2 at h ⊢
  split <;> simp_all
end
structure GBreak where
  Kind : Int
  Value : Int
deriving DecidableEq
def GBreak.enc (x : GBreak) : AV := .agg [.int .i64 x.Kind, .int .i64 x.Value]
theorem GBreak.isSh : Sh GBreak.enc 2 (some 2) := ⟨fun x => by simp [GBreak.enc, AV.tree, AV.trees], fun _ => rfl, fun _ => rfl, by decide, fun x => by simp [GBreak.enc]⟩
section
variable {x : GBreak}
@[go_sem] theorem GBreak.tr : x.enc.tree = true := GBreak.isSh.tree x
@[go_sem] theorem GBreak.ln : x.enc.cells.length = 2 := nr rfl
@[go_sem] theorem GBreak.all : x.enc.part 0 (some 2) = some x.enc := nr rfl
@[go_sem] theorem GBreak.cs : x.enc.cells = [.int .i64 x.Kind, .int .i64 x.Value] := nr rfl
@[go_sem] theorem GBreak.p0 : x.enc.part 0 none = some (.int .i64 x.Kind) := nr rfl
@[go_sem] theorem GBreak.p1 : x.enc.part 1 none = some (.int .i64 x.Value) := nr rfl
@[go_sem] theorem GBreak.eqf {y : GBreak} : seq2 false [1, 1] (some x.enc) (some y.enc) = some (.bool (decide (x = y))) := by
  obtain ⟨a0, a1⟩ := x; obtain ⟨b0, b1⟩ := y
  simp only [seq2, GBreak.enc, List.map_cons, List.map_nil, dig, and_self, if_true, cellsEq, sclEq, GBreak.mk.injEq]
  repeat' (split <;> simp_all)
@[go_sem] theorem GBreak.eqt {y : GBreak} : seq2 true [1, 1] (some x.enc) (some y.enc) = some (.bool (!decide (x = y))) := by
  have h := GBreak.eqf (x := x) (y := y)
  unfold seq2 at h ⊢
  split <;> simp_all
end
structure GCheckpoint where
  At : Int
  Net : GNet
  Origins : List GOrigin
def GCheckpoint.enc (x : GCheckpoint) : AV := .agg [.int .i64 x.At, .lst 5 (x.Net.Agents.map GAgent.enc) false, .lst 3 (x.Origins.map GOrigin.enc) false]
theorem GCheckpoint.isSh : Sh GCheckpoint.enc 3 (some 3) := ⟨fun x => by simp [GCheckpoint.enc, AV.tree, AV.trees, trees_map GAgent.isSh.tree, trees_map GOrigin.isSh.tree], fun _ => rfl, fun _ => rfl, by decide, fun x => by simp [GCheckpoint.enc]⟩
section
variable {x : GCheckpoint}
@[go_sem] theorem GCheckpoint.tr : x.enc.tree = true := GCheckpoint.isSh.tree x
@[go_sem] theorem GCheckpoint.ln : x.enc.cells.length = 3 := nr rfl
@[go_sem] theorem GCheckpoint.all : x.enc.part 0 (some 3) = some x.enc := nr rfl
@[go_sem] theorem GCheckpoint.cs : x.enc.cells = [.int .i64 x.At, .lst 5 (x.Net.Agents.map GAgent.enc) false, .lst 3 (x.Origins.map GOrigin.enc) false] := nr rfl
@[go_sem] theorem GCheckpoint.p0 : x.enc.part 0 none = some (.int .i64 x.At) := nr rfl
@[go_sem] theorem GCheckpoint.p1 : x.enc.part 1 none = some (.lst 5 (x.Net.Agents.map GAgent.enc) false) := nr rfl
@[go_sem] theorem GCheckpoint.p2 : x.enc.part 2 none = some (.lst 3 (x.Origins.map GOrigin.enc) false) := nr rfl
@[go_sem] theorem GCheckpoint.q1_1 : x.enc.part 1 (some 1) = some (GNet.enc x.Net) := nr rfl
end
def GCheckpoint.sz (x : GCheckpoint) : Nat := GNet.sz x.Net + x.Origins.length
def GCheckpoint.bd (x : GCheckpoint) : Prop := GNet.bd x.Net ∧ x.Origins.length ≤ 140737488355328
structure GDebugger where
  Book : List GNet
  Schedule : List Int
  Every : Int
  At : Int
  Net : GNet
  Origins : List GOrigin
  Breaks : List GBreak
  Points : List GCheckpoint
def GDebugger.enc (x : GDebugger) : AV := .agg [.lst 1 (x.Book.map GNet.enc) false, .lst 1 (x.Schedule.map encI) false, .int .i64 x.Every, .int .i64 x.At, .lst 5 (x.Net.Agents.map GAgent.enc) false, .lst 3 (x.Origins.map GOrigin.enc) false, .lst 2 (x.Breaks.map GBreak.enc) false, .lst 3 (x.Points.map GCheckpoint.enc) false]
theorem GDebugger.isSh : Sh GDebugger.enc 8 (some 8) := ⟨fun x => by simp [GDebugger.enc, AV.tree, AV.trees, trees_map GAgent.isSh.tree, trees_map GBreak.isSh.tree, trees_map GCheckpoint.isSh.tree, trees_map GNet.isSh.tree, trees_map GOrigin.isSh.tree, trees_map shI.tree], fun _ => rfl, fun _ => rfl, by decide, fun x => by simp [GDebugger.enc]⟩
section
variable {x : GDebugger}
@[go_sem] theorem GDebugger.tr : x.enc.tree = true := GDebugger.isSh.tree x
@[go_sem] theorem GDebugger.ln : x.enc.cells.length = 8 := nr rfl
@[go_sem] theorem GDebugger.all : x.enc.part 0 (some 8) = some x.enc := nr rfl
@[go_sem] theorem GDebugger.cs : x.enc.cells = [.lst 1 (x.Book.map GNet.enc) false, .lst 1 (x.Schedule.map encI) false, .int .i64 x.Every, .int .i64 x.At, .lst 5 (x.Net.Agents.map GAgent.enc) false, .lst 3 (x.Origins.map GOrigin.enc) false, .lst 2 (x.Breaks.map GBreak.enc) false, .lst 3 (x.Points.map GCheckpoint.enc) false] := nr rfl
@[go_sem] theorem GDebugger.p0 : x.enc.part 0 none = some (.lst 1 (x.Book.map GNet.enc) false) := nr rfl
@[go_sem] theorem GDebugger.p1 : x.enc.part 1 none = some (.lst 1 (x.Schedule.map encI) false) := nr rfl
@[go_sem] theorem GDebugger.p2 : x.enc.part 2 none = some (.int .i64 x.Every) := nr rfl
@[go_sem] theorem GDebugger.p3 : x.enc.part 3 none = some (.int .i64 x.At) := nr rfl
@[go_sem] theorem GDebugger.p4 : x.enc.part 4 none = some (.lst 5 (x.Net.Agents.map GAgent.enc) false) := nr rfl
@[go_sem] theorem GDebugger.p5 : x.enc.part 5 none = some (.lst 3 (x.Origins.map GOrigin.enc) false) := nr rfl
@[go_sem] theorem GDebugger.p6 : x.enc.part 6 none = some (.lst 2 (x.Breaks.map GBreak.enc) false) := nr rfl
@[go_sem] theorem GDebugger.p7 : x.enc.part 7 none = some (.lst 3 (x.Points.map GCheckpoint.enc) false) := nr rfl
@[go_sem] theorem GDebugger.q4_1 : x.enc.part 4 (some 1) = some (GNet.enc x.Net) := nr rfl
end
def GDebugger.sz (x : GDebugger) : Nat := (x.Book.length + sumN GNet.sz x.Book) + x.Schedule.length + GNet.sz x.Net + x.Origins.length + x.Breaks.length + (x.Points.length + sumN GCheckpoint.sz x.Points)
def GDebugger.bd (x : GDebugger) : Prop := x.Book.length ≤ 140737488355328 ∧ (∀ y ∈ x.Book, GNet.bd y) ∧ x.Schedule.length ≤ 140737488355328 ∧ GNet.bd x.Net ∧ x.Origins.length ≤ 140737488355328 ∧ x.Breaks.length ≤ 140737488355328 ∧ x.Points.length ≤ 140737488355328 ∧ (∀ y ∈ x.Points, GCheckpoint.bd y)
end Go.Ab
