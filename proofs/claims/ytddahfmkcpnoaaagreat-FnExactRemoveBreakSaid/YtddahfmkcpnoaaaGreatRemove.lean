/- For all arguments the law FnExactRemoveBreak returns true and leaves its arguments as they were. No condition.  -/
import Derived.Test.YtddahfmkcpnoaaaGreatRows
import Derived.Test.YtddahfmkcpnoaaaGreatFit
import Derived.KernelRfl
import Derived.Test.YtddahfmkcpnoaaaGreatP5
import Derived.Test.YtddahfmkcpnoaaaGreatP8
namespace Go.Proofs.YtddahfmkcpnoaaaGreat
open Go Go.Ab Go.Proofs
set_option maxRecDepth 100000

section
variable {H : Type} {enc : TypeId × Value → H} {W : World}
theorem Tryz.cells2 : Tryz.prog.cellsOf 2 = 1 := by kernel_rfl
theorem rd_int64 : Rd enc SS.N Tryz.prog W 2 (fun n : Int => .int .i64 n) (fun n => (Lit.int .i64 n).wf = true) := rd_int Tryz.underlying2
theorem Tryz.cells23 : Tryz.prog.cellsOf 23 = 1 := by kernel_rfl
theorem rd_S_int64 : Rd enc SS.N Tryz.prog W 23 (fun xs : List Int => .lst 1 (xs.map encI) false) (fun xs => xs.length ≤ 140737488355328 ∧ ∀ x ∈ xs, (fun n => (Lit.int .i64 n).wf = true) x) := rd_slice Tryz.underlying23 Tryz.cells2 (by decide) (fun _ => rfl) (of_decide_eq_true (by kernel_rfl)) rd_int64
theorem Tryz.cells188 : Tryz.prog.cellsOf 188 = 2 := by kernel_rfl
theorem rd_Port : Rd enc SS.N Tryz.prog W 188 GPort.enc (fun _ => True) := by
  intro fuel cs d h hw
  obtain ⟨hl, hf⟩ := rd_fields Tryz.underlying188 Tryz.cells188 h hw
  obtain ⟨x0, r0, b0⟩ := rd_field hf 0 0 1 rfl rfl rfl Tryz.cells2 rd_int64
  obtain ⟨x1, r1, b1⟩ := rd_field hf 1 1 1 rfl rfl rfl Tryz.cells2 rd_int64
  exact ⟨⟨x0, x1⟩, RdL.cat (o := 0) r0 (RdL.cat r1 (RdL.nil (by omega))), trivial⟩
theorem Tryz.cells153 : Tryz.prog.cellsOf 153 = 1 := by kernel_rfl
theorem rd_S_Port : Rd enc SS.N Tryz.prog W 153 (fun xs : List GPort => .lst 2 (xs.map GPort.enc) false) (fun xs => xs.length ≤ 140737488355328 ∧ ∀ x ∈ xs, (fun _ => True) x) := rd_slice Tryz.underlying153 Tryz.cells188 (by decide) (fun _ => rfl) (of_decide_eq_true (by kernel_rfl)) rd_Port
theorem Tryz.cells155 : Tryz.prog.cellsOf 155 = 5 := by kernel_rfl
theorem rd_Agent : Rd enc SS.N Tryz.prog W 155 GAgent.enc GAgent.bd := by
  intro fuel cs d h hw
  obtain ⟨hl, hf⟩ := rd_fields Tryz.underlying155 Tryz.cells155 h hw
  obtain ⟨x0, r0, b0⟩ := rd_field hf 0 0 1 rfl rfl rfl Tryz.cells2 rd_int64
  obtain ⟨x1, r1, b1⟩ := rd_field hf 1 1 1 rfl rfl rfl Tryz.cells2 rd_int64
  obtain ⟨x2, r2, b2⟩ := rd_field hf 2 2 1 rfl rfl rfl Tryz.cells2 rd_int64
  obtain ⟨x3, r3, b3⟩ := rd_field hf 3 3 1 rfl rfl rfl Tryz.cells23 rd_S_int64
  obtain ⟨x4, r4, b4⟩ := rd_field hf 4 4 1 rfl rfl rfl Tryz.cells153 rd_S_Port
  exact ⟨⟨x0, x1, x2, x3, x4⟩, RdL.cat (o := 0) r0 (RdL.cat r1 (RdL.cat r2 (RdL.cat r3 (RdL.cat r4 (RdL.nil (by omega)))))), ⟨b3.1, b4.1⟩⟩
theorem Tryz.cells24 : Tryz.prog.cellsOf 24 = 1 := by kernel_rfl
theorem rd_S_Agent : Rd enc SS.N Tryz.prog W 24 (fun xs : List GAgent => .lst 5 (xs.map GAgent.enc) false) (fun xs => xs.length ≤ 140737488355328 ∧ ∀ x ∈ xs, GAgent.bd x) := rd_slice Tryz.underlying24 Tryz.cells155 (by decide) (fun _ => rfl) (of_decide_eq_true (by kernel_rfl)) rd_Agent
theorem Tryz.cells26 : Tryz.prog.cellsOf 26 = 1 := by kernel_rfl
theorem rd_Net : Rd enc SS.N Tryz.prog W 26 GNet.enc GNet.bd := by
  intro fuel cs d h hw
  obtain ⟨hl, hf⟩ := rd_fields Tryz.underlying26 Tryz.cells26 h hw
  obtain ⟨x0, r0, b0⟩ := rd_field hf 0 0 1 rfl rfl rfl Tryz.cells24 rd_S_Agent
  exact ⟨⟨x0⟩, RdL.cat (o := 0) r0 (RdL.nil (by omega)), ⟨b0.1, b0.2⟩⟩
theorem Tryz.cells22 : Tryz.prog.cellsOf 22 = 1 := by kernel_rfl
theorem rd_S_Net : Rd enc SS.N Tryz.prog W 22 (fun xs : List GNet => .lst 1 (xs.map GNet.enc) false) (fun xs => xs.length ≤ 140737488355328 ∧ ∀ x ∈ xs, GNet.bd x) := rd_slice Tryz.underlying22 Tryz.cells26 (by decide) (fun _ => rfl) (of_decide_eq_true (by kernel_rfl)) rd_Net
theorem Tryz.cells129 : Tryz.prog.cellsOf 129 = 3 := by kernel_rfl
theorem rd_Origin : Rd enc SS.N Tryz.prog W 129 GOrigin.enc (fun _ => True) := by
  intro fuel cs d h hw
  obtain ⟨hl, hf⟩ := rd_fields Tryz.underlying129 Tryz.cells129 h hw
  obtain ⟨x0, r0, b0⟩ := rd_field hf 0 0 1 rfl rfl rfl Tryz.cells2 rd_int64
  obtain ⟨x1, r1, b1⟩ := rd_field hf 1 1 1 rfl rfl rfl Tryz.cells2 rd_int64
  obtain ⟨x2, r2, b2⟩ := rd_field hf 2 2 1 rfl rfl rfl Tryz.cells2 rd_int64
  exact ⟨⟨x0, x1, x2⟩, RdL.cat (o := 0) r0 (RdL.cat r1 (RdL.cat r2 (RdL.nil (by omega)))), trivial⟩
theorem Tryz.cells27 : Tryz.prog.cellsOf 27 = 1 := by kernel_rfl
theorem rd_S_Origin : Rd enc SS.N Tryz.prog W 27 (fun xs : List GOrigin => .lst 3 (xs.map GOrigin.enc) false) (fun xs => xs.length ≤ 140737488355328 ∧ ∀ x ∈ xs, (fun _ => True) x) := rd_slice Tryz.underlying27 Tryz.cells129 (by decide) (fun _ => rfl) (of_decide_eq_true (by kernel_rfl)) rd_Origin
theorem Tryz.cells50 : Tryz.prog.cellsOf 50 = 2 := by kernel_rfl
theorem rd_Break : Rd enc SS.N Tryz.prog W 50 GBreak.enc (fun _ => True) := by
  intro fuel cs d h hw
  obtain ⟨hl, hf⟩ := rd_fields Tryz.underlying50 Tryz.cells50 h hw
  obtain ⟨x0, r0, b0⟩ := rd_field hf 0 0 1 rfl rfl rfl Tryz.cells2 rd_int64
  obtain ⟨x1, r1, b1⟩ := rd_field hf 1 1 1 rfl rfl rfl Tryz.cells2 rd_int64
  exact ⟨⟨x0, x1⟩, RdL.cat (o := 0) r0 (RdL.cat r1 (RdL.nil (by omega))), trivial⟩
theorem Tryz.cells28 : Tryz.prog.cellsOf 28 = 1 := by kernel_rfl
theorem rd_S_Break : Rd enc SS.N Tryz.prog W 28 (fun xs : List GBreak => .lst 2 (xs.map GBreak.enc) false) (fun xs => xs.length ≤ 140737488355328 ∧ ∀ x ∈ xs, (fun _ => True) x) := rd_slice Tryz.underlying28 Tryz.cells50 (by decide) (fun _ => rfl) (of_decide_eq_true (by kernel_rfl)) rd_Break
theorem Tryz.cells110 : Tryz.prog.cellsOf 110 = 3 := by kernel_rfl
theorem rd_Checkpoint : Rd enc SS.N Tryz.prog W 110 GCheckpoint.enc GCheckpoint.bd := by
  intro fuel cs d h hw
  obtain ⟨hl, hf⟩ := rd_fields Tryz.underlying110 Tryz.cells110 h hw
  obtain ⟨x0, r0, b0⟩ := rd_field hf 0 0 1 rfl rfl rfl Tryz.cells2 rd_int64
  obtain ⟨x1, r1, b1⟩ := rd_field hf 1 1 1 rfl rfl rfl Tryz.cells26 rd_Net
  obtain ⟨x2, r2, b2⟩ := rd_field hf 2 2 1 rfl rfl rfl Tryz.cells27 rd_S_Origin
  exact ⟨⟨x0, x1, x2⟩, RdL.cat (o := 0) r0 (RdL.cat r1 (RdL.cat r2 (RdL.nil (by omega)))), ⟨b1, b2.1⟩⟩
theorem Tryz.cells29 : Tryz.prog.cellsOf 29 = 1 := by kernel_rfl
theorem rd_S_Checkpoint : Rd enc SS.N Tryz.prog W 29 (fun xs : List GCheckpoint => .lst 3 (xs.map GCheckpoint.enc) false) (fun xs => xs.length ≤ 140737488355328 ∧ ∀ x ∈ xs, GCheckpoint.bd x) := rd_slice Tryz.underlying29 Tryz.cells110 (by decide) (fun _ => rfl) (of_decide_eq_true (by kernel_rfl)) rd_Checkpoint
theorem Tryz.cells31 : Tryz.prog.cellsOf 31 = 8 := by kernel_rfl
theorem rd_Debugger : Rd enc SS.N Tryz.prog W 31 GDebugger.enc GDebugger.bd := by
  intro fuel cs d h hw
  obtain ⟨hl, hf⟩ := rd_fields Tryz.underlying31 Tryz.cells31 h hw
  obtain ⟨x0, r0, b0⟩ := rd_field hf 0 0 1 rfl rfl rfl Tryz.cells22 rd_S_Net
  obtain ⟨x1, r1, b1⟩ := rd_field hf 1 1 1 rfl rfl rfl Tryz.cells23 rd_S_int64
  obtain ⟨x2, r2, b2⟩ := rd_field hf 2 2 1 rfl rfl rfl Tryz.cells2 rd_int64
  obtain ⟨x3, r3, b3⟩ := rd_field hf 3 3 1 rfl rfl rfl Tryz.cells2 rd_int64
  obtain ⟨x4, r4, b4⟩ := rd_field hf 4 4 1 rfl rfl rfl Tryz.cells26 rd_Net
  obtain ⟨x5, r5, b5⟩ := rd_field hf 5 5 1 rfl rfl rfl Tryz.cells27 rd_S_Origin
  obtain ⟨x6, r6, b6⟩ := rd_field hf 6 6 1 rfl rfl rfl Tryz.cells28 rd_S_Break
  obtain ⟨x7, r7, b7⟩ := rd_field hf 7 7 1 rfl rfl rfl Tryz.cells29 rd_S_Checkpoint
  exact ⟨⟨x0, x1, x2, x3, x4, x5, x6, x7⟩, RdL.cat (o := 0) r0 (RdL.cat r1 (RdL.cat r2 (RdL.cat r3 (RdL.cat r4 (RdL.cat r5 (RdL.cat r6 (RdL.cat r7 (RdL.nil (by omega))))))))), ⟨b0.1, b0.2, b1.1, b4, b5.1, b6.1, b7.1, b7.2⟩⟩
end

theorem num_law : SS.N.f 13 = 6 := by kernel_rfl
theorem own_knob : ownKnob Tryz.prog.godebug = none := by kernel_rfl
theorem law_step (os : Os) (started : os.Started) (H : Type) (enc : TypeId × Value → H) : ReturnsInHanded {} Tryz.checked os 6 .any (Rows.fnExactRemoveBreakSpec.pre6 enc Tryz.prog Tryz.f6 [] false) (Rows.fnExactRemoveBreakSpec.post enc Tryz.prog Tryz.f6 false true false false) := by
  refine law_lifted (C := Tryz.checked) (tb := 4) started own_knob (by kernel_rfl) Tryz.func6
    (ChangeSpec.witness6 (enc := enc) (C := Tryz.checked) false ⟨#[], #[.agg #[.slice none 0 0, .slice none 0 0, .int .i64 0, .int .i64 0, .slice none 0 0, .slice none 0 0, .slice none 0 0, .slice none 0 0], .int .i64 0], []⟩ 8 (by kernel_rfl) (by kernel_rfl) (by kernel_rfl) (by kernel_rfl))
    (by kernel_rfl) (fun u hu => of_decide_eq_true (by revert u; exact by intro u hu; rw [Tryz.params6] at hu; simp at hu; first | (subst hu; kernel_rfl) | (rcases hu with rfl | rfl <;> kernel_rfl))) rfl rfl Tryz.underlying4 (fun ds hd => ?_) (fun W base args ds ps hval hA hwt => ?_)
  · rw [Tryz.params6] at hd
    match ds, hd with
    | [d0, d1], _ => exact ⟨rfl, rfl, rfl⟩
  · have hval : ∀ (j : Nat) t v, Tryz.f6.params[j]? = some t → args[j]? = some v → Value.okWide Tryz.prog W .any base t v := hval
    have hA : DataW.TrodAll enc Tryz.prog W 0 (fun _ => true) true Tryz.f6.params.toList args.toList ds ps := hA
    have hwt : ∀ n ∈ DataW.weightsEach Tryz.prog Tryz.f6.params.toList ds, n ≤ reachBytes := hwt
    rw [Tryz.params6] at hval hA hwt
    obtain ⟨v0, vs0, d0, ds0, p0, q0, hargs, rfl, rfl, h0, hA0⟩ := ChangeShapes.trodAll_cons hA
    obtain ⟨v1, vs1, d1, ds1, p1, q1, rfl, rfl, rfl, h1, hA1⟩ := ChangeShapes.trodAll_cons hA0
    obtain ⟨rfl, rfl, rfl⟩ := ChangeShapes.trodAll_nil hA1
    obtain rfl : args = #[v0, v1] := by cases args; simp_all
    obtain ⟨x0, r0, b0⟩ := arg_struct Tryz.underlying31 (fun _ => ⟨_, rfl⟩) rd_Debugger (hval 0 31 v0 rfl rfl) h0 (fun n hn => hwt n (by simp only [DataW.weightsEach, List.mem_append]; exact .inl hn))
    obtain ⟨x1, r1, b1⟩ := arg_int (N := SS.N) Tryz.underlying2 (hval 1 2 v1 rfl rfl) h1
    have key := law_calls (S := SS) (gok_of gm_look fitAll) (known_of gm_look fitAll) (fits_of gm_look fitAll) (c13 b0) (W := W) (vs := #[v0, v1]) (by simp only [VRs]; exact ⟨_, _, rfl, r0, ⟨_, _, rfl, r1, rfl⟩⟩)
    rw [SSP, num_law] at key
    exact key

theorem over : Rows.fnExactRemoveBreakRow.holds Tryz.pinned (OpenSpec.ofChange Rows.fnExactRemoveBreakSpec) :=
  OpenClaim.holds_of_wide 6 Tryz.f6 rfl rfl rfl rfl rfl rfl rfl ⟨rfl, rfl, rfl, rfl, rfl⟩ rfl rfl rfl rfl rfl (by kernel_rfl) Tryz.func6 (by kernel_rfl)
    (of_decide_eq_true (by kernel_rfl)) (by unfold Func.isWrapper; first | (rw [if_pos (by decide +kernel)]; kernel_rfl) | (rw [if_neg (by decide +kernel)]; exact ⟨rfl, rfl⟩))
    (fun os started H enc _ => law_step os started H enc)

theorem fnExactRemoveBreak_holds : Rows.FnExactRemoveBreakSaid := over
#print axioms fnExactRemoveBreak_holds
end Go.Proofs.YtddahfmkcpnoaaaGreat
