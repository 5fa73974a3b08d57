/- For all arguments the law FnExactStepNeed returns true and leaves its arguments as they were. No condition.  -/
import Derived.Test.YtoajhcbnlebbeaaGreatRows
import Derived.Test.YtoajhcbnlebbeaaGreatFit
import Derived.KernelRfl
import Derived.Test.YtoajhcbnlebbeaaGreatP6
import Derived.Test.YtoajhcbnlebbeaaGreatP9
namespace Go.Proofs.YtoajhcbnlebbeaaGreat
open Go Go.Ab Go.Proofs
set_option maxRecDepth 100000

section
variable {H : Type} {enc : TypeId × Value → H} {W : World}
theorem Tryz.cells2 : Tryz.prog.cellsOf 2 = 1 := by kernel_rfl
theorem WG : Rd enc SS.N Tryz.prog W 2 (fun n : Int => .int .i64 n) (fun n => (Lit.int .i64 n).wf = true) := qYJ Tryz.underlying2
theorem Tryz.cells25 : Tryz.prog.cellsOf 25 = 1 := by kernel_rfl
theorem qMH : Rd enc SS.N Tryz.prog W 25 (fun xs : List Int => .lst 1 (xs.map qD) false) (fun xs => xs.length ≤ 140737488355328 ∧ ∀ x ∈ xs, (fun n => (Lit.int .i64 n).wf = true) x) := UU Tryz.underlying25 Tryz.cells2 (by decide) (fun _ => rfl) (of_decide_eq_true (by kernel_rfl)) WG
theorem Tryz.cells27 : Tryz.prog.cellsOf 27 = 4 := by kernel_rfl
theorem Tryz.cells22 : Tryz.prog.cellsOf 22 = 1 := by kernel_rfl
theorem qYA : ∀ m, RdB enc SS.N Tryz.prog W m 27 qA.enc qA.bd := by
  intro m
  induction m with
  | zero => exact fun fuel h => absurd h (by omega)
  | succ m ih =>
  have kids := qQE Tryz.underlying22 Tryz.cells27 (by decide) (fun x => qA.ln (x := x)) (of_decide_eq_true (by kernel_rfl)) ih
  intro fuel hfu cs d h hw
  obtain ⟨hl, hf⟩ := qYI hfu Tryz.underlying27 Tryz.cells27 h hw
  obtain ⟨x0, r0, b0⟩ := UT hf 0 0 1 rfl rfl rfl Tryz.cells2 WG.up
  obtain ⟨x1, r1, b1⟩ := UT hf 1 1 1 rfl rfl rfl Tryz.cells2 WG.up
  obtain ⟨x2, r2, b2⟩ := UT hf 2 2 1 rfl rfl rfl Tryz.cells25 qMH.up
  obtain ⟨x3, r3, b3⟩ := UT hf 3 3 1 rfl rfl rfl Tryz.cells22 (kids.dn (by omega))
  exact ⟨.mk x0 x1 x2 x3, by rw [qA.cs]; exact RdL.cat (o := 0) r0 (RdL.cat r1 (RdL.cat r2 (RdL.cat r3 (RdL.nil (by omega))))), (qA.bd_eq _).2 ⟨b2.1, b3.1, b3.2⟩⟩
theorem qQD : Rd enc SS.N Tryz.prog W 27 qA.enc qA.bd := RdB.all qYA
theorem qYE : Rd enc SS.N Tryz.prog W 22 (fun xs : List qA => .lst 4 (xs.map qA.enc) false) (fun xs => xs.length ≤ 140737488355328 ∧ ∀ x ∈ xs, qA.bd x) := UU Tryz.underlying22 Tryz.cells27 (by decide) (fun _ => qA.ln) (of_decide_eq_true (by kernel_rfl)) qQD
theorem Tryz.cells24 : Tryz.prog.cellsOf 24 = 1 := by kernel_rfl
theorem qYB : Rd enc SS.N Tryz.prog W 24 qO.enc qO.bd := by
  intro fuel cs d h hw
  obtain ⟨hl, hf⟩ := WE Tryz.underlying24 Tryz.cells24 h hw
  obtain ⟨x0, r0, b0⟩ := j3 hf 0 0 1 rfl rfl rfl Tryz.cells22 qYE
  exact ⟨⟨x0⟩, RdL.cat (o := 0) r0 (RdL.nil (by omega)), ⟨b0.1, b0.2⟩⟩
theorem Tryz.cells47 : Tryz.prog.cellsOf 47 = 5 := by kernel_rfl
theorem qMG : Rd enc SS.N Tryz.prog W 47 qI.enc qI.bd := by
  intro fuel cs d h hw
  obtain ⟨hl, hf⟩ := WE Tryz.underlying47 Tryz.cells47 h hw
  obtain ⟨x0, r0, b0⟩ := j3 hf 0 0 4 rfl rfl rfl Tryz.cells27 qQD
  obtain ⟨x1, r1, b1⟩ := j3 hf 1 4 1 rfl rfl rfl Tryz.cells25 qMH
  rw [qA.cs] at r0
  exact ⟨⟨x0, x1⟩, RdL.cat (o := 0) r0 (RdL.cat r1 (RdL.nil (by omega))), ⟨b0, b1.1⟩⟩
theorem Tryz.cells124 : Tryz.prog.cellsOf 124 = 8 := by kernel_rfl
theorem qYC : Rd enc SS.N Tryz.prog W 124 qF.enc qF.bd := by
  intro fuel cs d h hw
  obtain ⟨hl, hf⟩ := WE Tryz.underlying124 Tryz.cells124 h hw
  obtain ⟨x0, r0, b0⟩ := j3 hf 0 0 1 rfl rfl rfl Tryz.cells2 WG
  obtain ⟨x1, r1, b1⟩ := j3 hf 1 1 1 rfl rfl rfl Tryz.cells2 WG
  obtain ⟨x2, r2, b2⟩ := j3 hf 2 2 1 rfl rfl rfl Tryz.cells25 qMH
  obtain ⟨x3, r3, b3⟩ := j3 hf 3 3 5 rfl rfl rfl Tryz.cells47 qMG
  exact ⟨⟨x0, x1, x2, x3⟩, RdL.cat (o := 0) r0 (RdL.cat r1 (RdL.cat r2 (RdL.cat r3 (RdL.nil (by omega))))), ⟨b2.1, b3⟩⟩
theorem Tryz.cells48 : Tryz.prog.cellsOf 48 = 1 := by kernel_rfl
theorem qYF : Rd enc SS.N Tryz.prog W 48 (fun xs : List qF => .lst 8 (xs.map qF.enc) false) (fun xs => xs.length ≤ 140737488355328 ∧ ∀ x ∈ xs, qF.bd x) := UU Tryz.underlying48 Tryz.cells124 (by decide) (fun _ => qF.ln) (of_decide_eq_true (by kernel_rfl)) qYC
theorem Tryz.cells4 : Tryz.prog.cellsOf 4 = 1 := by kernel_rfl
theorem rdBl : Rd enc SS.N Tryz.prog W 4 AV.bool (fun _ => True) := qMI Tryz.underlying4
theorem Tryz.cells127 : Tryz.prog.cellsOf 127 = 6 := by kernel_rfl
theorem qYH : Rd enc SS.N Tryz.prog W 127 qH.enc qH.bd := by
  intro fuel cs d h hw
  obtain ⟨hl, hf⟩ := WE Tryz.underlying127 Tryz.cells127 h hw
  obtain ⟨x0, r0, b0⟩ := j3 hf 0 0 1 rfl rfl rfl Tryz.cells4 rdBl
  obtain ⟨x1, r1, b1⟩ := j3 hf 1 1 5 rfl rfl rfl Tryz.cells47 qMG
  exact ⟨⟨x0, x1⟩, RdL.cat (o := 0) r0 (RdL.cat r1 (RdL.nil (by omega))), b1⟩
theorem Tryz.cells49 : Tryz.prog.cellsOf 49 = 1 := by kernel_rfl
theorem qYG : Rd enc SS.N Tryz.prog W 49 (fun xs : List qH => .lst 6 (xs.map qH.enc) false) (fun xs => xs.length ≤ 140737488355328 ∧ ∀ x ∈ xs, qH.bd x) := UU Tryz.underlying49 Tryz.cells127 (by decide) (fun _ => qH.ln) (of_decide_eq_true (by kernel_rfl)) qYH
theorem Tryz.cells51 : Tryz.prog.cellsOf 51 = 7 := by kernel_rfl
theorem qYD : Rd enc SS.N Tryz.prog W 51 qG.enc qG.bd := by
  intro fuel cs d h hw
  obtain ⟨hl, hf⟩ := WE Tryz.underlying51 Tryz.cells51 h hw
  obtain ⟨x0, r0, b0⟩ := j3 hf 0 0 5 rfl rfl rfl Tryz.cells47 qMG
  obtain ⟨x1, r1, b1⟩ := j3 hf 1 5 1 rfl rfl rfl Tryz.cells48 qYF
  obtain ⟨x2, r2, b2⟩ := j3 hf 2 6 1 rfl rfl rfl Tryz.cells49 qYG
  exact ⟨⟨x0, x1, x2⟩, RdL.cat (o := 0) r0 (RdL.cat r1 (RdL.cat r2 (RdL.nil (by omega)))), ⟨b0, b1.1, b1.2, b2.1, b2.2⟩⟩
end

theorem qXR : SS.N.f 18 = 4 := by kernel_rfl
theorem qX0 : ownKnob Tryz.prog.godebug = none := by kernel_rfl
theorem qVS (os : Os) (started : os.Started) (H : Type) (enc : TypeId × Value → H) : ReturnsInHanded {} Tryz.checked os 4 .any (Rows.fnExactStepNeedSpec.pre6 enc Tryz.prog Tryz.f4 [] false) (Rows.fnExactStepNeedSpec.post enc Tryz.prog Tryz.f4 false true false false) := by
  refine qVQ (C := Tryz.checked) (tb := 4) started qX0 (by kernel_rfl) Tryz.func4
    (ChangeSpec.witness6 (enc := enc) (C := Tryz.checked) false ⟨#[], #[.agg #[.slice none 0 0], .agg #[.int .i64 0, .int .i64 0, .slice none 0 0, .slice none 0 0, .slice none 0 0, .slice none 0 0, .slice none 0 0]], []⟩ 8 (by kernel_rfl) (by kernel_rfl) (by kernel_rfl) (by kernel_rfl))
    (by kernel_rfl) (fun u hu => of_decide_eq_true (by revert u; exact by intro u hu; rw [Tryz.params4] at hu; simp at hu; first | (subst hu; kernel_rfl) | (rcases hu with rfl | rfl <;> kernel_rfl))) rfl rfl Tryz.underlying4 (fun ds hd => ?_) (fun W base args ds ps hval hA hwt => ?_)
  · rw [Tryz.params4] at hd
    match ds, hd with
    | [d0, d1], _ => exact ⟨rfl, rfl, rfl⟩
  · have hval : ∀ (j : Nat) t v, Tryz.f4.params[j]? = some t → args[j]? = some v → Value.okWide Tryz.prog W .any base t v := hval
    have hA : DataW.TrodAll enc Tryz.prog W 0 (fun _ => true) true Tryz.f4.params.toList args.toList ds ps := hA
    have hwt : ∀ n ∈ DataW.weightsEach Tryz.prog Tryz.f4.params.toList ds, n ≤ reachBytes := hwt
    rw [Tryz.params4] at hval hA hwt
    obtain ⟨v0, vs0, d0, ds0, p0, q0, hargs, rfl, rfl, h0, hA0⟩ := ChangeShapes.trodAll_cons hA
    obtain ⟨v1, vs1, d1, ds1, p1, q1, rfl, rfl, rfl, h1, hA1⟩ := ChangeShapes.trodAll_cons hA0
    obtain ⟨rfl, rfl, rfl⟩ := ChangeShapes.trodAll_nil hA1
    obtain rfl : args = #[v0, v1] := by cases args; simp_all
    obtain ⟨x0, r0, b0⟩ := qNI Tryz.underlying24 (fun _ => ⟨_, rfl⟩) qYB (hval 0 24 v0 rfl rfl) h0 (fun n hn => hwt n (by simp only [DataW.weightsEach, List.mem_append]; exact .inl hn))
    obtain ⟨x1, r1, b1⟩ := qNI Tryz.underlying51 (fun _ => ⟨_, rfl⟩) qYD (hval 1 51 v1 rfl rfl) h1 (fun n hn => hwt n (by simp only [DataW.weightsEach, List.mem_append]; exact .inr (.inl hn)))
    have key := qVP (S := SS) (qVB qLN fitAll) (qVN qLN fitAll) (qT2 qLN fitAll) (c18 b0 b1) (W := W) (vs := #[v0, v1]) (by simp only [VRs]; exact ⟨_, _, rfl, r0, ⟨_, _, rfl, r1, rfl⟩⟩)
    rw [SSP, qXR] at key
    exact key

theorem over : Rows.fnExactStepNeedRow.holds Tryz.pinned (OpenSpec.ofChange Rows.fnExactStepNeedSpec) :=
  OpenClaim.holds_of_wide 4 Tryz.f4 rfl rfl rfl rfl rfl rfl rfl ⟨rfl, rfl, rfl, rfl, rfl⟩ rfl rfl rfl rfl rfl (by kernel_rfl) Tryz.func4 (by kernel_rfl)
    (of_decide_eq_true (by kernel_rfl)) (by unfold Func.isWrapper; first | (rw [if_pos (by decide +kernel)]; kernel_rfl) | (rw [if_neg (by decide +kernel)]; exact ⟨rfl, rfl⟩))
    (fun os started H enc _ => qVS os started H enc)

theorem fnExactStepNeed_holds : Rows.FnExactStepNeedSaid := over
#print axioms fnExactStepNeed_holds
end Go.Proofs.YtoajhcbnlebbeaaGreat
