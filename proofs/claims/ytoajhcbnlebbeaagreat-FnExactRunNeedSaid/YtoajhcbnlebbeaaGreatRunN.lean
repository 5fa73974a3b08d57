/- For all arguments the law FnExactRunNeed returns true and leaves its arguments as they were. No condition.  -/
import Derived.Test.YtoajhcbnlebbeaaGreatRows
import Derived.Test.YtoajhcbnlebbeaaGreatFit
import Derived.KernelRfl
import Derived.Test.YtoajhcbnlebbeaaGreatP6
import Derived.Test.YtoajhcbnlebbeaaGreatP9
namespace Go.Proofs.YtoajhcbnlebbeaaGreat
open Go Go.Ab Go.Proofs
set_option maxRecDepth 100000

section
variable {H : Type} {enc : TypeId × Value → H} {W : World}
theorem Tryz.cells2 : Tryz.prog.cellsOf 2 = 1 := by kernel_rfl
theorem WI : Rd enc SS.N Tryz.prog W 2 (fun n : Int => .int .i64 n) (fun n => (Lit.int .i64 n).wf = true) := qZQ Tryz.underlying2
theorem Tryz.cells25 : Tryz.prog.cellsOf 25 = 1 := by kernel_rfl
theorem qNE : Rd enc SS.N Tryz.prog W 25 (fun xs : List Int => .lst 1 (xs.map qD) false) (fun xs => xs.length ≤ 140737488355328 ∧ ∀ x ∈ xs, (fun n => (Lit.int .i64 n).wf = true) x) := Uc Tryz.underlying25 Tryz.cells2 (by decide) (fun _ => rfl) (of_decide_eq_true (by kernel_rfl)) WI
theorem Tryz.cells27 : Tryz.prog.cellsOf 27 = 4 := by kernel_rfl
theorem Tryz.cells22 : Tryz.prog.cellsOf 22 = 1 := by kernel_rfl
theorem qZF : ∀ m, RdB enc SS.N Tryz.prog W m 27 qA.enc qA.bd := by
  intro m
  induction m with
  | zero => exact fun fuel h => absurd h (by omega)
  | succ m ih =>
  have kids := qRE Tryz.underlying22 Tryz.cells27 (by decide) (fun x => qA.ln (x := x)) (of_decide_eq_true (by kernel_rfl)) ih
  intro fuel hfu cs d h hw
  obtain ⟨hl, hf⟩ := qZP hfu Tryz.underlying27 Tryz.cells27 h hw
  obtain ⟨x0, r0, b0⟩ := Ub hf 0 0 1 rfl rfl rfl Tryz.cells2 WI.up
  obtain ⟨x1, r1, b1⟩ := Ub hf 1 1 1 rfl rfl rfl Tryz.cells2 WI.up
  obtain ⟨x2, r2, b2⟩ := Ub hf 2 2 1 rfl rfl rfl Tryz.cells25 qNE.up
  obtain ⟨x3, r3, b3⟩ := Ub hf 3 3 1 rfl rfl rfl Tryz.cells22 (kids.dn (by omega))
  exact ⟨.mk x0 x1 x2 x3, by rw [qA.cs]; exact RdL.cat (o := 0) r0 (RdL.cat r1 (RdL.cat r2 (RdL.cat r3 (RdL.nil (by omega))))), (qA.bd_eq _).2 ⟨b2.1, b3.1, b3.2⟩⟩
theorem qRD : Rd enc SS.N Tryz.prog W 27 qA.enc qA.bd := RdB.all qZF
theorem qZK : Rd enc SS.N Tryz.prog W 22 (fun xs : List qA => .lst 4 (xs.map qA.enc) false) (fun xs => xs.length ≤ 140737488355328 ∧ ∀ x ∈ xs, qA.bd x) := Uc Tryz.underlying22 Tryz.cells27 (by decide) (fun _ => qA.ln) (of_decide_eq_true (by kernel_rfl)) qRD
theorem Tryz.cells24 : Tryz.prog.cellsOf 24 = 1 := by kernel_rfl
theorem qZG : Rd enc SS.N Tryz.prog W 24 qO.enc qO.bd := by
  intro fuel cs d h hw
  obtain ⟨hl, hf⟩ := WH Tryz.underlying24 Tryz.cells24 h hw
  obtain ⟨x0, r0, b0⟩ := j7 hf 0 0 1 rfl rfl rfl Tryz.cells22 qZK
  exact ⟨⟨x0⟩, RdL.cat (o := 0) r0 (RdL.nil (by omega)), ⟨b0.1, b0.2⟩⟩
theorem Tryz.cells47 : Tryz.prog.cellsOf 47 = 5 := by kernel_rfl
theorem qND : Rd enc SS.N Tryz.prog W 47 qI.enc qI.bd := by
  intro fuel cs d h hw
  obtain ⟨hl, hf⟩ := WH Tryz.underlying47 Tryz.cells47 h hw
  obtain ⟨x0, r0, b0⟩ := j7 hf 0 0 4 rfl rfl rfl Tryz.cells27 qRD
  obtain ⟨x1, r1, b1⟩ := j7 hf 1 4 1 rfl rfl rfl Tryz.cells25 qNE
  rw [qA.cs] at r0
  exact ⟨⟨x0, x1⟩, RdL.cat (o := 0) r0 (RdL.cat r1 (RdL.nil (by omega))), ⟨b0, b1.1⟩⟩
theorem Tryz.cells124 : Tryz.prog.cellsOf 124 = 8 := by kernel_rfl
theorem qZI : Rd enc SS.N Tryz.prog W 124 qF.enc qF.bd := by
  intro fuel cs d h hw
  obtain ⟨hl, hf⟩ := WH Tryz.underlying124 Tryz.cells124 h hw
  obtain ⟨x0, r0, b0⟩ := j7 hf 0 0 1 rfl rfl rfl Tryz.cells2 WI
  obtain ⟨x1, r1, b1⟩ := j7 hf 1 1 1 rfl rfl rfl Tryz.cells2 WI
  obtain ⟨x2, r2, b2⟩ := j7 hf 2 2 1 rfl rfl rfl Tryz.cells25 qNE
  obtain ⟨x3, r3, b3⟩ := j7 hf 3 3 5 rfl rfl rfl Tryz.cells47 qND
  exact ⟨⟨x0, x1, x2, x3⟩, RdL.cat (o := 0) r0 (RdL.cat r1 (RdL.cat r2 (RdL.cat r3 (RdL.nil (by omega))))), ⟨b2.1, b3⟩⟩
theorem Tryz.cells48 : Tryz.prog.cellsOf 48 = 1 := by kernel_rfl
theorem qZL : Rd enc SS.N Tryz.prog W 48 (fun xs : List qF => .lst 8 (xs.map qF.enc) false) (fun xs => xs.length ≤ 140737488355328 ∧ ∀ x ∈ xs, qF.bd x) := Uc Tryz.underlying48 Tryz.cells124 (by decide) (fun _ => qF.ln) (of_decide_eq_true (by kernel_rfl)) qZI
theorem Tryz.cells4 : Tryz.prog.cellsOf 4 = 1 := by kernel_rfl
theorem qZH : Rd enc SS.N Tryz.prog W 4 AV.bool (fun _ => True) := qZO Tryz.underlying4
theorem Tryz.cells127 : Tryz.prog.cellsOf 127 = 6 := by kernel_rfl
theorem qZN : Rd enc SS.N Tryz.prog W 127 qH.enc qH.bd := by
  intro fuel cs d h hw
  obtain ⟨hl, hf⟩ := WH Tryz.underlying127 Tryz.cells127 h hw
  obtain ⟨x0, r0, b0⟩ := j7 hf 0 0 1 rfl rfl rfl Tryz.cells4 qZH
  obtain ⟨x1, r1, b1⟩ := j7 hf 1 1 5 rfl rfl rfl Tryz.cells47 qND
  exact ⟨⟨x0, x1⟩, RdL.cat (o := 0) r0 (RdL.cat r1 (RdL.nil (by omega))), b1⟩
theorem Tryz.cells49 : Tryz.prog.cellsOf 49 = 1 := by kernel_rfl
theorem qZM : Rd enc SS.N Tryz.prog W 49 (fun xs : List qH => .lst 6 (xs.map qH.enc) false) (fun xs => xs.length ≤ 140737488355328 ∧ ∀ x ∈ xs, qH.bd x) := Uc Tryz.underlying49 Tryz.cells127 (by decide) (fun _ => qH.ln) (of_decide_eq_true (by kernel_rfl)) qZN
theorem Tryz.cells51 : Tryz.prog.cellsOf 51 = 7 := by kernel_rfl
theorem qZJ : Rd enc SS.N Tryz.prog W 51 qG.enc qG.bd := by
  intro fuel cs d h hw
  obtain ⟨hl, hf⟩ := WH Tryz.underlying51 Tryz.cells51 h hw
  obtain ⟨x0, r0, b0⟩ := j7 hf 0 0 5 rfl rfl rfl Tryz.cells47 qND
  obtain ⟨x1, r1, b1⟩ := j7 hf 1 5 1 rfl rfl rfl Tryz.cells48 qZL
  obtain ⟨x2, r2, b2⟩ := j7 hf 2 6 1 rfl rfl rfl Tryz.cells49 qZM
  exact ⟨⟨x0, x1, x2⟩, RdL.cat (o := 0) r0 (RdL.cat r1 (RdL.cat r2 (RdL.nil (by omega)))), ⟨b0, b1.1, b1.2, b2.1, b2.2⟩⟩
end

theorem qYW : SS.N.f 19 = 5 := by kernel_rfl
theorem qY5 : ownKnob Tryz.prog.godebug = none := by kernel_rfl
theorem qWV (os : Os) (started : os.Started) (H : Type) (enc : TypeId × Value → H) : ReturnsInHanded {} Tryz.checked os 5 .any (Rows.fnExactRunNeedSpec.pre6 enc Tryz.prog Tryz.f5 [] false) (Rows.fnExactRunNeedSpec.post enc Tryz.prog Tryz.f5 false true false false) := by
  refine qWT (C := Tryz.checked) (tb := 4) started qY5 (by kernel_rfl) Tryz.func5
    (ChangeSpec.witness6 (enc := enc) (C := Tryz.checked) false ⟨#[], #[.agg #[.slice none 0 0], .agg #[.int .i64 0, .int .i64 0, .slice none 0 0, .slice none 0 0, .slice none 0 0, .slice none 0 0, .slice none 0 0], .int .i64 0], []⟩ 8 (by kernel_rfl) (by kernel_rfl) (by kernel_rfl) (by kernel_rfl))
    (by kernel_rfl) (fun u hu => of_decide_eq_true (by revert u; exact by intro u hu; rw [Tryz.params5] at hu; simp at hu; first | (subst hu; kernel_rfl) | (rcases hu with rfl | rfl | rfl <;> kernel_rfl))) rfl rfl Tryz.underlying4 (fun ds hd => ?_) (fun W base args ds ps hval hA hwt => ?_)
  · rw [Tryz.params5] at hd
    match ds, hd with
    | [d0, d1, d2], _ => exact ⟨rfl, rfl, rfl⟩
  · have hval : ∀ (j : Nat) t v, Tryz.f5.params[j]? = some t → args[j]? = some v → Value.okWide Tryz.prog W .any base t v := hval
    have hA : DataW.TrodAll enc Tryz.prog W 0 (fun _ => true) true Tryz.f5.params.toList args.toList ds ps := hA
    have hwt : ∀ n ∈ DataW.weightsEach Tryz.prog Tryz.f5.params.toList ds, n ≤ reachBytes := hwt
    rw [Tryz.params5] at hval hA hwt
    obtain ⟨v0, vs0, d0, ds0, p0, q0, hargs, rfl, rfl, h0, hA0⟩ := ChangeShapes.trodAll_cons hA
    obtain ⟨v1, vs1, d1, ds1, p1, q1, rfl, rfl, rfl, h1, hA1⟩ := ChangeShapes.trodAll_cons hA0
    obtain ⟨v2, vs2, d2, ds2, p2, q2, rfl, rfl, rfl, h2, hA2⟩ := ChangeShapes.trodAll_cons hA1
    obtain ⟨rfl, rfl, rfl⟩ := ChangeShapes.trodAll_nil hA2
    obtain rfl : args = #[v0, v1, v2] := by cases args; simp_all
    obtain ⟨x0, r0, b0⟩ := qOE Tryz.underlying24 (fun _ => ⟨_, rfl⟩) qZG (hval 0 24 v0 rfl rfl) h0 (fun n hn => hwt n (by simp only [DataW.weightsEach, List.mem_append]; exact .inl hn))
    obtain ⟨x1, r1, b1⟩ := qOE Tryz.underlying51 (fun _ => ⟨_, rfl⟩) qZJ (hval 1 51 v1 rfl rfl) h1 (fun n hn => hwt n (by simp only [DataW.weightsEach, List.mem_append]; exact .inr (.inl hn)))
    obtain ⟨x2, r2, b2⟩ := qS5 (N := SS.N) Tryz.underlying2 (hval 2 2 v2 rfl rfl) h2
    have key := qWS (S := SS) (qWD qMJ fitAll) (qWQ qMJ fitAll) (qU4 qMJ fitAll) (c19 b0 b1) (W := W) (vs := #[v0, v1, v2]) (by simp only [VRs]; exact ⟨_, _, rfl, r0, ⟨_, _, rfl, r1, ⟨_, _, rfl, r2, rfl⟩⟩⟩)
    rw [SSP, qYW] at key
    exact key

theorem over : Rows.fnExactRunNeedRow.holds Tryz.pinned (OpenSpec.ofChange Rows.fnExactRunNeedSpec) :=
  OpenClaim.holds_of_wide 5 Tryz.f5 rfl rfl rfl rfl rfl rfl rfl ⟨rfl, rfl, rfl, rfl, rfl⟩ rfl rfl rfl rfl rfl (by kernel_rfl) Tryz.func5 (by kernel_rfl)
    (of_decide_eq_true (by kernel_rfl)) (by unfold Func.isWrapper; first | (rw [if_pos (by decide +kernel)]; kernel_rfl) | (rw [if_neg (by decide +kernel)]; exact ⟨rfl, rfl⟩))
    (fun os started H enc _ => qWV os started H enc)

theorem fnExactRunNeed_holds : Rows.FnExactRunNeedSaid := over
#print axioms fnExactRunNeed_holds
end Go.Proofs.YtoajhcbnlebbeaaGreat
