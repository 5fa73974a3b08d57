/- For all arguments the law FnExactNeedValue returns true and leaves its arguments as they were. No condition.  -/
import Derived.Test.YtoajhcbnlebbeaaGreatRows
import Derived.Test.YtoajhcbnlebbeaaGreatFit
import Derived.KernelRfl
import Derived.Test.YtoajhcbnlebbeaaGreatP6
import Derived.Test.YtoajhcbnlebbeaaGreatP9
namespace Go.Proofs.YtoajhcbnlebbeaaGreat
open Go Go.Ab Go.Proofs
set_option maxRecDepth 100000

section
variable {H : Type} {enc : TypeId × Value → H} {W : World}
theorem Tryz.cells2 : Tryz.prog.cellsOf 2 = 1 := by kernel_rfl
theorem qGY : Rd enc SS.N Tryz.prog W 2 (fun n : Int => .int .i64 n) (fun n => (Lit.int .i64 n).wf = true) := qSN Tryz.underlying2
theorem Tryz.cells25 : Tryz.prog.cellsOf 25 = 1 := by kernel_rfl
theorem qSJ : Rd enc SS.N Tryz.prog W 25 (fun xs : List Int => .lst 1 (xs.map qE) false) (fun xs => xs.length ≤ 140737488355328 ∧ ∀ x ∈ xs, (fun n => (Lit.int .i64 n).wf = true) x) := qK3 Tryz.underlying25 Tryz.cells2 (by decide) (fun _ => rfl) (of_decide_eq_true (by kernel_rfl)) qGY
theorem Tryz.cells27 : Tryz.prog.cellsOf 27 = 4 := by kernel_rfl
theorem Tryz.cells22 : Tryz.prog.cellsOf 22 = 1 := by kernel_rfl
theorem qSG : ∀ m, RdB enc SS.N Tryz.prog W m 27 qA.enc qA.bd := by
  intro m
  induction m with
  | zero => exact fun fuel h => absurd h (by omega)
  | succ m ih =>
  have kids := qK4 Tryz.underlying22 Tryz.cells27 (by decide) (fun x => qA.ln (x := x)) (of_decide_eq_true (by kernel_rfl)) ih
  intro fuel hfu cs d h hw
  obtain ⟨hl, hf⟩ := qSM hfu Tryz.underlying27 Tryz.cells27 h hw
  obtain ⟨x0, r0, b0⟩ := Ve hf 0 0 1 rfl rfl rfl Tryz.cells2 qGY.up
  obtain ⟨x1, r1, b1⟩ := Ve hf 1 1 1 rfl rfl rfl Tryz.cells2 qGY.up
  obtain ⟨x2, r2, b2⟩ := Ve hf 2 2 1 rfl rfl rfl Tryz.cells25 qSJ.up
  obtain ⟨x3, r3, b3⟩ := Ve hf 3 3 1 rfl rfl rfl Tryz.cells22 (kids.dn (by omega))
  exact ⟨.mk x0 x1 x2 x3, by rw [qA.cs]; exact RdL.cat (o := 0) r0 (RdL.cat r1 (RdL.cat r2 (RdL.cat r3 (RdL.nil (by omega))))), (qA.bd_eq _).2 ⟨b2.1, b3.1, b3.2⟩⟩
theorem qK2 : Rd enc SS.N Tryz.prog W 27 qA.enc qA.bd := RdB.all qSG
theorem qSI : Rd enc SS.N Tryz.prog W 22 (fun xs : List qA => .lst 4 (xs.map qA.enc) false) (fun xs => xs.length ≤ 140737488355328 ∧ ∀ x ∈ xs, qA.bd x) := qK3 Tryz.underlying22 Tryz.cells27 (by decide) (fun _ => qA.ln) (of_decide_eq_true (by kernel_rfl)) qK2
theorem Tryz.cells24 : Tryz.prog.cellsOf 24 = 1 := by kernel_rfl
theorem qSH : Rd enc SS.N Tryz.prog W 24 qH.enc qH.bd := by
  intro fuel cs d h hw
  obtain ⟨hl, hf⟩ := qSL Tryz.underlying24 Tryz.cells24 h hw
  obtain ⟨x0, r0, b0⟩ := qSK hf 0 0 1 rfl rfl rfl Tryz.cells22 qSI
  exact ⟨⟨x0⟩, RdL.cat (o := 0) r0 (RdL.nil (by omega)), ⟨b0.1, b0.2⟩⟩
end

theorem qR1 : SS.N.f 5 = 3 := by kernel_rfl
theorem qR8 : ownKnob Tryz.prog.godebug = none := by kernel_rfl
theorem qQD (os : Os) (started : os.Started) (H : Type) (enc : TypeId × Value → H) : ReturnsInHanded {} Tryz.checked os 3 .any (Rows.fnExactNeedValueSpec.pre6 enc Tryz.prog Tryz.f3 [] false) (Rows.fnExactNeedValueSpec.post enc Tryz.prog Tryz.f3 false true false false) := by
  refine qQB (C := Tryz.checked) (tb := 4) started qR8 (by kernel_rfl) Tryz.func3
    (ChangeSpec.witness6 (enc := enc) (C := Tryz.checked) false ⟨#[], #[.agg #[.slice none 0 0], .agg #[.int .i64 0, .int .i64 0, .slice none 0 0, .slice none 0 0], .int .i64 0], []⟩ 8 (by kernel_rfl) (by kernel_rfl) (by kernel_rfl) (by kernel_rfl))
    (by kernel_rfl) (fun u hu => of_decide_eq_true (by revert u; exact by intro u hu; rw [Tryz.params3] at hu; simp at hu; first | (subst hu; kernel_rfl) | (rcases hu with rfl | rfl | rfl <;> kernel_rfl))) rfl rfl Tryz.underlying4 (fun ds hd => ?_) (fun W base args ds ps hval hA hwt => ?_)
  · rw [Tryz.params3] at hd
    match ds, hd with
    | [d0, d1, d2], _ => exact ⟨rfl, rfl, rfl⟩
  · have hval : ∀ (j : Nat) t v, Tryz.f3.params[j]? = some t → args[j]? = some v → Value.okWide Tryz.prog W .any base t v := hval
    have hA : DataW.TrodAll enc Tryz.prog W 0 (fun _ => true) true Tryz.f3.params.toList args.toList ds ps := hA
    have hwt : ∀ n ∈ DataW.weightsEach Tryz.prog Tryz.f3.params.toList ds, n ≤ reachBytes := hwt
    rw [Tryz.params3] at hval hA hwt
    obtain ⟨v0, vs0, d0, ds0, p0, q0, hargs, rfl, rfl, h0, hA0⟩ := ChangeShapes.trodAll_cons hA
    obtain ⟨v1, vs1, d1, ds1, p1, q1, rfl, rfl, rfl, h1, hA1⟩ := ChangeShapes.trodAll_cons hA0
    obtain ⟨v2, vs2, d2, ds2, p2, q2, rfl, rfl, rfl, h2, hA2⟩ := ChangeShapes.trodAll_cons hA1
    obtain ⟨rfl, rfl, rfl⟩ := ChangeShapes.trodAll_nil hA2
    obtain rfl : args = #[v0, v1, v2] := by cases args; simp_all
    obtain ⟨x0, r0, b0⟩ := qHY Tryz.underlying24 (fun _ => ⟨_, rfl⟩) qSH (hval 0 24 v0 rfl rfl) h0 (fun n hn => hwt n (by simp only [DataW.weightsEach, List.mem_append]; exact .inl hn))
    obtain ⟨x1, r1, b1⟩ := qHY Tryz.underlying27 (fun x => ⟨_, qA.enc_eq x⟩) qK2 (hval 1 27 v1 rfl rfl) h1 (fun n hn => hwt n (by simp only [DataW.weightsEach, List.mem_append]; exact .inr (.inl hn)))
    obtain ⟨x2, r2, b2⟩ := qM4 (N := SS.N) Tryz.underlying2 (hval 2 2 v2 rfl rfl) h2
    have key := qQA (S := SS) (qPW qF6 fitAll) (qP9 qF6 fitAll) (qOW qF6 fitAll) (c5 b0 b1) (W := W) (vs := #[v0, v1, v2]) (by simp only [VRs]; exact ⟨_, _, rfl, r0, ⟨_, _, rfl, r1, ⟨_, _, rfl, r2, rfl⟩⟩⟩)
    rw [SSP, qR1] at key
    exact key

theorem over : Rows.fnExactNeedValueRow.holds Tryz.pinned (OpenSpec.ofChange Rows.fnExactNeedValueSpec) :=
  OpenClaim.holds_of_wide 3 Tryz.f3 rfl rfl rfl rfl rfl rfl rfl ⟨rfl, rfl, rfl, rfl, rfl⟩ rfl rfl rfl rfl rfl (by kernel_rfl) Tryz.func3 (by kernel_rfl)
    (of_decide_eq_true (by kernel_rfl)) (by unfold Func.isWrapper; first | (rw [if_pos (by decide +kernel)]; kernel_rfl) | (rw [if_neg (by decide +kernel)]; exact ⟨rfl, rfl⟩))
    (fun os started H enc _ => qQD os started H enc)

theorem fnExactNeedValue_holds : Rows.FnExactNeedValueSaid := over
#print axioms fnExactNeedValue_holds
end Go.Proofs.YtoajhcbnlebbeaaGreat
