/- For all arguments the law FnExactSimplifyBook returns true and leaves its arguments as they were. No condition.  -/
import Derived.Test.YteekllacfpafoaaGreatRows
import Derived.Test.YteekllacfpafoaaGreatFit
import Derived.KernelRfl
import Derived.Test.YteekllacfpafoaaGreatP5
import Derived.Test.YteekllacfpafoaaGreatP8
namespace Go.Proofs.YteekllacfpafoaaGreat
open Go Go.Ab Go.Proofs
set_option maxRecDepth 100000

section
variable {H : Type} {enc : TypeId × Value → H} {W : World}
theorem Tryz.cells2 : Tryz.prog.cellsOf 2 = 1 := by kernel_rfl
theorem qRM : Rd enc SS.N Tryz.prog W 2 (fun n : Int => .int .i64 n) (fun n => (Lit.int .i64 n).wf = true) := qhX Tryz.underlying2
theorem Tryz.cells25 : Tryz.prog.cellsOf 25 = 1 := by kernel_rfl
theorem qhT : Rd enc SS.N Tryz.prog W 25 (fun xs : List Int => .lst 1 (xs.map qE) false) (fun xs => xs.length ≤ 140737488355328 ∧ ∀ x ∈ xs, (fun n => (Lit.int .i64 n).wf = true) x) := qWI Tryz.underlying25 Tryz.cells2 (by decide) (fun _ => rfl) (of_decide_eq_true (by kernel_rfl)) qRM
theorem Tryz.cells27 : Tryz.prog.cellsOf 27 = 4 := by kernel_rfl
theorem Tryz.cells22 : Tryz.prog.cellsOf 22 = 1 := by kernel_rfl
theorem qhP : ∀ m, RdB enc SS.N Tryz.prog W m 27 qA.enc qA.bd := by
  intro m
  induction m with
  | zero => exact fun fuel h => absurd h (by omega)
  | succ m ih =>
  have kids := qWJ Tryz.underlying22 Tryz.cells27 (by decide) (fun x => qA.ln (x := x)) (of_decide_eq_true (by kernel_rfl)) ih
  intro fuel hfu cs d h hw
  obtain ⟨hl, hf⟩ := qhW hfu Tryz.underlying27 Tryz.cells27 h hw
  obtain ⟨x0, r0, b0⟩ := UO hf 0 0 1 rfl rfl rfl Tryz.cells2 qRM.up
  obtain ⟨x1, r1, b1⟩ := UO hf 1 1 1 rfl rfl rfl Tryz.cells2 qRM.up
  obtain ⟨x2, r2, b2⟩ := UO hf 2 2 1 rfl rfl rfl Tryz.cells25 qhT.up
  obtain ⟨x3, r3, b3⟩ := UO hf 3 3 1 rfl rfl rfl Tryz.cells22 (kids.dn (by omega))
  exact ⟨.mk x0 x1 x2 x3, by rw [qA.cs]; exact RdL.cat (o := 0) r0 (RdL.cat r1 (RdL.cat r2 (RdL.cat r3 (RdL.nil (by omega))))), (qA.bd_eq _).2 ⟨b2.1, b3.1, b3.2⟩⟩
theorem qhR : Rd enc SS.N Tryz.prog W 27 qA.enc qA.bd := RdB.all qhP
theorem qhS : Rd enc SS.N Tryz.prog W 22 (fun xs : List qA => .lst 4 (xs.map qA.enc) false) (fun xs => xs.length ≤ 140737488355328 ∧ ∀ x ∈ xs, qA.bd x) := qWI Tryz.underlying22 Tryz.cells27 (by decide) (fun _ => qA.ln) (of_decide_eq_true (by kernel_rfl)) qhR
theorem Tryz.cells24 : Tryz.prog.cellsOf 24 = 1 := by kernel_rfl
theorem qhQ : Rd enc SS.N Tryz.prog W 24 qF.enc qF.bd := by
  intro fuel cs d h hw
  obtain ⟨hl, hf⟩ := qhV Tryz.underlying24 Tryz.cells24 h hw
  obtain ⟨x0, r0, b0⟩ := qhU hf 0 0 1 rfl rfl rfl Tryz.cells22 qhS
  exact ⟨⟨x0⟩, RdL.cat (o := 0) r0 (RdL.nil (by omega)), ⟨b0.1, b0.2⟩⟩
end

theorem qgX : SS.N.f 23 = 5 := by kernel_rfl
theorem qhE : ownKnob Tryz.prog.godebug = none := by kernel_rfl
theorem qd7 (os : Os) (started : os.Started) (H : Type) (enc : TypeId × Value → H) : ReturnsInHanded {} Tryz.checked os 5 .any (Rows.fnExactSimplifyBookSpec.pre6 enc Tryz.prog Tryz.f5 [] false) (Rows.fnExactSimplifyBookSpec.post enc Tryz.prog Tryz.f5 false true false false) := by
  refine qd5 (C := Tryz.checked) (tb := 4) started qhE (by kernel_rfl) Tryz.func5
    (ChangeSpec.witness6 (enc := enc) (C := Tryz.checked) false ⟨#[], #[.agg #[.slice none 0 0], .int .i64 0, .int .i64 0], []⟩ 8 (by kernel_rfl) (by kernel_rfl) (by kernel_rfl) (by kernel_rfl))
    (by kernel_rfl) (fun u hu => of_decide_eq_true (by revert u; exact by intro u hu; rw [Tryz.params5] at hu; simp at hu; first | (subst hu; kernel_rfl) | (rcases hu with rfl | rfl | rfl <;> kernel_rfl))) rfl rfl Tryz.underlying4 (fun ds hd => ?_) (fun W base args ds ps hval hA hwt => ?_)
  · rw [Tryz.params5] at hd
    match ds, hd with
    | [d0, d1, d2], _ => exact ⟨rfl, rfl, rfl⟩
  · have hval : ∀ (j : Nat) t v, Tryz.f5.params[j]? = some t → args[j]? = some v → Value.okWide Tryz.prog W .any base t v := hval
    have hA : DataW.TrodAll enc Tryz.prog W 0 (fun _ => true) true Tryz.f5.params.toList args.toList ds ps := hA
    have hwt : ∀ n ∈ DataW.weightsEach Tryz.prog Tryz.f5.params.toList ds, n ≤ reachBytes := hwt
    rw [Tryz.params5] at hval hA hwt
    obtain ⟨v0, vs0, d0, ds0, p0, q0, hargs, rfl, rfl, h0, hA0⟩ := ChangeShapes.trodAll_cons hA
    obtain ⟨v1, vs1, d1, ds1, p1, q1, rfl, rfl, rfl, h1, hA1⟩ := ChangeShapes.trodAll_cons hA0
    obtain ⟨v2, vs2, d2, ds2, p2, q2, rfl, rfl, rfl, h2, hA2⟩ := ChangeShapes.trodAll_cons hA1
    obtain ⟨rfl, rfl, rfl⟩ := ChangeShapes.trodAll_nil hA2
    obtain rfl : args = #[v0, v1, v2] := by cases args; simp_all
    obtain ⟨x0, r0, b0⟩ := qYU Tryz.underlying24 (fun _ => ⟨_, rfl⟩) qhQ (hval 0 24 v0 rfl rfl) h0 (fun n hn => hwt n (by simp only [DataW.weightsEach, List.mem_append]; exact .inl hn))
    obtain ⟨x1, r1, b1⟩ := qSN (N := SS.N) Tryz.underlying2 (hval 1 2 v1 rfl rfl) h1
    obtain ⟨x2, r2, b2⟩ := qSN (N := SS.N) Tryz.underlying2 (hval 2 2 v2 rfl rfl) h2
    have key := qd4 (S := SS) (qdO qQM fitAll) (qd3 qQM fitAll) (qbU qQM fitAll) (c23 b0) (W := W) (vs := #[v0, v1, v2]) (by simp only [VRs]; exact ⟨_, _, rfl, r0, ⟨_, _, rfl, r1, ⟨_, _, rfl, r2, rfl⟩⟩⟩)
    rw [SSP, qgX] at key
    exact key

theorem over : Rows.fnExactSimplifyBookRow.holds Tryz.pinned (OpenSpec.ofChange Rows.fnExactSimplifyBookSpec) :=
  OpenClaim.holds_of_wide 5 Tryz.f5 rfl rfl rfl rfl rfl rfl rfl ⟨rfl, rfl, rfl, rfl, rfl⟩ rfl rfl rfl rfl rfl (by kernel_rfl) Tryz.func5 (by kernel_rfl)
    (of_decide_eq_true (by kernel_rfl)) (by unfold Func.isWrapper; first | (rw [if_pos (by decide +kernel)]; kernel_rfl) | (rw [if_neg (by decide +kernel)]; exact ⟨rfl, rfl⟩))
    (fun os started H enc _ => qd7 os started H enc)

theorem fnExactSimplifyBook_holds : Rows.FnExactSimplifyBookSaid := over
#print axioms fnExactSimplifyBook_holds
end Go.Proofs.YteekllacfpafoaaGreat
