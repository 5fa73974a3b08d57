/- The iterator of slices.Backward over numbers: what it does for every body of a loop. No condition. -/
import Derived.RangeFuncBox
import Derived.RangeFuncLeaves
import Derived.Shelf.Abstract
import Derived.WalkKit
import Derived.OwnWalkIn
import Derived.TacticsInMore
import Derived.LoopNIn
import Derived.LoopIn
import Derived.KernelRfl
import Derived.Test.YtoajhcbnlebbeaaGreatChecked
import Derived.Test.YtoajhcbnlebbeaaGreatP1
namespace Go.Proofs.YtoajhcbnlebbeaaGreat
open Go Go.Ab Go.RowKit Go.Shelf Go.Proofs
attribute [local go_sem] Oper.semAt_some
theorem qNN {b o : Nat} {c : Array Value} {W : World} {v : Value} (h : QX b c W) (hv : c[o]? = some v) : W.cell? ⟨b, o, none⟩ = some v := by
  obtain ⟨e, fz, h⟩ := h
  simp [World.cell?, h, hv]
set_option maxRecDepth 100000 in
set_option maxHeartbeats 4000000 in
theorem qS8 : QA Tryz.prog 162 := by
  intro l bx ox cx ad cap be oe ce ns J W hcx had hlim hS hY h0
  refine callsIn_of_wp Tryz.func162 rfl trivial ?_ rfl
  simp only [Tryz.ntmps162, List.size_toArray, List.length_cons, List.length_nil, Nat.reduceAdd, Nat.reduceSub, Array.replicate_succ, Array.replicate_zero, List.push_toArray, List.append_toArray, List.nil_append, List.cons_append]
  have hc0 : W.cell? ⟨bx, ox, none⟩ = some (.slice ad ns.length cap) := qNN (hS _ _ h0).1 hcx
  gi_wp2
  gi_loopw [3] (fun i wr => ∃ k : Nat, k ≤ ns.length ∧ i = .int .i64 ((ns.length : Int) - 1 - k) ∧ J k wr) (fun i _ => ((intOf i) + 1).toNat)
  case atStart => exact ⟨0, Nat.zero_le _, by simp, h0⟩
  case round =>
    obtain ⟨k, hk, rfl, hJs⟩ := hrel
    by_cases hlt : k < ns.length
    · have hcx' : wr.cell? ⟨bx, ox, none⟩ = some (.slice ad ns.length cap) := qNN (hS _ _ hJs).1 hcx
      rcases had with rfl | ⟨rfl, hc⟩
      · exact absurd hlt (Nat.not_lt_zero _)
      have hn : ns[ns.length - 1 - k]? = some (ns[ns.length - 1 - k]'(by omega)) := List.getElem?_eq_getElem (by omega)
      generalize ns[ns.length - 1 - k]'(by omega) = n at hn
      have hce : wr.cell? ⟨be, oe + (ns.length - 1 - k), none⟩ = some (.int .i64 n) := by
        rcases (hS _ _ hJs).2 with rfl | h
        · exact absurd hlt (Nat.not_lt_zero _)
        · exact qNN h (hc _ _ hn)
      have hi : (ns.length : Int) - 1 - k = ((ns.length - 1 - k : Nat) : Int) := by omega
      obtain ⟨fn, tmps, assign, body, hy, hR⟩ := hY k wr n hlt hn hJs
      rw [hi]
      generalize hj : ns.length - 1 - k = j at *
      gi_wp2
      refine hR.mono ?_
      rintro e W3 ⟨rfl, hJ3⟩
      gi_wp2
      go_roundw
      case rel => exact ⟨k + 1, by omega, by first | (simp; done) | (simp; omega), hJ3⟩
      case measure => simp [intOf]
    · obtain rfl : k = ns.length := by omega
      gi_wp2
      go_end0
      exact ⟨⟨_, rfl⟩, hJs⟩
theorem qS9 : QA Tryz.prog 162 ∧ ∀ args w, (callFunc 162 args).run Tryz.prog w = .ok (.enter 162 args) w :=
  ⟨qS8, enters_of Tryz.func162 (by kernel_rfl) rfl⟩
end Go.Proofs.YtoajhcbnlebbeaaGreat
