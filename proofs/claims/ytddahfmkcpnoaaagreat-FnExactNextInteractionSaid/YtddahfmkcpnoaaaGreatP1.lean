/- Texts AbG .. Dbg0: the abstract machine, its laws and contracts of functions: lemmas for the statement. No condition. -/
import Derived.IntWalk
import Derived.KernelRfl
import Derived.Test.YtddahfmkcpnoaaaGreatP0
namespace Go.Ab
open Go
set_option maxRecDepth 10000
def idxF (w : Nat) (sh : Option Nat) : AFun := ⟨2, 19, [.t 4],
 .seq (.reg true [⟨0, some 4, none, .mov (.c (.int .i64 0)), []⟩]) (.seq (.seq (.reg true [⟨0, some 6, none, .mov (.t 0), []⟩,
⟨1, some 7, none, .len (.t 6), []⟩,
⟨2, some 8, none, .mov (.c (.int .i64 0)), []⟩]) (.blk 0 (.loop (.seq (.reg true [⟨0, some 9, none, .bin .lss (.t 8) (.t 7), []⟩]) (.seq (.cond (.t 9) (.skip) (.exit 0)) (.seq (.blk 1 (.seq (.reg true [⟨0, some 10, none, .mov (.t 8), []⟩,
⟨1, some 5, none, .mov (.t 10), []⟩]) (.seq (.reg true [⟨0, some 11, none, .mov (.t 1), []⟩,
⟨1, some 12, none, .mov (.t 0), []⟩,
⟨2, some 13, none, .mov (.t 5), []⟩,
⟨3, some 14, none, .iaddr w (.t 12) (.t 13), []⟩,
⟨4, some 15, none, .load sh (.t 14), []⟩,
⟨5, some 16, none, .callv (.t 11) [.t 15], []⟩]) (.cond (.t 16) (.seq (.reg true [⟨0, some 17, none, .mov (.t 5), []⟩,
⟨1, some 4, none, .mov (.t 17), []⟩]) (.ret)) (.skip))))) (.reg true [⟨0, some 18, none, .bin .add (.t 8) (.c (.int .i64 1)), []⟩,
⟨1, some 8, none, .mov (.t 18), []⟩]))))))) (.seq (.reg true [⟨0, some 4, none, .mov (.c (.int .i64 (-1))), []⟩]) (.ret)))⟩
def ctnF (g : Nat) : AFun := ⟨2, 9, [.t 4],
 .seq (.reg true [⟨0, some 4, none, .mov (.c (.bool false)), []⟩]) (.seq (.reg true [⟨0, some 5, none, .mov (.t 0), []⟩,
⟨1, some 6, none, .mov (.t 1), []⟩,
⟨2, some 7, none, .call g [.t 5, .t 6], []⟩,
⟨3, some 8, none, .bin .geq (.t 7) (.c (.int .i64 0)), []⟩,
⟨4, some 4, none, .mov (.t 8), []⟩]) (.ret))⟩
def szS (w : Nat) (sh : Option Nat) (g : Nat) : AFun := ⟨2, 27, [.t 4],
 .seq (.reg true [⟨0, some 4, none, .mov (.c (.int .i64 0)), []⟩]) (.seq (.reg true [⟨0, some 6, none, .mov (.t 1), []⟩,
⟨1, some 7, none, .mov (.t 0), []⟩,
⟨2, some 8, none, .len (.t 7), []⟩,
⟨3, some 9, none, .bin .sub (.t 6) (.t 8), []⟩,
⟨4, some 1, none, .mov (.t 9), []⟩]) (.seq (.seq (.reg true [⟨0, some 10, none, .mov (.t 1), []⟩,
⟨1, some 11, none, .bin .lss (.t 10) (.c (.int .i64 0)), []⟩]) (.cond (.t 11) (.seq (.reg true [⟨0, some 4, none, .mov (.c (.int .i64 (-1))), []⟩]) (.ret)) (.skip))) (.seq (.seq (.reg true [⟨0, some 5, none, .mov (.c (.int .i64 0)), []⟩]) (.blk 0 (.loop (.seq (.seq (.reg true [⟨0, some 12, none, .mov (.t 5), []⟩,
⟨1, some 13, none, .mov (.t 0), []⟩,
⟨2, some 14, none, .len (.t 13), []⟩,
⟨3, some 15, none, .bin .lss (.t 12) (.t 14), []⟩]) (.cond (.t 15) (.skip) (.exit 0))) (.seq (.blk 1 (.seq (.reg true [⟨0, some 18, none, .mov (.t 0), []⟩,
⟨1, some 19, none, .mov (.t 5), []⟩,
⟨2, some 20, none, .iaddr w (.t 18) (.t 19), []⟩,
⟨3, some 21, none, .load sh (.t 20), []⟩,
⟨4, some 22, none, .mov (.t 1), []⟩,
⟨5, some 23, none, .call g [.t 21, .t 22], []⟩,
⟨6, some 1, none, .mov (.t 23), []⟩]) (.seq (.reg true [⟨0, some 24, none, .mov (.t 1), []⟩,
⟨1, some 25, none, .bin .lss (.t 24) (.c (.int .i64 0)), []⟩]) (.cond (.t 25) (.seq (.reg true [⟨0, some 4, none, .mov (.c (.int .i64 (-1))), []⟩]) (.ret)) (.skip))))) (.reg true [⟨0, some 16, none, .mov (.t 5), []⟩,
⟨1, some 17, none, .bin .add (.t 16) (.c (.int .i64 1)), []⟩,
⟨2, some 5, none, .mov (.t 17), []⟩])))))) (.seq (.reg true [⟨0, some 26, none, .mov (.t 1), []⟩,
⟨1, some 4, none, .mov (.t 26), []⟩]) (.ret)))))⟩
def szS0  : AFun := ⟨2, 12, [.t 4],
 .seq (.reg true [⟨0, some 4, none, .mov (.c (.int .i64 0)), []⟩]) (.seq (.reg true [⟨0, some 5, none, .mov (.t 1), []⟩,
⟨1, some 6, none, .mov (.t 0), []⟩,
⟨2, some 7, none, .len (.t 6), []⟩,
⟨3, some 8, none, .bin .sub (.t 5) (.t 7), []⟩,
⟨4, some 1, none, .mov (.t 8), []⟩]) (.seq (.seq (.reg true [⟨0, some 9, none, .mov (.t 1), []⟩,
⟨1, some 10, none, .bin .lss (.t 9) (.c (.int .i64 0)), []⟩]) (.cond (.t 10) (.seq (.reg true [⟨0, some 4, none, .mov (.c (.int .i64 (-1))), []⟩]) (.ret)) (.skip))) (.seq (.reg true [⟨0, some 11, none, .mov (.t 1), []⟩,
⟨1, some 4, none, .mov (.t 11), []⟩]) (.ret))))⟩
def toS (w : Nat) (sh : Option Nat) (z : AV) (g : Nat) : AFun := ⟨1, 23, [.t 2],
 .seq (.reg true [⟨0, some 2, none, .mov (.c (.nils)), []⟩]) (.seq (.reg true [⟨0, some 5, none, .mov (.t 0), []⟩,
⟨1, some 6, none, .len (.t 5), []⟩,
⟨2, some 7, none, .mksl w z (.t 6) (.t 6), []⟩,
⟨3, some 3, none, .mov (.t 7), []⟩]) (.seq (.seq (.reg true [⟨0, some 4, none, .mov (.c (.int .i64 0)), []⟩]) (.blk 0 (.loop (.seq (.seq (.reg true [⟨0, some 8, none, .mov (.t 4), []⟩,
⟨1, some 9, none, .mov (.t 0), []⟩,
⟨2, some 10, none, .len (.t 9), []⟩,
⟨3, some 11, none, .bin .lss (.t 8) (.t 10), []⟩]) (.cond (.t 11) (.skip) (.exit 0))) (.seq (.blk 1 (.reg true [⟨0, some 14, none, .mov (.t 3), []⟩,
⟨1, some 15, none, .mov (.t 4), []⟩,
⟨2, some 16, none, .mov (.t 0), []⟩,
⟨3, some 17, none, .mov (.t 4), []⟩,
⟨4, some 18, none, .iaddr w (.t 16) (.t 17), []⟩,
⟨5, some 19, none, .load sh (.t 18), []⟩,
⟨6, some 20, none, .call g [.t 19], []⟩,
⟨7, some 21, none, .iaddr w (.t 14) (.t 15), []⟩,
⟨8, none, none, .store w (.t 21) (.t 20), []⟩])) (.reg true [⟨0, some 12, none, .mov (.t 4), []⟩,
⟨1, some 13, none, .bin .add (.t 12) (.c (.int .i64 1)), []⟩,
⟨2, some 4, none, .mov (.t 13), []⟩])))))) (.seq (.reg true [⟨0, some 22, none, .mov (.t 3), []⟩,
⟨1, some 2, none, .mov (.t 22), []⟩]) (.ret))))⟩
def toS0  : AFun := ⟨1, 22, [.t 2],
 .seq (.reg true [⟨0, some 2, none, .mov (.c (.nils)), []⟩]) (.seq (.reg true [⟨0, some 5, none, .mov (.t 0), []⟩,
⟨1, some 6, none, .len (.t 5), []⟩,
⟨2, some 7, none, .mksl 1 (.int .i64 0) (.t 6) (.t 6), []⟩,
⟨3, some 3, none, .mov (.t 7), []⟩]) (.seq (.seq (.reg true [⟨0, some 4, none, .mov (.c (.int .i64 0)), []⟩]) (.blk 0 (.loop (.seq (.seq (.reg true [⟨0, some 8, none, .mov (.t 4), []⟩,
⟨1, some 9, none, .mov (.t 0), []⟩,
⟨2, some 10, none, .len (.t 9), []⟩,
⟨3, some 11, none, .bin .lss (.t 8) (.t 10), []⟩]) (.cond (.t 11) (.skip) (.exit 0))) (.seq (.blk 1 (.reg true [⟨0, some 14, none, .mov (.t 3), []⟩,
⟨1, some 15, none, .mov (.t 4), []⟩,
⟨2, some 16, none, .mov (.t 0), []⟩,
⟨3, some 17, none, .mov (.t 4), []⟩,
⟨4, some 18, none, .iaddr 1 (.t 16) (.t 17), []⟩,
⟨5, some 19, none, .load none (.t 18), []⟩,
⟨6, some 20, none, .iaddr 1 (.t 14) (.t 15), []⟩,
⟨7, none, none, .store 1 (.t 20) (.t 19), []⟩])) (.reg true [⟨0, some 12, none, .mov (.t 4), []⟩,
⟨1, some 13, none, .bin .add (.t 12) (.c (.int .i64 1)), []⟩,
⟨2, some 4, none, .mov (.t 13), []⟩])))))) (.seq (.reg true [⟨0, some 21, none, .mov (.t 3), []⟩,
⟨1, some 2, none, .mov (.t 21), []⟩]) (.ret))))⟩
def eqS (w : Nat) (sh : Option Nat) (g : Nat) : AFun := ⟨2, 27, [.t 4],
 .seq (.reg true [⟨0, some 4, none, .mov (.c (.bool false)), []⟩]) (.seq (.seq (.reg true [⟨0, some 6, none, .mov (.t 0), []⟩,
⟨1, some 7, none, .len (.t 6), []⟩,
⟨2, some 8, none, .mov (.t 1), []⟩,
⟨3, some 9, none, .len (.t 8), []⟩,
⟨4, some 10, none, .bin .neq (.t 7) (.t 9), []⟩]) (.cond (.t 10) (.seq (.reg true [⟨0, some 4, none, .mov (.c (.bool false)), []⟩]) (.ret)) (.skip))) (.seq (.seq (.reg true [⟨0, some 5, none, .mov (.c (.int .i64 0)), []⟩]) (.blk 0 (.loop (.seq (.seq (.reg true [⟨0, some 11, none, .mov (.t 5), []⟩,
⟨1, some 12, none, .mov (.t 0), []⟩,
⟨2, some 13, none, .len (.t 12), []⟩,
⟨3, some 14, none, .bin .lss (.t 11) (.t 13), []⟩]) (.cond (.t 14) (.skip) (.exit 0))) (.seq (.blk 1 (.seq (.reg true [⟨0, some 17, none, .mov (.t 0), []⟩,
⟨1, some 18, none, .mov (.t 5), []⟩,
⟨2, some 19, none, .iaddr w (.t 17) (.t 18), []⟩,
⟨3, some 20, none, .load sh (.t 19), []⟩,
⟨4, some 21, none, .mov (.t 1), []⟩,
⟨5, some 22, none, .mov (.t 5), []⟩,
⟨6, some 23, none, .iaddr w (.t 21) (.t 22), []⟩,
⟨7, some 24, none, .load sh (.t 23), []⟩,
⟨8, some 25, none, .call g [.t 20, .t 24], []⟩,
⟨9, some 26, none, .not (.t 25), []⟩]) (.cond (.t 26) (.seq (.reg true [⟨0, some 4, none, .mov (.c (.bool false)), []⟩]) (.ret)) (.skip)))) (.reg true [⟨0, some 15, none, .mov (.t 5), []⟩,
⟨1, some 16, none, .bin .add (.t 15) (.c (.int .i64 1)), []⟩,
⟨2, some 5, none, .mov (.t 16), []⟩])))))) (.seq (.reg true [⟨0, some 4, none, .mov (.c (.bool true)), []⟩]) (.ret))))⟩
def eqS0  : AFun := ⟨2, 26, [.t 4],
 .seq (.reg true [⟨0, some 4, none, .mov (.c (.bool false)), []⟩]) (.seq (.seq (.reg true [⟨0, some 6, none, .mov (.t 0), []⟩,
⟨1, some 7, none, .len (.t 6), []⟩,
⟨2, some 8, none, .mov (.t 1), []⟩,
⟨3, some 9, none, .len (.t 8), []⟩,
⟨4, some 10, none, .bin .neq (.t 7) (.t 9), []⟩]) (.cond (.t 10) (.seq (.reg true [⟨0, some 4, none, .mov (.c (.bool false)), []⟩]) (.ret)) (.skip))) (.seq (.seq (.reg true [⟨0, some 5, none, .mov (.c (.int .i64 0)), []⟩]) (.blk 0 (.loop (.seq (.seq (.reg true [⟨0, some 11, none, .mov (.t 5), []⟩,
⟨1, some 12, none, .mov (.t 0), []⟩,
⟨2, some 13, none, .len (.t 12), []⟩,
⟨3, some 14, none, .bin .lss (.t 11) (.t 13), []⟩]) (.cond (.t 14) (.skip) (.exit 0))) (.seq (.blk 1 (.seq (.reg true [⟨0, some 17, none, .mov (.t 0), []⟩,
⟨1, some 18, none, .mov (.t 5), []⟩,
⟨2, some 19, none, .iaddr 1 (.t 17) (.t 18), []⟩,
⟨3, some 20, none, .load none (.t 19), []⟩,
⟨4, some 21, none, .mov (.t 1), []⟩,
⟨5, some 22, none, .mov (.t 5), []⟩,
⟨6, some 23, none, .iaddr 1 (.t 21) (.t 22), []⟩,
⟨7, some 24, none, .load none (.t 23), []⟩,
⟨8, some 25, none, .bin .neq (.t 20) (.t 24), []⟩]) (.cond (.t 25) (.seq (.reg true [⟨0, some 4, none, .mov (.c (.bool false)), []⟩]) (.ret)) (.skip)))) (.reg true [⟨0, some 15, none, .mov (.t 5), []⟩,
⟨1, some 16, none, .bin .add (.t 15) (.c (.int .i64 1)), []⟩,
⟨2, some 5, none, .mov (.t 16), []⟩])))))) (.seq (.reg true [⟨0, some 4, none, .mov (.c (.bool true)), []⟩]) (.ret))))⟩
theorem wrap_small {n : Int} (h : -9223372036854775808 ≤ n) (h' : n ≤ 9223372036854775807) : IntKind.i64.wrap n = n := IntWalk.i64_in n ⟨h, h'⟩
theorem wrap_succ {n : Nat} (h : n < 4611686018427387904) : IntKind.i64.wrap ((n : Int) + 1) = ((n + 1 : Nat) : Int) := by
  rw [wrap_small (by omega) (by omega)]; rfl
structure Sh {α : Type} (enc : α → AV) (w : Nat) (sh : Option Nat) : Prop where
  tree : ∀ x, (enc x).tree = true
  len : ∀ x, (enc x).cells.length = w
  part : ∀ x, (enc x).part 0 sh = some (enc x)
  pos : 0 < w
  agg : ∀ x, (∃ cs, enc x = .agg cs) ↔ sh ≠ none
def encI (n : Int) : AV := .int .i64 n
theorem shI : Sh encI 1 none := ⟨fun _ => rfl, fun _ => rfl, fun _ => rfl, by decide, fun _ => by simp [encI]⟩
def encB (b : Bool) : AV := .bool b
def encS (b : List UInt8) : AV := .str b
theorem shB : Sh encB 1 none := ⟨fun _ => rfl, fun _ => rfl, fun _ => rfl, by decide, fun _ => by simp [encB]⟩
theorem shS : Sh encS 1 none := ⟨fun _ => rfl, fun _ => rfl, fun _ => rfl, by decide, fun _ => by simp [encS]⟩
theorem trees_map {α : Type} {enc : α → AV} (h : ∀ x, (enc x).tree = true) (xs : List α) : AV.trees (xs.map enc) = true := by
  induction xs with
  | nil => rfl
  | cons x xs ih => simp [AV.trees, h, ih]
def encL {α : Type} (w : Nat) (enc : α → AV) (xs : List α) : AV := .lst w (xs.map enc) false
theorem shL {α : Type} {enc : α → AV} {w : Nat} {sh : Option Nat} (h : Sh enc w sh) : Sh (encL w enc) 1 none :=
  ⟨fun x => by simp only [encL, AV.tree]; exact trees_map h.tree x, fun _ => rfl, fun _ => rfl, by decide, fun _ => by simp [encL]⟩
section
variable {Γ : Nat → Option AFn} {α : Type} {enc : α → AV} {w : Nat} {sh : Option Nat} {g gc : Nat}
def PureV (Γ : Nat → Option AFn) (f : AV) (as : List AV) (v : AV) : Prop := ∃ g cs, f = .fn g cs ∧ Pure Γ g (as ++ cs) v
def idxFrom (p : α → Bool) : List α → Nat → Int
  | [], _ => -1
  | x :: xs, i => if p x then i else idxFrom p xs (i + 1)
theorem idxFrom_any (p : α → Bool) : ∀ (xs : List α) (i : Nat), decide (0 ≤ idxFrom p xs i) = xs.any p
  | [], i => by simp [idxFrom]
  | x :: xs, i => by
    simp only [idxFrom, List.any_cons]
    by_cases h : p x = true
    · simp [h]
    · simp only [h, Bool.false_eq_true, if_false, Bool.false_or]; simpa [h] using idxFrom_any p xs (i + 1)
theorem idxF_ok (hs : Sh enc w sh) (hg : Γ g = some (.fn (idxF w sh))) (f : AV) (p : α → Bool) (hft : f.tree = true) (xs : List α) (hf : ∀ x ∈ xs, PureV Γ f [enc x] (.bool (p x))) (hl : xs.length ≤ 1048576) :
    Pure Γ g [.lst w (xs.map enc) false, f] (.int .i64 (idxFrom p xs 0)) := by
  refine Pure.intro [] [] hg (by kernel_rfl) rfl (by simp [AV.trees, AV.tree, trees_map hs.tree, hft]) rfl ?_
  simp only [idxF, vparams, go_sem, Nat.reduceEqDiff, reduceIte, Bool.not_true, Bool.not_false, Bool.false_eq_true]
  refine Sem.loop (fun i : Nat => i ≤ xs.length ∧ idxFrom p xs 0 = idxFrom p (xs.drop i) i)
    (fun i => (⟨[(0, .lst w (xs.map enc) false), (1, f), (7, .int .i64 xs.length), (8, .int .i64 (i : Nat))], [], []⟩ : VSt)) (fun i => xs.length - i) 0 (by kernel_rfl) ⟨Nat.zero_le _, by simp⟩ ?_ ?_
  · exact Can.sub (by simp [go_sem]) trivial
  · rintro i ⟨hi, hI⟩
    simp only [go_sem, Nat.reduceEqDiff, reduceIte, Bool.not_true, Bool.not_false, Bool.false_eq_true]
    refine cnd_split ?_ ?_ <;> intro hc <;> simp only [hc, go_sem, Nat.reduceEqDiff, reduceIte, Bool.not_true, Bool.not_false, Bool.false_eq_true]
    · have hlt : i < xs.length := by have := of_decide_eq_true hc; omega
      simp only [List.getElem?_map, List.getElem?_eq_getElem hlt, Option.map_some, hs.part, go_sem, Nat.reduceEqDiff, reduceIte, Bool.not_true, Bool.not_false, Bool.false_eq_true]
      obtain ⟨g, cs, rfl, h2⟩ := hf xs[i] (List.getElem_mem hlt)
      simp only [go_sem, Nat.reduceEqDiff, reduceIte, Bool.not_true, Bool.not_false, Bool.false_eq_true]
      refine call_pure h2 ?_
      simp only [go_sem, Nat.reduceEqDiff, reduceIte, Bool.not_true, Bool.not_false, Bool.false_eq_true]
      have hd : xs.drop i = xs[i] :: xs.drop (i + 1) := by simp
      refine cnd_split ?_ ?_ <;> intro hc <;> simp only [hc, go_sem, Nat.reduceEqDiff, reduceIte, Bool.not_true, Bool.not_false, Bool.false_eq_true]
      · refine fin_eq rfl ?_
        rw [hI, hd]; simp [idxFrom, hc]
      · simp only [wrap_succ (show i < 4611686018427387904 by omega)]
        refine loopQ_nrm (i + 1) ⟨by omega, ?_⟩ (by omega) (Can.sub (by simp [go_sem]) trivial)
        rw [hI, hd]; simp [idxFrom, hc]
    · have hge : i = xs.length := by have := of_decide_eq_false hc; omega
      subst hge
      refine fin_eq rfl ?_
      rw [hI]; simp [idxFrom]
theorem ctnF_ok (hs : Sh enc w sh) (hg : Γ g = some (.fn (ctnF gc))) (hgc : Γ gc = some (.fn (idxF w sh))) (f : AV) (p : α → Bool) (hft : f.tree = true) (xs : List α) (hf : ∀ x ∈ xs, PureV Γ f [enc x] (.bool (p x))) (hl : xs.length ≤ 1048576) :
    Pure Γ g [.lst w (xs.map enc) false, f] (.bool (xs.any p)) := by
  refine Pure.intro [] [] hg rfl rfl (by simp [AV.trees, AV.tree, trees_map hs.tree, hft]) rfl ?_
  simp only [ctnF, vparams, go_sem, Nat.reduceEqDiff, reduceIte, Bool.not_true, Bool.not_false, Bool.false_eq_true]
  refine call_pure (idxF_ok hs hgc f p hft xs hf hl) ?_
  simp only [go_sem, Nat.reduceEqDiff, reduceIte, Bool.not_true, Bool.not_false, Bool.false_eq_true]
  exact fin_eq rfl (by rw [idxFrom_any])
def leftI (n : Nat) (left : Nat) : Int := if n ≤ left then ((left - n : Nat) : Int) else -1
theorem leftI_pos {n l : Nat} (h : n ≤ l) : leftI n l = ((l - n : Nat) : Int) := if_pos h
theorem leftI_neg {n l : Nat} (h : l < n) : leftI n l = -1 := if_neg (by omega)
theorem leftI_lt {n l : Nat} : leftI n l < 0 ↔ l < n := by
  by_cases h : n ≤ l
  · rw [leftI_pos h]; omega
  · rw [leftI_neg (by omega)]; omega
theorem leftI_cut {a b l : Nat} (h : a ≤ l) : leftI (a + b) l = leftI b (l - a) := by
  by_cases h2 : a + b ≤ l
  · rw [leftI_pos h2, leftI_pos (by omega)]; congr 1; omega
  · rw [leftI_neg (by omega), leftI_neg (by omega)]
theorem szS0_ok (hg : Γ g = some (.fn szS0)) (hs : ∀ x, (enc x).tree = true) (xs : List α) (left : Nat) (hl : left ≤ 1048576) (hx : xs.length ≤ 140737488355328) : Pure Γ g [.lst w (xs.map enc) false, .int .i64 left] (.int .i64 (leftI xs.length left)) := by
  refine Pure.intro [] [] hg rfl rfl (by simp [AV.trees, AV.tree, trees_map hs]) rfl ?_
  simp only [szS0, vparams, go_sem, Nat.reduceEqDiff, reduceIte, Bool.not_true, Bool.not_false, Bool.false_eq_true]
  rw [wrap_small (by simp; omega) (by simp; omega)]
  refine cnd_split ?_ ?_ <;> intro hc <;> simp only [hc, go_sem, Nat.reduceEqDiff, reduceIte, Bool.not_true, Bool.not_false, Bool.false_eq_true]
  · have := of_decide_eq_true hc
    refine fin_eq rfl ?_
    simp only [List.length_map] at this
    rw [leftI_neg (by omega)]
  · have := of_decide_eq_false hc
    refine fin_eq rfl ?_
    simp only [List.length_map] at this ⊢
    rw [leftI_pos (by omega)]; congr 1; omega
def sumN {α : Type} (f : α → Nat) : List α → Nat
  | [] => 0
  | x :: xs => f x + sumN f xs
theorem le_sumN {α : Type} {f : α → Nat} : ∀ {xs : List α} {x : α}, x ∈ xs → f x ≤ sumN f xs
  | y :: ys, x, h => by
    simp only [sumN]
    rcases List.mem_cons.1 h with rfl | h
    · omega
    · have := le_sumN (f := f) h; omega
theorem szS_ok (hs : Sh enc w sh) (hg : Γ g = some (.fn (szS w sh gc))) (sz : α → Nat) (xs : List α) (hc : ∀ x ∈ xs, ∀ left : Nat, left ≤ 1048576 → Pure Γ gc [enc x, .int .i64 left] (.int .i64 (leftI (sz x) left)))
    (left : Nat) (hl : left ≤ 1048576) (hx : xs.length ≤ 140737488355328) : Pure Γ g [.lst w (xs.map enc) false, .int .i64 left] (.int .i64 (leftI (xs.length + sumN sz xs) left)) := by
  refine Pure.intro [] [] hg (by kernel_rfl) rfl (by simp [AV.trees, AV.tree, trees_map hs.tree]) rfl ?_
  simp only [szS, vparams, go_sem, Nat.reduceEqDiff, reduceIte, Bool.not_true, Bool.not_false, Bool.false_eq_true]
  rw [wrap_small (by simp; omega) (by simp; omega)]
  refine cnd_split ?_ ?_ <;> intro hc1 <;> simp only [hc1, go_sem, Nat.reduceEqDiff, reduceIte, Bool.not_true, Bool.not_false, Bool.false_eq_true]
  · have := of_decide_eq_true hc1
    refine fin_eq rfl ?_
    simp only [List.length_map] at this
    rw [leftI_neg (by omega)]
  · have h0 := of_decide_eq_false hc1
    simp only [List.length_map] at h0
    refine Sem.loop (fun a : Nat × Nat => a.1 ≤ xs.length ∧ a.2 ≤ 1048576 ∧ leftI (xs.length + sumN sz xs) left = leftI (sumN sz (xs.drop a.1)) a.2)
      (fun a => (⟨[(0, .lst w (xs.map enc) false), (1, .int .i64 (a.2 : Nat)), (5, .int .i64 (a.1 : Nat))], [], []⟩ : VSt)) (fun a => xs.length - a.1) (0, left - xs.length) (by kernel_rfl) ⟨Nat.zero_le _, by simp only; omega, ?_⟩ ?_ ?_
    · exact leftI_cut (by omega)
    · refine Can.sub ?_ trivial
      simp only [go_sem, Nat.reduceEqDiff, reduceIte, Bool.not_true, Bool.not_false, Bool.false_eq_true, List.length_map, Option.some.injEq, AV.int.injEq, true_and, and_true]
      refine ⟨by omega, rfl⟩
    · rintro ⟨i, lf⟩ ⟨hi, hlf, hI⟩
      simp only at hi hlf hI
      simp only [go_sem, Nat.reduceEqDiff, reduceIte, Bool.not_true, Bool.not_false, Bool.false_eq_true]
      refine cnd_split ?_ ?_ <;> intro hc2 <;> simp only [hc2, go_sem, Nat.reduceEqDiff, reduceIte, Bool.not_true, Bool.not_false, Bool.false_eq_true]
      · have hlt : i < xs.length := by have := of_decide_eq_true hc2; simp only [List.length_map] at this; omega
        simp only [List.getElem?_map, List.getElem?_eq_getElem hlt, Option.map_some, hs.part, go_sem, Nat.reduceEqDiff, reduceIte, Bool.not_true, Bool.not_false, Bool.false_eq_true]
        refine call_pure (hc xs[i] (List.getElem_mem hlt) lf hlf) ?_
        simp only [go_sem, Nat.reduceEqDiff, reduceIte, Bool.not_true, Bool.not_false, Bool.false_eq_true]
        have hd : xs.drop i = xs[i] :: xs.drop (i + 1) := by simp
        refine cnd_split ?_ ?_ <;> intro hc3 <;> simp only [hc3, go_sem, Nat.reduceEqDiff, reduceIte, Bool.not_true, Bool.not_false, Bool.false_eq_true]
        · have := of_decide_eq_true hc3
          refine fin_eq rfl ?_
          rw [leftI_lt] at this
          rw [hI, hd, leftI_neg (by simp only [sumN]; omega)]
        · have := of_decide_eq_false hc3
          have hle : sz xs[i] ≤ lf := by rw [leftI_lt] at this; omega
          simp only [wrap_succ (show i < 4611686018427387904 by omega)]
          refine loopQ_nrm (i + 1, lf - sz xs[i]) ⟨by simp only; omega, by simp only; omega, ?_⟩ (by simp only; omega) (Can.sub ?_ trivial)
          · simp only
            rw [hI, hd]
            exact leftI_cut hle
          · simp only [go_sem, Nat.reduceEqDiff, reduceIte, Bool.not_true, Bool.not_false, Bool.false_eq_true, Option.some.injEq, AV.int.injEq, true_and, and_true]
            rw [leftI_pos hle]
      · have hge : i = xs.length := by have := of_decide_eq_false hc2; simp only [List.length_map] at this; omega
        subst hge
        refine fin_eq rfl ?_
        rw [hI, List.drop_length]; rw [leftI_pos (by simp [sumN])]; simp [sumN]
theorem trees_append {xs ys : List AV} (h1 : AV.trees xs = true) (h2 : AV.trees ys = true) : AV.trees (xs ++ ys) = true := by
  induction xs with
  | nil => exact h2
  | cons x xs ih => simp only [AV.trees, Bool.and_eq_true, List.cons_append] at h1 ⊢; exact ⟨h1.1, ih h1.2⟩
theorem trees_replicate {z : AV} (h : z.tree = true) : ∀ n, AV.trees (List.replicate n z) = true
  | 0 => rfl
  | n + 1 => by simp only [List.replicate_succ, AV.trees, h, trees_replicate h n, Bool.and_self]
theorem Cv.row {h : List AObj} {w id n : Nat} {el : List AV} {c : Bool} (ho : h[id]? = some (.row w el true)) (hn : el.length = n) (ht : AV.trees el = true) (hw : 0 < w) : Cv h (.slice w id 0 n c) (.lst w el false) := by
  have e : (el.drop 0).take n = el := by rw [List.drop_zero, ← hn, List.take_length]
  refine .slc ho (by omega) hw (by rw [e]) ?_
  rw [e]
  intro p hp
  have q : p.1 = p.2 := by
    obtain ⟨i, hi, rfl⟩ := List.getElem_of_mem hp
    simp
  rw [← q]
  exact .refl (trees_get ht (List.of_mem_zip hp).1)
theorem set_fill {α : Type} {f : α → AV} {z : AV} {xs : List α} {i : Nat} (hi : i < xs.length) : ((xs.take i).map f ++ List.replicate (xs.length - i) z).set i (f xs[i]) = (xs.take (i + 1)).map f ++ List.replicate (xs.length - (i + 1)) z := by
  have e : xs.length - i = (xs.length - (i + 1)) + 1 := by omega
  have hl : ((xs.take i).map f).length = i := by simp; omega
  rw [e, List.replicate_succ, List.set_append_right _ _ (by omega), hl, Nat.sub_self, List.set_cons_zero, List.take_succ_eq_append_getElem hi, List.map_append, List.append_assoc]
  rfl
theorem fill_at {α : Type} {f : α → AV} {z : AV} {xs : List α} {i : Nat} (hi : i < xs.length) : ((xs.take i).map f ++ List.replicate (xs.length - i) z)[i]? = some z := by
  have hl : ((xs.take i).map f).length = i := by simp; omega
  rw [List.getElem?_append_right (by omega), hl, Nat.sub_self]
  rw [List.getElem?_replicate, if_pos (by omega)]
theorem toS_ok {z : AV} (hs : Sh enc w sh) (hz : z.tree = true) (hzl : z.cells.length = w) (hza : (∃ cs, z = .agg cs) ↔ sh ≠ none) (hg : Γ g = some (.fn (toS w sh z gc))) (xs : List α) (hc : ∀ x ∈ xs, Pure Γ gc [enc x] (enc x)) (hl : xs.length ≤ 1048576) :
    Pure Γ g [.lst w (xs.map enc) false] (.lst w (xs.map enc) false) := by
  have ht : AV.trees (xs.map enc) = true := trees_map hs.tree xs
  refine Pure.intro [] [] hg (by simp [toS, ACode.ok, AOp.ok, ckSt, Ao.ok, AV.tree, hz, AOper.o, AOper.d, AOper.ck, AOp.isCall]) rfl (by simp [AV.trees, AV.tree, ht]) (by simp [AV.tree, ht]) ?_
  simp only [toS, vparams, go_sem, Nat.reduceEqDiff, reduceIte, Bool.not_true, Bool.not_false, Bool.false_eq_true]
  refine mks_ok (by simp only [List.length_map, LIM]; omega) ?_
  simp only [go_sem, Nat.reduceEqDiff, reduceIte, Bool.not_true, Bool.not_false, Bool.false_eq_true]
  refine Sem.loop (fun i : Nat => i ≤ xs.length)
    (fun i => (⟨[(0, .lst w (xs.map enc) false), (3, .slice w 0 0 xs.length false), (4, .int .i64 (i : Nat))], [], [.row w ((xs.take i).map enc ++ List.replicate (xs.length - i) z) true]⟩ : VSt)) (fun i => xs.length - i) 0
    (by simp [Fr1.ok, ACode.ok, AOp.ok, ckSt, Ao.ok, AV.tree, AOper.o, AOper.d, AOper.ck, AOp.isCall]) (Nat.zero_le _) ?_ ?_
  · simp only [List.take_zero, List.map_nil, List.nil_append, Nat.sub_zero, List.length_map, List.length_nil]
    exact Can.sub (by simp [go_sem]) trivial
  · intro i hi
    simp only [go_sem, Nat.reduceEqDiff, reduceIte, Bool.not_true, Bool.not_false, Bool.false_eq_true]
    refine cnd_split ?_ ?_ <;> intro hc2 <;> simp only [hc2, go_sem, Nat.reduceEqDiff, reduceIte, Bool.not_true, Bool.not_false, Bool.false_eq_true]
    · have hlt : i < xs.length := by have := of_decide_eq_true hc2; simp only [List.length_map] at this; omega
      simp only [List.getElem?_map, List.getElem?_eq_getElem hlt, Option.map_some, hs.part, go_sem, Nat.reduceEqDiff, reduceIte, Bool.not_true, Bool.not_false, Bool.false_eq_true]
      refine call_pure (hc xs[i] (List.getElem_mem hlt)) ?_
      simp only [go_sem, Nat.reduceEqDiff, reduceIte, Bool.not_true, Bool.not_false, Bool.false_eq_true, idx_s hlt, Nat.zero_add]
      refine sto_ok (hs.len _) rfl (fill_at hlt) (put_all hzl (hs.len _) (by rw [hza, hs.agg]) hs.pos) ?_
      rw [set_fill hlt]
      simp only [go_sem, Nat.reduceEqDiff, reduceIte, Bool.not_true, Bool.not_false, Bool.false_eq_true, wrap_succ (show i < 4611686018427387904 by omega)]
      exact loopQ_nrm (i + 1) (by omega) (by omega) (Can.sub (by simp [go_sem]) trivial)
    · have hge : i = xs.length := by have := of_decide_eq_false hc2; simp only [List.length_map] at this; omega
      subst hge
      refine fin_cv ?_
      simp only [List.take_length, Nat.sub_self, List.replicate_zero, List.append_nil]
      exact Cv.row rfl (by simp) ht hs.pos
theorem toS0_ok (hg : Γ g = some (.fn toS0)) (xs : List Int) (hl : xs.length ≤ 1048576) : Pure Γ g [.lst 1 (xs.map encI) false] (.lst 1 (xs.map encI) false) := by
  have ht : AV.trees (xs.map encI) = true := trees_map shI.tree xs
  refine Pure.intro [] [] hg (by kernel_rfl) rfl (by simp [AV.trees, AV.tree, ht]) (by simp [AV.tree, ht]) ?_
  simp only [toS0, vparams, go_sem, Nat.reduceEqDiff, reduceIte, Bool.not_true, Bool.not_false, Bool.false_eq_true]
  refine mks_ok (by simp only [List.length_map, LIM]; omega) ?_
  simp only [go_sem, Nat.reduceEqDiff, reduceIte, Bool.not_true, Bool.not_false, Bool.false_eq_true]
  refine Sem.loop (fun i : Nat => i ≤ xs.length)
    (fun i => (⟨[(0, .lst 1 (xs.map encI) false), (3, .slice 1 0 0 xs.length false), (4, .int .i64 (i : Nat))], [], [.row 1 ((xs.take i).map encI ++ List.replicate (xs.length - i) (.int .i64 0)) true]⟩ : VSt)) (fun i => xs.length - i) 0
    (by kernel_rfl) (Nat.zero_le _) ?_ ?_
  · simp only [List.take_zero, List.map_nil, List.nil_append, Nat.sub_zero, List.length_map, List.length_nil]
    exact Can.sub (by simp [go_sem]) trivial
  · intro i hi
    simp only [go_sem, Nat.reduceEqDiff, reduceIte, Bool.not_true, Bool.not_false, Bool.false_eq_true]
    refine cnd_split ?_ ?_ <;> intro hc2 <;> simp only [hc2, go_sem, Nat.reduceEqDiff, reduceIte, Bool.not_true, Bool.not_false, Bool.false_eq_true]
    · have hlt : i < xs.length := by have := of_decide_eq_true hc2; simp only [List.length_map] at this; omega
      simp only [List.getElem?_map, List.getElem?_eq_getElem hlt, Option.map_some, shI.part, go_sem, Nat.reduceEqDiff, reduceIte, Bool.not_true, Bool.not_false, Bool.false_eq_true, idx_s hlt, Nat.zero_add]
      refine sto_ok (shI.len _) rfl (fill_at hlt) (put_all (k := 1) rfl (shI.len _) (by simp [encI]) (by decide)) ?_
      rw [set_fill hlt]
      simp only [go_sem, Nat.reduceEqDiff, reduceIte, Bool.not_true, Bool.not_false, Bool.false_eq_true, wrap_succ (show i < 4611686018427387904 by omega)]
      exact loopQ_nrm (i + 1) (by omega) (by omega) (Can.sub (by simp [go_sem]) trivial)
    · have hge : i = xs.length := by have := of_decide_eq_false hc2; simp only [List.length_map] at this; omega
      subst hge
      refine fin_cv ?_
      simp only [List.take_length, Nat.sub_self, List.replicate_zero, List.append_nil]
      exact Cv.row rfl (by simp) ht (by decide)
theorem eqS_ok (hs : Sh enc w sh) (hg : Γ g = some (.fn (eqS w sh gc))) (xs : List α) (hc : ∀ x ∈ xs, Pure Γ gc [enc x, enc x] (.bool true)) (hl : xs.length ≤ 1048576) :
    Pure Γ g [.lst w (xs.map enc) false, .lst w (xs.map enc) false] (.bool true) := by
  have ht : AV.trees (xs.map enc) = true := trees_map hs.tree xs
  refine Pure.intro [] [] hg (by kernel_rfl) rfl (by simp [AV.trees, AV.tree, ht]) rfl ?_
  simp only [eqS, vparams, go_sem, Nat.reduceEqDiff, reduceIte, Bool.not_true, Bool.not_false, Bool.false_eq_true, decide_true]
  refine Sem.loop (fun i : Nat => i ≤ xs.length)
    (fun i => (⟨[(0, .lst w (xs.map enc) false), (1, .lst w (xs.map enc) false), (5, .int .i64 (i : Nat))], [], []⟩ : VSt)) (fun i => xs.length - i) 0
    (by kernel_rfl) (Nat.zero_le _) ?_ ?_
  · exact Can.sub (by simp [go_sem]) trivial
  · intro i hi
    simp only [go_sem, Nat.reduceEqDiff, reduceIte, Bool.not_true, Bool.not_false, Bool.false_eq_true]
    refine cnd_split ?_ ?_ <;> intro hc2 <;> simp only [hc2, go_sem, Nat.reduceEqDiff, reduceIte, Bool.not_true, Bool.not_false, Bool.false_eq_true]
    · have hlt : i < xs.length := by have := of_decide_eq_true hc2; simp only [List.length_map] at this; omega
      simp only [List.getElem?_map, List.getElem?_eq_getElem hlt, Option.map_some, hs.part, go_sem, Nat.reduceEqDiff, reduceIte, Bool.not_true, Bool.not_false, Bool.false_eq_true]
      refine call_pure (hc xs[i] (List.getElem_mem hlt)) ?_
      simp only [go_sem, Nat.reduceEqDiff, reduceIte, Bool.not_true, Bool.not_false, Bool.false_eq_true, wrap_succ (show i < 4611686018427387904 by omega)]
      exact loopQ_nrm (i + 1) (by omega) (by omega) (Can.sub (by simp [go_sem]) trivial)
    · exact fin_eq rfl rfl
theorem eqS0_ok (hg : Γ g = some (.fn eqS0)) (xs : List Int) (hl : xs.length ≤ 1048576) : Pure Γ g [.lst 1 (xs.map encI) false, .lst 1 (xs.map encI) false] (.bool true) := by
  have ht : AV.trees (xs.map encI) = true := trees_map shI.tree xs
  refine Pure.intro [] [] hg (by kernel_rfl) rfl (by simp [AV.trees, AV.tree, ht]) rfl ?_
  simp only [eqS0, vparams, go_sem, Nat.reduceEqDiff, reduceIte, Bool.not_true, Bool.not_false, Bool.false_eq_true, decide_true]
  refine Sem.loop (fun i : Nat => i ≤ xs.length)
    (fun i => (⟨[(0, .lst 1 (xs.map encI) false), (1, .lst 1 (xs.map encI) false), (5, .int .i64 (i : Nat))], [], []⟩ : VSt)) (fun i => xs.length - i) 0
    (by kernel_rfl) (Nat.zero_le _) ?_ ?_
  · exact Can.sub (by simp [go_sem]) trivial
  · intro i hi
    simp only [go_sem, Nat.reduceEqDiff, reduceIte, Bool.not_true, Bool.not_false, Bool.false_eq_true]
    refine cnd_split ?_ ?_ <;> intro hc2 <;> simp only [hc2, go_sem, Nat.reduceEqDiff, reduceIte, Bool.not_true, Bool.not_false, Bool.false_eq_true]
    · have hlt : i < xs.length := by have := of_decide_eq_true hc2; simp only [List.length_map] at this; omega
      simp only [List.getElem?_map, List.getElem?_eq_getElem hlt, Option.map_some, shI.part, go_sem, Nat.reduceEqDiff, reduceIte, Bool.not_true, Bool.not_false, Bool.false_eq_true, encI, decide_true, eq_self]
      simp only [wrap_succ (show i < 4611686018427387904 by omega)]
      exact loopQ_nrm (i + 1) (by omega) (by omega) (Can.sub (by simp [go_sem]) trivial)
    · exact fin_eq rfl rfl
end
def lookT (g : Nat) : List (Nat × AFun) → Option AFn
  | [] => none
  | (k, F) :: r => bif Nat.beq k g then some (.fn F) else lookT g r
end Go.Ab
namespace Go.Ab
open Go
structure GPort where
  Agent : Int
  Slot : Int
deriving DecidableEq
def GPort.enc (x : GPort) : AV := .agg [.int .i64 x.Agent, .int .i64 x.Slot]
theorem GPort.isSh : Sh GPort.enc 2 (some 2) := ⟨fun x => by simp [GPort.enc, AV.tree, AV.trees], fun _ => rfl, fun _ => rfl, by decide, fun x => by simp [GPort.enc]⟩
section
variable {x : GPort}
@[go_sem] theorem GPort.tr : x.enc.tree = true := GPort.isSh.tree x
@[go_sem] theorem GPort.ln : x.enc.cells.length = 2 := nr rfl
@[go_sem] theorem GPort.all : x.enc.part 0 (some 2) = some x.enc := nr rfl
@[go_sem] theorem GPort.cs : x.enc.cells = [.int .i64 x.Agent, .int .i64 x.Slot] := nr rfl
@[go_sem] theorem GPort.p0 : x.enc.part 0 none = some (.int .i64 x.Agent) := nr rfl
@[go_sem] theorem GPort.p1 : x.enc.part 1 none = some (.int .i64 x.Slot) := nr rfl
@[go_sem] theorem GPort.eqf {y : GPort} : seq2 false [1, 1] (some x.enc) (some y.enc) = some (.bool (decide (x = y))) := by
  obtain ⟨a0, a1⟩ := x; obtain ⟨b0, b1⟩ := y
  simp only [seq2, GPort.enc, List.map_cons, List.map_nil, dig, and_self, if_true, cellsEq, sclEq, GPort.mk.injEq]
  repeat' (split <;> simp_all)
@[go_sem] theorem GPort.eqt {y : GPort} : seq2 true [1, 1] (some x.enc) (some y.enc) = some (.bool (!decide (x = y))) := by
  have h := GPort.eqf (x := x) (y := y)
  unfold seq2 at h ⊢
  split <;> simp_all
end
structure GAgent where
  Kind : Int
  Level : Int
  Value : Int
  Data : List Int
  Ports : List GPort
def GAgent.enc (x : GAgent) : AV := .agg [.int .i64 x.Kind, .int .i64 x.Level, .int .i64 x.Value, .lst 1 (x.Data.map encI) false, .lst 2 (x.Ports.map GPort.enc) false]
theorem GAgent.isSh : Sh GAgent.enc 5 (some 5) := ⟨fun x => by simp [GAgent.enc, AV.tree, AV.trees, trees_map GPort.isSh.tree, trees_map shI.tree], fun _ => rfl, fun _ => rfl, by decide, fun x => by simp [GAgent.enc]⟩
section
variable {x : GAgent}
@[go_sem] theorem GAgent.tr : x.enc.tree = true := GAgent.isSh.tree x
@[go_sem] theorem GAgent.ln : x.enc.cells.length = 5 := nr rfl
@[go_sem] theorem GAgent.all : x.enc.part 0 (some 5) = some x.enc := nr rfl
@[go_sem] theorem GAgent.cs : x.enc.cells = [.int .i64 x.Kind, .int .i64 x.Level, .int .i64 x.Value, .lst 1 (x.Data.map encI) false, .lst 2 (x.Ports.map GPort.enc) false] := nr rfl
@[go_sem] theorem GAgent.p0 : x.enc.part 0 none = some (.int .i64 x.Kind) := nr rfl
@[go_sem] theorem GAgent.p1 : x.enc.part 1 none = some (.int .i64 x.Level) := nr rfl
@[go_sem] theorem GAgent.p2 : x.enc.part 2 none = some (.int .i64 x.Value) := nr rfl
@[go_sem] theorem GAgent.p3 : x.enc.part 3 none = some (.lst 1 (x.Data.map encI) false) := nr rfl
@[go_sem] theorem GAgent.p4 : x.enc.part 4 none = some (.lst 2 (x.Ports.map GPort.enc) false) := nr rfl
end
def GAgent.sz (x : GAgent) : Nat := x.Data.length + x.Ports.length
def GAgent.bd (x : GAgent) : Prop := x.Data.length ≤ 140737488355328 ∧ x.Ports.length ≤ 140737488355328
structure GNet where
  Agents : List GAgent
def GNet.enc (x : GNet) : AV := .agg [.lst 5 (x.Agents.map GAgent.enc) false]
theorem GNet.isSh : Sh GNet.enc 1 (some 1) := ⟨fun x => by simp [GNet.enc, AV.tree, AV.trees, trees_map GAgent.isSh.tree], fun _ => rfl, fun _ => rfl, by decide, fun x => by simp [GNet.enc]⟩
section
variable {x : GNet}
@[go_sem] theorem GNet.tr : x.enc.tree = true := GNet.isSh.tree x
@[go_sem] theorem GNet.ln : x.enc.cells.length = 1 := nr rfl
@[go_sem] theorem GNet.all : x.enc.part 0 (some 1) = some x.enc := nr rfl
@[go_sem] theorem GNet.cs : x.enc.cells = [.lst 5 (x.Agents.map GAgent.enc) false] := nr rfl
@[go_sem] theorem GNet.p0 : x.enc.part 0 none = some (.lst 5 (x.Agents.map GAgent.enc) false) := nr rfl
@[go_sem] theorem GNet.lst1 {E : Ev} {t off : Nat} {cs : List AV} {l : List AOper} {ks : List Fr1} {s m : LEnv} {h : List AObj} {Q : AExit → VSt → Prop} : Lst E t off 1 (some (.agg cs)) (some x.enc) l ks ⟨s, m, h⟩ Q = LstP E t (setc cs off (.lst 5 (x.Agents.map GAgent.enc) false)) l ks ⟨s, m, h⟩ Q := lst_one rfl
end
def GNet.sz (x : GNet) : Nat := (x.Agents.length + sumN GAgent.sz x.Agents)
def GNet.bd (x : GNet) : Prop := x.Agents.length ≤ 140737488355328 ∧ (∀ y ∈ x.Agents, GAgent.bd y)
structure GOrigin where
  Step : Int
  Def : Int
  Source : Int
deriving DecidableEq
def GOrigin.enc (x : GOrigin) : AV := .agg [.int .i64 x.Step, .int .i64 x.Def, .int .i64 x.Source]
theorem GOrigin.isSh : Sh GOrigin.enc 3 (some 3) := ⟨fun x => by simp [GOrigin.enc, AV.tree, AV.trees], fun _ => rfl, fun _ => rfl, by decide, fun x => by simp [GOrigin.enc]⟩
section
variable {x : GOrigin}
@[go_sem] theorem GOrigin.tr : x.enc.tree = true := GOrigin.isSh.tree x
@[go_sem] theorem GOrigin.ln : x.enc.cells.length = 3 := nr rfl
@[go_sem] theorem GOrigin.all : x.enc.part 0 (some 3) = some x.enc := nr rfl
@[go_sem] theorem GOrigin.cs : x.enc.cells = [.int .i64 x.Step, .int .i64 x.Def, .int .i64 x.Source] := nr rfl
@[go_sem] theorem GOrigin.p0 : x.enc.part 0 none = some (.int .i64 x.Step) := nr rfl
@[go_sem] theorem GOrigin.p1 : x.enc.part 1 none = some (.int .i64 x.Def) := nr rfl
@[go_sem] theorem GOrigin.p2 : x.enc.part 2 none = some (.int .i64 x.Source) := nr rfl
@[go_sem] theorem GOrigin.eqf {y : GOrigin} : seq2 false [1, 1, 1] (some x.enc) (some y.enc) = some (.bool (decide (x = y))) := by
  obtain ⟨a0, a1, a2⟩ := x; obtain ⟨b0, b1, b2⟩ := y
  simp only [seq2, GOrigin.enc, List.map_cons, List.map_nil, dig, and_self, if_true, cellsEq, sclEq, GOrigin.mk.injEq]
  repeat' (split <;> simp_all)
@[go_sem] theorem GOrigin.eqt {y : GOrigin} : seq2 true [1, 1, 1] (some x.enc) (some y.enc) = some (.bool (!decide (x = y))) := by
  have h := GOrigin.eqf (x := x) (y := y)
  unfold seq2 at h ⊢
  split <;> simp_all
end
structure GBreak where
  Kind : Int
  Value : Int
deriving DecidableEq
def GBreak.enc (x : GBreak) : AV := .agg [.int .i64 x.Kind, .int .i64 x.Value]
theorem GBreak.isSh : Sh GBreak.enc 2 (some 2) := ⟨fun x => by simp [GBreak.enc, AV.tree, AV.trees], fun _ => rfl, fun _ => rfl, by decide, fun x => by simp [GBreak.enc]⟩
section
variable {x : GBreak}
@[go_sem] theorem GBreak.tr : x.enc.tree = true := GBreak.isSh.tree x
@[go_sem] theorem GBreak.ln : x.enc.cells.length = 2 := nr rfl
@[go_sem] theorem GBreak.all : x.enc.part 0 (some 2) = some x.enc := nr rfl
@[go_sem] theorem GBreak.cs : x.enc.cells = [.int .i64 x.Kind, .int .i64 x.Value] := nr rfl
@[go_sem] theorem GBreak.p0 : x.enc.part 0 none = some (.int .i64 x.Kind) := nr rfl
@[go_sem] theorem GBreak.p1 : x.enc.part 1 none = some (.int .i64 x.Value) := nr rfl
@[go_sem] theorem GBreak.eqf {y : GBreak} : seq2 false [1, 1] (some x.enc) (some y.enc) = some (.bool (decide (x = y))) := by
  obtain ⟨a0, a1⟩ := x; obtain ⟨b0, b1⟩ := y
  simp only [seq2, GBreak.enc, List.map_cons, List.map_nil, dig, and_self, if_true, cellsEq, sclEq, GBreak.mk.injEq]
  repeat' (split <;> simp_all)
@[go_sem] theorem GBreak.eqt {y : GBreak} : seq2 true [1, 1] (some x.enc) (some y.enc) = some (.bool (!decide (x = y))) := by
  have h := GBreak.eqf (x := x) (y := y)
  unfold seq2 at h ⊢
  split <;> simp_all
end
structure GCheckpoint where
  At : Int
  Net : GNet
  Origins : List GOrigin
def GCheckpoint.enc (x : GCheckpoint) : AV := .agg [.int .i64 x.At, .lst 5 (x.Net.Agents.map GAgent.enc) false, .lst 3 (x.Origins.map GOrigin.enc) false]
theorem GCheckpoint.isSh : Sh GCheckpoint.enc 3 (some 3) := ⟨fun x => by simp [GCheckpoint.enc, AV.tree, AV.trees, trees_map GAgent.isSh.tree, trees_map GOrigin.isSh.tree], fun _ => rfl, fun _ => rfl, by decide, fun x => by simp [GCheckpoint.enc]⟩
section
variable {x : GCheckpoint}
@[go_sem] theorem GCheckpoint.tr : x.enc.tree = true := GCheckpoint.isSh.tree x
@[go_sem] theorem GCheckpoint.ln : x.enc.cells.length = 3 := nr rfl
@[go_sem] theorem GCheckpoint.all : x.enc.part 0 (some 3) = some x.enc := nr rfl
@[go_sem] theorem GCheckpoint.cs : x.enc.cells = [.int .i64 x.At, .lst 5 (x.Net.Agents.map GAgent.enc) false, .lst 3 (x.Origins.map GOrigin.enc) false] := nr rfl
@[go_sem] theorem GCheckpoint.p0 : x.enc.part 0 none = some (.int .i64 x.At) := nr rfl
@[go_sem] theorem GCheckpoint.p1 : x.enc.part 1 none = some (.lst 5 (x.Net.Agents.map GAgent.enc) false) := nr rfl
@[go_sem] theorem GCheckpoint.p2 : x.enc.part 2 none = some (.lst 3 (x.Origins.map GOrigin.enc) false) := nr rfl
@[go_sem] theorem GCheckpoint.q1_1 : x.enc.part 1 (some 1) = some (GNet.enc x.Net) := nr rfl
end
def GCheckpoint.sz (x : GCheckpoint) : Nat := GNet.sz x.Net + x.Origins.length
def GCheckpoint.bd (x : GCheckpoint) : Prop := GNet.bd x.Net ∧ x.Origins.length ≤ 140737488355328
structure GDebugger where
  Book : List GNet
  Schedule : List Int
  Every : Int
  At : Int
  Net : GNet
  Origins : List GOrigin
  Breaks : List GBreak
  Points : List GCheckpoint
def GDebugger.enc (x : GDebugger) : AV := .agg [.lst 1 (x.Book.map GNet.enc) false, .lst 1 (x.Schedule.map encI) false, .int .i64 x.Every, .int .i64 x.At, .lst 5 (x.Net.Agents.map GAgent.enc) false, .lst 3 (x.Origins.map GOrigin.enc) false, .lst 2 (x.Breaks.map GBreak.enc) false, .lst 3 (x.Points.map GCheckpoint.enc) false]
theorem GDebugger.isSh : Sh GDebugger.enc 8 (some 8) := ⟨fun x => by simp [GDebugger.enc, AV.tree, AV.trees, trees_map GAgent.isSh.tree, trees_map GBreak.isSh.tree, trees_map GCheckpoint.isSh.tree, trees_map GNet.isSh.tree, trees_map GOrigin.isSh.tree, trees_map shI.tree], fun _ => rfl, fun _ => rfl, by decide, fun x => by simp [GDebugger.enc]⟩
section
variable {x : GDebugger}
@[go_sem] theorem GDebugger.tr : x.enc.tree = true := GDebugger.isSh.tree x
@[go_sem] theorem GDebugger.ln : x.enc.cells.length = 8 := nr rfl
@[go_sem] theorem GDebugger.all : x.enc.part 0 (some 8) = some x.enc := nr rfl
@[go_sem] theorem GDebugger.cs : x.enc.cells = [.lst 1 (x.Book.map GNet.enc) false, .lst 1 (x.Schedule.map encI) false, .int .i64 x.Every, .int .i64 x.At, .lst 5 (x.Net.Agents.map GAgent.enc) false, .lst 3 (x.Origins.map GOrigin.enc) false, .lst 2 (x.Breaks.map GBreak.enc) false, .lst 3 (x.Points.map GCheckpoint.enc) false] := nr rfl
@[go_sem] theorem GDebugger.p0 : x.enc.part 0 none = some (.lst 1 (x.Book.map GNet.enc) false) := nr rfl
@[go_sem] theorem GDebugger.p1 : x.enc.part 1 none = some (.lst 1 (x.Schedule.map encI) false) := nr rfl
@[go_sem] theorem GDebugger.p2 : x.enc.part 2 none = some (.int .i64 x.Every) := nr rfl
@[go_sem] theorem GDebugger.p3 : x.enc.part 3 none = some (.int .i64 x.At) := nr rfl
@[go_sem] theorem GDebugger.p4 : x.enc.part 4 none = some (.lst 5 (x.Net.Agents.map GAgent.enc) false) := nr rfl
@[go_sem] theorem GDebugger.p5 : x.enc.part 5 none = some (.lst 3 (x.Origins.map GOrigin.enc) false) := nr rfl
@[go_sem] theorem GDebugger.p6 : x.enc.part 6 none = some (.lst 2 (x.Breaks.map GBreak.enc) false) := nr rfl
@[go_sem] theorem GDebugger.p7 : x.enc.part 7 none = some (.lst 3 (x.Points.map GCheckpoint.enc) false) := nr rfl
@[go_sem] theorem GDebugger.q4_1 : x.enc.part 4 (some 1) = some (GNet.enc x.Net) := nr rfl
end
def GDebugger.sz (x : GDebugger) : Nat := (x.Book.length + sumN GNet.sz x.Book) + x.Schedule.length + GNet.sz x.Net + x.Origins.length + x.Breaks.length + (x.Points.length + sumN GCheckpoint.sz x.Points)
def GDebugger.bd (x : GDebugger) : Prop := x.Book.length ≤ 140737488355328 ∧ (∀ y ∈ x.Book, GNet.bd y) ∧ x.Schedule.length ≤ 140737488355328 ∧ GNet.bd x.Net ∧ x.Origins.length ≤ 140737488355328 ∧ x.Breaks.length ≤ 140737488355328 ∧ x.Points.length ≤ 140737488355328 ∧ (∀ y ∈ x.Points, GCheckpoint.bd y)
end Go.Ab
