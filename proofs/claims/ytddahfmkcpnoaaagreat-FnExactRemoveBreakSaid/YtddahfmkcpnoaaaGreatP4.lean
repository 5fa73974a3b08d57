/- Texts AbO .. AbO8: the abstract machine, its laws and contracts of functions: lemmas for the statement. No condition. -/
import Derived.Test.YtddahfmkcpnoaaaGreatP3
namespace Go.Ab
open Go
mutual
def lay : AV → Nat → AV × List AObj
  | .lst w xs _, n => (.slice w n 0 xs.length false, .row w (lays xs (n + 1)).1 true :: (lays xs (n + 1)).2)
  | .agg xs, n => (.agg (lays xs n).1, (lays xs n).2)
  | .tup xs, n => (.tup (lays xs n).1, (lays xs n).2)
  | v, _ => (v, [])
def lays : List AV → Nat → List AV × List AObj
  | [], _ => ([], [])
  | x :: xs, n => ((lay x n).1 :: (lays xs (n + (lay x n).2.length)).1, (lay x n).2 ++ (lays xs (n + (lay x n).2.length)).2)
end
mutual
def AV.pl : AV → Bool
  | .lst _ xs _ | .agg xs | .tup xs => AV.pls xs
  | .bool _ | .int _ _ | .str _ | .nilp | .nils | .nilm | .nilf | .nili => true
  | _ => false
def AV.pls : List AV → Bool
  | [] => true
  | x :: xs => AV.pl x && AV.pls xs
end
mutual
def AV.rows : AV → Nat
  | .lst _ xs _ => AV.rowss xs + 1
  | .agg xs | .tup xs => AV.rowss xs
  | _ => 0
def AV.rowss : List AV → Nat
  | [] => 0
  | x :: xs => AV.rows x + AV.rowss xs
end
mutual
theorem lay_len : ∀ (t : AV) (n : Nat), (lay t n).2.length = t.rows
  | .lst _ xs _, n => by simp only [lay, List.length_cons, AV.rows, lays_len xs]
  | .agg xs, n => by simp only [lay, AV.rows, lays_len xs]
  | .tup xs, n => by simp only [lay, AV.rows, lays_len xs]
  | .bool _, _ | .int _ _, _ | .str _, _ | .nilp, _ | .nils, _ | .nilm, _ | .nilf, _ | .nili, _ | .any, _ => rfl
  | .ptr _ _ _, _ | .slice _ _ _ _ _, _ | .map _, _ | .ept _ _, _ | .fn _ _, _ | .iface _ _, _ => rfl
theorem lays_len : ∀ (xs : List AV) (n : Nat), (lays xs n).2.length = AV.rowss xs
  | [], _ => rfl
  | x :: xs, n => by simp only [lays, List.length_append, lay_len x, lays_len xs, AV.rowss]
end
theorem lays_length : ∀ (xs : List AV) (n : Nat), (lays xs n).1.length = xs.length
  | [], _ => rfl
  | x :: xs, n => by simp only [lays, List.length_cons, lays_length xs]
theorem lays_app : ∀ (xs ys : List AV) (n : Nat), lays (xs ++ ys) n = ((lays xs n).1 ++ (lays ys (n + AV.rowss xs)).1, (lays xs n).2 ++ (lays ys (n + AV.rowss xs)).2)
  | [], ys, n => by simp [lays, AV.rowss]
  | x :: xs, ys, n => by
    simp only [List.cons_append, lays, lays_app xs ys, AV.rowss, lay_len, Nat.add_assoc, List.append_assoc]
theorem rowss_app : ∀ (xs ys : List AV), AV.rowss (xs ++ ys) = AV.rowss xs + AV.rowss ys
  | [], ys => by simp [AV.rowss]
  | x :: xs, ys => by simp only [List.cons_append, AV.rowss, rowss_app xs ys]; omega
section
variable {ρ ρ' : Ren}
def Sh2 (ρ : Ren) (a : Nat) (ρ' : Ren) (b n : Nat) : Prop := ∀ i, i < n → ρ' (b + i) = ρ (a + i)
theorem Sh2.sub {a b n : Nat} (h : Sh2 ρ a ρ' b n) (k m : Nat) (hk : k + m ≤ n) : Sh2 ρ (a + k) ρ' (b + k) m := fun i hi => by
  have := h (k + i) (by omega)
  rw [show a + k + i = a + (k + i) by omega, show b + k + i = b + (k + i) by omega]; exact this
mutual
theorem lay_rel : ∀ (t : AV) (a b : Nat) (r : AV), t.pl = true → Sh2 ρ a ρ' b t.rows → RelV ρ (lay t a).1 r → RelV ρ' (lay t b).1 r
  | .lst w xs _, a, b, r, _, hs, h => by
    have h0 := hs 0 (by simp only [AV.rows]; omega)
    simp only [Nat.add_zero] at h0
    simp only [lay, RelV] at h ⊢
    rw [h0]; exact h
  | .agg xs, a, b, r, hp, hs, h => by
    simp only [lay, RelV] at h ⊢
    obtain ⟨ds, h1, h2⟩ := h
    exact ⟨ds, h1, lays_rel xs a b ds hp hs h2⟩
  | .tup xs, a, b, r, hp, hs, h => by
    simp only [lay, RelV] at h ⊢
    obtain ⟨ds, h1, h2⟩ := h
    exact ⟨ds, h1, lays_rel xs a b ds hp hs h2⟩
  | .bool _, _, _, _, _, _, h | .int _ _, _, _, _, _, _, h | .str _, _, _, _, _, _, h | .nilp, _, _, _, _, _, h | .nils, _, _, _, _, _, h | .nilm, _, _, _, _, _, h | .nilf, _, _, _, _, _, h | .nili, _, _, _, _, _, h => by
    simpa only [lay, RelV] using h
  | .any, _, _, _, hp, _, _ | .ptr _ _ _, _, _, _, hp, _, _ | .slice _ _ _ _ _, _, _, _, hp, _, _ | .map _, _, _, _, hp, _, _ | .ept _ _, _, _, _, hp, _, _ | .fn _ _, _, _, _, hp, _, _ | .iface _ _, _, _, _, hp, _, _ => by cases hp
theorem lays_rel : ∀ (xs : List AV) (a b : Nat) (rs : List AV), AV.pls xs = true → Sh2 ρ a ρ' b (AV.rowss xs) → RelVs ρ (lays xs a).1 rs → RelVs ρ' (lays xs b).1 rs
  | [], _, _, _, _, _, h => by simpa only [lays, RelVs] using h
  | x :: xs, a, b, rs, hp, hs, h => by
    simp only [AV.pls, Bool.and_eq_true] at hp
    simp only [lays, RelVs, lay_len] at h ⊢
    obtain ⟨u, us, h1, h2, h3⟩ := h
    simp only [AV.rowss] at hs
    exact ⟨u, us, h1, lay_rel x a b u hp.1 (by simpa using hs.sub 0 x.rows (by omega)) h2, lays_rel xs _ _ us hp.2 (hs.sub x.rows (AV.rowss xs) (by omega)) h3⟩
end
def Lies (ρ : Ren) (a : Nat) (os : List AObj) (hr : AH) : Prop := ∀ i o, os[i]? = some o → RelO ρ (a + i) hr o
theorem Lies.app {a : Nat} {os os' : List AObj} {hr : AH} : Lies ρ a (os ++ os') hr ↔ Lies ρ a os hr ∧ Lies ρ (a + os.length) os' hr := by
  constructor
  · intro h
    refine ⟨fun i o hi => h i o ?_, fun i o hi => ?_⟩
    · rw [List.getElem?_append_left (List.getElem?_eq_some_iff.1 hi).1]; exact hi
    · have := h (os.length + i) o (by rw [List.getElem?_append_right (by omega)]; simpa using hi)
      rw [show a + os.length + i = a + (os.length + i) by omega]; exact this
  · rintro ⟨h1, h2⟩ i o hi
    rcases Nat.lt_or_ge i os.length with q | q
    · rw [List.getElem?_append_left q] at hi; exact h1 i o hi
    · rw [List.getElem?_append_right q] at hi
      have := h2 _ _ hi
      rw [show a + os.length + (i - os.length) = a + i by omega] at this; exact this
theorem Lies.cons {a : Nat} {o : AObj} {os : List AObj} {hr : AH} : Lies ρ a (o :: os) hr ↔ RelO ρ a hr o ∧ Lies ρ (a + 1) os hr := by
  have := Lies.app (ρ := ρ) (a := a) (os := [o]) (os' := os) (hr := hr)
  rw [List.singleton_append] at this
  rw [this]
  constructor
  · rintro ⟨h1, h2⟩; exact ⟨h1 0 o rfl, h2⟩
  · rintro ⟨h1, h2⟩
    refine ⟨fun i x hi => ?_, h2⟩
    cases i with
    | zero => simp at hi; subst hi; exact h1
    | succ i => simp at hi
mutual
theorem lay_lies {hr hr' : AH} : ∀ (t : AV) (a b : Nat), t.pl = true → Sh2 ρ a ρ' b t.rows → (∀ i x o, i < t.rows → ρ (a + i) = some (some x) → hr x = some o → hr' x = some o) → Lies ρ a (lay t a).2 hr → Lies ρ' b (lay t b).2 hr'
  | .lst w xs _, a, b, hp, hs, hh, h => by
    simp only [lay, Lies.cons] at h ⊢
    simp only [AV.rows] at hs hh
    obtain ⟨h1, h2⟩ := h
    refine ⟨?_, lays_lies xs (a + 1) (b + 1) hp (hs.sub 1 _ (by omega)) (fun i x o hi hx hx2 => hh (1 + i) x o (by omega) (by rw [← Nat.add_assoc]; exact hx) hx2) h2⟩
    have h0 := hs 0 (by omega)
    simp only [Nat.add_zero] at h0
    rcases h1 with ⟨q1, q2, q3⟩ | ⟨i', el', q1, q2, q3⟩
    · refine .inl ⟨by rw [h0]; exact q1, ?_, q3⟩
      have l1 := lays_length xs (a + 1)
      have l2 := lays_length xs (b + 1)
      rw [q2] at l1
      exact List.eq_nil_of_length_eq_zero (by rw [l2, ← l1]; rfl)
    · exact .inr ⟨i', el', by rw [h0]; exact q1, hh 0 i' _ (by omega) q1 q2, lays_rel xs _ _ _ hp (hs.sub 1 _ (by omega)) q3⟩
  | .agg xs, a, b, hp, hs, hh, h => by
    simp only [lay] at h ⊢
    exact lays_lies xs a b hp hs hh h
  | .tup xs, a, b, hp, hs, hh, h => by
    simp only [lay] at h ⊢
    exact lays_lies xs a b hp hs hh h
  | .bool _, _, _, _, _, _, _ | .int _ _, _, _, _, _, _, _ | .str _, _, _, _, _, _, _ | .nilp, _, _, _, _, _, _ | .nils, _, _, _, _, _, _ | .nilm, _, _, _, _, _, _ | .nilf, _, _, _, _, _, _ | .nili, _, _, _, _, _, _ => by
    intro i o hi; simp [lay] at hi
  | .any, _, _, hp, _, _, _ | .ptr _ _ _, _, _, hp, _, _, _ | .slice _ _ _ _ _, _, _, hp, _, _, _ | .map _, _, _, hp, _, _, _ | .ept _ _, _, _, hp, _, _, _ | .fn _ _, _, _, hp, _, _, _ | .iface _ _, _, _, hp, _, _, _ => by cases hp
theorem lays_lies {hr hr' : AH} : ∀ (xs : List AV) (a b : Nat), AV.pls xs = true → Sh2 ρ a ρ' b (AV.rowss xs) → (∀ i x o, i < AV.rowss xs → ρ (a + i) = some (some x) → hr x = some o → hr' x = some o) → Lies ρ a (lays xs a).2 hr → Lies ρ' b (lays xs b).2 hr'
  | [], _, _, _, _, _, _ => by intro i o hi; simp [lays] at hi
  | x :: xs, a, b, hp, hs, hh, h => by
    simp only [AV.pls, Bool.and_eq_true] at hp
    simp only [AV.rowss] at hs hh
    simp only [lays, Lies.app, lay_len] at h ⊢
    exact ⟨lay_lies x a b hp.1 (by simpa using hs.sub 0 x.rows (by omega)) (fun i y o hi => hh i y o (by omega)) h.1,
      lays_lies xs _ _ hp.2 (hs.sub x.rows _ (by omega)) (fun i y o hi hy => hh (x.rows + i) y o (by omega) (by rw [← Nat.add_assoc]; exact hy)) h.2⟩
end
mutual
theorem lay_nol : ∀ (t : AV) (a : Nat) (r : AV), t.pl = true → RelV ρ (lay t a).1 r → r.nol = true
  | .lst w xs _, a, r, _, h => by
    simp only [lay, RelV] at h
    rcases h with ⟨_, _, rfl⟩ | ⟨_, _, _, rfl | rfl⟩ <;> rfl
  | .agg xs, a, r, hp, h => by
    simp only [lay, RelV] at h
    obtain ⟨ds, rfl, h2⟩ := h
    simp only [AV.nol]; exact lays_nol xs a ds hp h2
  | .tup xs, a, r, hp, h => by
    simp only [lay, RelV] at h
    obtain ⟨ds, rfl, h2⟩ := h
    simp only [AV.nol]; exact lays_nol xs a ds hp h2
  | .bool _, _, _, _, h | .int _ _, _, _, _, h | .str _, _, _, _, h | .nilp, _, _, _, h | .nils, _, _, _, h | .nilm, _, _, _, h | .nilf, _, _, _, h | .nili, _, _, _, h => by
    simp only [lay, RelV] at h; subst h; rfl
  | .any, _, _, hp, _ | .ptr _ _ _, _, _, hp, _ | .slice _ _ _ _ _, _, _, hp, _ | .map _, _, _, hp, _ | .ept _ _, _, _, hp, _ | .fn _ _, _, _, hp, _ | .iface _ _, _, _, hp, _ => by cases hp
theorem lays_nol : ∀ (xs : List AV) (a : Nat) (rs : List AV), AV.pls xs = true → RelVs ρ (lays xs a).1 rs → AV.nols rs = true
  | [], _, _, _, h => by simp only [lays, RelVs] at h; subst h; rfl
  | x :: xs, a, rs, hp, h => by
    simp only [AV.pls, Bool.and_eq_true] at hp
    simp only [lays, RelVs] at h
    obtain ⟨u, us, rfl, h2, h3⟩ := h
    simp only [AV.nols, Bool.and_eq_true]
    exact ⟨lay_nol x a u hp.1 h2, lays_nol xs _ us hp.2 h3⟩
end
mutual
theorem lay_rows : ∀ (t : AV) (a i : Nat) (o : AObj), t.pl = true → (lay t a).2[i]? = some o → ∃ w xs b, o = .row w (lays xs b).1 true ∧ AV.pls xs = true
  | .lst w xs _, a, i, o, hp, h => by
    simp only [lay] at h
    cases i with
    | zero => simp at h; subst h; exact ⟨w, xs, a + 1, rfl, hp⟩
    | succ i => exact lays_rows xs (a + 1) i o hp (by simpa using h)
  | .agg xs, a, i, o, hp, h => by simp only [lay] at h; exact lays_rows xs a i o hp h
  | .tup xs, a, i, o, hp, h => by simp only [lay] at h; exact lays_rows xs a i o hp h
  | .bool _, _, _, _, _, h | .int _ _, _, _, _, _, h | .str _, _, _, _, _, h | .nilp, _, _, _, _, h | .nils, _, _, _, _, h | .nilm, _, _, _, _, h | .nilf, _, _, _, _, h | .nili, _, _, _, _, h => by
    simp [lay] at h
  | .any, _, _, _, hp, _ | .ptr _ _ _, _, _, _, hp, _ | .slice _ _ _ _ _, _, _, _, hp, _ | .map _, _, _, _, hp, _ | .ept _ _, _, _, _, hp, _ | .fn _ _, _, _, _, hp, _ | .iface _ _, _, _, _, hp, _ => by cases hp
theorem lays_rows : ∀ (xs : List AV) (a i : Nat) (o : AObj), AV.pls xs = true → (lays xs a).2[i]? = some o → ∃ w ys b, o = .row w (lays ys b).1 true ∧ AV.pls ys = true
  | [], _, _, _, _, h => by simp [lays] at h
  | x :: xs, a, i, o, hp, h => by
    simp only [AV.pls, Bool.and_eq_true] at hp
    simp only [lays] at h
    rcases Nat.lt_or_ge i (lay x a).2.length with q | q
    · rw [List.getElem?_append_left q] at h; exact lay_rows x a i o hp.1 h
    · rw [List.getElem?_append_right q] at h; exact lays_rows xs _ _ o hp.2 h
end
end
variable {Γ : Nat → Option AFn} {g : Nat} {vs vs' as : List AV} {h : List AObj} {t t' : AV}
def Fresh (Γ : Nat → Option AFn) (g : Nat) (as : List AV) (t : AV) : Prop :=
  AV.trees as = true ∧ t.pl = true ∧ ∀ hr ar, RelVs ρ0 as ar → ∃ k r hr' ρ', Ex Γ k (.call g ar hr) (.res (.ok r) hr') ∧ RelH ρ' (lay t 0).2 hr' ∧ RelV ρ' (lay t 0).1 r ∧ Fm 0 ρ0 hr ρ' hr'
def both (ρ : Ren) (n : Nat) (ρ' : Ren) : Ren := fun i => if i < n then ρ i else ρ' (i - n)
theorem embed {ρ ρ' : Ren} {hr h1 h2 : AH} {r : AV} (hp : t.pl = true) (hH : RelH ρ h hr) (hH' : RelH ρ' (lay t 0).2 h1) (hv : RelV ρ' (lay t 0).1 r)
    (hnew : ∀ i a, ρ' i = some (some a) → hr.fr a) (hold : ∀ a o, hr a = some o → h2 a = some o) (hsame : ∀ i a o, ρ' i = some (some a) → h1 a = some o → h2 a = some o) (hfr : ∀ a, h2.fr a → hr.fr a) :
    RelH (both ρ h.length ρ') (h ++ (lay t h.length).2) h2 ∧ RelV (both ρ h.length ρ') (lay t h.length).1 r ∧ Fm h.length ρ hr (both ρ h.length ρ') h2 := by
  have sh : Sh2 ρ' 0 (both ρ h.length ρ') h.length t.rows := fun i hi => by
    simp only [both, Nat.zero_add]
    rw [if_neg (by omega), Nat.add_sub_cancel_left]
  have lies : Lies ρ' 0 (lay t 0).2 h1 := fun i o hi => by rw [Nat.zero_add]; exact hH'.obj i o hi
  have lies2 : Lies (both ρ h.length ρ') h.length (lay t h.length).2 h2 := lay_lies t 0 h.length hp sh (fun i x o _ hx ho => hsame _ x o hx ho) lies
  have lo : ∀ i, i < h.length → both ρ h.length ρ' i = ρ i := fun i hi => by simp only [both, if_pos hi]
  have hi' : ∀ i, h.length ≤ i → both ρ h.length ρ' i = ρ' (i - h.length) := fun i hi => by simp only [both]; rw [if_neg (by omega)]
  have le : ρ.le (both ρ h.length ρ') := fun i a hia => by
    have : i < h.length := by
      rcases Nat.lt_or_ge i h.length with q | q
      · exact q
      · rw [hH.out i q] at hia; cases hia
    rw [lo i this]; exact hia
  refine ⟨⟨fun i o hi => ?_, fun i j a o o' h1' h2' hi hj d1 d2 => ?_, fun i hi => ?_, fun i a ha => ?_⟩, lay_rel t 0 h.length r hp sh hv, ⟨fun a o ho _ => hold a o ho, fun i a ha => ?_, hfr, fun i hi => lo i hi⟩⟩
  · rcases Nat.lt_or_ge i h.length with q | q
    · rw [List.getElem?_append_left q] at hi
      exact (hH.obj i o hi).mono le fun a o' _ ho => hold a o' ho
    · rw [List.getElem?_append_right q] at hi
      have := lies2 _ _ hi
      rwa [show h.length + (i - h.length) = i by omega] at this
  · have get0 : ∀ {i : Nat} {o : AObj}, (lay t h.length).2[i]? = some o → ∃ o2, (lay t 0).2[i]? = some o2 ∧ o2 ≠ .dead := fun {i o} hio => by
      have hl : i < (lay t 0).2.length := by
        have := (List.getElem?_eq_some_iff.1 hio).1
        rw [lay_len] at this ⊢; exact this
      refine ⟨_, List.getElem?_eq_getElem hl, ?_⟩
      obtain ⟨w, xs, b, e, _⟩ := lay_rows t 0 i _ hp (List.getElem?_eq_getElem hl)
      rw [e]; simp
    rcases Nat.lt_or_ge i h.length with q1 | q1 <;> rcases Nat.lt_or_ge j h.length with q2 | q2
    · rw [lo i q1] at h1'; rw [lo j q2] at h2'
      rw [List.getElem?_append_left q1] at hi; rw [List.getElem?_append_left q2] at hj
      exact hH.inj i j a o o' h1' h2' hi hj d1 d2
    · rw [lo i q1] at h1'; rw [hi' j q2] at h2'
      obtain ⟨x, hx⟩ := hH.is i a h1'
      have := (hnew _ a h2').1
      rw [this] at hx; cases hx
    · rw [hi' i q1] at h1'; rw [lo j q2] at h2'
      obtain ⟨x, hx⟩ := hH.is j a h2'
      have := (hnew _ a h1').1
      rw [this] at hx; cases hx
    · rw [hi' i q1] at h1'; rw [hi' j q2] at h2'
      rw [List.getElem?_append_right q1] at hi; rw [List.getElem?_append_right q2] at hj
      obtain ⟨o2, g1, g2⟩ := get0 hi
      obtain ⟨o3, g3, g4⟩ := get0 hj
      have := hH'.inj _ _ a o2 o3 h1' h2' g1 g3 g2 g4
      omega
  · simp only [List.length_append, lay_len] at hi
    rw [hi' i (by omega)]
    exact hH'.out _ (by rw [lay_len]; omega)
  · rcases Nat.lt_or_ge i h.length with q | q
    · rw [lo i q] at ha
      obtain ⟨o, ho⟩ := hH.is i a ha
      exact ⟨o, hold a o ho⟩
    · rw [hi' i q] at ha
      obtain ⟨o, ho⟩ := hH'.is _ a ha
      exact ⟨o, hsame _ a o ha ho⟩
  · rcases Nat.lt_or_ge i h.length with q | q
    · rw [lo i q] at ha; exact .inl ⟨i, ha⟩
    · rw [hi' i q] at ha; exact .inr (hnew _ a ha)
theorem Fm.new0 {ρ' : Ren} {hr hr' : AH} (h : Fm 0 ρ0 hr ρ' hr') {i a : Nat} (ha : ρ' i = some (some a)) : hr.fr a := by
  rcases h.new i a ha with ⟨j, hj⟩ | q
  · cases hj
  · exact q
theorem SCallK.fresh {K : AV → List AObj → Prop} (hp : Fresh Γ g vs t) (hk : K (lay t h.length).1 (h ++ (lay t h.length).2)) : SCallK Γ g vs h K := fun ρ hr ar hH hv => by
  unfold Fresh at hp
  obtain ⟨t1, t2, hp⟩ := hp
  obtain ⟨k, r, hr', ρ', h1, h2, h3, h4⟩ := hp hr ar (trees_any _ _ t1 hv)
  obtain ⟨q1, q2, q3⟩ := embed (h2 := hr') t2 hH h2 h3 (fun i a ha => h4.new0 ha) (fun a o ho => h4.pres a o ho (fun i hi => by cases hi)) (fun _ _ _ _ ho => ho) h4.fr
  exact ⟨k, r, hr', _, _, _, h1, hk, q1, q2, q3, by simp, fun a o ho => h4.pres a o ho (fun i hi => by cases hi)⟩
theorem SCall.fresh {K : AV → List AObj → Prop} (hp : Fresh Γ g vs t) (hk : K (lay t h.length).1 (h ++ (lay t h.length).2)) : SCall Γ g vs h K := fun ρ hr ar hH hv => by
  unfold Fresh at hp
  obtain ⟨t1, t2, hp⟩ := hp
  obtain ⟨k, r, hr', ρ', h1, h2, h3, h4⟩ := hp hr ar (trees_any _ _ t1 hv)
  obtain ⟨q1, q2, q3⟩ := embed (h2 := hr') t2 hH h2 h3 (fun i a ha => h4.new0 ha) (fun a o ho => h4.pres a o ho (fun i hi => by cases hi)) (fun _ _ _ _ ho => ho) h4.fr
  exact ⟨k, r, hr', _, _, _, h1, hk, q1, q2, q3, by simp⟩
theorem SCall.freshL {K : AV → List AObj → Prop} (hc : Cvs h vs vs') (hp : Fresh Γ g vs' t) (hk : K (lay t h.length).1 (h ++ (lay t h.length).2)) : SCall Γ g vs h K := fun ρ hr ar hH hv => by
  unfold Fresh at hp
  obtain ⟨t1, t2, hp⟩ := hp
  obtain ⟨KK, hKK⟩ := exists_all hr
  obtain ⟨rs', g1, g2, g3⟩ := hc.conv hH (K := KK) (fun i a w el ha ho => by
    rcases hH.obj i _ ho with ⟨q, _⟩ | ⟨i', el', q1, q2, _⟩
    · rw [q] at ha; cases ha
    · rw [q1] at ha; cases ha
      exact (hKK _).2 ⟨_, q2, rfl⟩) hv
  obtain ⟨k, r, hr', ρ', h1, h2, h3, h4⟩ := hp (hr.kill KK) rs' g3
  have hnew : ∀ i a, ρ' i = some (some a) → hr.fr a := fun i a ha => (AH.fr_kill (h4.new0 ha)).1
  have hrow : ∀ a, (reals ρ' (lay t 0).2 (List.range t.rows)).contains a = true → ∀ o, hr' a = some o → o.nol = true := fun a ha o ho => by
    rw [List.contains_iff_mem, reals_mem] at ha
    obtain ⟨i, w, el, _, q2, q3⟩ := ha
    obtain ⟨w', xs, b, e, hpx⟩ := lay_rows t 0 i _ t2 q3
    cases e
    rcases h2.obj i _ q3 with ⟨q, _⟩ | ⟨i', el', p1, p2, p3⟩
    · rw [q] at q2; cases q2
    · rw [p1] at q2; cases q2
      rw [p2] at ho; cases ho
      simp only [AObj.nol, Bool.true_and]
      exact lays_nol _ _ _ hpx p3
  have hin : ∀ i a o, ρ' i = some (some a) → hr' a = some o → (reals ρ' (lay t 0).2 (List.range t.rows)).contains a = true := fun i a o ha ho => by
    have hi : i < (lay t 0).2.length := by
      rcases Nat.lt_or_ge i (lay t 0).2.length with q | q
      · exact q
      · rw [h2.out i q] at ha; cases ha
    obtain ⟨w, xs, b, e, _⟩ := lay_rows t 0 i _ t2 (List.getElem?_eq_getElem hi)
    rw [List.contains_iff_mem, reals_mem]
    exact ⟨i, w, _, List.mem_range.2 (by rw [lay_len] at hi; exact hi), ha, by rw [List.getElem?_eq_getElem hi, e]⟩
  have hx := Ex.brn KK (reals ρ' (lay t 0).2 (List.range t.rows)) hKK g1 g2 (lay_nol t 0 r t2 h3) (fun a o ha _ ho => hrow a ha o ho) h1
  obtain ⟨q1, q2, q3⟩ := embed (h2 := hr.join hr' (reals ρ' (lay t 0).2 (List.range t.rows))) t2 hH h2 h3 hnew (fun a o ho => AH.join_old' ho) (fun i a o ha ho => by
    rw [AH.join_new' (hnew i a ha).1, if_pos (hin i a o ha ho)]; exact ho) (fun a ha => (AH.fr_join ha).1)
  exact ⟨k, r, _, _, _, _, hx, hk, q1, q2, q3, by simp⟩
theorem SCallK.freshL {K : AV → List AObj → Prop} (hc : Cvs h vs vs') (hp : Fresh Γ g vs' t) (hk : K (lay t h.length).1 (h ++ (lay t h.length).2)) : SCallK Γ g vs h K := fun ρ hr ar hH hv => by
  unfold Fresh at hp
  obtain ⟨t1, t2, hp⟩ := hp
  obtain ⟨KK, hKK⟩ := exists_all hr
  obtain ⟨rs', g1, g2, g3⟩ := hc.conv hH (K := KK) (fun i a w el ha ho => by
    rcases hH.obj i _ ho with ⟨q, _⟩ | ⟨i', el', q1, q2, _⟩
    · rw [q] at ha; cases ha
    · rw [q1] at ha; cases ha
      exact (hKK _).2 ⟨_, q2, rfl⟩) hv
  obtain ⟨k, r, hr', ρ', h1, h2, h3, h4⟩ := hp (hr.kill KK) rs' g3
  have hnew : ∀ i a, ρ' i = some (some a) → hr.fr a := fun i a ha => (AH.fr_kill (h4.new0 ha)).1
  have hrow : ∀ a, (reals ρ' (lay t 0).2 (List.range t.rows)).contains a = true → ∀ o, hr' a = some o → o.nol = true := fun a ha o ho => by
    rw [List.contains_iff_mem, reals_mem] at ha
    obtain ⟨i, w, el, _, q2, q3⟩ := ha
    obtain ⟨w', xs, b, e, hpx⟩ := lay_rows t 0 i _ t2 q3
    cases e
    rcases h2.obj i _ q3 with ⟨q, _⟩ | ⟨i', el', p1, p2, p3⟩
    · rw [q] at q2; cases q2
    · rw [p1] at q2; cases q2
      rw [p2] at ho; cases ho
      simp only [AObj.nol, Bool.true_and]
      exact lays_nol _ _ _ hpx p3
  have hin : ∀ i a o, ρ' i = some (some a) → hr' a = some o → (reals ρ' (lay t 0).2 (List.range t.rows)).contains a = true := fun i a o ha ho => by
    have hi : i < (lay t 0).2.length := by
      rcases Nat.lt_or_ge i (lay t 0).2.length with q | q
      · exact q
      · rw [h2.out i q] at ha; cases ha
    obtain ⟨w, xs, b, e, _⟩ := lay_rows t 0 i _ t2 (List.getElem?_eq_getElem hi)
    rw [List.contains_iff_mem, reals_mem]
    exact ⟨i, w, _, List.mem_range.2 (by rw [lay_len] at hi; exact hi), ha, by rw [List.getElem?_eq_getElem hi, e]⟩
  have hx := Ex.brn KK (reals ρ' (lay t 0).2 (List.range t.rows)) hKK g1 g2 (lay_nol t 0 r t2 h3) (fun a o ha _ ho => hrow a ha o ho) h1
  obtain ⟨q1, q2, q3⟩ := embed (h2 := hr.join hr' (reals ρ' (lay t 0).2 (List.range t.rows))) t2 hH h2 h3 hnew (fun a o ho => AH.join_old' ho) (fun i a o ha ho => by
    rw [AH.join_new' (hnew i a ha).1, if_pos (hin i a o ha ho)]; exact ho) (fun a ha => (AH.fr_join ha).1)
  exact ⟨k, r, _, _, _, _, hx, hk, q1, q2, q3, by simp, fun a o ho => AH.join_old' ho⟩
end Go.Ab
namespace Go.Ab
open Go
section
variable {Γ : Nat → Option AFn} {g : Nat}
def FinF (vs : Option (List AV)) (h : List AObj) (t : AV) : Prop := match vs with
  | some vs => ∃ μ, dist μ = true ∧ objsC μ h μ (lay t 0).2 ∧ VR2 μ (packed vs) (lay t 0).1
  | none => False
def finF (res : List ARes) (t : AV) : AExit → VSt → Prop := fun e st => (e = .nrm ∨ e = .ret) ∧ FinF (resAll (toSt st) res) st.h t
@[go_sem] theorem finF_ret {res : List ARes} {t : AV} {s m : LEnv} {h : List AObj} : finF res t .ret ⟨s, m, h⟩ = FinF (resAll (toSt ⟨s, m, h⟩) res) h t := by
  simp [finF]
@[go_sem] theorem finF_nrm {res : List ARes} {t : AV} {s m : LEnv} {h : List AObj} : finF res t .nrm ⟨s, m, h⟩ = FinF (resAll (toSt ⟨s, m, h⟩) res) h t := by
  simp [finF]
theorem Fresh.intro {F : AFun} {as : List AV} {t : AV} (fz bp : List Nat) (hg : Γ g = some (.fn F)) (hok : F.body.ok = true) (hn : as.length = F.np) (ht : AV.trees as = true) (hp : t.pl = true)
    (hR : R ⟨Γ, 0, fz, bp⟩ [.code F.body] ⟨vparams 0 as, [], []⟩ (finF F.res t)) : Fresh Γ g as t := by
  unfold Fresh
  refine ⟨ht, hp, fun hr ar har => ?_⟩
  have hS : RelS ρ0 ⟨vparams 0 as, [], []⟩ { s := params 0 ar, l := Env.empty, h := hr } := ⟨params_rel har, (fun n v h => by cases h), ⟨(fun i o h => by simp at h), (fun i j a o o' h => by cases h), (fun _ _ => rfl), (fun i a h => by cases h)⟩⟩
  obtain ⟨k, e, sr', ρ', st', g1, ⟨he, hq⟩, g3, g4, _⟩ := Sem.of (by simpa only [List.all_cons, List.all_nil, Bool.and_true, Fr1.ok] using hok) hR ρ0 _ hS (Nat.zero_le _)
  have hb : Ex Γ k (.code F.body { s := params 0 ar, l := Env.empty, h := hr }) (.st e sr') := by
    cases g1 with
    | code h h' => cases h'; exact h
    | codeX h he' hx h' => cases e <;> simp [exK] at hx
    | codeE h he' hx => exact h
  unfold FinF at hq
  split at hq
  · rename_i vs hvs
    obtain ⟨μ, m1, m2, m3⟩ := hq
    obtain ⟨rs, q1, q2⟩ := resAll_rel g3 hvs
    have hx := Ex.fn hg (by rw [har.length]; exact hn) hb he q1
    obtain ⟨r1, r2⟩ := renum_ok m1 m2 g3.h
    exact ⟨k + 1, _, _, _, hx, r1, m3.rel (packed_rel q2), g4.trans r2⟩
  · exact hq.elim
mutual
theorem lay_VR2 {μ : List (Option Nat)} : ∀ (t : AV) (a b : Nat), t.pl = true → (∀ i, i < t.rows → μ[b + i]? = some (some (a + i))) → VR2 μ (lay t a).1 (lay t b).1
  | .lst w xs _, a, b, _, h => by
    simp only [lay]
    exact .slice (by have := h 0 (by simp only [AV.rows]; omega); simpa using this)
  | .agg xs, a, b, hp, h => by
    simp only [lay]
    have := lays_VR2 xs a b hp h
    exact .agg this.1 this.2
  | .tup xs, a, b, hp, h => by
    simp only [lay]
    have := lays_VR2 xs a b hp h
    exact .tup this.1 this.2
  | .bool _, _, _, _, _ | .int _ _, _, _, _, _ | .str _, _, _, _, _ | .nilp, _, _, _, _ | .nils, _, _, _, _ | .nilm, _, _, _, _ | .nilf, _, _, _, _ | .nili, _, _, _, _ => by
    simp only [lay]; exact .tree rfl
  | .any, _, _, hp, _ | .ptr _ _ _, _, _, hp, _ | .slice _ _ _ _ _, _, _, hp, _ | .map _, _, _, hp, _ | .ept _ _, _, _, hp, _ | .fn _ _, _, _, hp, _ | .iface _ _, _, _, hp, _ => by cases hp
theorem lays_VR2 {μ : List (Option Nat)} : ∀ (xs : List AV) (a b : Nat), AV.pls xs = true → (∀ i, i < AV.rowss xs → μ[b + i]? = some (some (a + i))) → VR2s μ (lays xs a).1 (lays xs b).1
  | [], _, _, _, _ => VR2s.nil
  | x :: xs, a, b, hp, h => by
    simp only [AV.pls, Bool.and_eq_true] at hp
    simp only [AV.rowss] at h
    simp only [lays, lay_len]
    refine .cons (lay_VR2 x a b hp.1 fun i hi => h i (by omega)) (lays_VR2 xs _ _ hp.2 fun i hi => ?_)
    rw [show b + x.rows + i = b + (x.rows + i) by omega, show a + x.rows + i = a + (x.rows + i) by omega]
    exact h _ (by omega)
end
mutual
theorem lay_OR2 {μ : List (Option Nat)} {h : List AObj} : ∀ (t : AV) (a b : Nat), t.pl = true → (∀ i, i < t.rows → μ[b + i]? = some (some (a + i))) → (∀ i o, (lay t a).2[i]? = some o → h[a + i]? = some o) →
    ∀ i o, (lay t b).2[i]? = some o → OR2 μ h (some (a + i)) o
  | .lst w xs _, a, b, hp, hm, hh, i, o, hi => by
    simp only [lay] at hi hh
    simp only [AV.rows] at hm
    have hm' : ∀ i, i < AV.rowss xs → μ[b + 1 + i]? = some (some (a + 1 + i)) := fun i hi => by
      rw [show b + 1 + i = b + (i + 1) by omega, show a + 1 + i = a + (i + 1) by omega]; exact hm _ (by omega)
    cases i with
    | zero =>
      simp only [List.getElem?_cons_zero, Option.some.injEq] at hi
      subst hi
      exact .row (hh 0 _ rfl) (lays_VR2 xs _ _ hp hm')
    | succ i =>
      have := lays_OR2 xs (a + 1) (b + 1) hp hm' (fun i o hi => by
        rw [show a + 1 + i = a + (i + 1) by omega]; exact hh (i + 1) o (by simpa using hi)) i o (by simpa using hi)
      rw [show a + 1 + i = a + (i + 1) by omega] at this; exact this
  | .agg xs, a, b, hp, hm, hh, i, o, hi => by
    simp only [lay] at hi hh
    exact lays_OR2 xs a b hp hm hh i o hi
  | .tup xs, a, b, hp, hm, hh, i, o, hi => by
    simp only [lay] at hi hh
    exact lays_OR2 xs a b hp hm hh i o hi
  | .bool _, _, _, _, _, _, _, _, h | .int _ _, _, _, _, _, _, _, _, h | .str _, _, _, _, _, _, _, _, h | .nilp, _, _, _, _, _, _, _, h | .nils, _, _, _, _, _, _, _, h | .nilm, _, _, _, _, _, _, _, h | .nilf, _, _, _, _, _, _, _, h | .nili, _, _, _, _, _, _, _, h => by
    simp [lay] at h
  | .any, _, _, hp, _, _, _, _, _ | .ptr _ _ _, _, _, hp, _, _, _, _, _ | .slice _ _ _ _ _, _, _, hp, _, _, _, _, _ | .map _, _, _, hp, _, _, _, _, _ | .ept _ _, _, _, hp, _, _, _, _, _ | .fn _ _, _, _, hp, _, _, _, _, _ | .iface _ _, _, _, hp, _, _, _, _, _ => by cases hp
theorem lays_OR2 {μ : List (Option Nat)} {h : List AObj} : ∀ (xs : List AV) (a b : Nat), AV.pls xs = true → (∀ i, i < AV.rowss xs → μ[b + i]? = some (some (a + i))) → (∀ i o, (lays xs a).2[i]? = some o → h[a + i]? = some o) →
    ∀ i o, (lays xs b).2[i]? = some o → OR2 μ h (some (a + i)) o
  | [], _, _, _, _, _, _, _, hi => by simp [lays] at hi
  | x :: xs, a, b, hp, hm, hh, i, o, hi => by
    simp only [AV.pls, Bool.and_eq_true] at hp
    simp only [AV.rowss] at hm
    simp only [lays, lay_len] at hi hh
    rcases Nat.lt_or_ge i x.rows with q | q
    · rw [List.getElem?_append_left (by rw [lay_len]; exact q)] at hi
      exact lay_OR2 x a b hp.1 (fun i hi => hm i (by omega)) (fun i o hi => hh i o (by rw [List.getElem?_append_left (List.getElem?_eq_some_iff.1 hi).1]; exact hi)) i o hi
    · rw [List.getElem?_append_right (by rw [lay_len]; exact q), lay_len] at hi
      have := lays_OR2 xs (a + x.rows) (b + x.rows) hp.2 (fun i hi => by
        rw [show b + x.rows + i = b + (x.rows + i) by omega, show a + x.rows + i = a + (x.rows + i) by omega]; exact hm _ (by omega)) (fun i o hi => by
        rw [show a + x.rows + i = a + (x.rows + i) by omega]
        exact hh _ o (by rw [List.getElem?_append_right (by rw [lay_len]; omega), lay_len, Nat.add_sub_cancel_left]; exact hi)) (i - x.rows) o hi
      rw [show a + x.rows + (i - x.rows) = a + i by omega] at this; exact this
end
theorem objsC_of {μ : List (Option Nat)} {h : List AObj} : ∀ {r : List (Option Nat)} {h' : List AObj}, r.length = h'.length → (∀ (i : Nat) (j : Option Nat) (o : AObj), r[i]? = some j → h'[i]? = some o → OR2 μ h j o) → objsC μ h r h'
  | [], [], _, _ => trivial
  | j :: r, o :: h', hl, hh => ⟨hh 0 j o rfl rfl, objsC_of (by simpa using hl) fun i j o h1 h2 => hh (i + 1) j o (by simpa using h1) (by simpa using h2)⟩
  | [], _ :: _, hl, _ => by simp at hl
  | _ :: _, [], hl, _ => by simp at hl
theorem dist_map : ∀ {l : List Nat}, l.Nodup → dist (l.map some) = true
  | [], _ => rfl
  | x :: l, h => by
    rw [List.nodup_cons] at h
    simp only [List.map_cons, dist, Bool.and_eq_true, List.all_eq_true]
    refine ⟨fun y hy => ?_, dist_map h.2⟩
    obtain ⟨z, hz, rfl⟩ := List.mem_map.1 hy
    have : x ≠ z := fun e => h.1 (by rw [e]; exact hz)
    have hb : Nat.beq x z = false := by
      rw [← Bool.not_eq_true]; intro q; exact this (Nat.eq_of_beq_eq_true q)
    show (!Nat.beq x z) = true
    rw [hb]; rfl
theorem finF_at {vs : List AV} {h pre post : List AObj} {t : AV} (hp : t.pl = true) (hv : packed vs = (lay t pre.length).1) (hh : h = pre ++ ((lay t pre.length).2 ++ post)) : FinF (some vs) h t := by
  have hm : ∀ i, i < t.rows → ((List.range' pre.length t.rows).map some)[0 + i]? = some (some (pre.length + i)) := fun i hi => by
    rw [List.getElem?_map, List.getElem?_range' (by omega)]
    simp
  refine ⟨(List.range' pre.length t.rows).map some, dist_map (List.nodup_range'), objsC_of (by simp [lay_len]) fun i j o h1 h2 => ?_, ?_⟩
  · have hi : i < t.rows := by have := (List.getElem?_eq_some_iff.1 h2).1; rw [lay_len] at this; exact this
    have := hm i hi
    rw [Nat.zero_add] at this
    rw [this] at h1; cases h1
    refine lay_OR2 t pre.length 0 hp hm (fun i o hi => ?_) i o h2
    rw [hh, List.getElem?_append_right (by omega), Nat.add_sub_cancel_left, List.getElem?_append_left (List.getElem?_eq_some_iff.1 hi).1]
    exact hi
  · rw [hv]; exact lay_VR2 t _ _ hp hm
def Mark (Γ : Nat → Option AFn) (g : Nat) (t t' : AV) (k k' : Int) : Prop :=
  t.pl = true ∧ t'.pl = true ∧ t'.rows = t.rows ∧ ∀ ρ hr r, RelH ρ (lay t 0).2 hr → RelV ρ (lay t 0).1 r → ∃ kk hr' ρ', Ex Γ kk (.call g [r, .int .i64 k] hr) (.res (.ok (.int .i64 k')) hr') ∧ RelH ρ' (lay t' 0).2 hr' ∧ Fm t.rows ρ hr ρ' hr'
def FinM (vs : Option (List AV)) (h : List AObj) (k : Int) (os : List AObj) : Prop := vs = some [.int .i64 k] ∧ h = os
def finM (res : List ARes) (k : Int) (os : List AObj) : AExit → VSt → Prop := fun e st => (e = .nrm ∨ e = .ret) ∧ FinM (resAll (toSt st) res) st.h k os
@[go_sem] theorem finM_ret {res : List ARes} {k : Int} {os : List AObj} {s m : LEnv} {h : List AObj} : finM res k os .ret ⟨s, m, h⟩ = FinM (resAll (toSt ⟨s, m, h⟩) res) h k os := by
  simp [finM]
@[go_sem] theorem finM_nrm {res : List ARes} {k : Int} {os : List AObj} {s m : LEnv} {h : List AObj} : finM res k os .nrm ⟨s, m, h⟩ = FinM (resAll (toSt ⟨s, m, h⟩) res) h k os := by
  simp [finM]
theorem finM_ok {h os : List AObj} {k k' : Int} (hk : k = k') (hh : h = os) : FinM (some [.int .i64 k]) h k' os := ⟨by rw [hk], hh⟩
theorem Mark.intro {F : AFun} {t t' : AV} {k k' : Int} (hg : Γ g = some (.fn F)) (hok : F.body.ok = true) (hn : F.np = 2) (hp : t.pl = true) (hp' : t'.pl = true) (hl : t'.rows = t.rows)
    (hR : R ⟨Γ, t.rows, [], []⟩ [.code F.body] ⟨vparams 0 [(lay t 0).1, .int .i64 k], [], (lay t 0).2⟩ (finM F.res k' (lay t' 0).2)) : Mark Γ g t t' k k' := by
  refine ⟨hp, hp', hl, fun ρ hr r hH hv => ?_⟩
  have hS : RelS ρ ⟨vparams 0 [(lay t 0).1, .int .i64 k], [], (lay t 0).2⟩ { s := params 0 [r, .int .i64 k], l := Env.empty, h := hr } :=
    ⟨params_rel (by simp only [RelVs]; exact ⟨_, _, rfl, hv, _, _, rfl, by simp only [RelV], rfl⟩), (fun n v h => by cases h), hH⟩
  obtain ⟨kk, e, sr', ρ', st', g1, ⟨he, hq⟩, g3, g4, _⟩ := Sem.of (by simpa only [List.all_cons, List.all_nil, Bool.and_true, Fr1.ok] using hok) hR ρ _ hS (by rw [lay_len]; exact Nat.le_refl _)
  have hb : Ex Γ kk (.code F.body { s := params 0 [r, .int .i64 k], l := Env.empty, h := hr }) (.st e sr') := by
    cases g1 with
    | code h h' => cases h'; exact h
    | codeX h he' hx h' => cases e <;> simp [exK] at hx
    | codeE h he' hx => exact h
  obtain ⟨q1, q2⟩ := hq
  obtain ⟨rs, q3, q4⟩ := resAll_rel g3 q1
  have hx := Ex.fn hg (by rw [hn]; rfl) hb he q3
  have hr1 : RelV ρ' (.int .i64 k') (packed rs) := packed_rel q4
  simp only [RelV] at hr1
  rw [hr1] at hx
  exact ⟨kk + 1, _, ρ', hx, by rw [← q2]; exact g3.h, g4⟩
theorem SCall.mark {K : AV → List AObj → Prop} {pre post h : List AObj} {t t' : AV} {k k' : Int} {v : AV} (hm : Mark Γ g t t' k k') (hh : h = pre ++ ((lay t pre.length).2 ++ post)) (hva : v = (lay t pre.length).1)
    (hk : K (.int .i64 k') (pre ++ ((lay t' pre.length).2 ++ post))) : SCall Γ g [v, .int .i64 k] h K := fun ρ hr ar hH hv => by
  obtain ⟨hp, hp', hl, hm⟩ := hm
  subst hh
  subst hva
  simp only [RelVs, RelV] at hv
  obtain ⟨r, rs, rfl, hv, _, _, rfl, rfl, rfl⟩ := hv
  obtain ⟨n, hn⟩ : ∃ n, n = pre.length := ⟨_, rfl⟩
  rw [← hn] at hH hv hk
  have mid : ∀ i, (hi : i < t.rows) → ∃ w xs b, (pre ++ ((lay t n).2 ++ post))[n + i]? = some (.row w (lays xs b).1 true) ∧ (lay t n).2[i]? = some (.row w (lays xs b).1 true) := fun i hi => by
    have hlt : i < (lay t n).2.length := by rw [lay_len]; exact hi
    obtain ⟨w, xs, b, e, _⟩ := lay_rows t n i _ hp (List.getElem?_eq_getElem hlt)
    refine ⟨w, xs, b, ?_, by rw [List.getElem?_eq_getElem hlt, e]⟩
    rw [List.getElem?_append_right (by omega), ← hn, Nat.add_sub_cancel_left, List.getElem?_append_left hlt, List.getElem?_eq_getElem hlt, e]
  have sh : Sh2 ρ n (fun i => if i < t.rows then ρ (n + i) else none) 0 t.rows := fun i hi => by
    simp only [Nat.zero_add]; rw [if_pos hi]
  have lies : Lies ρ n (lay t n).2 hr := fun i o hi => hH.obj (n + i) o (by
    rw [List.getElem?_append_right (by omega), ← hn, Nat.add_sub_cancel_left, List.getElem?_append_left (List.getElem?_eq_some_iff.1 hi).1]; exact hi)
  have lies0 := lay_lies t n 0 hp sh (fun _ _ _ _ _ h => h) lies
  have hH0 : RelH (fun i => if i < t.rows then ρ (n + i) else none) (lay t 0).2 hr := by
    refine ⟨fun i o hi => by have := lies0 i o hi; rwa [Nat.zero_add] at this, fun i j a o o' h1 h2 _ _ _ _ => ?_, fun i hi => ?_, fun i a ha => ?_⟩
    · try simp only at h1 h2
      split at h1
      · rename_i q1
        split at h2
        · rename_i q2
          obtain ⟨w1, x1, b1, e1, _⟩ := mid i q1
          obtain ⟨w2, x2, b2, e2, _⟩ := mid j q2
          have := hH.inj _ _ a _ _ h1 h2 e1 e2 (by simp) (by simp)
          omega
        · cases h2
      · cases h1
    · rw [lay_len] at hi; show (if i < t.rows then ρ (n + i) else none) = none; rw [if_neg (by omega)]
    · try simp only at ha
      split at ha
      · exact hH.is _ a ha
      · cases ha
  obtain ⟨kk, hr', ρ', hx, hH', hF⟩ := hm _ hr r hH0 (lay_rel t n 0 r hp sh hv)
  have hρ : ∀ i, ρ' i = if i < t.rows then ρ (n + i) else none := fun i => by
    by_cases q : i < t.rows
    · exact hF.base i q
    · rw [if_neg q]; exact hH'.out i (by rw [lay_len]; omega)
  have sh' : Sh2 ρ' 0 ρ n t'.rows := fun i hi => by
    rw [Nat.zero_add, hρ, if_pos (by omega)]
  have lies' : Lies ρ n (lay t' n).2 hr' := lay_lies t' 0 n hp' sh' (fun _ _ _ _ _ h => h) (fun i o hi => by rw [Nat.zero_add]; exact hH'.obj i o hi)
  have out : ∀ (i a : Nat) (o : AObj), (i < n ∨ n + t.rows ≤ i) → (pre ++ ((lay t n).2 ++ post))[i]? = some o → o ≠ .dead → ρ i = some (some a) → ∀ x, hr a = some x → hr' a = some x := fun i a o hi ho hd ha x hxx => by
    refine hF.pres a x hxx fun j hj => ?_
    try simp only at hj
    split at hj
    · rename_i q
      obtain ⟨w, xs, b, e, _⟩ := mid j q
      have := hH.inj _ _ a _ _ ha hj ho e hd (by simp)
      omega
    · cases hj
  have hlen : (lay t' n).2.length = t.rows := by rw [lay_len, hl]
  have hlen0 : (lay t n).2.length = t.rows := by rw [lay_len]
  have oldAt : ∀ (i : Nat) (o : AObj), (pre ++ ((lay t' n).2 ++ post))[i]? = some o → (i < n ∨ n + t.rows ≤ i) → (pre ++ ((lay t n).2 ++ post))[i]? = some o := fun i o ho hi => by
    rcases hi with q | q
    · rw [List.getElem?_append_left (by omega)] at ho ⊢; exact ho
    · rw [List.getElem?_append_right (by omega), List.getElem?_append_right (by omega)] at ho ⊢
      rw [hlen] at ho; rw [hlen0]; exact ho
  refine ⟨kk, _, hr', ρ, _, _, hx, hk, ⟨fun i o hi => ?_, fun i j a o o' h1 h2 hi hj d1 d2 => ?_, fun i hi => hH.out i (by simp only [List.length_append, hlen, hlen0] at hi ⊢; exact hi), fun i a ha => ?_⟩, by simp only [RelV], ⟨fun a o ho hno => hF.pres a o ho fun j hj => ?_, fun i a ha => .inl ⟨i, ha⟩, hF.fr, fun _ _ => rfl⟩, by simp only [List.length_append, lay_len, hl]; omega⟩
  · by_cases q : i < n ∨ n + t.rows ≤ i
    · have ho := oldAt i o hi q
      by_cases hd : o = .dead
      · subst hd; trivial
      · exact (hH.obj i o ho).mono (fun _ _ h => h) fun a x ha hxx => out i a o q ho hd ha x hxx
    · have q1 : n ≤ i := by omega
      have := lies' (i - n) o (by
        rw [List.getElem?_append_right (by omega), List.getElem?_append_left (by rw [hlen]; omega), ← hn] at hi
        exact hi)
      rwa [show n + (i - n) = i by omega] at this
  · have back : ∀ (i : Nat) (o : AObj), (pre ++ ((lay t' n).2 ++ post))[i]? = some o → o ≠ .dead → ∃ o2, (pre ++ ((lay t n).2 ++ post))[i]? = some o2 ∧ o2 ≠ .dead := fun i o ho hd => by
      by_cases q : i < n ∨ n + t.rows ≤ i
      · exact ⟨o, oldAt i o ho q, hd⟩
      · obtain ⟨w, xs, b, e, _⟩ := mid (i - n) (by omega)
        rw [show n + (i - n) = i by omega] at e
        exact ⟨_, e, by simp⟩
    obtain ⟨o2, e1, e2⟩ := back i o hi d1
    obtain ⟨o3, e3, e4⟩ := back j o' hj d2
    exact hH.inj i j a o2 o3 h1 h2 e1 e3 e2 e4
  · obtain ⟨o, ho⟩ := hH.is i a ha
    by_cases q : ∃ j, ρ' j = some (some a)
    · obtain ⟨j, hj⟩ := q; exact hH'.is j a hj
    · refine ⟨o, hF.pres a o ho fun j hj => q ⟨j, ?_⟩⟩
      rw [hρ]; exact hj
  · try simp only at hj
    split at hj
    · exact hno _ hj
    · cases hj
mutual
def AV.cn : AV → Bool
  | .lst w xs c => decide (0 < w) && !c && AV.cns xs
  | .agg xs | .tup xs => AV.cns xs
  | _ => true
def AV.cns : List AV → Bool
  | [] => true
  | x :: xs => AV.cn x && AV.cns xs
end
theorem zip_cons {h : List AObj} {a b : AV} {as bs : List AV} (x : Cv h a b) (y : ∀ p ∈ as.zip bs, Cv h p.1 p.2) : ∀ p ∈ (a :: as).zip (b :: bs), Cv h p.1 p.2 := fun p hp => by
  simp only [List.zip_cons_cons, List.mem_cons] at hp
  rcases hp with rfl | hp
  · exact x
  · exact y p hp
mutual
theorem lay_cv {h : List AObj} : ∀ (t : AV) (a : Nat), t.pl = true → t.cn = true → (∀ i o, (lay t a).2[i]? = some o → h[a + i]? = some o) → Cv h (lay t a).1 t
  | .lst w xs c, a, hp, hc, hh => by
    simp only [AV.cn, Bool.and_eq_true, decide_eq_true_eq, Bool.not_eq_true'] at hc
    obtain ⟨⟨h0, rfl⟩, hc⟩ := hc
    simp only [lay] at hh ⊢
    have l := lays_length xs (a + 1)
    refine .slc (hh 0 _ rfl) (by omega) h0 (by rw [List.drop_zero, ← l, List.take_length, l]) ?_
    rw [List.drop_zero, ← l, List.take_length]
    exact lays_cv xs (a + 1) hp hc fun i o hi => by
      rw [show a + 1 + i = a + (i + 1) by omega]; exact hh (i + 1) o (by simpa using hi)
  | .agg xs, a, hp, hc, hh => by
    simp only [lay] at hh ⊢
    exact .agg (lays_length xs a) (lays_cv xs a hp hc hh)
  | .tup xs, a, hp, hc, hh => by
    simp only [lay] at hh ⊢
    exact .tup (lays_length xs a) (lays_cv xs a hp hc hh)
  | .bool _, _, _, _, _ | .int _ _, _, _, _, _ | .str _, _, _, _, _ | .nilp, _, _, _, _ | .nils, _, _, _, _ | .nilm, _, _, _, _ | .nilf, _, _, _, _ | .nili, _, _, _, _ => by
    simp only [lay]; exact .refl rfl
  | .any, _, hp, _, _ | .ptr _ _ _, _, hp, _, _ | .slice _ _ _ _ _, _, hp, _, _ | .map _, _, hp, _, _ | .ept _ _, _, hp, _, _ | .fn _ _, _, hp, _, _ | .iface _ _, _, hp, _, _ => by cases hp
theorem lays_cv {h : List AObj} : ∀ (xs : List AV) (a : Nat), AV.pls xs = true → AV.cns xs = true → (∀ i o, (lays xs a).2[i]? = some o → h[a + i]? = some o) → ∀ p ∈ (lays xs a).1.zip xs, Cv h p.1 p.2
  | [], _, _, _, _ => fun p hp => by simp at hp
  | x :: xs, a, hp, hc, hh => by
    simp only [AV.pls, Bool.and_eq_true] at hp
    simp only [AV.cns, Bool.and_eq_true] at hc
    simp only [lays, lay_len] at hh ⊢
    refine zip_cons (lay_cv x a hp.1 hc.1 fun i o hi => hh i o (by rw [List.getElem?_append_left (List.getElem?_eq_some_iff.1 hi).1]; exact hi)) (lays_cv xs _ hp.2 hc.2 fun i o hi => ?_)
    rw [show a + x.rows + i = a + (x.rows + i) by omega]
    exact hh _ o (by rw [List.getElem?_append_right (by rw [lay_len]; omega), lay_len, Nat.add_sub_cancel_left]; exact hi)
end
theorem lay_at {pre post h : List AObj} {t : AV} (hp : t.pl = true) (hc : t.cn = true) (hh : h = pre ++ ((lay t pre.length).2 ++ post)) : Cv h (lay t pre.length).1 t :=
  lay_cv t _ hp hc fun i o hi => by
    rw [hh, List.getElem?_append_right (by omega), Nat.add_sub_cancel_left, List.getElem?_append_left (List.getElem?_eq_some_iff.1 hi).1]; exact hi
end
section
variable {E : Ev} {ks : List Fr1} {s m : LEnv} {h : List AObj} {Q : AExit → VSt → Prop} {l : List AOper}
theorem call_fresh {ck : Bool} {k e : Nat} {vs : List AV} {t : AV} (hp : Fresh E.Γ k vs t) (hr : R E (.ops l :: ks) ⟨(e, (lay t h.length).1) :: s, m, h ++ (lay t h.length).2⟩ Q) : Call1 E (some (k, vs)) ck (some e) l ks ⟨s, m, h⟩ Q := by
  unfold Call1
  cases ck
  · exact SCall.fresh hp hr
  · exact SCallK.fresh hp hr
theorem call_freshL {ck : Bool} {k e : Nat} {vs vs' : List AV} {t : AV} (hc : Cvs h vs vs') (hp : Fresh E.Γ k vs' t) (hr : R E (.ops l :: ks) ⟨(e, (lay t h.length).1) :: s, m, h ++ (lay t h.length).2⟩ Q) : Call1 E (some (k, vs)) ck (some e) l ks ⟨s, m, h⟩ Q := by
  unfold Call1
  cases ck
  · exact SCall.freshL hc hp hr
  · exact SCallK.freshL hc hp hr
theorem call_mark {k e : Nat} {pre post : List AObj} {t t' : AV} {a b : Int} {v : AV} (hm : Mark E.Γ k t t' a b) (hh : h = pre ++ ((lay t pre.length).2 ++ post)) (hv : v = (lay t pre.length).1)
    (hr : R E (.ops l :: ks) ⟨(e, .int .i64 b) :: s, m, pre ++ ((lay t' pre.length).2 ++ post)⟩ Q) : Call1 E (some (k, [v, .int .i64 a])) false (some e) l ks ⟨s, m, h⟩ Q := by
  unfold Call1; exact SCall.mark hm hh hv hr
end
end Go.Ab
namespace Go.Ab
open Go
section
variable {α : Type} {enc : α → AV} {w : Nat} {sh : Option Nat} {Γ : Nat → Option AFn} {g gc : Nat}
theorem pls_map (h : ∀ x, (enc x).pl = true) : ∀ xs : List α, AV.pls (xs.map enc) = true
  | [] => rfl
  | x :: xs => by simp only [List.map_cons, AV.pls, h x, pls_map h xs, Bool.and_self]
theorem cns_map (h : ∀ x, (enc x).cn = true) : ∀ xs : List α, AV.cns (xs.map enc) = true
  | [] => rfl
  | x :: xs => by simp only [List.map_cons, AV.cns, h x, cns_map h xs, Bool.and_self]
theorem lay_cellsLen {t : AV} {n : Nat} (hp : t.pl = true) : (lay t n).1.cells.length = t.cells.length := by
  cases t <;> first
    | rfl
    | (cases hp; done)
    | (simp only [lay, AV.cells]; exact lays_length _ _)
theorem lay_agg {t : AV} {n : Nat} (hp : t.pl = true) : (∃ cs, (lay t n).1 = .agg cs) ↔ ∃ cs, t = .agg cs := by
  cases t <;> simp [lay] <;> first
    | (cases hp; done)
    | skip
theorem lay_part {t : AV} {n k : Nat} (hp : t.pl = true) (ha : ∃ cs, t = .agg cs) (hk : t.cells.length = k) : (lay t n).1.part 0 (some k) = some (lay t n).1 := by
  obtain ⟨cs, rfl⟩ := ha
  simp only [AV.cells] at hk
  simp only [lay, AV.part, AV.cells, lays_length, hk, Nat.zero_add, Nat.le_refl, if_true, List.drop_zero]
  rw [List.take_of_length_le (by rw [lays_length]; omega)]
theorem fill_lay {z : AV} {A : List AV} {i n : Nat} (hl : A.length = i) (hi : i < n) : (A ++ List.replicate (n - i) z)[i]? = some z := by
  rw [List.getElem?_append_right (by omega), hl, Nat.sub_self, List.getElem?_replicate, if_pos (by omega)]
theorem setfill_lay {z v : AV} {A : List AV} {i n : Nat} (hl : A.length = i) (hi : i < n) : (A ++ List.replicate (n - i) z).set i v = A ++ (v :: List.replicate (n - (i + 1)) z) := by
  rw [List.set_append_right _ _ (by omega), hl, Nat.sub_self, show n - i = (n - (i + 1)) + 1 by omega, List.replicate_succ, List.set_cons_zero]
theorem toS_fresh {z : AV} (hs : Sh enc w sh) (hpl : ∀ x, (enc x).pl = true) (hz : z.tree = true) (hzl : z.cells.length = w) (hza : (∃ cs, z = .agg cs) ↔ sh ≠ none) (hg : Γ g = some (.fn (toS w sh z gc))) (xs : List α) (hc : ∀ x ∈ xs, Fresh Γ gc [enc x] (enc x)) (hl : xs.length ≤ 1048576) :
    Fresh Γ g [.lst w (xs.map enc) false] (.lst w (xs.map enc) false) := by
  have ht : AV.trees (xs.map enc) = true := trees_map hs.tree xs
  refine Fresh.intro [] [] hg (by simp [toS, ACode.ok, AOp.ok, ckSt, Ao.ok, AV.tree, hz, AOper.o, AOper.d, AOper.ck, AOp.isCall]) rfl (by simp [AV.trees, AV.tree, ht]) (pls_map hpl xs) ?_
  simp only [toS, vparams, go_sem, Nat.reduceEqDiff, reduceIte]
  refine mks_ok (by simp only [List.length_map, LIM]; omega) ?_
  simp only [go_sem, Nat.reduceEqDiff, reduceIte]
  refine Sem.loop (fun i : Nat => i ≤ xs.length)
    (fun i => (⟨[(0, .lst w (xs.map enc) false), (3, .slice w 0 0 xs.length false), (4, .int .i64 (i : Nat))], [], .row w ((lays ((xs.take i).map enc) 1).1 ++ List.replicate (xs.length - i) z) true :: (lays ((xs.take i).map enc) 1).2⟩ : VSt)) (fun i => xs.length - i) 0
    (by simp [Fr1.ok, ACode.ok, AOp.ok, ckSt, Ao.ok, AV.tree, AOper.o, AOper.d, AOper.ck, AOp.isCall]) (Nat.zero_le _) ?_ ?_
  · simp only [List.take_zero, List.map_nil, lays, List.nil_append, Nat.sub_zero, List.length_map, List.length_nil]
    exact Can.sub (by simp [go_sem]) trivial
  · intro i hi
    simp only [go_sem, Nat.reduceEqDiff, reduceIte]
    refine cnd_split ?_ ?_ <;> intro hc2 <;> simp only [hc2, go_sem, Nat.reduceEqDiff, reduceIte]
    · have hlt : i < xs.length := by have := of_decide_eq_true hc2; simp only [List.length_map] at this; omega
      have hA : (lays ((xs.take i).map enc) 1).1.length = i := by rw [lays_length]; simp; omega
      simp only [List.getElem?_map, List.getElem?_eq_getElem hlt, Option.map_some, hs.part, go_sem, Nat.reduceEqDiff, reduceIte, Bool.not_true]
      refine call_fresh (hc xs[i] (List.getElem_mem hlt)) ?_
      simp only [go_sem, Nat.reduceEqDiff, reduceIte, idx_s hlt, Nat.zero_add, List.cons_append]
      refine sto_ok (by rw [lay_cellsLen (hpl _)]; exact hs.len _) rfl (fill_lay hA hlt) (put_all hzl (by rw [lay_cellsLen (hpl _)]; exact hs.len _) (by rw [hza, lay_agg (hpl _), hs.agg]) hs.pos) ?_
      rw [setfill_lay hA hlt]
      simp only [go_sem, Nat.reduceEqDiff, reduceIte, wrap_succ (show i < 4611686018427387904 by omega), List.set_cons_zero]
      refine loopQ_nrm (i + 1) (by omega) (by omega) ?_
      have e : (xs.take (i + 1)).map enc = (xs.take i).map enc ++ [enc xs[i]] := by
        rw [List.take_succ_eq_append_getElem hlt, List.map_append]; rfl
      simp only [e, lays_app, lays, List.append_nil, List.append_assoc, List.length_cons, lays_len, List.cons_append, List.nil_append, Nat.add_comm 1]
      exact Can.sub (by simp [go_sem]) trivial
    · have hge : i = xs.length := by have := of_decide_eq_false hc2; simp only [List.length_map] at this; omega
      subst hge
      simp only [List.take_length, Nat.sub_self, List.replicate_zero, List.append_nil]
      exact finF_at (pre := []) (post := []) (pls_map hpl xs) (by simp [packed, lay]) (by simp [lay])
theorem lI (ys : List Int) : ∀ n, lays (ys.map encI) n = (ys.map encI, []) := by
  induction ys with
  | nil => intro n; rfl
  | cons y ys ih => intro n; simp only [List.map_cons, lays, encI, lay, List.length_nil, Nat.add_zero, List.nil_append, ih]
theorem toS0_fresh (hg : Γ g = some (.fn toS0)) (xs : List Int) (hl : xs.length ≤ 1048576) : Fresh Γ g [.lst 1 (xs.map encI) false] (.lst 1 (xs.map encI) false) := by
  have ht : AV.trees (xs.map encI) = true := trees_map shI.tree xs
  refine Fresh.intro [] [] hg (by kernel_rfl) rfl (by simp [AV.trees, AV.tree, ht]) (pls_map (fun _ => rfl) xs) ?_
  simp only [toS0, vparams, go_sem, Nat.reduceEqDiff, reduceIte]
  refine mks_ok (by simp only [List.length_map, LIM]; omega) ?_
  simp only [go_sem, Nat.reduceEqDiff, reduceIte]
  refine Sem.loop (fun i : Nat => i ≤ xs.length)
    (fun i => (⟨[(0, .lst 1 (xs.map encI) false), (3, .slice 1 0 0 xs.length false), (4, .int .i64 (i : Nat))], [], [.row 1 ((xs.take i).map encI ++ List.replicate (xs.length - i) (.int .i64 0)) true]⟩ : VSt)) (fun i => xs.length - i) 0
    (by kernel_rfl) (Nat.zero_le _) ?_ ?_
  · simp only [List.take_zero, List.map_nil, List.nil_append, Nat.sub_zero, List.length_map, List.length_nil]
    exact Can.sub (by simp [go_sem]) trivial
  · intro i hi
    simp only [go_sem, Nat.reduceEqDiff, reduceIte]
    refine cnd_split ?_ ?_ <;> intro hc2 <;> simp only [hc2, go_sem, Nat.reduceEqDiff, reduceIte]
    · have hlt : i < xs.length := by have := of_decide_eq_true hc2; simp only [List.length_map] at this; omega
      simp only [List.getElem?_map, List.getElem?_eq_getElem hlt, Option.map_some, shI.part, go_sem, Nat.reduceEqDiff, reduceIte, idx_s hlt, Nat.zero_add]
      refine sto_ok (shI.len _) rfl (fill_at hlt) (put_all (k := 1) rfl (shI.len _) (by simp [encI]) (by decide)) ?_
      rw [set_fill hlt]
      simp only [go_sem, Nat.reduceEqDiff, reduceIte, wrap_succ (show i < 4611686018427387904 by omega)]
      exact loopQ_nrm (i + 1) (by omega) (by omega) (Can.sub (by simp [go_sem]) trivial)
    · have hge : i = xs.length := by have := of_decide_eq_false hc2; simp only [List.length_map] at this; omega
      subst hge
      simp only [List.take_length, Nat.sub_self, List.replicate_zero, List.append_nil]
      exact finF_at (pre := []) (post := []) (pls_map (fun _ => rfl) xs) (by simp [packed, lay]) (by simp [lay, lI])
def mkL (f : α → Int → α) (c : α → Nat) : List α → Int → List α
  | [], _ => []
  | x :: xs, k => f x k :: mkL f c xs (k + c x)
theorem mkL_length (f : α → Int → α) (c : α → Nat) : ∀ (xs : List α) (k : Int), (mkL f c xs k).length = xs.length
  | [], _ => rfl
  | x :: xs, k => by simp only [mkL, List.length_cons, mkL_length f c xs]
theorem mkL_app (f : α → Int → α) (c : α → Nat) : ∀ (xs ys : List α) (k : Int), mkL f c (xs ++ ys) k = mkL f c xs k ++ mkL f c ys (k + sumN c xs)
  | [], ys, k => by simp [mkL, sumN]
  | x :: xs, ys, k => by
    simp only [List.cons_append, mkL, mkL_app f c xs ys, sumN]
    congr 3
    omega
theorem mkL_succ (f : α → Int → α) (c : α → Nat) {xs : List α} {i : Nat} (h : i < xs.length) (k : Int) : mkL f c (xs.take (i + 1)) k = mkL f c (xs.take i) k ++ [f xs[i] (k + sumN c (xs.take i))] := by
  rw [List.take_succ_eq_append_getElem h, mkL_app]; rfl
theorem mkL_get (f : α → Int → α) (c : α → Nat) {xs : List α} {i : Nat} (h : i < xs.length) (k : Int) : (mkL f c xs k)[i]? = some (f xs[i] (k + sumN c (xs.take i))) := by
  have e : xs = xs.take i ++ xs[i] :: xs.drop (i + 1) := by rw [← List.drop_eq_getElem_cons h, List.take_append_drop]
  have : mkL f c xs k = mkL f c (xs.take i) k ++ mkL f c (xs[i] :: xs.drop (i + 1)) (k + sumN c (xs.take i)) := by
    rw [← mkL_app, ← e]
  rw [this, List.getElem?_append_right (by rw [mkL_length]; simp; omega), mkL_length]
  simp [mkL, show min i xs.length = i by omega]
theorem sumN_succ (c : α → Nat) {xs : List α} {i : Nat} (h : i < xs.length) : sumN c (xs.take (i + 1)) = sumN c (xs.take i) + c xs[i] := by
  have : ∀ (xs ys : List α), sumN c (xs ++ ys) = sumN c xs + sumN c ys := by
    intro xs ys; induction xs with
    | nil => simp [sumN]
    | cons x xs ih => simp only [List.cons_append, sumN, ih]; omega
  rw [List.take_succ_eq_append_getElem h, this]; simp [sumN]
theorem sumN_le (c : α → Nat) (xs : List α) (i : Nat) : sumN c (xs.take i) ≤ sumN c xs := by
  have : ∀ (xs ys : List α), sumN c (xs ++ ys) = sumN c xs + sumN c ys := by
    intro xs ys; induction xs with
    | nil => simp [sumN]
    | cons x xs ih => simp only [List.cons_append, sumN, ih]; omega
  have h := this (xs.take i) (xs.drop i)
  rw [List.take_append_drop] at h; omega
def mkI (_ : Int) (k : Int) : Int := k
def ctI (_ : Int) : Nat := 1
theorem ctI_sum : ∀ xs : List Int, sumN ctI xs = xs.length
  | [] => rfl
  | x :: xs => by simp only [sumN, ctI_sum xs, ctI, List.length_cons]; omega
def markI : AFun := ⟨2, 19, [.t 4],
 .seq (.reg true [⟨0, some 4, none, .mov (.c (.int .i64 0)), []⟩]) (.seq (.seq (.reg true [⟨0, some 5, none, .mov (.c (.int .i64 0)), []⟩]) (.blk 0 (.loop (.seq (.seq (.reg true [⟨0, some 6, none, .mov (.t 5), []⟩,
⟨1, some 7, none, .mov (.t 0), []⟩,
⟨2, some 8, none, .len (.t 7), []⟩,
⟨3, some 9, none, .bin .lss (.t 6) (.t 8), []⟩]) (.cond (.t 9) (.skip) (.exit 0))) (.seq (.blk 1 (.seq (.reg true [⟨0, some 12, none, .mov (.t 0), []⟩,
⟨1, some 13, none, .mov (.t 5), []⟩,
⟨2, some 14, none, .mov (.t 1), []⟩,
⟨3, some 15, none, .iaddr 1 (.t 12) (.t 13), []⟩,
⟨4, none, none, .store 1 (.t 15) (.t 14), []⟩]) (.reg true [⟨0, some 16, none, .mov (.t 1), []⟩,
⟨1, some 17, none, .bin .add (.t 16) (.c (.int .i64 1)), []⟩,
⟨2, some 1, none, .mov (.t 17), []⟩]))) (.reg true [⟨0, some 10, none, .mov (.t 5), []⟩,
⟨1, some 11, none, .bin .add (.t 10) (.c (.int .i64 1)), []⟩,
⟨2, some 5, none, .mov (.t 11), []⟩])))))) (.seq (.reg true [⟨0, some 18, none, .mov (.t 1), []⟩,
⟨1, some 4, none, .mov (.t 18), []⟩]) (.ret)))⟩
def heldI : AFun := ⟨2, 21, [.t 4],
 .seq (.reg true [⟨0, some 4, none, .mov (.c (.int .i64 0)), []⟩]) (.seq (.seq (.reg true [⟨0, some 5, none, .mov (.c (.int .i64 0)), []⟩]) (.blk 0 (.loop (.seq (.seq (.reg true [⟨0, some 6, none, .mov (.t 5), []⟩,
⟨1, some 7, none, .mov (.t 0), []⟩,
⟨2, some 8, none, .len (.t 7), []⟩,
⟨3, some 9, none, .bin .lss (.t 6) (.t 8), []⟩]) (.cond (.t 9) (.skip) (.exit 0))) (.seq (.blk 1 (.seq (.seq (.reg true [⟨0, some 12, none, .mov (.t 0), []⟩,
⟨1, some 13, none, .mov (.t 5), []⟩,
⟨2, some 14, none, .iaddr 1 (.t 12) (.t 13), []⟩,
⟨3, some 15, none, .load none (.t 14), []⟩,
⟨4, some 16, none, .mov (.t 1), []⟩,
⟨5, some 17, none, .bin .neq (.t 15) (.t 16), []⟩]) (.cond (.t 17) (.seq (.reg true [⟨0, some 4, none, .mov (.c (.int .i64 (-1))), []⟩]) (.ret)) (.skip))) (.reg true [⟨0, some 18, none, .mov (.t 1), []⟩,
⟨1, some 19, none, .bin .add (.t 18) (.c (.int .i64 1)), []⟩,
⟨2, some 1, none, .mov (.t 19), []⟩]))) (.reg true [⟨0, some 10, none, .mov (.t 5), []⟩,
⟨1, some 11, none, .bin .add (.t 10) (.c (.int .i64 1)), []⟩,
⟨2, some 5, none, .mov (.t 11), []⟩])))))) (.seq (.reg true [⟨0, some 20, none, .mov (.t 1), []⟩,
⟨1, some 4, none, .mov (.t 20), []⟩]) (.ret)))⟩
theorem mid_at {A B : List AV} {e : AV} {i : Nat} (h : A.length = i) : (A ++ e :: B)[i]? = some e := by
  rw [List.getElem?_append_right (by omega), h, Nat.sub_self]; rfl
theorem mid_set {A B : List AV} {e v : AV} {i : Nat} (h : A.length = i) : (A ++ e :: B).set i v = A ++ v :: B := by
  rw [List.set_append_right _ _ (by omega), h, Nat.sub_self, List.set_cons_zero]
theorem lay_l1 {xs : List AV} {c : Bool} {n : Nat} : (lay (.lst w xs c) n).1 = .slice w n 0 xs.length false := nr rfl
theorem lay_mid {A B : List AV} {t : AV} {c : Bool} : (lay (.lst w (A ++ t :: B) c) 0).2 = .row w ((lays A 1).1 ++ (lay t (1 + AV.rowss A)).1 :: (lays B (1 + AV.rowss A + t.rows)).1) true :: ((lays A 1).2 ++ ((lay t (1 + AV.rowss A)).2 ++ (lays B (1 + AV.rowss A + t.rows)).2)) := by
  simp only [lay, lays_app, lays, lay_len, Nat.zero_add]
theorem lay_midE {A B : List α} {z : α} {c : Bool} : (lay (.lst w ((A ++ z :: B).map enc) c) 0).2 = .row w ((lays (A.map enc) 1).1 ++ (lay (enc z) (1 + AV.rowss (A.map enc))).1 :: (lays (B.map enc) (1 + AV.rowss (A.map enc) + (enc z).rows)).1) true :: ((lays (A.map enc) 1).2 ++ ((lay (enc z) (1 + AV.rowss (A.map enc))).2 ++ (lays (B.map enc) (1 + AV.rowss (A.map enc) + (enc z).rows)).2)) := by
  rw [List.map_append, List.map_cons]; exact lay_mid
theorem rowss_mk (f : α → Int → α) (c : α → Nat) (h : ∀ x k, (enc (f x k)).rows = (enc x).rows) : ∀ (xs : List α) (k : Int), AV.rowss ((mkL f c xs k).map enc) = AV.rowss (xs.map enc)
  | [], _ => rfl
  | x :: xs, k => by simp only [mkL, List.map_cons, AV.rowss, h, rowss_mk f c h xs]
theorem sumN_le1 {c : α → Nat} (h : ∀ x, c x ≤ 16) : ∀ xs : List α, sumN c xs ≤ 16 * xs.length
  | [] => Nat.le_refl _
  | x :: xs => by have := sumN_le1 h xs; have := h x; simp only [sumN, List.length_cons]; omega
theorem sumN_le2 {c z : α → Nat} (h : ∀ x, c x ≤ 16 + 16 * z x) : ∀ xs : List α, sumN c xs ≤ 16 * (xs.length + sumN z xs)
  | [] => Nat.le_refl _
  | x :: xs => by have := sumN_le2 h xs; have := h x; simp only [sumN, List.length_cons]; omega
theorem markI_ok {F : AFun} (hg : Γ g = some (.fn F)) (hF : F = markI) (xs : List Int) (k : Int) (h0 : 0 ≤ k) (hk : k + (sumN ctI xs : Nat) ≤ 4611686018427387904) (hz : xs.length ≤ 4194304) :
    Mark Γ g (.lst 1 (xs.map encI) false) (.lst 1 ((mkL mkI ctI xs k).map encI) false) k (k + (sumN ctI xs : Nat)) := by
  subst hF
  rw [ctI_sum] at hk ⊢
  refine Mark.intro hg (by kernel_rfl) rfl (pls_map (fun _ => rfl) xs) (pls_map (fun _ => rfl) _) (by simp only [AV.rows, rowss_mk mkI ctI (enc := encI) (fun _ _ => rfl)]) ?_
  simp only [markI, vparams, lay, lI, go_sem, Nat.reduceEqDiff, reduceIte, List.length_map]
  refine Sem.loop (fun i : Nat => i ≤ xs.length) (fun i => (⟨[(0, .slice 1 0 0 xs.length false), (1, .int .i64 (k + (i : Nat))), (5, .int .i64 (i : Nat))], [], [.row 1 ((mkL mkI ctI (xs.take i) k).map encI ++ (xs.drop i).map encI) true]⟩ : VSt)) (fun i => xs.length - i) 0
    (by kernel_rfl) (Nat.zero_le _) (by simp only [List.take_zero, mkL, List.map_nil, List.nil_append, List.drop_zero, Int.ofNat_zero, Int.natCast_zero, Int.add_zero]; exact Can.sub (by simp [go_sem]) (by simp [go_sem])) ?_
  intro i hi
  simp only [go_sem, Nat.reduceEqDiff, reduceIte]
  refine cnd_split ?_ ?_ <;> intro hc <;> simp only [hc, go_sem, Nat.reduceEqDiff, reduceIte]
  · have hlt : i < xs.length := by have := of_decide_eq_true hc; omega
    have hA : ((mkL mkI ctI (xs.take i) k).map encI).length = i := by rw [List.length_map, mkL_length]; simp; omega
    rw [List.drop_eq_getElem_cons hlt, List.map_cons]
    simp only [idx_s hlt, Nat.zero_add, go_sem, Nat.reduceEqDiff, reduceIte]
    refine sto_ok (v := .int .i64 (k + (i : Nat))) (e' := .int .i64 (k + (i : Nat))) (by rfl) (by rfl) (mid_at hA) (by rfl) ?_
    simp only [List.set_cons_zero, mid_set hA, go_sem, Nat.reduceEqDiff, reduceIte]
    rw [wrap_small (n := k + (i : Nat) + 1) (by omega) (by omega)]
    simp only [wrap_succ (show i < 4611686018427387904 by omega), go_sem, Nat.reduceEqDiff, reduceIte]
    refine loopQ_nrm (i + 1) (by omega) (by omega) ?_
    have e : mkL mkI ctI (xs.take (i + 1)) k = mkL mkI ctI (xs.take i) k ++ [k + (i : Nat)] := by
      rw [mkL_succ _ _ hlt, ctI_sum, List.length_take, show min i xs.length = i by omega]; rfl
    rw [e, List.map_append, List.append_assoc]
    simp only [Int.natCast_add, Int.cast_ofNat_Int, ← Int.add_assoc]
    exact Can.sub (by simp [go_sem]) (by simp [go_sem])
  · have hge : i = xs.length := by have := of_decide_eq_false hc; omega
    subst hge
    refine finM_ok rfl ?_
    rw [List.take_length, List.drop_length, List.map_nil, List.append_nil]
theorem heldI_ok {F : AFun} (hg : Γ g = some (.fn F)) (hF : F = heldI) (xs : List Int) (k : Int) (h0 : 0 ≤ k) (hk : k + (sumN ctI xs : Nat) ≤ 4611686018427387904) (hz : xs.length ≤ 4194304) :
    Pure Γ g [.lst 1 ((mkL mkI ctI xs k).map encI) false, .int .i64 k] (.int .i64 (k + (sumN ctI xs : Nat))) := by
  subst hF
  rw [ctI_sum] at hk ⊢
  refine Pure.intro [] [] hg (by kernel_rfl) rfl (by simp [AV.trees, AV.tree, trees_map shI.tree]) rfl ?_
  simp only [heldI, vparams, go_sem, Nat.reduceEqDiff, reduceIte, List.length_map]
  refine Sem.loop (fun i : Nat => i ≤ xs.length) (fun i => (⟨[(0, .lst 1 ((mkL mkI ctI xs k).map encI) false), (1, .int .i64 (k + (i : Nat))), (5, .int .i64 (i : Nat))], [], []⟩ : VSt)) (fun i => xs.length - i) 0
    (by kernel_rfl) (Nat.zero_le _) (by simp only [Int.ofNat_zero, Int.natCast_zero, Int.add_zero]; exact Can.sub (by simp [go_sem]) (by simp [go_sem])) ?_
  intro i hi
  simp only [go_sem, Nat.reduceEqDiff, reduceIte, List.length_map, mkL_length]
  refine cnd_split ?_ ?_ <;> intro hc <;> simp only [hc, go_sem, Nat.reduceEqDiff, reduceIte]
  · have hlt : i < xs.length := by have := of_decide_eq_true hc; omega
    have hget := mkL_get mkI ctI hlt k
    rw [ctI_sum, List.length_take, show min i xs.length = i by omega] at hget
    simp only [List.getElem?_map, hget, Option.map_some, mkI, encI, go_sem, Nat.reduceEqDiff, reduceIte, decide_true, Bool.not_true]
    rw [wrap_small (n := k + (i : Nat) + 1) (by omega) (by omega)]
    simp only [wrap_succ (show i < 4611686018427387904 by omega), go_sem, Nat.reduceEqDiff, reduceIte]
    refine loopQ_nrm (i + 1) (by omega) (by omega) ?_
    simp only [Int.natCast_add, Int.cast_ofNat_Int, ← Int.add_assoc]
    exact Can.sub (by simp [go_sem]) (by simp [go_sem])
  · have hge : i = xs.length := by have := of_decide_eq_false hc; omega
    subst hge
    exact fin_eq rfl rfl
section
variable {E : Ev} {ks : List Fr1} {s m : LEnv} {h : List AObj} {Q : AExit → VSt → Prop} {l : List AOper}
theorem call_markn {k e n : Nat} {pre post : List AObj} {t t' : AV} {a b : Int} {v : AV} (hm : Mark E.Γ k t t' a b) (hn : pre.length = n) (hh : h = pre ++ ((lay t n).2 ++ post)) (hv : v = (lay t n).1)
    (hr : R E (.ops l :: ks) ⟨(e, .int .i64 b) :: s, m, pre ++ ((lay t' n).2 ++ post)⟩ Q) : Call1 E (some (k, [v, .int .i64 a])) false (some e) l ks ⟨s, m, h⟩ Q := by
  subst hn; exact call_mark hm hh hv hr
end
end
end Go.Ab
namespace Go.Ab
open Go
section
variable {Γ : Nat → Option AFn} {g : Nat} {w : Nat} {z : AV}
def cloneF (w : Nat) : AFun := ⟨1, 8, [.t 2], .seq (.reg true [⟨0, some 2, none, .mov (.c (.nils)), []⟩]) (.seq (.seq (.reg true [⟨0, some 3, none, .mov (.t 0), []⟩,
⟨1, some 4, none, .isnil 1 false (.t 3), []⟩]) (.cond (.t 4) (.seq (.reg true [⟨0, some 2, none, .mov (.c (.nils)), []⟩]) (.ret)) (.skip))) (.seq (.reg true [⟨0, some 5, none, .mov (.c (.lst w [] true)), []⟩,
⟨1, some 6, none, .mov (.t 0), []⟩,
⟨2, some 7, none, .app w (.t 5) (.t 6), []⟩,
⟨3, some 2, none, .mov (.t 7), []⟩]) (.ret)))⟩
theorem clone_nil (hg : Γ g = some (.fn (cloneF w))) (h : AH) : Ex Γ 1 (.call g [.nils] h) (.res (.ok .nils) h) := by
  refine .fn (st := ⟨((((params 0 [.nils]).set 2 .nils).set 3 .nils).set 4 (.bool true)).set 2 .nils, Env.empty, h⟩) (e := .ret) hg rfl ?_ (.inr rfl) rfl
  refine .seqN (.reg (.step rfl ⟨.nils, rfl, rfl⟩ trivial .nil) (.inl rfl)) (.seqX (.seqN (.reg (.step rfl ⟨.nils, rfl, rfl⟩ trivial (.step rfl ⟨.bool true, rfl, rfl⟩ trivial .nil)) (.inl rfl)) ?_) (by simp))
  exact .cond (t := true) rfl (.seqN (.reg (.step rfl ⟨.nils, rfl, rfl⟩ trivial .nil) (.inl rfl)) .ret)
theorem clone_row (hg : Γ g = some (.fn (cloneF w))) (h : AH) (id : Nat) : Ex Γ 1 (.call g [.slice w id 0 0 false] h) (.res (.ok (.lst w [] true)) h) := by
  refine .fn (st := ⟨(((((((params 0 [.slice w id 0 0 false]).set 2 .nils).set 3 (.slice w id 0 0 false)).set 4 (.bool false)).set 5 (.lst w [] true)).set 6 (.slice w id 0 0 false)).set 7 (.lst w [] true)).set 2 (.lst w [] true), Env.empty, h⟩) (e := .ret) hg rfl ?_ (.inr rfl) rfl
  refine .seqN (.reg (.step rfl ⟨.nils, rfl, rfl⟩ trivial .nil) (.inl rfl)) (.seqN (.seqN (.reg (.step rfl ⟨.slice w id 0 0 false, rfl, rfl⟩ trivial (.step rfl ⟨.bool false, rfl, rfl⟩ trivial .nil)) (.inl rfl)) (.cond (t := false) rfl .cskip)) (.seqN (.reg ?_ (.inl rfl)) .ret))
  refine .step rfl ⟨.lst w [] true, rfl, rfl⟩ trivial (.step rfl ⟨.slice w id 0 0 false, rfl, rfl⟩ trivial (.step (st' := ⟨((((((params 0 [.slice w id 0 0 false]).set 2 .nils).set 3 (.slice w id 0 0 false)).set 4 (.bool false)).set 5 (.lst w [] true)).set 6 (.slice w id 0 0 false)).set 7 (.lst w [] true), Env.empty, h⟩) rfl ?_ trivial (.step rfl ⟨.lst w [] true, rfl, rfl⟩ trivial .nil)))
  exact ⟨.lst w [] true, .slice w id 0 0 false, rfl, rfl, [], rfl, rfl, rfl, rfl⟩
theorem relH0 (hr : AH) : RelH ρ0 [] hr := ⟨(fun i o h => by simp at h), (fun i j a o o' h => by cases h), (fun _ _ => rfl), (fun i a h => by cases h)⟩
theorem clone_fresh (hg : Γ g = some (.fn (cloneF w))) {xs : List AV} (hf : ∀ n, lays xs n = (xs, [])) (hp : AV.pls xs = true) (ht : AV.trees xs = true) (hl : xs.length ≤ 4194304) :
    Fresh Γ g [.lst w xs false] (.lst w xs false) := by
  cases xs with
  | cons x xs =>
    refine Fresh.intro [] [] hg rfl rfl (by simp only [AV.trees, AV.tree] at ht ⊢; simp [ht]) hp ?_
    simp only [cloneF, vparams, go_sem, Nat.reduceEqDiff, reduceIte]
    refine app_lit Els.lst (by simp only [List.length_cons] at hl ⊢; omega) ?_
    simp only [go_sem, Nat.reduceEqDiff, reduceIte]
    exact finF_at (pre := []) (post := []) hp (by simp [packed, lay]) (by simp [lay, hf])
  | nil =>
    refine ⟨rfl, rfl, fun hr ar har => ?_⟩
    have hn : ∀ hr', RelH (ρ0.ext 0 none) [.row w [] true] hr' := fun hr' => (relH0 hr').nil
    simp only [RelVs, RelV] at har
    obtain ⟨r, rs, rfl, hr0, rfl⟩ := har
    have hfm : ∀ hr' : AH, (∀ a o, hr a = some o → hr' a = some o) → (∀ a, hr'.fr a → hr.fr a) → Fm 0 ρ0 hr (ρ0.ext 0 none) hr' := fun hr' h1 h2 => ⟨fun a o q _ => h1 a o q, (fun i a q => by
      by_cases e : i = 0
      · subst e; rw [Ren.ext_same] at q; cases q
      · rw [Ren.ext_ne _ _ e] at q; cases q), h2, fun i hi => by omega⟩
    rcases hr0 with ⟨ys, c, rfl, _, hys⟩ | ⟨_, rfl⟩
    · subst hys
      obtain ⟨id, hid⟩ := hr.fresh
      have hx1 : Ex Γ 1 (.call g [.nils] hr) (.res (.ok (.lst w [] true)) (hr.kill [])) := .frzR [] (fun i hi => by simp at hi) .nils (clone_nil hg hr)
      refine ⟨1, _, _, ρ0.ext 0 none, .nilc id hid (fun i o q => by rw [AH.kill_at]; simpa using q) (fun i o q => q) rfl hx1 (clone_row hg _ id), hn _, by simp [lay, RelV, Ren.ext_same], hfm _ (fun a o q => q) fun a q => AH.fr_tomb (AH.fr_tomb' q)⟩
    · exact ⟨1, _, _, ρ0.ext 0 none, clone_nil hg hr, hn _, by simp [lay, RelV, Ren.ext_same], hfm _ (fun a o q => q) fun a q => q⟩
theorem objsC_app {μ : List (Option Nat)} {h : List AObj} : ∀ {r1 r2 : List (Option Nat)} {h1 h2 : List AObj}, objsC μ h r1 h1 → objsC μ h r2 h2 → objsC μ h (r1 ++ r2) (h1 ++ h2)
  | [], _, [], _, _, k => k
  | _ :: _, _, _ :: _, _, j, k => ⟨j.1, objsC_app j.2 k⟩
  | [], _, _ :: _, _, j, _ => j.elim
  | _ :: _, _, [], _, j, _ => j.elim
theorem objsC_lays {μ : List (Option Nat)} {h : List AObj} {xs : List AV} {a b : Nat} (hp : AV.pls xs = true) (hm : ∀ i, i < AV.rowss xs → μ[b + i]? = some (some (a + i))) (hh : ∀ i o, (lays xs a).2[i]? = some o → h[a + i]? = some o) :
    objsC μ h ((List.range' a (AV.rowss xs)).map some) (lays xs b).2 := by
  refine objsC_of (by simp [lays_len]) fun i j o h1 h2 => ?_
  have hi : i < AV.rowss xs := by have := (List.getElem?_eq_some_iff.1 h2).1; rw [lays_len] at this; exact this
  rw [List.getElem?_map, List.getElem?_range' (by omega)] at h1
  simp only [Nat.one_mul, Option.map_some, Option.some.injEq] at h1
  subst h1
  exact lays_OR2 xs a b hp hm hh i o h2
def rmu (b n : Nat) : List (Option Nat) := (List.range' 0 b).map some ++ some (b + n + 2) :: (List.range' (b + 1) n).map some
theorem rmu_lo {b n i : Nat} (hi : i < b) : (rmu b n)[i]? = some (some i) := by
  unfold rmu
  rw [List.getElem?_append_left (by simpa using hi), List.getElem?_map, List.getElem?_range' (by omega)]
  simp
theorem rmu_b {b n : Nat} : (rmu b n)[b]? = some (some (b + n + 2)) := by
  unfold rmu
  rw [List.getElem?_append_right (by simp)]
  simp
theorem rmu_hi {b n i : Nat} (hi : i < n) : (rmu b n)[b + 1 + i]? = some (some (b + 1 + i)) := by
  unfold rmu
  rw [List.getElem?_append_right (by simp; omega)]
  have e : b + 1 + i - ((List.range' 0 b).map some).length = i + 1 := by simp; omega
  rw [e, List.getElem?_cons_succ, List.getElem?_map, List.getElem?_range' (by omega)]
  simp
theorem rmu_dist {b n : Nat} : dist (rmu b n) = true := by
  have e : rmu b n = (List.range' 0 b ++ (b + n + 2) :: List.range' (b + 1) n).map some := by simp [rmu]
  rw [e]
  refine dist_map ?_
  rw [List.nodup_append]
  refine ⟨List.nodup_range', ?_, ?_⟩
  · rw [List.nodup_cons]
    refine ⟨?_, List.nodup_range'⟩
    simp only [List.mem_range'_1]; omega
  · intro x hx y hy
    simp only [List.mem_range'_1, List.mem_cons] at hx hy
    rcases hy with rfl | hy <;> omega
theorem Can.round {ps ts : List AV} {x : AObj} {s s' m m' : LEnv} {b n : Nat} (hps : AV.pls ps = true) (hts : AV.pls ts = true) (hb : AV.rowss ps = b) (hn : AV.rowss ts = n) (h1 : slotsC (rmu b n) s s') (h2 : slotsC (rmu b n) m m') :
    Can 0 ⟨s, m, (lays ps 0).2 ++ .dead :: ((lays ts (b + 1)).2 ++ [x, .row w (lays ts (b + 1)).1 true])⟩ ⟨s', m', (lays ps 0).2 ++ .row w (lays ts (b + 1)).1 true :: (lays ts (b + 1)).2⟩ := by
  subst hb hn
  have hlp := lays_len ps 0
  have hlt := lays_len ts (AV.rowss ps + 1)
  refine Can.renum (rmu (AV.rowss ps) (AV.rowss ts)) rmu_dist (objsC_app (objsC_lays hps (fun i hi => by rw [Nat.zero_add]; exact rmu_lo hi) fun i o hi => ?_) ⟨?_, objsC_lays hts (fun i hi => rmu_hi hi) fun i o hi => ?_⟩) h1 h2
  · rw [Nat.zero_add, List.getElem?_append_left (List.getElem?_eq_some_iff.1 hi).1]; exact hi
  · refine .row (el := (lays ts (AV.rowss ps + 1)).1) (rw' := true) ?_ ⟨rfl, fun p hp => ?_⟩
    · rw [List.getElem?_append_right (by omega), show AV.rowss ps + AV.rowss ts + 2 - (lays ps 0).2.length = AV.rowss ts + 1 + 1 by omega, List.getElem?_cons_succ, List.getElem?_append_right (by omega), hlt,
        show AV.rowss ts + 1 - AV.rowss ts = 1 by omega]
      rfl
    · exact (lays_VR2 ts (AV.rowss ps + 1) (AV.rowss ps + 1) hts (fun i hi => rmu_hi hi)).2 p hp
  · have hi' := (List.getElem?_eq_some_iff.1 hi).1
    rw [List.getElem?_append_right (by omega), show AV.rowss ps + 1 + i - (lays ps 0).2.length = i + 1 by omega, List.getElem?_cons_succ, List.getElem?_append_left hi']
    exact hi
theorem last_at {A : List AObj} {o : AObj} : (A ++ [o])[A.length]? = some o := List.getElem?_concat_length
theorem Can.push {ps A : List AV} {t : AV} {s s' m m' : LEnv} {h h' : List AObj} {b n : Nat} (hps : AV.pls ps = true) (hA : AV.pls A = true) (ht : t.pl = true) (hb : AV.rowss ps = b) (hn : AV.rowss A + t.rows = n)
    (hh : h = (lays ps 0).2 ++ .dead :: ((lays A (b + 1)).2 ++ ((lay t (b + 1 + AV.rowss A)).2 ++ [.row w [(lay t (b + 1 + AV.rowss A)).1] true, .row w ((lays A (b + 1)).1 ++ [(lay t (b + 1 + AV.rowss A)).1]) true])))
    (hh' : h' = (lays ps 0).2 ++ .row w (lays (A ++ [t]) (b + 1)).1 true :: (lays (A ++ [t]) (b + 1)).2) (h1 : slotsC (rmu b n) s s') (h2 : slotsC (rmu b n) m m') : Can 0 ⟨s, m, h⟩ ⟨s', m', h'⟩ := by
  have hp : AV.pls (A ++ [t]) = true := by
    have : ∀ B : List AV, AV.pls B = true → AV.pls (B ++ [t]) = true := by
      intro B
      induction B with
      | nil => intro _; simp only [List.nil_append, AV.pls, ht, Bool.and_true]
      | cons y B ih =>
        intro hB
        simp only [AV.pls, Bool.and_eq_true] at hB
        simp only [List.cons_append, AV.pls, hB.1, ih hB.2, Bool.and_self]
    exact this A hA
  have r := Can.round (w := w) (x := .row w [(lay t (b + 1 + AV.rowss A)).1] true) (s := s) (s' := s') (m := m) (m' := m') (b := b) (n := n) hps hp hb (by rw [rowss_app]; simp only [AV.rowss, Nat.add_zero]; exact hn) h1 h2
  subst hh hh'
  simp only [lays_app, lays, List.append_nil, List.append_assoc] at r ⊢
  exact r
def smu (b : Nat) : List (Option Nat) := (List.range' 0 b).map some ++ [none]
theorem smu_lo {b i : Nat} (hi : i < b) : (smu b)[i]? = some (some i) := by
  unfold smu
  rw [List.getElem?_append_left (by simpa using hi), List.getElem?_map, List.getElem?_range' (by omega)]
  simp
theorem smu_b {b : Nat} : (smu b)[b]? = some none := by
  unfold smu
  rw [List.getElem?_append_right (by simp)]
  simp
theorem dist_none : ∀ {l : List (Option Nat)}, dist l = true → dist (l ++ [none]) = true
  | [], _ => rfl
  | none :: l, h => by simp only [List.cons_append, dist] at h ⊢; exact dist_none h
  | some j :: l, h => by
    simp only [List.cons_append, dist, Bool.and_eq_true, List.all_append, List.all_cons, List.all_nil, Bool.and_true] at h ⊢
    exact ⟨h.1, dist_none h.2⟩
theorem Can.start {ps : List AV} {s s' m m' : LEnv} {h : List AObj} {b : Nat} (hps : AV.pls ps = true) (hb : AV.rowss ps = b) (hh : h = (lays ps 0).2) (h1 : slotsC (smu b) s s') (h2 : slotsC (smu b) m m') :
    Can 0 ⟨s, m, h⟩ ⟨s', m', (lays ps 0).2 ++ [.row w [] true]⟩ := by
  subst hb hh
  refine Can.renum (smu (AV.rowss ps)) (dist_none (dist_map List.nodup_range')) (objsC_app (objsC_lays hps (fun i hi => by rw [Nat.zero_add]; exact smu_lo hi) fun i o hi => by rw [Nat.zero_add]; exact hi) ⟨.ph, trivial⟩) h1 h2
theorem midO_at {A B : List AObj} {e : AObj} {i : Nat} (h : A.length = i) : (A ++ e :: B)[i]? = some e := by
  rw [List.getElem?_append_right (by omega), h, Nat.sub_self]; rfl
theorem midO_set {A B : List AObj} {e v : AObj} {i : Nat} (h : A.length = i) : (A ++ e :: B).set i v = A ++ v :: B := by
  rw [List.set_append_right _ _ (by omega), h, Nat.sub_self, List.set_cons_zero]
end
end Go.Ab
namespace Go.Ab
open Go
def pmu (x y w : Nat) : List (Option Nat) := (List.range' x y).map some ++ ((List.range' 0 x).map some ++ (List.range' (x + y) w).map some)
theorem pmu_at {x y w j k : Nat} (h : (j < y ∧ k = x + j) ∨ (y ≤ j ∧ j < x + y ∧ k + y = j) ∨ (x + y ≤ j ∧ j < x + y + w ∧ k = j)) : (pmu x y w)[j]? = some (some k) := by
  unfold pmu
  rcases h with ⟨h1, rfl⟩ | ⟨h1, h2, h3⟩ | ⟨h1, h2, rfl⟩
  · rw [List.getElem?_append_left (by simpa using h1), List.getElem?_map, List.getElem?_range' h1]; simp
  · rw [List.getElem?_append_right (by simpa using h1), List.getElem?_append_left (by simp; omega), List.getElem?_map, List.getElem?_range' (by simp; omega)]
    simp; omega
  · rw [List.getElem?_append_right (by simp; omega), List.getElem?_append_right (by simp; omega), List.getElem?_map, List.getElem?_range' (by simp; omega)]
    simp; omega
theorem pmu_dist {x y w : Nat} : dist (pmu x y w) = true := by
  have e : pmu x y w = (List.range' x y ++ (List.range' 0 x ++ List.range' (x + y) w)).map some := by simp [pmu]
  rw [e]
  refine dist_map ?_
  rw [List.nodup_append]
  refine ⟨List.nodup_range', ?_, fun a ha b hb => ?_⟩
  · rw [List.nodup_append]
    refine ⟨List.nodup_range', List.nodup_range', fun a ha b hb => ?_⟩
    simp only [List.mem_range'_1] at ha hb; omega
  · simp only [List.mem_append, List.mem_range'_1] at ha hb; omega
theorem FinF.swap {X Y W : List AV} {t v : AV} {h : List AObj} (hX : AV.pls X = true) (hY : AV.pls Y = true) (hW : AV.pls W = true) (hh : h = (lays (X ++ (Y ++ W)) 0).2) (ht : (lay t 0).2 = (lays (Y ++ (X ++ W)) 0).2)
    (hv : VR2 (pmu (AV.rowss X) (AV.rowss Y) (AV.rowss W)) v (lay t 0).1) : FinF (some [v]) h t := by
  refine ⟨pmu (AV.rowss X) (AV.rowss Y) (AV.rowss W), pmu_dist, ?_, hv⟩
  rw [ht]
  subst hh
  have lX := lays_len X 0
  have lY := lays_len Y (0 + AV.rowss X)
  simp only [lays_app]
  have hx : (lays X 0).2.length = AV.rowss X := lX
  refine objsC_app (objsC_lays hY (fun i hi => pmu_at (by omega)) fun i o hi => ?_) (objsC_app (objsC_lays hX (fun i hi => pmu_at (by omega)) fun i o hi => ?_) (objsC_lays hW (fun i hi => pmu_at (by omega)) fun i o hi => ?_))
  · have hi' := (List.getElem?_eq_some_iff.1 hi).1
    rw [List.getElem?_append_right (by omega), show AV.rowss X + i - (lays X 0).2.length = i by omega, List.getElem?_append_left (by simpa [lays_len] using hi')]
    simpa only [Nat.zero_add] using hi
  · rw [show 0 + i = i from Nat.zero_add i, List.getElem?_append_left (List.getElem?_eq_some_iff.1 hi).1]; exact hi
  · have hi' := (List.getElem?_eq_some_iff.1 hi).1
    rw [List.getElem?_append_right (by omega), List.getElem?_append_right (by omega), show AV.rowss X + AV.rowss Y + i - (lays X 0).2.length - (lays Y (0 + AV.rowss X)).2.length = i by omega]
    simpa only [Nat.zero_add] using hi
end Go.Ab
namespace Go.Ab
open Go
def emu (c b n : Nat) : List (Option Nat) := (List.range' c b).map some ++ some (c + b + n + 2) :: (List.range' (c + b + 1) n).map some
theorem emu_at {c b n j k : Nat} (h : (j < b ∧ k = c + j) ∨ (j = b ∧ k = c + b + n + 2) ∨ (b < j ∧ j < b + n + 1 ∧ k = c + j)) : (emu c b n)[j]? = some (some k) := by
  unfold emu
  rcases h with ⟨h1, rfl⟩ | ⟨rfl, rfl⟩ | ⟨h1, h2, rfl⟩
  · rw [List.getElem?_append_left (by simpa using h1), List.getElem?_map, List.getElem?_range' h1]; simp
  · rw [List.getElem?_append_right (by simp)]; simp
  · rw [List.getElem?_append_right (by simp; omega)]
    have e : j - ((List.range' c b).map some).length = (j - b - 1) + 1 := by simp; omega
    rw [e, List.getElem?_cons_succ, List.getElem?_map, List.getElem?_range' (by omega)]
    simp; omega
theorem emu_dist {c b n : Nat} : dist (emu c b n) = true := by
  have e : emu c b n = (List.range' c b ++ (c + b + n + 2) :: List.range' (c + b + 1) n).map some := by simp [emu]
  rw [e]
  refine dist_map ?_
  rw [List.nodup_append]
  refine ⟨List.nodup_range', ?_, ?_⟩
  · rw [List.nodup_cons]
    refine ⟨?_, List.nodup_range'⟩
    simp only [List.mem_range'_1]; omega
  · intro x hx y hy
    simp only [List.mem_range'_1, List.mem_cons] at hx hy
    rcases hy with rfl | hy <;> omega
theorem FinF.grow {c w : Nat} {pre h : List AObj} {X W el vs : List AV} {x : AObj} {t : AV} (hpre : pre.length = c) (hX : AV.pls X = true) (hW : AV.pls W = true) (hel : AV.trees el = true)
    (hh : h = pre ++ ((lays X c).2 ++ .dead :: ((lays W (c + AV.rowss X + 1)).2 ++ [x, .row w el true]))) (ht : (lay t 0).2 = (lays X 0).2 ++ .row w el true :: (lays W (AV.rowss X + 1)).2)
    (hv : VR2 (emu c (AV.rowss X) (AV.rowss W)) (packed vs) (lay t 0).1) : FinF (some vs) h t := by
  refine ⟨emu c (AV.rowss X) (AV.rowss W), emu_dist, ?_, hv⟩
  rw [ht]
  subst hh hpre
  have lX := lays_len X pre.length
  have lW := lays_len W (pre.length + AV.rowss X + 1)
  refine objsC_app (objsC_lays hX (fun i hi => emu_at (by omega)) fun i o hi => ?_) ⟨?_, objsC_lays hW (fun i hi => emu_at (by omega)) fun i o hi => ?_⟩
  · rw [List.getElem?_append_right (by omega), Nat.add_sub_cancel_left, List.getElem?_append_left (List.getElem?_eq_some_iff.1 hi).1]; exact hi
  · refine .row (el := el) (rw' := true) ?_ (VR2s.trees hel)
    rw [List.getElem?_append_right (by omega), List.getElem?_append_right (by omega), show pre.length + AV.rowss X + AV.rowss W + 2 - pre.length - (lays X pre.length).2.length = AV.rowss W + 1 + 1 by omega, List.getElem?_cons_succ,
      List.getElem?_append_right (by omega), show AV.rowss W + 1 - (lays W (pre.length + AV.rowss X + 1)).2.length = 1 by omega]
    rfl
  · have hi' := (List.getElem?_eq_some_iff.1 hi).1
    rw [List.getElem?_append_right (by omega), List.getElem?_append_right (by omega), show pre.length + AV.rowss X + 1 + i - pre.length - (lays X pre.length).2.length = i + 1 by omega, List.getElem?_cons_succ, List.getElem?_append_left hi']
    exact hi
end Go.Ab
namespace Go.Ab
open Go
theorem Fresh.pure {Γ : Nat → Option AFn} {g : Nat} {vs : List AV} {t : AV} (hp : Fresh Γ g vs t) (hc : t.cn = true) (ht : t.tree = true) : Pure Γ g vs t := by
  unfold Fresh at hp
  unfold Pure
  obtain ⟨t1, t2, hp⟩ := hp
  refine ⟨t1, ht, fun hr ar har => ?_⟩
  obtain ⟨k, r, hr', ρ', h1, h2, h3, h4⟩ := hp hr ar har
  obtain ⟨r', q1, q2⟩ := (lay_cv (h := (lay t 0).2) t 0 t2 hc (fun i o hi => by rw [Nat.zero_add]; exact hi)).conv h2 (K := reals ρ' (lay t 0).2 (List.range t.rows)) (fun i a w el ha ho => by
    rw [List.contains_iff_mem, reals_mem]
    exact ⟨i, w, el, List.mem_range.2 (by have := (List.getElem?_eq_some_iff.1 ho).1; rw [lay_len] at this; exact this), ha, ho⟩) h3
  have hrow : Rows hr' (reals ρ' (lay t 0).2 (List.range t.rows)) := fun a ha => by
    rw [List.contains_iff_mem, reals_mem] at ha
    obtain ⟨i, w, el, _, q2, q3⟩ := ha
    rcases h2.obj i _ q3 with ⟨q, _⟩ | ⟨i', el', p1, p2, p3⟩
    · rw [q] at q2; cases q2
    · rw [p1] at q2; cases q2
      exact ⟨_, p2, rfl⟩
  have hx := Ex.frzR _ hrow q1 h1
  have hkeep : ∀ id o, hr id = some o → (hr'.kill (reals ρ' (lay t 0).2 (List.range t.rows))) id = some o := fun id o ho => by
    rw [AH.kill_at]
    have : (reals ρ' (lay t 0).2 (List.range t.rows)).contains id = false := by
      rw [← Bool.not_eq_true, List.contains_iff_mem, reals_mem]
      rintro ⟨i, w, el, _, q, _⟩
      have := (h4.new0 q).1
      rw [ho] at this; cases this
    rw [this]
    simpa using h4.pres id o ho (fun i hi => by cases hi)
  exact ⟨k, r', _, .drop hkeep (tree_of _ _ ht q2) hx, rfl, fun a ha => AH.fr_of_tomb ha, q2⟩
end Go.Ab
namespace Go.Ab
open Go
section
variable {Γ : Nat → Option AFn} {g : Nat} {vs : List AV} {h : List AObj}
def finI (res : List ARes) (K : AV → List AObj → Prop) (e : AExit) (st : VSt) : Prop := (e = .nrm ∨ e = .ret) ∧ match resAll (toSt st) res with
  | some vs => K (packed vs) st.h
  | none => False
def FinI (vs : Option (List AV)) (h : List AObj) (K : AV → List AObj → Prop) : Prop := match vs with
  | some vs => K (packed vs) h
  | none => False
@[go_sem] theorem finI_ret {res : List ARes} {s m : LEnv} {K : AV → List AObj → Prop} : finI res K .ret ⟨s, m, h⟩ = FinI (resAll (toSt ⟨s, m, h⟩) res) h K := by
  simp [finI, FinI]; all_goals rfl
@[go_sem] theorem finI_nrm {res : List ARes} {s m : LEnv} {K : AV → List AObj → Prop} : finI res K .nrm ⟨s, m, h⟩ = FinI (resAll (toSt ⟨s, m, h⟩) res) h K := by
  simp [finI, FinI]; all_goals rfl
@[go_sem] theorem FinI_s {K : AV → List AObj → Prop} : FinI (some vs) h K = K (packed vs) h := rfl
@[go_sem] theorem packed1 {v : AV} : packed [v] = v := rfl
@[go_sem] theorem packed2 {v w : AV} {r : List AV} : packed (v :: w :: r) = .tup (v :: w :: r) := rfl
theorem SCall.run {F : AFun} {K : AV → List AObj → Prop} (fz bp : List Nat) (hg : Γ g = some (.fn F)) (hok : F.body.ok = true) (hn : vs.length = F.np)
    (hR : R ⟨Γ, h.length, fz, bp⟩ [.code F.body] ⟨vparams 0 vs, [], h⟩ (finI F.res K)) : SCall Γ g vs h K := fun ρ hr ar hH hv => by
  have hS : RelS ρ ⟨vparams 0 vs, [], h⟩ { s := params 0 ar, l := Env.empty, h := hr } := ⟨params_rel hv, (fun n v h => by cases h), hH⟩
  obtain ⟨k, e, sr', ρ', st', g1, ⟨he, hq⟩, g3, g4, g5⟩ := Sem.of (by simpa only [List.all_cons, List.all_nil, Bool.and_true, Fr1.ok] using hok) hR ρ _ hS (Nat.le_refl _)
  have hb : Ex Γ k (.code F.body { s := params 0 ar, l := Env.empty, h := hr }) (.st e sr') := by
    cases g1 with
    | code h h' => cases h'; exact h
    | codeX h he' hx h' => cases e <;> simp [exK] at hx
    | codeE h he' hx => exact h
  split at hq
  · rename_i us hus
    obtain ⟨rs, q1, q2⟩ := resAll_rel g3 hus
    have hx := Ex.fn hg (by rw [hv.length]; exact hn) hb he q1
    exact ⟨k + 1, _, _, ρ', _, st'.h, hx, hq, g3.h, packed_rel q2, g4, g5⟩
  · exact hq.elim
theorem SCall.cut {K : AV → List AObj → Prop} (id n w : Nat) (hs : SCall Γ g vs h fun v h' => ∃ el, h'[id]? = some (.row w el true) ∧ K v (h'.set id (.row w (el.take n) true))) : SCall Γ g vs h K := fun ρ hr ar hH hv => by
  obtain ⟨k, r, hr', ρ', v, h', hx, ⟨el, ho, hk⟩, g1, g2, g3, g4⟩ := hs ρ hr ar hH hv
  rcases g1.obj _ _ ho with ⟨q1, q2, _⟩ | ⟨a, el', q1, q2, q3⟩
  · subst q2
    rw [List.take_nil] at hk
    have e : h'.set id (.row w [] true) = h' := List.ext_getElem? fun i => by
      rw [List.getElem?_set]
      split
      · rename_i e; subst e
        split
        · rw [ho]
        · rename_i hn; rw [List.getElem?_eq_none (by omega)]
      · rfl
    rw [e] at hk
    exact ⟨k, r, hr', ρ', v, h', hx, hk, g1, g2, g3, g4⟩
  · refine ⟨k, r, _, ρ', v, _, .trim n q2 hx, hk, g1.write q1 ho (by simp) (.inr ⟨a, _, q1, AH.upd_same _ _ _, q3.take n⟩), g2, g3.trans (Fm.write g1 q1), by rw [List.length_set]; exact g4⟩
end
section
variable {E : Ev} {l : List AOper} {ks : List Fr1} {s m : LEnv} {h : List AObj} {Q : AExit → VSt → Prop} {k e : Nat} {vs : List AV}
theorem put_v {o : Option AV} {v : AV} (ho : o = some v) (hr : R E (.ops l :: ks) ⟨(k, v) :: s, m, h⟩ Q) : Put E o (some k) l ks ⟨s, m, h⟩ Q := by
  subst ho; rw [put_some]; exact hr
theorem call_here (hp : SCall E.Γ k vs h fun v h' => R E (.ops l :: ks) ⟨(e, v) :: s, m, h'⟩ Q) : Call1 E (some (k, vs)) false (some e) l ks ⟨s, m, h⟩ Q := by
  unfold Call1
  simp only [Bool.false_eq_true, if_false]
  exact hp
theorem SCall.mono {Γ : Nat → Option AFn} {g : Nat} {K K' : AV → List AObj → Prop} (hs : SCall Γ g vs h K) (hk : ∀ v h', K v h' → K' v h') : SCall Γ g vs h K' := fun ρ hr ar hH hv => by
  obtain ⟨k, r, hr', ρ', v, h', hx, q, g⟩ := hs ρ hr ar hH hv
  exact ⟨k, r, hr', ρ', v, h', hx, hk _ _ q, g⟩
end
end Go.Ab
namespace Go.Ab
open Go
def emq (c b n p : Nat) : List (Option Nat) := (List.range' c b).map some ++ some p :: (List.range' (c + b + 1) n).map some
theorem emq_at {c b n p j k : Nat} (h : (j < b ∧ k = c + j) ∨ (j = b ∧ k = p) ∨ (b < j ∧ j < b + n + 1 ∧ k = c + j)) : (emq c b n p)[j]? = some (some k) := by
  unfold emq
  rcases h with ⟨h1, rfl⟩ | ⟨rfl, rfl⟩ | ⟨h1, h2, rfl⟩
  · rw [List.getElem?_append_left (by simpa using h1), List.getElem?_map, List.getElem?_range' h1]; simp
  · rw [List.getElem?_append_right (by simp)]; simp
  · rw [List.getElem?_append_right (by simp; omega)]
    have e : j - ((List.range' c b).map some).length = (j - b - 1) + 1 := by simp; omega
    rw [e, List.getElem?_cons_succ, List.getElem?_map, List.getElem?_range' (by omega)]
    simp; omega
theorem emq_dist {c b n p : Nat} (hp : c + b + n < p) : dist (emq c b n p) = true := by
  have e : emq c b n p = (List.range' c b ++ p :: List.range' (c + b + 1) n).map some := by simp [emq]
  rw [e]
  refine dist_map ?_
  rw [List.nodup_append]
  refine ⟨List.nodup_range', ?_, ?_⟩
  · rw [List.nodup_cons]
    refine ⟨?_, List.nodup_range'⟩
    simp only [List.mem_range'_1]; omega
  · intro x hx y hy
    simp only [List.mem_range'_1, List.mem_cons] at hx hy
    rcases hy with rfl | hy <;> omega
theorem FinF.swapIn {c w q : Nat} {pre h post : List AObj} {X W el vs : List AV} {y : AObj} {t : AV} (hpre : pre.length = c) (hX : AV.pls X = true) (hW : AV.pls W = true) (hel : AV.trees el = true)
    (hh : h = pre ++ ((lays X c).2 ++ y :: ((lays W (c + AV.rowss X + 1)).2 ++ post))) (hq : post[q]? = some (.row w el true)) (ht : (lay t 0).2 = (lays X 0).2 ++ .row w el true :: (lays W (AV.rowss X + 1)).2)
    (hv : VR2 (emq c (AV.rowss X) (AV.rowss W) (c + AV.rowss X + 1 + AV.rowss W + q)) (packed vs) (lay t 0).1) : FinF (some vs) h t := by
  refine ⟨emq c (AV.rowss X) (AV.rowss W) (c + AV.rowss X + 1 + AV.rowss W + q), emq_dist (by omega), ?_, hv⟩
  rw [ht]
  subst hh hpre
  have lX := lays_len X pre.length
  have lW := lays_len W (pre.length + AV.rowss X + 1)
  refine objsC_app (objsC_lays hX (fun i hi => emq_at (by omega)) fun i o hi => ?_) ⟨?_, objsC_lays hW (fun i hi => emq_at (by omega)) fun i o hi => ?_⟩
  · rw [List.getElem?_append_right (by omega), Nat.add_sub_cancel_left, List.getElem?_append_left (List.getElem?_eq_some_iff.1 hi).1]; exact hi
  · refine .row (el := el) (rw' := true) ?_ (VR2s.trees hel)
    rw [List.getElem?_append_right (by omega), List.getElem?_append_right (by omega), show pre.length + AV.rowss X + 1 + AV.rowss W + q - pre.length - (lays X pre.length).2.length = AV.rowss W + q + 1 by omega, List.getElem?_cons_succ,
      List.getElem?_append_right (by omega), show AV.rowss W + q - (lays W (pre.length + AV.rowss X + 1)).2.length = q by omega]
    exact hq
  · have hi' := (List.getElem?_eq_some_iff.1 hi).1
    rw [List.getElem?_append_right (by omega), List.getElem?_append_right (by omega), show pre.length + AV.rowss X + 1 + i - pre.length - (lays X pre.length).2.length = i + 1 by omega, List.getElem?_cons_succ, List.getElem?_append_left hi']
    exact hi
end Go.Ab
