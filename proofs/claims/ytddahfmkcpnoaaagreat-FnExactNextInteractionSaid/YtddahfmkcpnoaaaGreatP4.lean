/- Texts Ab12 .. Dbg6: the abstract machine, its laws and contracts of functions: lemmas for the statement. No condition. -/
import Derived.Carry
import Derived.ChangeArms
import Derived.ChangeSame
import Derived.JoinedOf
import Derived.KernelRfl
import Derived.Laws.Sem
import Derived.OpenShut
import Derived.Orders
import Derived.RowKit3
import Derived.SizedLaws
import Derived.WideKeyArgs
import Derived.Test.YtddahfmkcpnoaaaGreatP3
namespace Go.Ab
open Go
section
variable {S : Seat} {m : Mp} {L : List Nat} {n B : Nat} {A : AMap} {st st' : St} {a : Act} {w : World}
theorem Did.of_eq {h : AH} {o : Oper} {s1 s2 : St} (e : s1 = s2) (h1 : Did S m L n B h s1 a w o) : Did S m L n B h s2 a w o := e ▸ h1
theorem rowAt_app {N : Nums} {c c1 c2 r : Array Value} {wd : Nat} {xs ys : List AV} (h1 : RowAt N m c1 0 wd xs) (s1 : c1.size = xs.length * wd) (h2 : RowAt N m c2 0 wd ys) (s2 : c2.size = ys.length * wd) (e : c = c1 ++ c2 ++ r) : RowAt N m c 0 wd (xs ++ ys) := by
  subst e
  intro i x hx
  rw [List.getElem?_append] at hx
  split at hx
  · rename_i hi
    obtain ⟨q1, q2⟩ := h1 i x hx
    refine ⟨q1, fun j y hy => ?_⟩
    obtain ⟨q3, u, q4, q5⟩ := q2 j y hy
    refine ⟨q3, u, ?_, q5⟩
    have hlt := (Array.getElem?_eq_some_iff.1 q4).1
    rw [Array.getElem?_append_left (by simp; omega), Array.getElem?_append_left hlt]
    exact q4
  · rename_i hi
    obtain ⟨q1, q2⟩ := h2 _ x hx
    refine ⟨q1, fun j y hy => ?_⟩
    obtain ⟨q3, u, q4, q5⟩ := q2 j y hy
    refine ⟨q3, u, ?_, q5⟩
    have hlt := (Array.getElem?_eq_some_iff.1 q4).1
    have e1 : 0 + i * wd + j = c1.size + (0 + (i - xs.length) * wd + j) := by
      rw [s1]
      have : i * wd = xs.length * wd + (i - xs.length) * wd := by rw [← Nat.add_mul]; congr 1; omega
      omega
    rw [e1, Array.getElem?_append_left (by simp; omega), Array.getElem?_append_right (by omega)]
    rw [← q4]; congr 1; omega
theorem size_zeroCells' (z : Array Value) (k : Nat) : (Builtin.zeroCells z k).size = k * z.size := by simp [Builtin.zeroCells]
theorem did_app0 {o : Oper} {x : AV} {v : Value} (hf : FR S m L n B st a w) (hrun : (execOp a.eval o).run S.P w = .ok (.value v) w) (hv : VR S.N m x v) (hd : ∀ x, o.dst = some x → x < n ∧ x ∉ L) :
    Did S m L n B st.h (st.put o.dst x) a w o :=
  ⟨v, w, m, .inl hrun, hf.next hf.heap m.le_refl (Nat.le_refl _) (fun _ _ _ hb => ⟨rfl, hb⟩) hv hd, Fr.refl _ _ _ _⟩
theorem did_appNew {o : Oper} {v : Value} {wd cap k id : Nat} {xs ys : List AV} {c1 c2 r : Array Value} {e : TypeId} (hf : FR S m L n B st a w) (hid : st.h.fr id)
    (hrun : (execOp a.eval o).run S.P w = .ok (.value (.slice (some ⟨w.heap.size, 0, none⟩) (xs.length + ys.length) cap)) { w with heap := w.heap.push (.cells (c1 ++ c2 ++ r) e (0, 0)), drawn := k })
    (h1 : RowAt S.N m c1 0 wd xs) (s1 : c1.size = xs.length * wd) (h2 : RowAt S.N m c2 0 wd ys) (s2 : c2.size = ys.length * wd) (s3 : r.size = (cap - (xs.length + ys.length)) * wd) (hcap : xs.length + ys.length ≤ cap)
    (hd : ∀ x, o.dst = some x → x < n ∧ x ∉ L) :
    Did S m L n B st.h { s := putS st.s o.dst (.slice wd id 0 (xs.length + ys.length) false), l := st.l, h := st.h.upd id (.row wd (xs ++ ys) true) } a w o := by
  have _ := v
  have hf' : FR S m L n B st a { w with drawn := k } := hf.drew
  have hle := Mp.le_upd (p := (⟨w.heap.size, 0, wd, cap⟩ : Place)) (hf.heap.none' id hid)
  have hrow := rowAt_app (r := r) h1 s1 h2 s2 rfl
  have hob : ObjAt S.N (m.upd id ⟨w.heap.size, 0, wd, cap⟩) { w with heap := w.heap.push (.cells (c1 ++ c2 ++ r) e (0, 0)), drawn := k } ⟨w.heap.size, 0, wd, cap⟩ (.row wd (xs ++ ys) true) := by
    refine rowObj (c := c1 ++ c2 ++ r) (e := e) (by simp) cap (by simpa using hcap) ?_ (fun i x hx => ⟨(hrow i x hx).1, (hrow i x hx).2.mono hle⟩)
    simp only [Array.size_append, s1, s2, s3]
    rw [← Nat.add_mul, ← Nat.add_mul]
    exact Nat.mul_le_mul_right _ (by omega)
  refine ⟨_, _, m.upd id ⟨w.heap.size, 0, wd, cap⟩, .inl hrun, ?_, (Fr.drew (k := k)).trans (Fr.new hf'.heap hf'.base hid rfl)⟩
  refine hf'.next (hf'.heap.new hid rfl hob) hle (by simp) (fun b hB hlt hfr => ⟨?_, ?_⟩) ?_ hd
  · have hlt' : b < w.heap.size := hlt
    simp only [Array.getElem?_push]; rw [if_neg (by omega)]
  · have hlt' : b < w.heap.size := hlt
    refine ⟨fun i o' q ho' hl hq => ?_, hfr.2⟩
    by_cases e : i = id
    · subst e; rw [Mp.upd_same] at hq; cases hq; show w.heap.size ≠ b; omega
    · rw [AH.upd_ne _ _ e] at ho'; rw [Mp.upd_ne _ _ e] at hq; exact hfr.1 i o' q ho' hl hq
  · simp only [VR]
    exact ⟨_, _, cap, Mp.upd_same _ _ _, rfl, rfl, hcap, by simp, by simp, fun _ => by simp⟩
theorem run_app {o : Oper} {x y : Operand} {ts : Array TypeId} {T T2 : TypeId} (ho : o.op = .call ⟨.builtin .append, #[x, y], ts⟩) (hts : ts = #[T, T2]) {v : Value} {w' : World}
    (h : (Builtin.append_ #[T, T2] o.type #[a.eval x, a.eval y]).run S.P w = .ok v w') : (execOp a.eval o).run S.P w = .ok (.value v) w' := by
  subst hts
  unfold execOp
  simp only [ho]
  simp only [resolve, Sem.run_bind, Sem.run_pure, Result.andThen_ok, invoke, builtin]
  have : (#[x, y].map a.eval) = #[a.eval x, a.eval y] := by simp
  rw [this]
  simp [h]
theorem HR.regrow {N : Nums} {h : AH} {w' : World} {id id' : Nat} {wd : Nat} {el : List AV} {p q : Place} {o : AObj} (hH : HR N m h w) (hid : h id = some (.row wd el true)) (hp : m id = some p) (hn : (h.upd id .dead).fr id') (hq : q.b = p.b)
    (hs : w'.heap.size = w.heap.size) (hk : ∀ k, k ≠ p.b → w'.heap[k]? = w.heap[k]?) (ho : ObjAt N (m.upd id' q) w' q o) : HR N (m.upd id' q) ((h.upd id .dead).upd id' o) w' := by
  have hne : id' ≠ id := by rintro rfl; have := hn.1; rw [AH.upd_same] at this; cases this
  have hn' : h.fr id' := ⟨by have := hn.1; rwa [AH.upd_ne _ _ hne] at this, hn.2⟩
  have hle := Mp.le_upd (p := q) (hH.none' id' hn')
  have hlt := hH.lt hid rfl hp
  have hap : ∀ j o' pj, j ≠ id → h j = some o' → o'.live = true → m j = some pj → pj.b ≠ p.b := fun j o' pj hj ho' hl hpj hb => hH.apart id j _ o' p pj hid ho' rfl hl (Ne.symm hj) hp hpj hb.symm
  exact {
    at' := fun i o' ho' => by
      by_cases e : i = id'
      · subst e
        rw [AH.upd_same] at ho'
        cases ho'
        exact ⟨q, Mp.upd_same _ _ _, fun _ => by omega, ho⟩
      · rw [AH.upd_ne _ _ e] at ho'
        by_cases e2 : i = id
        · subst e2
          rw [AH.upd_same] at ho'
          cases ho'
          exact ⟨p, by rw [Mp.upd_ne _ _ e]; exact hp, by simp [AObj.live], trivial⟩
        · rw [AH.upd_ne _ _ e2] at ho'
          obtain ⟨pi, h1, h2, h3⟩ := hH.at' i o' ho'
          refine ⟨pi, by rw [Mp.upd_ne _ _ e]; exact h1, fun hl => by rw [hs]; exact h2 hl, ?_⟩
          cases hl : o'.live with
          | true => exact (h3.mono hle).block (hk _ (hap i o' pi e2 ho' hl h1))
          | false => cases o' <;> first | trivial | cases hl
    none' := fun i hi => by
      by_cases e : i = id'
      · subst e; have := hi.1; rw [AH.upd_same] at this; cases this
      · have h1 := hi.1
        rw [AH.upd_ne _ _ e] at h1
        by_cases e2 : i = id
        · subst e2; rw [AH.upd_same] at h1; cases h1
        · rw [AH.upd_ne _ _ e2] at h1; rw [Mp.upd_ne _ _ e]; exact hH.none' i ⟨h1, hi.2⟩
    apart := fun i j o1 o2 p1 p2 h1 h2 hw hl hij hp1 hp2 => by
      by_cases e1 : i = id'
      · subst e1
        rw [Mp.upd_same] at hp1
        cases hp1
        rw [AH.upd_ne _ _ (Ne.symm hij)] at h2
        rw [Mp.upd_ne _ _ (Ne.symm hij)] at hp2
        by_cases e2 : j = id
        · subst e2; rw [AH.upd_same] at h2; cases h2; cases hl
        · rw [AH.upd_ne _ _ e2] at h2
          have := hap j o2 p2 e2 h2 hl hp2
          omega
      · rw [AH.upd_ne _ _ e1] at h1
        rw [Mp.upd_ne _ _ e1] at hp1
        by_cases e3 : i = id
        · subst e3; rw [AH.upd_same] at h1; cases h1; cases hw
        · rw [AH.upd_ne _ _ e3] at h1
          by_cases e2 : j = id'
          · subst e2
            rw [Mp.upd_same] at hp2
            cases hp2
            have := hap i o1 p1 e3 h1 (AObj.live_of_wr hw) hp1
            omega
          · rw [AH.upd_ne _ _ e2] at h2
            rw [Mp.upd_ne _ _ e2] at hp2
            by_cases e4 : j = id
            · subst e4; rw [AH.upd_same] at h2; cases h2; cases hl
            · rw [AH.upd_ne _ _ e4] at h2
              exact hH.apart i j o1 o2 p1 p2 h1 h2 hw hl hij hp1 hp2
    zz := fun b c hz => by
      obtain ⟨g1, g2⟩ := hH.zz b c hz
      have hbp : b ≠ p.b := fun hb => g2 id _ p hid rfl hp hb.symm
      rw [hk b hbp]
      refine ⟨g1, fun i o' q' ho' hw hq' => ?_⟩
      by_cases e : i = id'
      · subst e; rw [Mp.upd_same] at hq'; cases hq'; rw [hq]; exact Ne.symm hbp
      · rw [AH.upd_ne _ _ e] at ho'
        rw [Mp.upd_ne _ _ e] at hq'
        by_cases e2 : i = id
        · subst e2; rw [AH.upd_same] at ho'; cases ho'; cases hw
        · rw [AH.upd_ne _ _ e2] at ho'; exact g2 i o' q' ho' hw hq' }
theorem FR.kill (hf : FR S m L n B st a w) {id : Nat} {o : AObj} (ho : st.h id = some o) : FR S m L n B { st with h := st.h.upd id .dead } a w :=
  ⟨hf.heap.kill ho, hf.slots, fun t c hc => let ⟨h1, b, h2, h3, h4, h5⟩ := hf.locs t c hc; ⟨h1, b, h2, h3, ⟨fun i o' q ho' hl hq => by
    by_cases e : i = id
    · subst e
      have ho'' : st.h.upd i .dead i = some o' := ho'
      rw [AH.upd_same] at ho''; cases ho''; cases hl
    · have ho'' : st.h.upd id .dead i = some o' := ho'
      rw [AH.upd_ne _ _ e] at ho''; exact h4.1 i o' q ho'' hl hq, h4.2⟩, h5⟩, hf.sep, hf.defers, hf.size, hf.base⟩
theorem did_app {o : Oper} {x y : Ao} {x' y' : Operand} {ts : Array TypeId} {T T2 : TypeId} {wd : Nat} {av bv : AV} (hf : FR S m L n B st a w) (ho : o.op = .call ⟨.builtin .append, #[x', y'], ts⟩) (hts : ts = #[T, T2])
    (hd : ∀ x, o.dst = some x → x < n ∧ x ∉ L) (hm : mApp S T T2 wd = true) (hx : mAo S.N L x x' = true) (hy : mAo S.N L y y' = true) (ex : ev st.s x = some av) (ey : ev st.s y = some bv)
    (hs : App wd av bv st o.dst st') : Did S m L n B st.h st' a w o := by
  obtain ⟨ys, hys, hsw, hs⟩ := hs
  have hw : wOf bv = none ∨ wOf bv = some wd := by
    cases bv <;> first
      | exact .inl rfl
      | (exact .inr (congrArg some hsw))
  have hstr : (∃ q, bv = .str q) → wd = 1 := by rintro ⟨q, rfl⟩; exact hsw
  have hvx := mAo_VR (a := a) hx hf.slots ex
  have hvy := mAo_VR (a := a) hy hf.slots ey
  cases av <;> try (exact hs.elim)
  case nils =>
    simp only at hs
    have hx0 : a.eval x' = .slice none 0 0 := by simpa only [VR] using hvx
    split at hs
    · rename_i h0
      subst hs
      obtain ⟨c, e, ti, zc, _, _, _, hc, _, hin, _⟩ := run_append (st := st) (w := w) (ty := o.type) hf.heap hm hys hw hstr hvy hx0
      refine did_app0 (v := .slice none 0 0) hf (run_app ho hts ?_) (by simp only [VR]) hd
      rw [hin (by omega), h0]
      rfl
    · rename_i h0
      obtain ⟨hlim, id, hid, rfl⟩ := hs
      obtain ⟨c, e, ti, zc, _, _, hw0, hc, hzc, _, hout⟩ := run_append (st := st) (w := w) (ty := o.type) hf.heap hm hys hw hstr hvy hx0
      obtain ⟨cap, k, hcap, hr⟩ := hout (by omega) (by omega)
      have hr := hr #[] (by rw [hx0]; rfl)
      have := did_appNew (o := o) (v := .nilFunc) (wd := wd) (xs := []) (ys := ys) (c1 := #[]) (c2 := c) (r := Builtin.zeroCells zc (cap - (0 + ys.length))) (e := e) (cap := cap) (k := k) hf hid
        (run_app ho hts (by simpa using hr)) (fun i q hq => by simp at hq) (by simp) hc.row hc.size (by rw [size_zeroCells', hzc]; simp) (by simpa using hcap) hd
      simpa using this
  case slice w1 id off len clip =>
    obtain ⟨rfl, hs⟩ := hs
    have hvx' := hvx
    simp only [VR] at hvx
    obtain ⟨p, ad, cap0, hp, hpw, hx0, hlc, hrc, hcl, had⟩ := hvx
    split at hs
    · rename_i h0
      subst hs
      obtain ⟨c, e, ti, zc, _, _, _, hc, _, hin, _⟩ := run_append (st := st) (w := w) (ty := o.type) hf.heap hm hys hw hstr hvy hx0
      have hc0 : c.toList = [] := by
        have := hc.size
        rw [h0, Nat.zero_mul] at this
        rw [Array.size_eq_zero_iff.1 this]
      refine did_app0 (v := a.eval x') hf (run_app ho hts ?_) hvx' hd
      rw [hin (by omega), h0, hx0]
      simp [hc0, storeCells]
    · rename_i h0
      obtain ⟨hlim, xs, hxs, hs⟩ := hs
      have hxl : xs.length = len := by
        simp only [elemsOf] at hxs
        split at hxs
        · split at hxs
          · simp only [Option.some.injEq] at hxs; subst hxs; simp; omega
          · cases hxs
        · cases hxs
      obtain ⟨c, e, ti, zc, _, _, hw0, hc, hzc, hin, hout⟩ := run_append (st := st) (w := w) (ty := o.type) hf.heap hm hys hw hstr hvy hx0
      obtain ⟨c1, _, hc1, hcx⟩ := read_cells (P := S.P) (wd := w1) hf.heap hxs (.inr rfl) (by rintro ⟨q, hq⟩; cases hq) hvx'
      by_cases hle : len + ys.length ≤ cap0
      · -- in place
        have hclip : clip = false := by
          cases clip with
          | false => rfl
          | true => have := hcl rfl; omega
        subst hclip
        simp only [Bool.false_eq_true, if_false] at hs
        obtain ⟨⟨el, hel⟩, id', hid', rfl⟩ := hs
        have hid'' : (st.h.upd id .dead).fr id' := hid'
        have had := had (by omega)
        subst had
        obtain ⟨p', hp', hlt, hw2, helc, cs, ty, fz, hb, hcs, hu, hrow⟩ := hf.heap.at' id _ hel
        rw [hp] at hp'
        cases hp'
        have hxs' : xs = (el.drop off).take len ∧ off + len ≤ el.length := by
          simp only [elemsOf, hel] at hxs
          split at hxs
          · rename_i h1; simp only [Option.some.injEq] at hxs; exact ⟨hxs.symm, h1⟩
          · cases hxs
        obtain ⟨hxs', hoff⟩ := hxs'
        subst hpw
        have hlt := hlt rfl
        have hbound : p.o + off * p.w + cap0 * p.w ≤ cs.size := by
          have : (off + cap0) * p.w ≤ p.rc * p.w := Nat.mul_le_mul_right _ hrc
          rw [Nat.add_mul] at this
          omega
        have hb2 : len * p.w + ys.length * p.w ≤ cap0 * p.w := by rw [← Nat.add_mul]; exact Nat.mul_le_mul_right _ hle
        have hst := run_storeCells (P := S.P) (o := p.o + off * p.w + len * p.w) (i := 0) (vs := c.toList) hb (by simp [hc.size]; omega) hu hc.one
        simp only [Nat.add_zero] at hst
        have hspl : ∀ k, (spl cs (p.o + off * p.w + len * p.w) c.toList)[k]? = if p.o + off * p.w + len * p.w ≤ k ∧ k < p.o + off * p.w + len * p.w + ys.length * p.w then c.toList[k - (p.o + off * p.w + len * p.w)]? else cs[k]? := by
          intro k
          rw [spl_get (by simp [hc.size]; omega)]
          simp only [Array.length_toList, hc.size]
        have hne : id' ≠ id := by rintro rfl; have := hid''.1; rw [AH.upd_same] at this; cases this
        have hn' : st.h.fr id' := ⟨by have := hid''.1; rwa [AH.upd_ne _ _ hne] at this, hid''.2⟩
        have hmle := Mp.le_upd (p := (⟨p.b, p.o + off * p.w, p.w, cap0⟩ : Place)) (hf.heap.none' id' hn')
        have hk1 : ∀ k, k ≠ p.b → (World.setBlk w p.b (.cells (spl cs (p.o + off * p.w + len * p.w) c.toList) ty fz)).heap[k]? = w.heap[k]? := fun k hk => setBlk_ne hk
        have hob : ObjAt S.N (m.upd id' ⟨p.b, p.o + off * p.w, p.w, cap0⟩) (World.setBlk w p.b (.cells (spl cs (p.o + off * p.w + len * p.w) c.toList) ty fz)) ⟨p.b, p.o + off * p.w, p.w, cap0⟩ (.row p.w (xs ++ ys) true) := by
          refine ⟨rfl, by rw [List.length_append, hxl]; exact hle, _, ty, fz, setBlk_same hlt, by rw [spl_size]; exact hbound, by rw [spl_size]; exact hu, fun i x hx => ?_⟩
          rw [List.getElem?_append] at hx
          split at hx
          · rename_i hi
            rw [hxl] at hi
            rw [hxs', List.getElem?_take, if_pos hi, List.getElem?_drop] at hx
            obtain ⟨q1, q2⟩ := hrow _ x hx
            refine ⟨q1, fun j y hy => ?_⟩
            obtain ⟨q3, u, q4, q5⟩ := q2 j y hy
            refine ⟨q3, u, ?_, q5.mono hmle⟩
            have hj : j < p.w := by rw [← q1]; exact (List.getElem?_eq_some_iff.1 hy).1
            have := mul_apart (wd := p.w) hi
            show (spl cs (p.o + off * p.w + len * p.w) c.toList)[p.o + off * p.w + i * p.w + j]? = some u
            rw [hspl, if_neg (by omega), ← q4]
            congr 1
            rw [Nat.add_mul]; omega
          · rename_i hi
            rw [hxl] at hi hx
            obtain ⟨q1, q2⟩ := hc.row _ x hx
            refine ⟨q1, fun j y hy => ?_⟩
            obtain ⟨q3, u, q4, q5⟩ := q2 j y hy
            refine ⟨q3, u, ?_, q5.mono hmle⟩
            have hlt2 := (Array.getElem?_eq_some_iff.1 q4).1
            have e1 : i * p.w = len * p.w + (i - len) * p.w := by rw [← Nat.add_mul]; congr 1; omega
            rw [hc.size] at hlt2
            show (spl cs (p.o + off * p.w + len * p.w) c.toList)[p.o + off * p.w + i * p.w + j]? = some u
            rw [hspl, if_pos (by omega), Array.getElem?_toList, ← q4]
            congr 1
            omega
        have hnew : ∀ b, b ≠ p.b → (∀ i o' q, st.h i = some o' → i ≠ id → o'.live = true → m i = some q → q.b ≠ b) →
            ∀ i o' q, ((st.h.upd id .dead).upd id' (.row p.w (xs ++ ys) true)) i = some o' → o'.live = true → (m.upd id' ⟨p.b, p.o + off * p.w, p.w, cap0⟩) i = some q → q.b ≠ b := by
          intro b hbp hb' i o' q ho' hl hq
          by_cases e1 : i = id'
          · subst e1; rw [Mp.upd_same] at hq; cases hq; exact Ne.symm hbp
          · rw [AH.upd_ne _ _ e1] at ho'
            rw [Mp.upd_ne _ _ e1] at hq
            by_cases e2 : i = id
            · subst e2; rw [AH.upd_same] at ho'; cases ho'; cases hl
            · rw [AH.upd_ne _ _ e2] at ho'
              exact hb' i o' q ho' e2 hl hq
        refine ⟨.slice (some ⟨p.b, p.o + off * p.w, none⟩) (len + ys.length) cap0, World.setBlk w p.b (.cells (spl cs (p.o + off * p.w + len * p.w) c.toList) ty fz), m.upd id' ⟨p.b, p.o + off * p.w, p.w, cap0⟩, .inl (run_app ho hts ?_), ?_, ?_⟩
        · rw [hin hle]
          simp only [addr_add, Sem.run_bind, hst, Result.andThen_ok, Sem.run_pure]
        · refine hf.next (hf.heap.regrow (q := ⟨p.b, p.o + off * p.w, p.w, cap0⟩) hel hp hid'' rfl setBlk_size hk1 hob) hmle (by rw [setBlk_size]; exact Nat.le_refl _) (fun b hB hltb hfr => ?_) ?_ hd
          · have hbp : b ≠ p.b := fun hq => hfr.1 id _ p hel rfl hp hq.symm
            exact ⟨hk1 b hbp, hnew b hbp (fun i o' q ho' _ hl hq => hfr.1 i o' q ho' hl hq), hfr.2⟩
          · simp only [VR]
            exact ⟨_, _, cap0, Mp.upd_same _ _ _, rfl, rfl, hle, by simp, by simp, fun _ => by simp⟩
        · refine ⟨rfl, rfl, rfl, by rw [setBlk_size]; exact Nat.le_refl _, hmle, fun b hb hs => ?_, fun b hb hs => ?_⟩
          · have hbp : b ≠ p.b := fun hq => hs id _ p hel rfl hp hq.symm
            refine ⟨hk1 b hbp, fun i o' q ho' hl hq => ?_⟩
            by_cases e1 : i = id'
            · subst e1; rw [Mp.upd_same] at hq; cases hq; exact Ne.symm hbp
            · have ho'' : ((st.h.upd id .dead).upd id' (.row p.w (xs ++ ys) true)) i = some o' := ho'
              rw [AH.upd_ne _ _ e1] at ho''
              rw [Mp.upd_ne _ _ e1] at hq
              by_cases e2 : i = id
              · subst e2; rw [AH.upd_same] at ho''; cases ho''; cases hl
              · rw [AH.upd_ne _ _ e2] at ho''
                exact hs i o' q ho'' hl hq
          · have hbp : b ≠ p.b := fun hq => hs.1 id _ p hel rfl hp hq.symm
            exact ⟨hnew b hbp (fun i o' q ho' _ hl hq => hs.1 i o' q ho' hl hq), hs.2⟩
      · -- in a new block
        obtain ⟨cap, k, hcap, hr⟩ := hout hle hlim
        have hr := hr c1 (by rw [← hxl]; exact hc1 _ rfl)
        have hr2 := run_app ho hts hr
        rw [← hxl] at hr2 hcap
        cases clip with
        | true =>
          simp only [if_true] at hs
          obtain ⟨id', hid', rfl⟩ := hs
          have := did_appNew (o := o) (v := .nilFunc) (xs := xs) (ys := ys) (c1 := c1) (c2 := c) hf hid' hr2 hcx.row hcx.size hc.row hc.size (by rw [size_zeroCells', hzc]) hcap hd
          rw [hxl] at this
          exact this
        | false =>
          simp only [Bool.false_eq_true, if_false] at hs
          obtain ⟨⟨el, hel⟩, id', hid', rfl⟩ := hs
          obtain ⟨v, w2, m2, g1, g2, g3⟩ := did_appNew (o := o) (v := .nilFunc) (xs := xs) (ys := ys) (c1 := c1) (c2 := c) (hf.kill hel) hid' hr2 hcx.row hcx.size hc.row hc.size (by rw [size_zeroCells', hzc]) hcap hd
          rw [hxl] at g2 g3
          exact ⟨v, w2, m2, g1, g2, Fr.kill.trans g3⟩
  case lst w1 xs clip =>
    obtain ⟨rfl, hs⟩ := hs
    have hvx' := hvx
    simp only [VR] at hvx
    obtain ⟨ad, cap0, hx0, hlc, hcl, had⟩ := hvx
    split at hs
    · rename_i h0
      subst hs
      obtain ⟨c, e, ti, zc, _, _, _, hc, _, hin, _⟩ := run_append (st := st) (w := w) (ty := o.type) hf.heap hm hys hw hstr hvy hx0
      have hc0 : c.toList = [] := by
        have := hc.size
        rw [h0, Nat.zero_mul] at this
        rw [Array.size_eq_zero_iff.1 this]
      refine did_app0 (v := a.eval x') hf (run_app ho hts ?_) hvx' hd
      rw [hin (by omega), h0, hx0]
      cases ad <;> simp [hc0, storeCells] <;> rfl
    · rename_i h0
      obtain ⟨hlim, rfl, id', hid', rfl⟩ := hs
      have hcap0 := hcl rfl
      obtain ⟨c, e, ti, zc, _, _, hw0, hc, hzc, hin, hout⟩ := run_append (st := st) (w := w) (ty := o.type) hf.heap hm hys hw hstr hvy hx0
      obtain ⟨c1, _, hc1, hcx⟩ := read_cells (P := S.P) (wd := w1) (h := st.h) hf.heap (y := .lst w1 xs true) rfl (.inr rfl) (by rintro ⟨q, hq⟩; cases hq) hvx'
      obtain ⟨cap, k, hcap, hr⟩ := hout (by omega) hlim
      have hr := hr c1 (hc1 _ rfl)
      have hr2 := run_app ho hts hr
      exact did_appNew (o := o) (v := .nilFunc) (xs := xs) (ys := ys) (c1 := c1) (c2 := c) hf hid' hr2 hcx.row hcx.size hc.row hc.size (by rw [size_zeroCells', hzc]) hcap hd
end
end Go.Ab
namespace Go.Ab
open Go
def mParts (N : Nums) (L : List Nat) : List (Nat × Ao) → List (Nat × Operand) → Bool
  | [], [] => true
  | (i, x) :: r, (j, y) :: q => i == j && mAo N L x y && mParts N L r q
  | _, _ => false
def mElem (S : Seat) (T : TypeId) (w : Nat) (z : AV) : Bool := match S.T T with
  | some ⟨.slice e, _, _, _⟩ => zeroOK S e z w && (match S.T e with
    | some ⟨_, _, bs, _⟩ => decide (bs ≤ 16384)
    | none => false)
  | _ => false
section
variable {S : Seat} {m : Mp} {L : List Nat} {n B : Nat} {A : AMap} {st st' : St} {a : Act} {w : World}
theorem fillS_run {place : Nat → Option (Nat × Nat)} {wd : Nat} (hpl : ∀ i, place i = some (i * wd, wd)) (h0 : 0 < wd) (hs : SlotR S.N m L st.s a) : ∀ {ps : List (Nat × Ao)} {parts : List (Nat × Operand)} {el el' : List AV} {cells : Array Value},
    mParts S.N L ps parts = true → fillAV st.s wd el ps = some el' → RowAt S.N m cells 0 wd el → cells.size = el.length * wd →
    ∃ cells', Instr.fill place cells (parts.map fun p => (p.1, a.eval p.2)) = some cells' ∧ RowAt S.N m cells' 0 wd el' ∧ cells'.size = cells.size ∧ el'.length = el.length
  | [], [], el, el', cells, _, hb, hv, _ => by
    simp only [fillAV, Option.some.injEq] at hb
    subst hb
    exact ⟨cells, rfl, hv, rfl, rfl⟩
  | [], _ :: _, _, _, _, hm, _, _, _ => by simp [mParts] at hm
  | (_, _) :: _, [], _, _, _, hm, _, _, _ => by simp [mParts] at hm
  | (i, x) :: ps, (j, y) :: parts, el, el', cells, hm, hb, hv, hsz => by
    simp only [mParts, Bool.and_eq_true, beq_iff_eq] at hm
    obtain ⟨⟨rfl, hm2⟩, hm3⟩ := hm
    simp only [fillAV] at hb
    split at hb
    · rename_i v he
      split at hb
      · rename_i hc
        obtain ⟨hl, hi⟩ := hc
        have hvr := mAo_VR (a := a) hm2 hs he
        obtain ⟨q1, q2, q3⟩ := hvr.cells' h0 hl
        have hbd : i * wd + wd ≤ cells.size := by rw [hsz]; exact mul_apart hi
        have hgo : ¬ ((a.eval y).cells.size ≠ wd ∨ i * wd + (a.eval y).cells.size > cells.size) := by omega
        simp only [List.map_cons, Instr.fill, hpl]
        rw [if_neg (by simpa using hgo)]
        have hget : ∀ k : Nat, ((a.eval y).cells.zipIdx.foldl (fun cs (c, j) => cs.setIfInBounds (i * wd + j) c) cells)[k]? = if i * wd ≤ k ∧ k < i * wd + wd then (a.eval y).cells.toList[k - i * wd]? else cells[k]? := by
          intro k
          have e : (a.eval y).cells.zipIdx.foldl (fun (cs : Array Value) (c, j) => cs.setIfInBounds (i * wd + j) c) cells = ((a.eval y).cells.toList.zipIdx 0).foldl (fun (cs : Array Value) (c, j) => cs.setIfInBounds (i * wd + j) c) cells := by
            rw [← Array.foldl_toList, Array.toList_zipIdx]
          rw [e, splice_get (i * wd) _ 0 cells (by simp; omega) k]
          simp only [Nat.add_zero, Array.length_toList, q3]
        have hsize : ((a.eval y).cells.zipIdx.foldl (fun cs (c, j) => cs.setIfInBounds (i * wd + j) c) cells).size = cells.size := by
          have e : (a.eval y).cells.zipIdx.foldl (fun (cs : Array Value) (c, j) => cs.setIfInBounds (i * wd + j) c) cells = ((a.eval y).cells.toList.zipIdx 0).foldl (fun (cs : Array Value) (c, j) => cs.setIfInBounds (i * wd + j) c) cells := by
            rw [← Array.foldl_toList, Array.toList_zipIdx]
          rw [e]
          exact fold_size _ _ _ _
        have hrow : RowAt S.N m ((a.eval y).cells.zipIdx.foldl (fun cs (c, j) => cs.setIfInBounds (i * wd + j) c) cells) 0 wd (el.set i v) := by
          refine RowAt.set (c := cells) hv hl ?_ (fun k hk => by rw [hget, if_neg (by omega)])
          refine cellsAt_of q1 q2 (fun k u hu => ?_)
          have hk : k < wd := by
            have := (List.getElem?_eq_some_iff.1 hu).1
            simp [q3] at this; exact this
          rw [hget, if_pos (by omega), ← hu]
          congr 1; omega
        obtain ⟨cells', r1, r2, r3, r4⟩ := fillS_run hpl h0 hs hm3 hb hrow (by rw [hsize, hsz]; simp)
        exact ⟨cells', r1, r2, by rw [r3, hsize], by rw [r4]; simp⟩
      · cases hb
    · cases hb
where
  fold_size (off : Nat) : ∀ (l : List Value) (k : Nat) (cs : Array Value), ((l.zipIdx k).foldl (fun (cs : Array Value) (c, j) => cs.setIfInBounds (off + j) c) cs).size = cs.size
    | [], _, _ => rfl
    | x :: l, k, cs => by rw [List.zipIdx_cons, List.foldl_cons, fold_size off l]; simp
theorem row_made {N : Nums} {z : AV} {v : Value} {wd c k : Nat} (hv : VR N m z v) (h0 : 0 < wd) (hl : z.cells.length = wd) (hk : k ≤ c) : RowAt N m ((Array.range (c * wd)).map (v.cells[· % v.cells.size]!)) 0 wd (List.replicate k z) := by
  obtain ⟨q1, q2, q3⟩ := hv.cells' h0 hl
  intro i x hx
  rw [List.getElem?_replicate] at hx
  split at hx
  · rename_i hi
    cases hx
    refine ⟨hl, cellsAt_of q1 q2 (fun j u hu => ?_)⟩
    have hj : j < wd := by
      have := (List.getElem?_eq_some_iff.1 hu).1
      simp [q3] at this; exact this
    have hlt : 0 + i * wd + j < c * wd := by
      have := mul_apart (wd := wd) (Nat.lt_of_lt_of_le hi hk)
      omega
    rw [Array.getElem?_map, Array.getElem?_range, if_pos hlt]
    simp only [Option.map_some, q3, Nat.zero_add]
    rw [Nat.mul_comm, Nat.mul_add_mod, Nat.mod_eq_of_lt hj]
    have hu' : v.cells[j]? = some u := by simpa using hu
    rw [getElem!_def, hu']
  · cases hx
theorem elem_run {T : TypeId} {wd : Nat} {z : AV} (h : mElem S T wd z = true) : ∃ e ti v, S.P.underlying T = some (.slice e) ∧ S.P.info? e = some ti ∧ ti.zero = some v ∧ ti.size = wd ∧ ti.bytes ≤ 16384 ∧ constEq z v = true ∧ 0 < wd ∧ z.cells.length = wd := by
  unfold mElem at h
  split at h
  · rename_i e sz bs z' hT
    simp only [Bool.and_eq_true] at h
    obtain ⟨h1, h2⟩ := h
    obtain ⟨v, ti, g1, g2, g3, g4, g5, g6, g7⟩ := zero_run (w := default) h1
    obtain ⟨⟨d, hd, hk⟩, _⟩ := S.hT T _ hT
    rcases hk with hk | hk
    · cases d <;> simp only [descK, Bool.false_eq_true, beq_iff_eq] at hk
      subst hk
      refine ⟨e, ti, v, hd, g1, g2, g3, ?_, g5, g6, g7⟩
      split at h2
      · rename_i hTe
        obtain ⟨_, ti', q1, _, q2, _⟩ := S.hT e _ hTe
        rw [g1] at q1
        cases q1
        rw [q2]
        simpa using h2
      · cases h2
    · exact hk.elim
  · cases h
theorem did_bslice {o : Oper} {T : TypeId} {wd k : Nat} {z : AV} {ps : List (Nat × Ao)} {parts : Array (Nat × Operand)} (hf : FR S m L n B st a w) (ho : o.op = .buildSlice T k parts) (hd : ∀ x, o.dst = some x → x < n ∧ x ∉ L)
    (hm : mElem S T wd z = true) (hp : mParts S.N L ps parts.toList = true) (hsm : k * wd ≤ 16777216) {el : List AV} (he : fillAV st.s wd (List.replicate k z) ps = some el) (hs : New st o.dst (.row wd el true) (fun id => .slice wd id 0 k false) st') :
    Did S m L n B st.h st' a w o := by
  obtain ⟨e, ti, v, g1, g2, g3, g4, _, g5, g6, g7⟩ := elem_run hm
  obtain ⟨id, hid, rfl⟩ := hs
  have hv : ∀ mm, VR S.N mm z v := fun _ => constEq_VR _ _ g5
  have hmap : (parts.map fun (i, x) => (i, a.eval x)).toList = parts.toList.map fun p => (p.1, a.eval p.2) := map_parts parts
  have hle := Mp.le_upd (p := (⟨w.heap.size, 0, wd, k⟩ : Place)) (hf.heap.none' id hid)
  have hrow0 := row_made (c := k) (k := k) (hv m) g6 g7 (Nat.le_refl _)
  obtain ⟨cells', r1, r2, r3, r4⟩ := fillS_run (place := fun i => some (i * wd, wd)) (cells := (Array.range (k * wd)).map (v.cells[· % v.cells.size]!)) (fun _ => rfl) g6 hf.slots hp he hrow0 (by simp)
  have hlen : el.length = k := by rw [r4]; simp
  have hrun : (Instr.buildSlice T k (parts.map fun (i, x) => (i, a.eval x))).run S.P w = .ok (.slice (some ⟨w.heap.size, 0, none⟩) k k) { w with heap := w.heap.push (.cells cells' e (0, 0)) } := by
    by_cases hk0 : k * wd = 0
    · have hk : k = 0 := by
        rcases Nat.mul_eq_zero.1 hk0 with h | h
        · exact h
        · omega
      subst hk
      have hps : parts.toList = [] := by
        cases hq : parts.toList with
        | nil => rfl
        | cons q qs =>
          obtain ⟨j, y⟩ := q
          rw [hq] at hp
          cases ps with
          | nil => simp [mParts] at hp
          | cons p ps =>
            obtain ⟨i, x⟩ := p
            simp only [fillAV] at he
            split at he
            · simp at he
            · cases he
      have hparts : parts = #[] := by rw [← Array.toArray_toList (xs := parts), hps]
      subst hparts
      have : cells' = #[] := Array.size_eq_zero_iff.1 (by rw [r3]; simp)
      subst this
      simp [Instr.buildSlice, Sem.run_bind, run_underlying g1, sizeOf, run_typeInfo w g2, Instr.fill, newRow, newObj, Sem.run, Array.range_zero']
    · have := run_buildSlice w T e k (parts.map fun (i, x) => (i, a.eval x)) cells' ti v g1 g2 g3 (by rw [g4]; omega) (by rw [g4]; exact hk0) (by rw [g4, hmap]; exact r1)
      exact this
  refine did_new (p := ⟨w.heap.size, 0, wd, k⟩) (blk := .cells cells' e (0, 0)) (v := .slice (some ⟨w.heap.size, 0, none⟩) k k) hf hid rfl ?_ ?_ ?_ hd
  · unfold execOp
    simp only [ho]
    exact run_v Next.value hrun
  · refine rowObj (c := cells') (e := e) (by simp) k (by omega) (by rw [r3]; simp) (fun i x hx => ⟨(r2 i x hx).1, (r2 i x hx).2.mono hle⟩)
  · simp only [VR]
    exact ⟨_, _, k, Mp.upd_same _ _ _, rfl, rfl, Nat.le_refl _, by simp, by simp, fun _ => by simp⟩
theorem did_mksl {o : Oper} {T : TypeId} {wd : Nat} {z : AV} {l c : Ao} {l' c' : Operand} {k k' : IntKind} {x y : Int} (hf : FR S m L n B st a w) (ho : o.op = .makeSlice T l' c') (hd : ∀ x, o.dst = some x → x < n ∧ x ∉ L)
    (hm : mElem S T wd z = true) (hl : mAo S.N L l l' = true) (hc : mAo S.N L c c' = true) (el : ev st.s l = some (.int k x)) (ec : ev st.s c = some (.int k' y)) (h0 : 0 ≤ x) (hxy : x ≤ y) (hy : y ≤ (LIM : Int))
    (hs : New st o.dst (.row wd (List.replicate x.toNat z) true) (fun id => .slice wd id 0 x.toNat false) st') : Did S m L n B st.h st' a w o := by
  obtain ⟨e, ti, v, g1, g2, g3, g4, gb, g5, g6, g7⟩ := elem_run hm
  obtain ⟨id, hid, rfl⟩ := hs
  have hv : ∀ mm, VR S.N mm z v := fun _ => constEq_VR _ _ g5
  have hL : (LIM : Int) = 4294967296 := rfl
  have hb : (ti.bytes : Int) * y ≤ 281474976710656 := by
    have : (ti.bytes : Int) * y ≤ 16384 * 4294967296 := Int.mul_le_mul (by omega) (by omega) (by omega) (by omega)
    omega
  have hle := Mp.le_upd (p := (⟨w.heap.size, 0, wd, y.toNat⟩ : Place)) (hf.heap.none' id hid)
  have hrun := run_make (P := S.P) w T e ti v g1 g2 g3 k k' x y h0 hxy hb (by omega)
  rw [g4] at hrun
  have hrow := row_made (c := y.toNat) (k := x.toNat) (hv m) g6 g7 (by omega)
  refine did_new (p := ⟨w.heap.size, 0, wd, y.toNat⟩) (blk := .cells (madeCells v.cells (y.toNat * wd)) e (0, 0)) (v := .slice (some ⟨w.heap.size, 0, none⟩) x.toNat y.toNat) hf hid rfl ?_ ?_ ?_ hd
  · unfold execOp
    simp only [ho]
    rw [(mAo_VR (a := a) hl hf.slots el).int_eq, (mAo_VR (a := a) hc hf.slots ec).int_eq]
    exact run_v Next.value hrun
  · refine rowObj (c := madeCells v.cells (y.toNat * wd)) (e := e) (by simp) y.toNat (by simp; omega) (by rw [size_madeCells]; exact Nat.le_refl _) (fun i x hx => ⟨(hrow i x hx).1, (hrow i x hx).2.mono hle⟩)
  · simp only [VR]
    exact ⟨_, _, y.toNat, Mp.upd_same _ _ _, rfl, rfl, by omega, by simp, by simp, fun _ => by simp⟩
def mStep (S : Seat) (L : List Nat) (n : Nat) (A : AMap) (c : AOp) (o : Oper) : Bool :=
  (match c with
    | .lalloc _ => true
    | .lbox _ _ => true
    | _ => (match o.dst with
      | some d => decide (d < n) && !mem L d
      | none => true)) &&
  (match c, o.op with
  | .lalloc z, .alloc T => (match o.dst with
    | some t => mem L t && decide (t < n)
    | none => false) && zeroOK S T z z.cells.length
  | .lbox k x, .box T y => (match o.dst with
    | some t => mem L t && decide (t < n)
    | none => false) && !(k == 0) && mAo S.N L x y
  | .lstore t off k x, .store T y z => o.dst.isNone && (match addrOf L A y with
    | some (t', off') => t == t' && off == off'
    | none => false) && !(k == 0) && sizeT S T == some k && mAo S.N L x z
  | .halloc w z, .alloc T => zeroOK S T z w
  | .hbox w x, .box T y => !(w == 0) && mAo S.N L x y
  | .bslice w z k ps, .buildSlice T k' parts => k == k' && mElem S T w z && mParts S.N L ps parts.toList && decide (k * w ≤ 16777216)
  | .mksl w z l c, .makeSlice T l' c' => mElem S T w z && mAo S.N L l l' && mAo S.N L c c'
  | .store k p x, .store T y z => o.dst.isNone && !(k == 0) && sizeT S T == some k && mAo S.N L p y && mAo S.N L x z
  | .app w x y, .call ⟨.builtin .append, args, ts⟩ => (match args.toList, ts.toList with
    | [x', y'], [T, T2] => mApp S T T2 w && mAo S.N L x x' && mAo S.N L y y'
    | _, _ => false)
  | c, op => isVal c && mVal S L A c op)
where
  isVal : AOp → Bool
    | .mov _ | .pick _ _ _ | .build _ _ | .lload _ _ _ | .load _ _ | .nilchk _ | .bin _ _ _ | .shft _ _ _ | .sop _ _ _ | .beq _ _ _ | .seq _ _ _ _ | .isnil _ _ _ | .not _ | .neg _ | .conv _ _ | .slc _ _ _ _ _
    | .sslc _ _ _ | .faddr _ _ | .fld _ _ _ | .iaddr _ _ _ | .aaddr _ _ _ _ | .sidx _ _ | .aidx _ _ _ _ _ | .ext _ _ | .mkfn _ _ | .len _ | .slen _ | .max _ _ | .min _ _ | .mkif _ _ => true
    | _ => false
theorem step_val {c : AOp} {d : Option Nat} (h : mStep.isVal c = true) (hs : Step c d st st') : ∃ v, val c st.s st.l st.h = some v ∧ st' = st.put d v := by
  cases c <;> first
    | (cases h; done)
    | exact hs
theorem sizeT_some {T : TypeId} {k : Nat} (h : (sizeT S T == some k) = true) : ∃ i, S.T T = some i ∧ i.sz = k := by
  unfold sizeT at h
  cases hT : S.T T with
  | none => simp [hT] at h
  | some i => exact ⟨i, rfl, by simpa [hT] using h⟩
theorem sdst {o : Oper} (h : (match o.dst with
      | some d => decide (d < n) && !mem L d
      | none => true) = true) : ∀ x, o.dst = some x → x < n ∧ x ∉ L := by
  intro x hx
  rw [hx] at h
  simp only [Bool.and_eq_true, decide_eq_true_eq, Bool.not_eq_true'] at h
  exact ⟨h.1, mem_not.1 h.2⟩
set_option maxHeartbeats 1000000 in
theorem step_did {o : Oper} {c : AOp} (hf : FR S m L n B st a w) (hA : AddrA A (fun y => y ∈ o.op.operands.toList) st.l a) (hm : mStep S L n A c o = true) (hs : Step c o.dst st st') : Did S m L n B st.h st' a w o := by
  unfold mStep at hm
  rw [Bool.and_eq_true] at hm
  obtain ⟨hd, hm⟩ := hm
  split at hm
  case h_1 z T hop =>
    simp only [Bool.and_eq_true] at hm
    obtain ⟨t, ht, rfl⟩ := hs
    rw [ht] at hm
    simp only [Bool.and_eq_true, decide_eq_true_eq] at hm
    exact did_lalloc hf hop ht (mem_iff.1 hm.1.1) hm.1.2 hm.2
  case h_2 k x T y hop =>
    simp only [Bool.and_eq_true, Bool.not_eq_true', beq_eq_false_iff_ne] at hm
    obtain ⟨t, v, ht, he, hl, rfl⟩ := hs
    rw [ht] at hm
    simp only [Bool.and_eq_true, decide_eq_true_eq] at hm
    exact did_lbox hf hop ht (mem_iff.1 hm.1.1.1) hm.1.1.2 (by omega) hm.2 he hl
  case h_3 t off k x T y z hop =>
    simp only [Bool.and_eq_true, Bool.not_eq_true', beq_eq_false_iff_ne] at hm
    obtain ⟨⟨⟨⟨h1, h2⟩, h3⟩, h4⟩, h5⟩ := hm
    obtain ⟨c, v, c', hc, he, hl, hp, rfl⟩ := hs
    obtain ⟨i, hT, hi⟩ := sizeT_some h4
    have hdn : o.dst = none := by simpa using h1
    cases ha : addrOf L A y with
    | none => simp [ha] at h2
    | some q =>
      obtain ⟨t', off'⟩ := q
      simp only [ha, Bool.and_eq_true, beq_iff_eq] at h2
      obtain ⟨rfl, rfl⟩ := h2
      exact did_lstore hf hA hop hdn ha hT hi (by omega) h5 hc he hl hp
  case h_4 wd z T hop => exact did_halloc hf hop (sdst hd) hm hs
  case h_5 wd x T y hop =>
    simp only [Bool.and_eq_true, Bool.not_eq_true', beq_eq_false_iff_ne] at hm
    obtain ⟨v, he, hl, hs⟩ := hs
    exact did_hbox hf hop (sdst hd) (by omega) hm.2 he hl hs
  case h_6 wd z k ps T k' parts hop =>
    simp only [Bool.and_eq_true, decide_eq_true_eq, beq_iff_eq] at hm
    obtain ⟨⟨⟨rfl, h1⟩, h2⟩, h3⟩ := hm
    obtain ⟨el, he, hs⟩ := hs
    exact did_bslice hf hop (sdst hd) h1 h2 h3 he hs
  case h_7 wd z l c T l' c' hop =>
    simp only [Bool.and_eq_true] at hm
    obtain ⟨k, k', x, y, e1, e2, h0, h1, h2, hs⟩ := hs
    exact did_mksl hf hop (sdst hd) hm.1.1 hm.1.2 hm.2 e1 e2 h0 h1 h2 hs
  case h_8 k p x T y z hop =>
    simp only [Bool.and_eq_true, Bool.not_eq_true', beq_eq_false_iff_ne] at hm
    obtain ⟨⟨⟨⟨h1, h2⟩, h3⟩, h4⟩, h5⟩ := hm
    obtain ⟨i, hT, hi⟩ := sizeT_some h3
    obtain ⟨id, i', j, v, w', el, e, e', g1, g2, g3, g4, g5, g6, rfl⟩ := hs
    exact did_store hf hop (by simpa using h1) h4 h5 hT hi (by omega) g1 g2 g3 g4 g5 g6
  case h_9 wd x y args ts hop =>
    split at hm
    · rename_i x' y' T T2 ha ht
      simp only [Bool.and_eq_true] at hm
      have hargs : args = #[x', y'] := by rw [← Array.toArray_toList (xs := args), ha]
      have hts : ts = #[T, T2] := by rw [← Array.toArray_toList (xs := ts), ht]
      subst hargs
      obtain ⟨av, bv, e1, e2, hs⟩ := hs
      exact did_app hf hop hts (sdst hd) hm.1.1 hm.1.2 hm.2 e1 e2 hs
    · cases hm
  case h_10 =>
    rw [Bool.and_eq_true] at hm
    obtain ⟨v, hv, rfl⟩ := step_val hm.1 hs
    exact val_did hf hA hm.2 (by
      refine sdst ?_
      split at hd
      · cases hm.1
      · cases hm.1
      · exact hd) hv
end
end Go.Ab
namespace Go.Ab
open Go
structure NopE where
  i : Nat
  d : Nat
  t : Nat
  off : Nat
  g : Option (Nat × Bool)
def amap (ns : List NopE) : AMap := ns.map fun e => (e.d, e.t, e.off)
theorem amap_look : ∀ {ns : List NopE} {d t off : Nat}, (amap ns).look d = some (t, off) → ∃ e ∈ ns, e.d = d ∧ e.t = t ∧ e.off = off
  | [], _, _, _, h => by cases h
  | e :: ns, d, t, off, h => by
    simp only [amap, List.map_cons, AMap.look] at h
    split at h
    · rename_i hd
      simp only [Option.some.injEq, Prod.mk.injEq] at h
      exact ⟨e, List.mem_cons_self, hd, h.1, h.2⟩
    · obtain ⟨e', h1, h2⟩ := amap_look (ns := ns) h
      exact ⟨e', List.mem_cons_of_mem _ h1, h2⟩
def NopInv (ns : List NopE) (dn : Nat → Prop) (st : St) (a : Act) : Prop :=
  ∀ e ∈ ns, dn e.i → wants st.s e.g = some true → ∀ c, lk st.l e.t = some c → ∃ b, a.tmps[e.t]? = some (.pointer (some ⟨b, 0, none⟩)) ∧ a.tmps.getD e.d undef = .pointer (some ⟨b, e.off, none⟩)
def touch (c : AOper) (e : NopE) : Bool := match c.d with
  | some d => d == e.d || d == e.t || (match e.g with
    | some (g, _) => d == g
    | none => false)
  | none => false
def dEq : Option Nat → Option Nat → Bool
  | none, none => true
  | some a, some b => a == b
  | _, _ => false
theorem dEq_eq {a b : Option Nat} (h : dEq a b = true) : a = b := by cases a <;> cases b <;> simp_all [dEq]
def mGuard (L : List Nat) (n : Nat) (ops : Array Oper) : Option (Nat × Bool) → Option (Nat × Bool) → Bool
  | none, none => true
  | some (d, b), some (j, b') => b == b' && decide (d < n) && !mem L d && (match ops[j]? with
    | some o => dEq o.dst (some d)
    | none => false)
  | _, _ => false
def isLocW : AOp → Bool
  | .lalloc _ | .lbox _ _ => true
  | _ => false
def mDst (L : List Nat) (n : Nat) (o : Oper) : Bool := match o.dst with
  | some d => decide (d < n) && !mem L d
  | none => true
def nopVal (S : Seat) (L : List Nat) (ns : List NopE) (o : Oper) : Option (Nat × Nat) := match o.op with
  | .fieldAddr T y i => (match addrOf L (amap ns) y, S.T T with
    | some (t, off), some ⟨.struct fs, _, _, _⟩ => (match fieldT S fs i with
      | some (fo, z) => if z = 0 then none else some (t, off + fo)
      | none => none)
    | _, _ => none)
  | .indexAddr T y (.const (.int _ x)) => (match addrOf L (amap ns) y, S.T T with
    | some (t, off), some ⟨.arr k e, _, _, _⟩ => (match sizeT S e with
      | some z => if 0 ≤ x ∧ x < (k : Int) then some (t, off + x.toNat * z) else none
      | none => none)
    | _, _ => none)
  | _ => none
def isNop : AOp → Bool
  | .nop _ => true
  | _ => false
def mBody (S : Seat) (L : List Nat) (n : Nat) (ns : List NopE) (c : AOper) (o : Oper) : Bool := match c.o with
  | .nop t => (match nopVal S L ns o with
    | some (t', _) => t == t'
    | none => false)
  | .call g args => (match o.op with
    | .call ⟨.value (.func f), args', _⟩ => S.N.f g == f && mAos S.N L args args'.toList
    | _ => false)
  | .callv x args => (match o.op with
    | .call ⟨.value y, args', _⟩ => mAo S.N L x y && mAos S.N L args args'.toList
    | _ => false)
  | .panic x => (match o.op with
    | .panic y => mAo S.N L x y
    | _ => false)
  | _ => mStep S L n (amap ns) c.o o
def mEntry (S : Seat) (L : List Nat) (ns : List NopE) (c : AOper) (o : Oper) (e : NopE) : Bool := !(e.i == c.i) || (isNop c.o && gEq e.g c.g && (match nopVal S L ns o with
  | some (t, off) => e.t == t && e.off == off
  | none => false) && (match o.dst with
  | some d => e.d == d && !(e.t == d) && (match c.g with
    | some (g, _) => !(g == d)
    | none => true)
  | none => false))
def mUse (ns : List NopE) (c : AOper) (o : Oper) : Bool := o.op.operands.toList.all fun y => match y with
  | .tmp d => ns.all fun e => !(e.d == d) || (e.g.isNone || gEq e.g c.g)
  | _ => true
def mOper (S : Seat) (L : List Nat) (n : Nat) (ns : List NopE) (ops : Array Oper) (c : AOper) : Bool := match ops[c.i]? with
  | none => false
  | some o => dEq c.d o.dst && mGuard L n ops c.g o.guard && (c.g.isNone || !isLocW c.o) && (isLocW c.o || mDst L n o) && mBody S L n ns c o && ns.all (mEntry S L ns c o) && mUse ns c o
def uses (ns : List NopE) (o : Oper) (dn : Nat → Prop) : Prop := ∀ d, Operand.tmp d ∈ o.op.operands.toList → ∀ e ∈ ns, e.d = d → dn e.i
variable {Γ : Nat → Option AFn} {kk : Nat}
def CallSim (S : Seat) (Γ : Nat → Option AFn) (k : Nat) : Prop :=
  ∀ g as h r h', Ex Γ k (.call g as h) (.res r h') → ∀ m w (vs : Array Value), HR S.N m h w → VRs S.N m as vs.toList →
    Calls S.P (S.N.f g) vs w fun e w' => ∃ m', Fr w.heap.size m h w m' h' w' ∧ HR S.N m' h' w' ∧ (match r with
      | .ok v => ∃ u, e = .returned u ∧ VR S.N m' v u
      | .pan v => ∃ u, e = .panicked [{ v := u, recovered := false }] ∧ VR S.N m' v u)
def Known (S : Seat) (Γ : Nat → Option AFn) : Prop := ∀ g, Γ g ≠ none → ∀ (args : Array Value) (w : World), (callFunc (S.N.f g) args).run S.P w = .ok (.enter (S.N.f g) args) w
theorem call_known {g : Nat} {as : List AV} {h : AH} {r : CRes} {h' : AH} (hx : Ex Γ kk (.call g as h) (.res r h')) : Γ g ≠ none := by
  have key : ∀ k j o, Ex Γ k j o → ∀ g as h, j = .call g as h → Γ g ≠ none := by
    intro k j o hx
    induction hx with
    | fn hg => rintro g as h ⟨⟩; rw [hg]; simp
    | fnP hg => rintro g as h ⟨⟩; rw [hg]; simp
    | ext hg => rintro g as h ⟨⟩; rw [hg]; simp
    | frzA K hK hl hc hx ih => rintro g as h ⟨⟩; exact ih _ _ _ rfl
    | frzR K hK hc hx ih => rintro g as h ⟨⟩; exact ih _ _ _ rfl
    | drop hh ht hx ih => rintro g as h ⟨⟩; exact ih _ _ _ rfl
    | brw K hK hl hc ht hx ih => rintro g as h ⟨⟩; exact ih _ _ _ rfl
    | _ => rintro g as h ⟨⟩
  exact key _ _ _ hx _ _ _ rfl
section
variable {S : Seat} {m : Mp} {L : List Nat} {n B : Nat} {ns : List NopE} {ops : Array Oper} {st st' : St} {a : Act} {w : World}
theorem wanted_of {c : AOper} {o : Oper} (hf : FR S m L n B st a w) (hm : mGuard L n ops c.g o.guard = true) {t : Bool} (hw : wants st.s c.g = some t) : Region.wanted o (yielded ops a.tmps) = t := by
  cases hg : c.g with
  | none =>
    rw [hg] at hm hw
    cases ho : o.guard with
    | none => simp only [wants, Option.some.injEq] at hw; simp [Region.wanted, ho, hw]
    | some _ => rw [ho] at hm; simp [mGuard] at hm
  | some q =>
    obtain ⟨d, b⟩ := q
    rw [hg] at hm hw
    cases ho : o.guard with
    | none => rw [ho] at hm; simp [mGuard] at hm
    | some q' =>
      obtain ⟨j, b'⟩ := q'
      rw [ho] at hm
      simp only [mGuard, Bool.and_eq_true, beq_iff_eq, decide_eq_true_eq, Bool.not_eq_true'] at hm
      obtain ⟨⟨⟨rfl, hd⟩, hL⟩, hj⟩ := hm
      cases hoj : ops[j]? with
      | none => simp [hoj] at hj
      | some oj =>
        simp only [hoj] at hj
        have hdj := dEq_eq hj
        have hlt : d < a.tmps.size := by rw [hf.size]; exact hd
        simp only [wants] at hw
        have hsl := hf.slots d
        have hget : a.tmps[d]? = some (a.tmps.getD d undef) := by
          rw [Array.getElem?_eq_getElem hlt]; simp [Array.getD, hlt]
        split at hw
        · rename_i c' hlk
          simp only [Option.some.injEq] at hw
          have := (hsl _ hlk (mem_not.1 hL)).bool_eq
          rw [this] at hget
          simp [Region.wanted, ho, yielded, hoj, hdj, hget, hw]
        · rename_i hlk
          simp only [Option.some.injEq] at hw
          have hv := hsl _ hlk (mem_not.1 hL)
          simp only [VR, VRs] at hv
          obtain ⟨vs, hv, _⟩ := hv
          rw [hv] at hget
          simp [Region.wanted, ho, yielded, hoj, hdj, hget, hw]
        · cases hw
theorem put_tmps {d : Option Nat} {v : Value} {x : Nat} (h : d ≠ some x) : (a.put d v).tmps[x]? = a.tmps[x]? := by
  cases d with
  | none => rfl
  | some d => exact put_get (by rintro rfl; exact h rfl)
theorem NopInv.next {dn : Nat → Prop} {c : AOper} (hN : NopInv ns dn st a) (ht : ∀ e ∈ ns, dn e.i → touch c e = false) {v : Value} {vw : Option AV} {lw : Option (Nat × AV)} {h' : AH}
    (hl : ∀ t x, lw = some (t, x) → c.d = some t ∨ ∃ c0, lk st.l t = some c0) : NopInv ns dn (apply' c.d vw lw st h') (a.put c.d v) := by
  intro e he hd hw c0 hc0
  have htc := ht e he hd
  have hne : c.d ≠ some e.d ∧ c.d ≠ some e.t ∧ ∀ g b, e.g = some (g, b) → c.d ≠ some g := by
    unfold touch at htc
    cases hcd : c.d with
    | none => simp
    | some d =>
      rw [hcd] at htc
      simp only [Bool.or_eq_false_iff, beq_eq_false_iff_ne] at htc
      refine ⟨by simpa using htc.1.1, by simpa using htc.1.2, fun g b hg => ?_⟩
      have := htc.2
      rw [hg] at this
      simpa using this
  have hw' : wants st.s e.g = some true := by
    rw [← hw]
    unfold apply'
    cases vw with
    | none => rfl
    | some x =>
      cases hg : e.g with
      | none => rfl
      | some q =>
        obtain ⟨g, b⟩ := q
        simp only [wants, lk_put]
        rw [if_neg (hne.2.2 g b hg)]
  have hlk : ∃ c1, lk st.l e.t = some c1 := by
    unfold apply' at hc0
    cases lw with
    | none => exact ⟨c0, hc0⟩
    | some q =>
      obtain ⟨t, x⟩ := q
      simp only [lk_set] at hc0
      by_cases ht' : t = e.t
      · rcases hl t x rfl with h1 | h1
        · exact absurd (ht' ▸ h1) hne.2.1
        · rw [← ht']; exact h1
      · rw [if_neg ht'] at hc0; exact ⟨c0, hc0⟩
  obtain ⟨c1, hlk⟩ := hlk
  obtain ⟨b, h1, h2⟩ := hN e he hd hw' c1 hlk
  refine ⟨b, by rw [put_tmps hne.2.1]; exact h1, ?_⟩
  rw [← h2]
  simp only [Array.getD_eq_getD_getElem?]
  rw [put_tmps hne.1]
theorem eq_apply {d : Option Nat} {v : AV} {h : AH} : ({ st with h := h } : St).put d v = apply' d (some v) none st h := rfl
theorem step_local {c : AOper} (h : Step c.o c.d st st') : ∃ vw lw, st' = apply' c.d vw lw st st'.h ∧ ∀ t x, lw = some (t, x) → c.d = some t ∨ ∃ c0, lk st.l t = some c0 := by
  obtain ⟨vw, lw, e1, e2, _⟩ := step_eff h
  refine ⟨vw, lw, e1, fun t x hx => ?_⟩
  have := e2 t x hx
  unfold locA at this
  cases ho : c.o <;> rw [ho] at this <;> simp only at this
  case lalloc z => cases hd : c.d <;> simp [hd] at this; exact .inl (by rw [this])
  case lbox k y => cases hd : c.d <;> simp [hd] at this; exact .inl (by rw [this])
  case lstore t' off k y =>
    rw [ho] at h
    obtain ⟨q, _, _, h1, _⟩ := h
    simp only [Option.some.injEq, Prod.mk.injEq, and_true] at this
    exact .inr ⟨q, by rw [← this]; exact h1⟩
  all_goals simp at this
theorem run_call {o : Oper} {f : FuncId} {y : Operand} {args : Array Operand} {ts : Array TypeId} {cap : Array Value} (ho : o.op = .call ⟨.value y, args, ts⟩) (hy : a.eval y = .func (.func f) #[] cap)
    (hk : ∀ (args : Array Value) (w : World), (callFunc f args).run S.P w = .ok (.enter f args) w) : (execOp a.eval o).run S.P w = .ok (.enter f (args.map a.eval ++ cap)) w := by
  unfold execOp
  simp only [ho]
  simp only [resolve, hy, Deferred.ofValue, Sem.run_bind, Sem.run_pure, Result.andThen_ok, invoke, hk]
  simp
theorem addrD {dn : Nat → Prop} {c : AOper} {o : Oper} (hN : NopInv ns dn st a) (hu : uses ns o dn) (hw : wants st.s c.g = some true)
    (hg : mUse ns c o = true) : AddrA (amap ns) (fun y => y ∈ o.op.operands.toList) st.l a := by
  intro d t off hd hlook c0 hc0
  obtain ⟨e, he, rfl, rfl, rfl⟩ := amap_look hlook
  have h1 := List.all_eq_true.1 hg _ hd
  simp only at h1
  have h2 := List.all_eq_true.1 h1 e he
  simp only [beq_self_eq_true, Bool.not_true, Bool.false_or, Bool.or_eq_true] at h2
  have hw' : wants st.s e.g = some true := by
    rcases h2 with h2 | h2
    · cases hg' : e.g with
      | none => rfl
      | some _ => rw [hg'] at h2; cases h2
    · rw [gEq_eq h2]; exact hw
  exact hN e he (hu _ hd e he rfl) hw' c0 hc0
theorem mem_sdst {o : Oper} (h : mDst L n o = true) : ∀ x, o.dst = some x → x < n ∧ x ∉ L := sdst h
theorem nop_run {o : Oper} {t off : Nat} {c0 : AV} (hf : FR S m L n B st a w) (hA : AddrA (amap ns) (fun y => y ∈ o.op.operands.toList) st.l a) (hn : nopVal S L ns o = some (t, off)) (hc : lk st.l t = some c0) :
    ∃ b, a.tmps[t]? = some (.pointer (some ⟨b, 0, none⟩)) ∧ (execOp a.eval o).run S.P w = .ok (.value (.pointer (some ⟨b, off, none⟩))) w := by
  have key : ∀ y off0, y ∈ o.op.operands.toList → addrOf L (amap ns) y = some (t, off0) → ∃ b, a.tmps[t]? = some (.pointer (some ⟨b, 0, none⟩)) ∧ a.eval y = .pointer (some ⟨b, off0, none⟩) := by
    intro y off0 hy ha
    obtain ⟨_, b, h1, _⟩ := hf.locs t c0 hc
    refine ⟨b, h1, ?_⟩
    cases y with
    | tmp q =>
      simp only [addrOf] at ha
      split at ha
      · simp only [Option.some.injEq, Prod.mk.injEq] at ha
        obtain ⟨rfl, rfl⟩ := ha
        simp [Act.eval, h1]
      · obtain ⟨b', h5, h6⟩ := hA q t off0 hy ha c0 hc
        rw [h1] at h5
        simp only [Option.some.injEq, Value.pointer.injEq, Addr.mk.injEq, and_true] at h5
        subst h5
        exact h6
    | _ => simp [addrOf] at ha
  unfold nopVal at hn
  split at hn
  · rename_i T y i hop
    split at hn
    · rename_i t' off' fs sz bs z ha hT
      split at hn
      · rename_i fo zz hfo
        split at hn
        · cases hn
        · rename_i hz
          simp only [Option.some.injEq, Prod.mk.injEq] at hn
          obtain ⟨rfl, rfl⟩ := hn
          obtain ⟨b, h1, h2⟩ := key y off' (by rw [hop]; simp [Op.operands]) ha
          refine ⟨b, h1, ?_⟩
          obtain ⟨d, hd, hk⟩ := Seat.kind (S := S) (w := w) hT rfl
          cases d <;> simp only [descK, Bool.false_eq_true] at hk
          rename_i gs
          obtain ⟨g, hg, hgo, hgs⟩ := field_of hk hfo
          have hg' : gs[i]? = some g := by simpa using hg
          have hz' : (sizeOf g.type).run S.P w = .ok zz w := hgs w
          unfold execOp
          simp only [hop]
          rw [h2]
          refine run_v Next.value ?_
          unfold Instr.fieldAt Instr.sureAddr fieldPlace
          simp only [Sem.run_bind, hd, Result.andThen_ok, hg']
          simp [Sem.run_bind, hz', hz, addr_add, hgo]
      · cases hn
    · cases hn
  · rename_i T y k x hop
    split at hn
    · rename_i t' off' kk e sz bs z ha hT
      split at hn
      · rename_i zz hzz
        split at hn
        · rename_i hx
          simp only [Option.some.injEq, Prod.mk.injEq] at hn
          obtain ⟨rfl, rfl⟩ := hn
          obtain ⟨b, h1, h2⟩ := key y off' (by rw [hop]; simp [Op.operands]) ha
          refine ⟨b, h1, ?_⟩
          obtain ⟨d, hd, hk⟩ := Seat.kind (S := S) (w := w) hT rfl
          cases d <;> simp only [descK, Bool.false_eq_true, Bool.and_eq_true, beq_iff_eq] at hk
          obtain ⟨rfl, rfl⟩ := hk
          cases hTe : S.T e with
          | none => simp [sizeT, hTe] at hzz
          | some ie =>
            simp only [sizeT, hTe, Option.map_some, Option.some.injEq] at hzz
            unfold execOp
            simp only [hop]
            rw [h2]
            refine run_v Next.value ?_
            unfold Instr.indexAt
            simp only [asIntOf, Instr.sureAddr, Sem.run_bind, Sem.run_pure, hd, Result.andThen_ok, Act.eval, if_pos hx, Seat.size hTe, addr_add, hzz]
        · cases hn
      · cases hn
    · cases hn
  · cases hn
set_option maxHeartbeats 1000000 in
theorem one_op (hG : GOK Γ) (hK : Known S Γ) (hcs : CallSim S Γ kk) {c : AOper} {o : Oper} {dn : Nat → Prop} {Q : Exit → Act → World → Prop} {K : Act → World → Prop} (hf : FR S m L n B st a w) (hN : NopInv ns dn st a) (ho : ops[c.i]? = some o) (hm : mOper S L n ns ops c = true)
    (hu : uses ns o dn) (ht : ∀ e ∈ ns, dn e.i → touch c e = false) (hs : St0 Γ kk c st st')
    (hk : ∀ a' w' m', FR S m' L n B st' a' w' → NopInv ns (fun i => dn i ∨ i = c.i) st' a' → Fr B m st.h w m' st'.h w' → K a' w') : wpOp S.P ops Q c.i K a w := by
  unfold mOper at hm
  simp only [ho, Bool.and_eq_true] at hm
  obtain ⟨⟨⟨⟨⟨⟨hd, hg⟩, hgl⟩, hds⟩, hop⟩, hent⟩, huse⟩ := hm
  have hdd := dEq_eq hd
  unfold wpOp
  simp only [ho]
  -- the invariant of the addresses, where the operation is no address itself
  have hext : ∀ {s2 : St} {a2 : Act}, NopInv ns dn s2 a2 → isNop c.o = false → NopInv ns (fun i => dn i ∨ i = c.i) s2 a2 := by
    intro s2 a2 h1 h2 e he hdn
    rcases hdn with hdn | hdn
    · exact h1 e he hdn
    · have := List.all_eq_true.1 hent e he
      simp [mEntry, hdn, h2] at this
  rcases hs with ⟨hw, rfl⟩ | ⟨hw, hs | ⟨g, as, v, h', hce, hx, rfl⟩⟩
  · -- passed over
    rw [wanted_of hf hg hw]
    simp only [Bool.false_eq_true, if_false]
    have hgs : c.g.isNone = false := by
      cases hcg : c.g with
      | none => rw [hcg] at hw; simp [wants] at hw
      | some _ => rfl
    have hnl : isLocW c.o = false := by simpa [hgs] using hgl
    have hdst := mem_sdst (by simpa [hnl] using hds)
    have hf' := hf.next (d := o.dst) (av := .undef) (v := undef) hf.heap m.le_refl (Nat.le_refl _) (fun _ _ _ hb => ⟨rfl, hb⟩) (by simp only [VR, VRs]; exact ⟨#[], rfl, rfl⟩) hdst
    refine hk _ _ m (by rw [hdd]; exact hf') ?_ (Fr.refl _ _ _ _)
    have h1 : NopInv ns dn (st.put c.d .undef) (a.put o.dst undef) := by
      rw [← hdd]
      exact hN.next (v := undef) (vw := some .undef) (lw := none) (h' := st.h) ht nofun
    intro e he hdn hwe
    rcases hdn with hdn | hdn
    · exact h1 e he hdn hwe
    · exfalso
      have hq := List.all_eq_true.1 hent e he
      simp only [mEntry, hdn, beq_self_eq_true, Bool.not_true, Bool.false_or, Bool.and_eq_true] at hq
      have hge := gEq_eq hq.1.1.2
      rw [hge] at hwe
      cases hod : o.dst with
      | none => rw [hod] at hq; simp at hq
      | some d =>
        rw [hod] at hq
        simp only [Bool.and_eq_true] at hq
        cases hcg : c.g with
        | none => rw [hcg] at hw; simp [wants] at hw
        | some q =>
          obtain ⟨g, b⟩ := q
          rw [hcg] at hq hw hwe
          simp only [Bool.not_eq_true', beq_eq_false_iff_ne] at hq
          simp only [wants, St.put, hdd, hod, lk_put] at hwe hw
          rw [if_neg (by simpa using Ne.symm hq.2.2)] at hwe
          rw [hwe] at hw; cases hw
  · rw [wanted_of hf hg hw]
    simp only [if_true]
    refine .inl ?_
    have hA := addrD hN hu hw huse
    by_cases hnop : isNop c.o = true
    · -- an address
      have hco : ∃ t, c.o = .nop t := by cases hc : c.o <;> rw [hc] at hnop <;> first | exact ⟨_, rfl⟩ | cases hnop
      obtain ⟨t, hco⟩ := hco
      rw [hco] at hs
      obtain ⟨v, hv, rfl⟩ := hs
      simp only [val, Option.map_eq_some_iff] at hv
      obtain ⟨c0, hc0, rfl⟩ := hv
      have hdst := mem_sdst (by simpa [hco, isLocW] using hds)
      unfold mBody at hop
      rw [hco] at hop
      simp only at hop
      cases hnv : nopVal S L ns o with
      | none => rw [hnv] at hop; cases hop
      | some q =>
      obtain ⟨t', off⟩ := q
      rw [hnv] at hop
      simp only [beq_iff_eq] at hop
      subst hop
      obtain ⟨b, hb, hrun⟩ := nop_run hf hA hnv hc0
      unfold Oper.wp
      rw [hrun]
      show K (a.put o.dst _) w
      have hf' := hf.next (d := o.dst) (av := .any) (v := .pointer (some ⟨b, off, none⟩)) hf.heap m.le_refl (Nat.le_refl _) (fun _ _ _ hb => ⟨rfl, hb⟩) (by simp only [VR]) hdst
      refine hk _ _ m (by rw [hdd]; exact hf') ?_ (Fr.refl _ _ _ _)
      have h1 : NopInv ns dn (st.put c.d .any) (a.put o.dst (.pointer (some ⟨b, off, none⟩))) := by
        rw [← hdd]
        exact hN.next (vw := some .any) (lw := none) (h' := st.h) ht nofun
      intro e he hdn hwe c1 hc1
      rcases hdn with hdn | hdn
      · exact h1 e he hdn hwe c1 hc1
      · have hq := List.all_eq_true.1 hent e he
        simp only [mEntry, hdn, beq_self_eq_true, Bool.not_true, Bool.false_or, Bool.and_eq_true, hnv, beq_iff_eq] at hq
        obtain ⟨⟨_, hqt, hqo⟩, hq⟩ := hq
        cases hod : o.dst with
        | none => rw [hod] at hq; simp at hq
        | some d =>
          rw [hod] at hq
          simp only [Bool.and_eq_true, beq_iff_eq, Bool.not_eq_true', beq_eq_false_iff_ne] at hq
          have hdn2 := (hdst d hod).1
          refine ⟨b, ?_, ?_⟩
          · rw [put_tmps (by simpa using Ne.symm hq.1.2), hqt]; exact hb
          · rw [hq.1.1, put_getD, if_pos ⟨rfl, by rw [hf.size]; exact hdn2⟩, hqo]
    · have hnop' : isNop c.o = false := by simpa using hnop
      have hms : mStep S L n (amap ns) c.o o = true := by
        unfold mBody at hop
        cases hc : c.o <;> rw [hc] at hop hs hnop' <;> first
          | exact hop
          | (cases hnop'; done)
          | exact hs.elim
      have hsd := hs
      rw [hdd] at hsd
      obtain ⟨v, w', m', hrun, hf', hfr⟩ := step_did hf hA hms hsd
      have hgo : K (a.put o.dst v) w' := by
        refine hk _ _ m' hf' (hext ?_ hnop') hfr
        obtain ⟨vw, lw, e1, e2⟩ := step_local hs
        rw [e1, ← hdd]
        exact hN.next ht e2
      unfold Oper.wp
      rcases hrun with hrun | ⟨hrun, rfl⟩
      · rw [hrun]; exact hgo
      · rw [hrun]; exact hgo
  · rw [wanted_of hf hg hw]
    simp only [if_true]
    refine .inl ?_
    have hnop' : isNop c.o = false ∧ isLocW c.o = false := by
      cases hc : c.o <;> rw [hc] at hce <;> simp only [callee] at hce <;> first | exact ⟨rfl, rfl⟩ | cases hce
    have hdst := mem_sdst (by simpa [hnop'.2] using hds)
    have hgk := hK g (call_known hx)
    have hrun : ∃ vs : Array Value, (execOp a.eval o).run S.P w = .ok (.enter (S.N.f g) vs) w ∧ VRs S.N m as vs.toList := by
      unfold mBody at hop
      cases hc : c.o <;> rw [hc] at hce hop <;> simp only [callee] at hce <;> try (cases hce; done)
      case call g' args =>
        simp only [Option.map_eq_some_iff, Prod.mk.injEq] at hce
        obtain ⟨as', hev, rfl, rfl⟩ := hce
        simp only at hop
        split at hop
        · rename_i f args' ts hop'
          simp only [Bool.and_eq_true, beq_iff_eq] at hop
          obtain ⟨rfl, hma⟩ := hop
          refine ⟨_, run_call hop' rfl hgk, ?_⟩
          have := mAos_VRs hma hf.slots hev
          simpa using this
        · cases hop
      case callv x args =>
        split at hce
        · rename_i g' cs as' he1 he2
          simp only [Option.some.injEq, Prod.mk.injEq] at hce
          obtain ⟨rfl, rfl⟩ := hce
          simp only at hop
          split at hop
          · rename_i y args' ts hop'
            simp only [Bool.and_eq_true] at hop
            have hv := mAo_VR (a := a) hop.1 hf.slots he1
            simp only [VR] at hv
            obtain ⟨vs, hv, hvs⟩ := hv
            refine ⟨_, run_call hop' hv hgk, ?_⟩
            have := (mAos_VRs hop.2 hf.slots he2).append hvs
            simpa using this
          · cases hop
        · cases hce
    obtain ⟨vs, hrun, hvs⟩ := hrun
    unfold Oper.wp
    rw [hrun]
    refine Calls.mono (hcs g as st.h (.ok v) h' hx m w vs hf.heap hvs) ?_
    rintro e w' ⟨m', hfr, hH, u, rfl, hu⟩
    show K (a.put o.dst u) w'
    have hf' := hf.next (d := o.dst) (av := v) (v := u) hH hfr.le hfr.size (fun b _ hlt hfree => ⟨(hfr.keep b hlt hfree.still).1, hfr.free b hlt hfree⟩) hu hdst
    refine hk _ _ m' (by rw [hdd]; exact hf') (hext ?_ hnop'.1) (hfr.mono hf.base)
    rw [← hdd, eq_apply]
    exact hN.next (v := u) ht nofun
end
end Go.Ab
namespace Go.Ab
open Go
def befM (acc : List Nat) : List Edge → Nat
  | [] => 0
  | e :: r => if Region.binds .any e then 2 ^ e.on ||| (acc.getD e.on 0 ||| befM acc r) else befM acc r
def befGo : List Oper → List Nat → List Nat
  | [], acc => acc
  | o :: r, acc => befGo r (acc ++ [befM acc o.after.toList])
def befs (ops : Array Oper) : List Nat := befGo ops.toList []
def bef (B : List Nat) (y z : Nat) : Bool := (B.getD z 0).testBit y
def GoodB (ops : List Oper) (B : List Nat) : Prop :=
  ∀ z y, bef B y z = true → ∃ o, ops[z]? = some o ∧ ∃ e ∈ o.after, Region.binds .any e = true ∧ (e.on = y ∨ (e.on < z ∧ bef B y e.on = true))
theorem befM_mem {acc : List Nat} {y : Nat} : ∀ {l : List Edge}, (befM acc l).testBit y = true → ∃ e ∈ l, Region.binds .any e = true ∧ (e.on = y ∨ bef acc y e.on = true)
  | [], h => by simp [befM] at h
  | e :: r, h => by
    simp only [befM] at h
    split at h
    · rename_i hb
      simp only [Nat.testBit_or, Nat.testBit_two_pow, Bool.or_eq_true, decide_eq_true_eq] at h
      rcases h with h | h | h
      · exact ⟨e, by simp, hb, .inl h⟩
      · exact ⟨e, by simp, hb, .inr h⟩
      · obtain ⟨e', h1, h2⟩ := befM_mem h
        exact ⟨e', by simp [h1], h2⟩
    · obtain ⟨e', h1, h2⟩ := befM_mem h
      exact ⟨e', by simp [h1], h2⟩
theorem bef_left {acc b : List Nat} {y z : Nat} (h : z < acc.length) : bef (acc ++ b) y z = bef acc y z := by
  simp only [bef, List.getD_eq_getElem?_getD]
  rw [List.getElem?_append_left h]
theorem bef_out {acc : List Nat} {y z : Nat} (h : acc.length ≤ z) : bef acc y z = false := by
  simp only [bef, List.getD_eq_getElem?_getD]
  rw [List.getElem?_eq_none h]; simp
theorem befGo_good : ∀ (r pre : List Oper) (acc : List Nat), acc.length = pre.length → GoodB (pre ++ r) acc → GoodB (pre ++ r) (befGo r acc)
  | [], _, _, _, h => h
  | o :: r, pre, acc, hl, h => by
    rw [befGo]
    have hp : pre ++ o :: r = (pre ++ [o]) ++ r := by simp
    rw [hp] at h ⊢
    refine befGo_good r (pre ++ [o]) _ (by simp [hl]) ?_
    intro z y hy
    by_cases hz : z < acc.length
    · rw [bef_left hz] at hy
      obtain ⟨q, h1, e, h2, h3, h4⟩ := h z y hy
      refine ⟨q, h1, e, h2, h3, ?_⟩
      rcases h4 with h4 | ⟨h4, h5⟩
      · exact .inl h4
      · exact .inr ⟨h4, by rw [bef_left (by omega)]; exact h5⟩
    · by_cases hz' : z = acc.length
      · subst hz'
        simp only [bef, List.getD_eq_getElem?_getD] at hy
        rw [List.getElem?_append_right (Nat.le_refl _)] at hy
        simp only [Nat.sub_self, List.getElem?_cons_zero, Option.getD_some] at hy
        obtain ⟨e, he, hb, hy⟩ := befM_mem hy
        refine ⟨o, by simp [hl], e, by simpa using he, hb, ?_⟩
        rcases hy with h1 | h1
        · exact .inl h1
        · have hlt : e.on < acc.length := by
            rcases Nat.lt_or_ge e.on acc.length with h2 | h2
            · exact h2
            · rw [bef_out h2] at h1; cases h1
          exact .inr ⟨hlt, by rw [bef_left hlt]; exact h1⟩
      · rw [bef_out (by simp; omega)] at hy
        cases hy
theorem befs_good (ops : Array Oper) : GoodB ops.toList (befs ops) := by
  have := befGo_good ops.toList [] [] rfl (fun z y hy => by simp [bef] at hy)
  simpa [befs] using this
def DC (ops : Array Oper) (listed : Array Bool) : Prop := ∀ (x : Nat) (o : Oper), listed.getD x false = true → ops[x]? = some o → ∀ e ∈ o.after, Region.binds .any e = true → listed.getD e.on false = true
theorem bef_listed {ops : Array Oper} {listed : Array Bool} (hd : DC ops listed) : ∀ z, listed.getD z false = true → ∀ y, bef (befs ops) y z = true → listed.getD y false = true := by
  intro z
  induction z using Nat.strongRecOn with
  | _ z ih =>
    intro hz y hy
    obtain ⟨o, h1, e, h2, h3, h4⟩ := befs_good ops z y hy
    have he := hd z o hz (by simpa using h1) e h2 h3
    rcases h4 with rfl | ⟨h4, h5⟩
    · exact he
    · exact ih e.on h4 he y h5
theorem bef_ready {ops : Array Oper} {listed : Array Bool} (hd : DC ops listed) {z : Nat} (hz : z ∈ Region.ready .any ops listed) {y : Nat} (hy : bef (befs ops) y z = true) : listed.getD y false = true := by
  obtain ⟨_, o, ho, hall⟩ := mem_ready.1 hz
  obtain ⟨o', h1, e, h2, h3, h4⟩ := befs_good ops z y hy
  have : o' = o := by
    have : ops[z]? = some o' := by simpa using h1
    rw [ho] at this; cases this; rfl
  subst this
  have he := hall e h2 h3
  rcases h4 with rfl | ⟨_, h5⟩
  · exact he
  · exact bef_listed hd _ he y h5
def pairsOK (f : AOper → AOper → Bool) : List AOper → Bool
  | [] => true
  | y :: l => l.all (f y) && pairsOK f l
theorem pairs_iff {f : AOper → AOper → Bool} : ∀ {l : List AOper}, pairsOK f l = true → l.Pairwise (fun y c => f y c = true)
  | [], _ => .nil
  | y :: l, h => by
    simp only [pairsOK, Bool.and_eq_true] at h
    exact .cons (fun c hc => List.all_eq_true.1 h.1 c hc) (pairs_iff h.2)
def edgesBack (ops : Array Oper) : Bool := (List.range ops.size).all fun i => match ops[i]? with
  | some o => o.after.toList.all fun e => !Region.binds .any e || decide (e.on < i)
  | none => true
def usesB (ns : List NopE) (ops : Array Oper) (f : Nat → Nat → Bool) (c : AOper) : Bool := match ops[c.i]? with
  | some o => o.op.operands.toList.all fun y => match y with
    | .tmp d => ns.all fun e => !(e.d == d) || f e.i c.i
    | _ => true
  | none => true
def pairF (B : List Nat) (pan : Bool) (y c : AOper) : Bool :=
  !(y.i == c.i) && (bef B y.i c.i || (ind y c && ckOK y c && (!pan || !isLoud y.o))) && (!isLd y.o || noClash c y)
def regDraw (ns : List NopE) (pan : Bool) (l : List AOper) (ops : Array Oper) (B : List Nat) : Bool :=
  edgesBack ops && (List.range ops.size).all (fun i => l.any fun c => c.i == i) && l.all (fun c => decide (c.i < ops.size)) && pairsOK (pairF B pan) l && l.all (fun c => !isLd c.o || selfOK c) &&
  l.all (usesB ns ops (bef B)) && l.all (fun c => ns.all fun e => !touch c e || e.i == c.i || bef B c.i e.i)
def idxs : List AOper → Nat → Bool
  | [], _ => true
  | c :: l, k => c.i == k && idxs l (k + 1)
def regSeq (ns : List NopE) (l : List AOper) (ops : Array Oper) : Bool :=
  l.length == ops.size && idxs l 0 && l.all (usesB ns ops fun a b => decide (a < b)) && l.all (fun c => ns.all fun e => !touch c e || decide (c.i ≤ e.i))
def regOK (S : Seat) (L : List Nat) (n : Nat) (ns : List NopE) (pan draw : Bool) (l : List AOper) (ops : Array Oper) : Bool :=
  l.all (mOper S L n ns ops) && (if draw then regDraw ns pan l ops (befs ops) else regSeq ns l ops)
variable {Γ : Nat → Option AFn} {kk : Nat}
def Pans (Γ : Nat → Option AFn) (kk : Nat) (st : St) (o : AOp) (v : AV) (h' : AH) : Prop :=
  (∃ g as, callee st.s o = some (g, as) ∧ Ex Γ kk (.call g as st.h) (.res (.pan v) h')) ∨ ∃ x t y, o = .panic x ∧ v = .iface t y ∧ ev st.s x = some v ∧ h' = st.h
inductive RunO (Γ : Nat → Option AFn) (kk : Nat) (pan : Bool) (l : List AOper) (st : St) : AExit → St → Prop
  | nrm {st'} (h : RunL Γ kk l st st') : RunO Γ kk pan l st .nrm st'
  | pan {l1 c l2 s1 v h'} (hp : pan = true) (hl : l = l1 ++ c :: l2) (h : RunL Γ kk l1 st s1) (hw : wants s1.s c.g = some true) (hc : Pans Γ kk s1 c.o v h') : RunO Γ kk pan l st (.pan v) { s1 with h := h' }
theorem runL_app : ∀ {l1 l2 : List AOper} {a b : St}, RunL Γ kk (l1 ++ l2) a b ↔ ∃ c, RunL Γ kk l1 a c ∧ RunL Γ kk l2 c b
  | [], l2, a, b => ⟨fun h => ⟨a, rfl, h⟩, fun ⟨c, h1, h2⟩ => by cases h1; exact h2⟩
  | x :: l1, l2, a, b => by
    constructor
    · rintro ⟨s, h1, h2⟩
      obtain ⟨c, h3, h4⟩ := runL_app.1 h2
      exact ⟨c, ⟨s, h1, h3⟩, h4⟩
    · rintro ⟨c, ⟨s, h1, h3⟩, h4⟩
      exact ⟨s, h1, runL_app.2 ⟨c, h3, h4⟩⟩
section
variable {S : Seat} {m : Mp} {L : List Nat} {n B : Nat} {ns : List NopE} {ops : Array Oper} {st st' : St} {a : Act} {w : World}
theorem one_pan (hK : Known S Γ) (hcs : CallSim S Γ kk) {c : AOper} {o : Oper} {v : AV} {h' : AH} {Q : Exit → Act → World → Prop} {K : Act → World → Prop} (hf : FR S m L n B st a w) (ho : ops[c.i]? = some o) (hm : mOper S L n ns ops c = true)
    (hw : wants st.s c.g = some true) (hpn : Pans Γ kk st c.o v h')
    (hk : ∀ w' m' u, HR S.N m' h' w' → Fr B m st.h w m' h' w' → VR S.N m' v u → Q (.panic [{ v := u, recovered := false }]) a w') : wpOp S.P ops Q c.i K a w := by
  unfold mOper at hm
  simp only [ho, Bool.and_eq_true] at hm
  obtain ⟨⟨⟨⟨⟨⟨hd, hg⟩, hgl⟩, hds⟩, hop⟩, hent⟩, huse⟩ := hm
  unfold wpOp
  simp only [ho]
  rw [wanted_of hf hg hw]
  simp only [if_true]
  refine .inl ?_
  rcases hpn with ⟨g, as, hce, hx⟩ | ⟨x, t, y, hco, rfl, hev, rfl⟩
  case inr =>
    unfold mBody at hop
    rw [hco] at hop
    simp only at hop
    split at hop
    · rename_i z hop'
      have hv := mAo_VR (a := a) hop hf.slots hev
      have hv0 := hv
      simp only [VR] at hv
      obtain ⟨u, hu, _⟩ := hv
      have hrun : (execOp a.eval o).run S.P w = .halt (.panic (a.eval z)) w := by
        unfold execOp
        simp only [hop']
        rw [hu]
        simp only [Instr.panic, goPanic]
        rfl
      unfold Oper.wp
      rw [hrun]
      exact hk w m _ hf.heap (Fr.refl _ _ _ _) hv0
    · cases hop
  have hgk := hK g (call_known hx)
  have hrun := call_run (o := o) hf (by unfold mBody at hop; exact hop) hce hgk
  obtain ⟨vs, hrun, hvs⟩ := hrun
  unfold Oper.wp
  rw [hrun]
  refine Calls.mono (hcs g as st.h (.pan v) h' hx m w vs hf.heap hvs) ?_
  rintro e w' ⟨m', hfr, hH, u, rfl, hu⟩
  exact hk w' m' u hH (hfr.mono hf.base) hu
where
  call_run {S : Seat} {m : Mp} {L : List Nat} {n B : Nat} {ns : List NopE} {st : St} {a : Act} {w : World} {c : AOper} {o : Oper} {g : Nat} {as : List AV} (hf : FR S m L n B st a w) (hop : mBody S L n ns c o = true) (hce : callee st.s c.o = some (g, as))
      (hgk : ∀ (args : Array Value) (w : World), (callFunc (S.N.f g) args).run S.P w = .ok (.enter (S.N.f g) args) w) : ∃ vs : Array Value, (execOp a.eval o).run S.P w = .ok (.enter (S.N.f g) vs) w ∧ VRs S.N m as vs.toList := by
    unfold mBody at hop
    cases hc : c.o <;> rw [hc] at hce hop <;> simp only [callee] at hce <;> try (cases hce; done)
    case call g' args =>
      simp only [Option.map_eq_some_iff, Prod.mk.injEq] at hce
      obtain ⟨as', hev, rfl, rfl⟩ := hce
      simp only at hop
      split at hop
      · rename_i f args' ts hop'
        simp only [Bool.and_eq_true, beq_iff_eq] at hop
        obtain ⟨rfl, hma⟩ := hop
        refine ⟨_, run_call hop' rfl hgk, ?_⟩
        have := mAos_VRs hma hf.slots hev
        simpa using this
      · cases hop
    case callv x args =>
      split at hce
      · rename_i g' cs as' he1 he2
        simp only [Option.some.injEq, Prod.mk.injEq] at hce
        obtain ⟨rfl, rfl⟩ := hce
        simp only at hop
        split at hop
        · rename_i y args' ts hop'
          simp only [Bool.and_eq_true] at hop
          have hv := mAo_VR (a := a) hop.1 hf.slots he1
          simp only [VR] at hv
          obtain ⟨vs, hv, hvs⟩ := hv
          refine ⟨_, run_call hop' hv hgk, ?_⟩
          have := (mAos_VRs hop.2 hf.slots he2).append hvs
          simpa using this
        · cases hop
      · cases hce
theorem usesB_spec {f : Nat → Nat → Bool} {c : AOper} {o : Oper} (ho : ops[c.i]? = some o) (h : usesB ns ops f c = true) {dn : Nat → Prop} (hdn : ∀ i, f i c.i = true → dn i) : uses ns o dn := by
  intro d hd e he hed
  unfold usesB at h
  rw [ho] at h
  have h1 := List.all_eq_true.1 h _ hd
  simp only at h1
  have h2 := List.all_eq_true.1 h1 e he
  simp only [hed, beq_self_eq_true, Bool.not_true, Bool.false_or] at h2
  exact hdn _ h2
theorem region_seq (hG : GOK Γ) (hK : Known S Γ) (hcs : CallSim S Γ kk) {pan : Bool} {e : AExit} {stF : St} {Q : Exit → Act → World → Prop} {m0 : Mp} {h0 : AH} {w0 : World}
    (hQn : e = .nrm → ∀ a' w' m', FR S m' L n B stF a' w' → Fr B m0 h0 w0 m' stF.h w' → Q .normal a' w')
    (hQp : ∀ v, e = .pan v → ∀ a' w' m' u, a'.defers = [] → HR S.N m' stF.h w' → Fr B m0 h0 w0 m' stF.h w' → VR S.N m' v u → Q (.panic [{ v := u, recovered := false }]) a' w') :
    ∀ {l : List AOper} {k : Nat} {st : St} {a : Act} {w : World} {m : Mp}, idxs l k = true → l.all (mOper S L n ns ops) = true → l.all (usesB ns ops fun a b => decide (a < b)) = true → l.all (fun c => ns.all fun e => !touch c e || decide (c.i ≤ e.i)) = true →
      FR S m L n B st a w → NopInv ns (fun i => i < k) st a → Fr B m0 h0 w0 m st.h w → RunO Γ kk pan l st e stF → wpOps S.P ops Q (l.map (·.i)) a w
  | [], k, st, a, w, m, _, _, _, _, hf, _, hfr, hr => by
    cases hr with
    | nrm h => cases h; exact hQn rfl a w m hf hfr
    | pan hp hl => simp at hl
  | c :: l, k, st, a, w, m, hi, hm, hu, ht, hf, hN, hfr, hr => by
    simp only [idxs, Bool.and_eq_true, beq_iff_eq] at hi
    simp only [List.all_cons, Bool.and_eq_true] at hm hu ht
    obtain ⟨hik, hi⟩ := hi
    have ho : ∃ o, ops[c.i]? = some o := by
      have := hm.1
      unfold mOper at this
      cases ho : ops[c.i]? with
      | none => simp [ho] at this
      | some o => exact ⟨o, rfl⟩
    obtain ⟨o, ho⟩ := ho
    have huse : uses ns o (fun i => i < k) := usesB_spec ho hu.1 (fun i hi => by simpa [hik] using hi)
    have htch : ∀ e ∈ ns, e.i < k → touch c e = false := by
      intro e he hlt
      have := List.all_eq_true.1 ht.1 e he
      simp only [Bool.or_eq_true, Bool.not_eq_true', decide_eq_true_eq] at this
      rcases this with h | h
      · exact h
      · omega
    rw [List.map_cons, wpOps_cons]
    have goOn : ∀ {s1 : St}, St0 Γ kk c st s1 → RunO Γ kk pan l s1 e stF → wpOp S.P ops Q c.i (wpOps S.P ops Q (l.map (·.i))) a w := by
      intro s1 h1 h2
      refine one_op hG hK hcs hf hN ho hm.1 huse htch h1 (fun a' w' m' hf' hN' hfr' => ?_)
      refine region_seq hG hK hcs hQn hQp hi hm.2 hu.2 ht.2 hf' ?_ (hfr.trans hfr') h2
      intro e he hlt
      exact hN' e he (by omega)
    cases hr with
    | nrm h =>
      obtain ⟨s1, h1, h2⟩ := h
      exact goOn h1.1 (.nrm h2)
    | @pan l1 d l2 s1 v h' hp hl h hw hc =>
      cases l1 with
      | nil =>
        simp only [List.nil_append, List.cons.injEq] at hl
        obtain ⟨rfl, rfl⟩ := hl
        cases h
        exact one_pan hK hcs hf ho hm.1 hw hc (fun w' m' u q1 q2 q3 => hQp v rfl a w' m' u hf.defers q1 (hfr.trans q2) q3)
      | cons y l1 =>
        simp only [List.cons_append, List.cons.injEq] at hl
        obtain ⟨rfl, rfl⟩ := hl
        obtain ⟨s2, h1, h2⟩ := h
        exact goOn h1.1 (.pan hp rfl h2 hw hc)
end
end Go.Ab
namespace Go.Ab
open Go
variable {Γ : Nat → Option AFn} {kk : Nat}
def left (listed : Array Bool) (l : List AOper) : List AOper := l.filter fun c => !listed.getD c.i true
theorem getD_set {l : Array Bool} {i j : Nat} {b : Bool} (hi : i < l.size) : (l.setIfInBounds i true).getD j b = if j = i then true else l.getD j b := by
  simp only [Array.getD_eq_getD_getElem?, Array.getElem?_setIfInBounds]
  by_cases h : i = j
  · subst h; simp [hi]
  · rw [if_neg h, if_neg (Ne.symm h)]
theorem getD_in {l : Array Bool} {i : Nat} (hi : i < l.size) (b c : Bool) : l.getD i b = l.getD i c := by
  simp [Array.getD, hi]
theorem getD_false {l : Array Bool} {i : Nat} (h : l.getD i true = false) : i < l.size := by
  rcases Nat.lt_or_ge i l.size with h' | h'
  · exact h'
  · simp [Array.getD, Nat.not_lt.2 h'] at h
theorem edges_back {ops : Array Oper} (h : edgesBack ops = true) {i : Nat} {o : Oper} (ho : ops[i]? = some o) {e : Edge} (he : e ∈ o.after) (hb : Region.binds .any e = true) : e.on < i := by
  have hi : i < ops.size := by
    rcases Nat.lt_or_ge i ops.size with h | h
    · exact h
    · rw [Array.getElem?_eq_none h] at ho; cases ho
  have := List.all_eq_true.1 h i (List.mem_range.2 hi)
  rw [ho] at this
  have := List.all_eq_true.1 this e (by simpa using he)
  simpa [hb] using this
theorem all_listed {ops : Array Oper} {listed : Array Bool} (hs : listed.size = ops.size) (he : edgesBack ops = true) (hr : Region.ready .any ops listed = []) : ∀ i, i < ops.size → listed.getD i false = true := by
  intro i
  induction i using Nat.strongRecOn with
  | _ i ih =>
    intro hi
    cases hc : listed.getD i false with
    | true => rfl
    | false =>
      have : i ∈ Region.ready .any ops listed := by
        rw [mem_ready]
        refine ⟨by rw [getD_in (by omega) true false]; exact hc, ops[i], by simp [hi], fun e hem hb => ?_⟩
        have hlt := edges_back he (Array.getElem?_eq_getElem hi) hem hb
        exact ih e.on hlt (by omega)
      rw [hr] at this; cases this
theorem left_set {listed : Array Bool} {l ys zs : List AOper} {c : AOper} (hi : c.i < listed.size) (h : left listed l = ys ++ c :: zs) (hp : (ys ++ c :: zs).Pairwise fun y d => y.i ≠ d.i) :
    left (listed.setIfInBounds c.i true) l = ys ++ zs := by
  have e : left (listed.setIfInBounds c.i true) l = (left listed l).filter fun d => !(d.i == c.i) := by
    unfold left
    rw [List.filter_filter]
    refine List.filter_congr fun d _ => ?_
    rw [getD_set hi]
    by_cases hd : d.i = c.i <;> simp [hd]
  rw [e, h, List.filter_append, List.filter_cons]
  simp only [beq_self_eq_true, Bool.not_true, Bool.false_eq_true, if_false]
  rw [List.pairwise_append] at hp
  obtain ⟨_, h2, h3⟩ := hp
  rw [List.pairwise_cons] at h2
  congr 1
  · refine List.filter_eq_self.2 fun y hy => ?_
    have := h3 y hy c List.mem_cons_self
    simpa using this
  · refine List.filter_eq_self.2 fun y hy => ?_
    have := h2.1 y hy
    simpa using Ne.symm this
structure RegD (S : Seat) (L : List Nat) (n : Nat) (ns : List NopE) (pan : Bool) (l : List AOper) (ops : Array Oper) : Prop where
  edge : edgesBack ops = true
  cover : ∀ i, i < ops.size → ∃ c ∈ l, c.i = i
  rng : ∀ c ∈ l, c.i < ops.size
  pair : l.Pairwise (fun y c => pairF (befs ops) pan y c = true)
  self : ∀ c ∈ l, isLd c.o = true → selfOK c = true
  use : ∀ c ∈ l, usesB ns ops (bef (befs ops)) c = true
  touch : ∀ c ∈ l, ∀ e ∈ ns, touch c e = true → e.i = c.i ∨ bef (befs ops) c.i e.i = true
  op : ∀ c ∈ l, mOper S L n ns ops c = true
theorem regD_of {S : Seat} {L : List Nat} {n : Nat} {ns : List NopE} {pan : Bool} {l : List AOper} {ops : Array Oper} (h : regOK S L n ns pan true l ops = true) : RegD S L n ns pan l ops := by
  unfold regOK at h
  simp only [if_true, Bool.and_eq_true] at h
  obtain ⟨h0, h⟩ := h
  unfold regDraw at h
  simp only [Bool.and_eq_true] at h
  obtain ⟨⟨⟨⟨⟨⟨h1, h2⟩, h3⟩, h4⟩, h5⟩, h6⟩, h7⟩ := h
  refine ⟨h1, fun i hi => ?_, fun c hc => ?_, pairs_iff h4, fun c hc hl => ?_, List.all_eq_true.1 h6, fun c hc e he ht => ?_, List.all_eq_true.1 h0⟩
  · have := List.all_eq_true.1 h2 i (List.mem_range.2 hi)
    obtain ⟨c, hc, he⟩ := List.any_eq_true.1 this
    exact ⟨c, hc, by simpa using he⟩
  · simpa using List.all_eq_true.1 h3 c hc
  · have := List.all_eq_true.1 h5 c hc
    simpa [hl] using this
  · have := List.all_eq_true.1 (List.all_eq_true.1 h7 c hc) e he
    simp only [ht, Bool.not_true, Bool.false_or, Bool.or_eq_true, beq_iff_eq] at this
    exact this
theorem callee_loud {s : Env} {o : AOp} {q : Nat × List AV} (h : callee s o = some q) : hk o = .loud := by
  cases o <;> simp only [callee] at h <;> first | rfl | cases h
theorem callee_locA {c : AOper} {s : Env} {q : Nat × List AV} (h : callee s c.o = some q) : locA c = none := by
  cases ho : c.o <;> rw [ho] at h <;> simp only [callee] at h <;> first | (cases h; done) | simp [locA, ho]
theorem pans_loud {st : St} {o : AOp} {v : AV} {h' : AH} (h : Pans Γ kk st o v h') : hk o = .loud := by
  rcases h with ⟨g, as, h, _⟩ | ⟨x, t, y, rfl, _⟩
  · exact callee_loud h
  · rfl
theorem pans_locA {st : St} {c : AOper} {v : AV} {h' : AH} (h : Pans Γ kk st c.o v h') : locA c = none := by
  rcases h with ⟨g, as, h, _⟩ | ⟨x, t, y, h, _⟩
  · exact callee_locA h
  · simp [locA, h]
theorem Pans.congr {st s2 : St} {c : AOper} {v : AV} {h' : AH} (h : Pans Γ kk s2 c.o v h') (ag : Agree c st s2) (hh : s2.h = st.h) : Pans Γ kk st c.o v h' := by
  rcases h with ⟨g, as, h, hx⟩ | ⟨x, t, y, h, hv, he, hq⟩
  · exact .inl ⟨g, as, by rw [callee_congr ag.e]; exact h, by rw [← hh]; exact hx⟩
  · refine .inr ⟨x, t, y, h, hv, ?_, by rw [hq, hh]⟩
    rw [ag.e x (by simp [opsA, h])]; exact he
section
variable {S : Seat} {L : List Nat} {n B : Nat} {ns : List NopE} {ops : Array Oper}
theorem region_any (hG : GOK Γ) (hK : Known S Γ) (hcs : CallSim S Γ kk) {pan : Bool} {l : List AOper} (hR : RegD S L n ns pan l ops) {e : AExit} {stF : St} {Q : Exit → Act → World → Prop} {m0 : Mp} {h0 : AH} {w0 : World}
    (hQn : e = .nrm → ∀ a' w' m', FR S m' L n B stF a' w' → Fr B m0 h0 w0 m' stF.h w' → Q .normal a' w')
    (hQp : ∀ v, e = .pan v → ∀ a' w' m' u, a'.defers = [] → HR S.N m' stF.h w' → Fr B m0 h0 w0 m' stF.h w' → VR S.N m' v u → Q (.panic [{ v := u, recovered := false }]) a' w') :
    ∀ (fuel : Nat) {listed : Array Bool} {st : St} {a : Act} {w : World} {m : Mp}, listed.size = ops.size → (left listed l).length ≤ fuel → DC ops listed →
      FR S m L n B st a w → NopInv ns (fun i => listed.getD i false = true) st a → Fr B m0 h0 w0 m st.h w → RunO Γ kk pan (left listed l) st e stF → wpAny S.P .any ops Q fuel listed a w := by
  -- all is done
  have hdone : ∀ {listed : Array Bool} {st : St} {a : Act} {w : World} {m : Mp}, left listed l = [] → FR S m L n B st a w → Fr B m0 h0 w0 m st.h w → RunO Γ kk pan (left listed l) st e stF → Q .normal a w := by
    intro listed st a w m hl hf hfr hr
    rw [hl] at hr
    cases hr with
    | nrm h => cases h; exact hQn rfl a w m hf hfr
    | pan hp hl => simp at hl
  have hnone : ∀ {listed : Array Bool}, listed.size = ops.size → Region.ready .any ops listed = [] → left listed l = [] := by
    intro listed hs hr
    refine List.filter_eq_nil_iff.2 fun c hc => ?_
    have h1 := hR.rng c hc
    have := all_listed hs hR.edge hr c.i h1
    rw [getD_in (by omega) true false, this]
    simp
  intro fuel
  induction fuel with
  | zero =>
    intro listed st a w m hs hl hd hf hN hfr hr
    have hl0 : left listed l = [] := List.length_eq_zero_iff.1 (by omega)
    refine ⟨List.eq_nil_iff_forall_not_mem.2 fun i hi => ?_, hdone hl0 hf hfr hr⟩
    have h1 := (mem_ready.1 hi).1
    obtain ⟨c, hc, rfl⟩ := hR.cover i (by have := getD_false h1; omega)
    have : c ∈ left listed l := List.mem_filter.2 ⟨hc, by rw [h1]; rfl⟩
    rw [hl0] at this; cases this
  | succ fuel ih =>
    intro listed st a w m hs hl hd hf hN hfr hr
    refine ⟨fun h => hdone (hnone hs h) hf hfr hr, fun i hi => ?_⟩
    have h1 := (mem_ready.1 hi).1
    have hlt : i < listed.size := getD_false h1
    obtain ⟨c, hc, rfl⟩ := hR.cover i (by omega)
    have hcl : c ∈ left listed l := List.mem_filter.2 ⟨hc, by rw [h1]; rfl⟩
    obtain ⟨o, ho, hall⟩ := (mem_ready.1 hi).2
    obtain ⟨ys, zs, hyz⟩ := List.append_of_mem hcl
    have hpl : (ys ++ c :: zs).Pairwise (fun y c => pairF (befs ops) pan y c = true) := by
      rw [← hyz]
      exact hR.pair.sublist List.filter_sublist
    have hpi : (ys ++ c :: zs).Pairwise fun y d => y.i ≠ d.i := hpl.imp fun {y d} h => by
      unfold pairF at h
      simp only [Bool.and_eq_true, Bool.not_eq_true', beq_eq_false_iff_ne] at h
      exact h.1.1
    have hlset := left_set hlt hyz hpi
    rw [List.pairwise_append] at hpl
    obtain ⟨hp1, hp2, hp3⟩ := hpl
    have hun : ∀ y ∈ ys, listed.getD y.i false = false := by
      intro y hy
      have : y ∈ left listed l := by rw [hyz]; exact List.mem_append_left _ hy
      have h2 := (List.mem_filter.1 this).2
      simp only [Bool.not_eq_true'] at h2
      rw [getD_in (getD_false h2) false true]; exact h2
    have hys : ∀ y ∈ ys, ind y c = true ∧ ckOK y c = true ∧ (pan = true → isLoud y.o = false) := by
      intro y hy
      have h2 := hp3 y hy c List.mem_cons_self
      unfold pairF at h2
      simp only [Bool.and_eq_true, Bool.or_eq_true] at h2
      rcases h2.1.2 with h3 | h3
      · have := bef_ready hd hi h3
        rw [hun y hy] at this; cases this
      · refine ⟨h3.1.1, h3.1.2, fun hp => ?_⟩
        have := h3.2
        simpa [hp] using this
    have hmemL : ∀ y ∈ ys, y ∈ l := by
      intro y hy
      have : y ∈ left listed l := by rw [hyz]; exact List.mem_append_left _ hy
      exact (List.mem_filter.1 this).1
    have hmv : ∀ {s' s'' : St}, RunL Γ kk ys st s' → St1 Γ kk c s' s'' → ∃ s1, St0 Γ kk c st s1 ∧ RunL Γ kk ys s1 s'' := by
      intro s' s'' q1 q2
      refine move hG q1 q2 (fun y hy => (hys y hy).1) (hp1.imp fun {y y'} h hk' => ?_) (fun y hy hk' => hR.self y (hmemL y hy) (by simp [isLd, hk'])) (fun y hy => (hys y hy).2.1)
      unfold pairF at h
      simp only [Bool.and_eq_true, Bool.or_eq_true] at h
      have := h.2
      simpa [isLd, hk'] using this
    have huse : uses ns o (fun i => listed.getD i false = true) := usesB_spec ho (hR.use c hc) (fun i h => bef_ready hd hi h)
    have hcun : listed.getD c.i false = false := by rw [getD_in hlt false true]; exact h1
    have htch : ∀ e ∈ ns, listed.getD e.i false = true → touch c e = false := by
      intro e he hle
      cases ht : touch c e with
      | false => rfl
      | true =>
        rcases hR.touch c hc e he ht with h2 | h2
        · rw [h2, hcun] at hle; cases hle
        · have := bef_listed hd e.i hle c.i h2
          rw [hcun] at this; cases this
    have hd' : DC ops (listed.setIfInBounds c.i true) := by
      intro x q hx hq e he hb
      rw [getD_set hlt] at hx ⊢
      split
      · rfl
      · by_cases hxc : x = c.i
        · subst hxc
          rw [ho] at hq; cases hq
          exact hall e he hb
        · rw [if_neg hxc] at hx
          exact hd x q hx hq e he hb
    have goOn : ∀ {s1 : St}, St0 Γ kk c st s1 → RunO Γ kk pan (ys ++ zs) s1 e stF → wpOp S.P ops Q c.i (wpAny S.P .any ops Q fuel (listed.setIfInBounds c.i true)) a w := by
      intro s1 q1 q2
      refine one_op hG hK hcs hf hN ho (hR.op c hc) huse htch q1 (fun a' w' m' hf' hN' hfr' => ?_)
      refine ih (by simpa using hs) ?_ hd' hf' ?_ (hfr.trans hfr') (by rw [hlset]; exact q2)
      · rw [hlset]
        rw [hyz] at hl
        simp only [List.length_append, List.length_cons] at hl ⊢
        omega
      · intro e he hle
        rw [getD_set hlt] at hle
        refine hN' e he ?_
        by_cases hec : e.i = c.i
        · exact .inr hec
        · rw [if_neg hec] at hle; exact .inl hle
    rw [hyz] at hr
    generalize hw : ys ++ c :: zs = W at hr
    cases hr with
    | nrm h =>
      subst hw
      obtain ⟨s', q1, s'', q2, q3⟩ := runL_app.1 h
      obtain ⟨s1, k1, k2⟩ := hmv q1 q2
      exact goOn k1 (.nrm (runL_app.2 ⟨s'', k2, q3⟩))
    | @pan l1 d l2 sL v h' hp hl' h hwd hcd =>
      subst hw
      -- where c stands
      have key : (∃ as', l1 = ys ++ c :: as' ∧ zs = as' ++ d :: l2) ∨ (l1 = ys ∧ c = d) ∨ (d ∈ ys) := by
        rcases List.append_eq_append_iff.1 hl' with ⟨t, e1, e2⟩ | ⟨t, e1, e2⟩
        · cases t with
          | nil =>
            simp only [List.nil_append, List.cons.injEq] at e2
            exact .inr (.inl ⟨by simpa using e1, e2.1⟩)
          | cons x t =>
            simp only [List.cons_append, List.cons.injEq] at e2
            obtain ⟨rfl, e2⟩ := e2
            exact .inl ⟨t, e1, e2⟩
        · cases t with
          | nil =>
            simp only [List.nil_append, List.cons.injEq] at e2
            exact .inr (.inl ⟨by simpa using e1.symm, e2.1.symm⟩)
          | cons x t =>
            simp only [List.cons_append, List.cons.injEq] at e2
            obtain ⟨rfl, e2⟩ := e2
            exact .inr (.inr (e1 ▸ List.mem_append_right _ List.mem_cons_self))
      rcases key with ⟨as', rfl, rfl⟩ | ⟨rfl, rfl⟩ | hdy
      · obtain ⟨s', q1, s'', q2, q3⟩ := runL_app.1 h
        obtain ⟨s1, k1, k2⟩ := hmv q1 q2
        refine goOn k1 (.pan (l1 := ys ++ as') (c := d) (l2 := l2) hp (List.append_assoc _ _ _).symm (runL_app.2 ⟨s'', k2, q3⟩) hwd hcd)
      · have hkl := pans_loud hcd
        have hh : sL.h = st.h := h.quiet_h hG (fun y hy => ind_quiet (hys y hy).1 hkl)
        have hno : ∀ x ∈ l1, noClash x c = true := by
          intro x hx'
          have := (hys x hx').1
          unfold ind at this
          simp only [Bool.and_eq_true] at this
          exact this.1.1.1
        have ag := (RunL.keeps hG (pans_locA hcd) h hno).1
        rw [← ag.w] at hwd
        refine one_pan hK hcs hf ho (hR.op c hc) hwd (hcd.congr ag hh) (fun w' m' u q1 q2 q3 => hQp v rfl a w' m' u hf.defers q1 (hfr.trans q2) q3)
      · have := (hys d hdy).2.2 hp
        simp [isLoud, pans_loud hcd] at this
end
end Go.Ab
namespace Go.Ab
open Go
open Classical
section
variable {N : Nums} {m m' : Mp} {h h' : AH} {w w' : World} {K : List Nat}
theorem Conv.cellsLen {v v' : AV} (hc : Conv h K v v') : v'.cells.length = v.cells.length := by
  cases hc with
  | refl => rfl
  | agg hl _ => simpa [AV.cells] using hl.symm
  | _ => rfl
theorem Conv.scalar {v v' : AV} (hc : Conv h K v v') : v'.sc = v.sc := by cases hc <;> rfl
theorem Conv.cell {v v' : AV} (hc : Conv h K v v') {j : Nat} {y' : AV} (hy : v'.cells[j]? = some y') : ∃ y, v.cells[j]? = some y ∧ Conv h K y y' := by
  have one : ∀ {x x' : AV}, Conv h K x x' → [x'][j]? = some y' → ∃ y, [x][j]? = some y ∧ Conv h K y y' := by
    intro x x' hx hj
    cases j with
    | zero => simp only [List.getElem?_cons_zero, Option.some.injEq] at hj ⊢; exact ⟨x, rfl, hj ▸ hx⟩
    | succ j => simp at hj
  cases hc with
  | refl v => exact ⟨y', hy, .refl _⟩
  | @agg cs ds hl hc =>
    simp only [AV.cells] at hy ⊢
    have hj := (List.getElem?_eq_some_iff.1 hy).1
    have hj' : j < cs.length := by omega
    refine ⟨cs[j], List.getElem?_eq_getElem hj', ?_⟩
    refine hc (cs[j], y') ?_
    have : (cs.zip ds)[j]? = some (cs[j], y') := by
      rw [List.getElem?_zip_eq_some]
      exact ⟨List.getElem?_eq_getElem hj', hy⟩
    exact List.mem_of_getElem? this
  | nil => exact one .nil hy
  | nils => exact one .nils hy
  | fn a b => exact one (.fn a b) hy
  | tup a b => simp [AV.cells] at hy
  | sub a b => exact one (.sub a b) hy
  | slc a b c d e f => exact one (.slc a b c d e f) hy
  | ptr a b c d e => exact one (.ptr a b c d e) hy
  | lst a b => exact one (.lst a b) hy
  | clip => exact one .clip hy
noncomputable def Mp.frz (m : Mp) (K : List Nat) (w : World) : Mp where
  p := m.p
  z := fun b => match m.z b with
    | some c => some c
    | none => if ∃ id p, K.contains id = true ∧ m id = some p ∧ p.b = b then (match w.heap[b]? with
      | some (.cells c _ _) => some c
      | _ => none) else none
theorem Mp.le_frz : m.le (m.frz K w) := ⟨fun _ _ h => h, fun b c hz => by simp only [Mp.frz, hz]⟩
theorem Mp.frz_z {b : Nat} {c : Array Value} (hz : (m.frz K w).z b = some c) : m.z b = some c ∨ ((∃ id p, K.contains id = true ∧ m id = some p ∧ p.b = b) ∧ ∃ e fz, w.heap[b]? = some (.cells c e fz)) := by
  simp only [Mp.frz] at hz
  split at hz
  · rename_i hq; exact .inl (hq.trans hz)
  · split at hz
    · rename_i hk
      split at hz
      · rename_i c' e fz hb
        simp only [Option.some.injEq] at hz
        subst hz
        exact .inr ⟨hk, e, fz, hb⟩
      · cases hz
    · cases hz
theorem Mp.frz_mk {id : Nat} {p : Place} {c : Array Value} {e : TypeId} {fz : Nat × Nat} (hH : HR N m h w) (hK : Rows h K) (hid : K.contains id = true) (hp : m id = some p) (hb : w.heap[p.b]? = some (.cells c e fz)) : (m.frz K w).z p.b = some c := by
  obtain ⟨o, ho, how⟩ := hK id hid
  simp only [Mp.frz]
  cases hz : m.z p.b with
  | some c' => exact absurd rfl ((hH.zz _ _ hz).2 id _ p ho how hp)
  | none =>
    simp only
    rw [if_pos ⟨id, p, hid, hp, rfl⟩, hb]
theorem kill_some {i : Nat} {o : AObj} (ho : (h.kill K) i = some o) (hl : o.live = true) : K.contains i = false ∧ h i = some o := by
  rw [AH.kill_at] at ho
  split at ho
  · cases ho; cases hl
  · rename_i hc; exact ⟨by simpa using hc, ho⟩
theorem Still.frz {b : Nat} (hs : Still m h b) : Still (m.frz K w) (h.kill K) b := fun i o p ho hw hp => hs i o p (kill_some ho (AObj.live_of_wr hw)).2 hw hp
theorem HR.frz (hH : HR N m h w) (hK : Rows h K) : HR N (m.frz K w) (h.kill K) w where
  at' := fun i o ho => by
    rw [AH.kill_at] at ho
    split at ho
    · rename_i hc
      cases ho
      obtain ⟨o, ho, _⟩ := hK i hc
      obtain ⟨p, h1, _⟩ := hH.at' i _ ho
      exact ⟨p, h1, by simp [AObj.live], trivial⟩
    · obtain ⟨p, h1, h2, h3⟩ := hH.at' i o ho
      exact ⟨p, h1, h2, h3.mono Mp.le_frz⟩
  none' := fun i hi => hH.none' i (AH.fr_kill hi).1
  apart := fun i j o1 o2 p q h1 h2 hw hl hij hp hq => hH.apart i j o1 o2 p q (kill_some h1 (AObj.live_of_wr hw)).2 (kill_some h2 hl).2 hw hl hij hp hq
  zz := fun b c hz => by
    rcases Mp.frz_z hz with hz | ⟨⟨id, p, hid, hp, rfl⟩, hb⟩
    · obtain ⟨h1, h2⟩ := hH.zz b c hz
      exact ⟨h1, h2.frz⟩
    · refine ⟨hb, fun i o q ho hw hq => ?_⟩
      obtain ⟨h1, h2⟩ := kill_some ho (AObj.live_of_wr hw)
      obtain ⟨o2, ho', how⟩ := hK id hid
      have hne : i ≠ id := by rintro rfl; rw [hid] at h1; cases h1
      exact hH.apart i id _ _ q p h2 ho' hw (AObj.live_of_wr how) hne hq hp
theorem Free.frz (hK : Rows h K) {b : Nat} (hf : Free m h b) : Free (m.frz K w) (h.kill K) b := by
  refine ⟨fun i o p ho hl hp => hf.1 i o p (kill_some ho hl).2 hl hp, ?_⟩
  cases hz : (m.frz K w).z b with
  | none => rfl
  | some c =>
    rcases Mp.frz_z hz with hz | ⟨⟨id, p, hid, hp, hb⟩, _⟩
    · rw [hf.2] at hz; cases hz
    · obtain ⟨o, ho, how⟩ := hK id hid
      exact absurd hb (hf.1 id _ p ho (AObj.live_of_wr how) hp)
theorem Fr.frz (hK : Rows h K) {B : Nat} : Fr B m h w (m.frz K w) (h.kill K) w :=
  ⟨rfl, rfl, rfl, Nat.le_refl _, Mp.le_frz, fun _ _ hs => ⟨rfl, hs.frz⟩, fun _ _ hf => hf.frz hK⟩
theorem CellsAt.val {c : Array Value} {o k : Nat} {x : AV} (hc : CellsAt N m c o x.cells) (hl : x.cells.length = k) (hk : 0 < k) : ∃ u, VR N m x u ∧ ∀ j, j < k → c[o + j]? = u.cells[j]? := by
  by_cases hag : ∃ cs, x = .agg cs
  · obtain ⟨cs, rfl⟩ := hag
    simp only [AV.cells] at hc hl
    have hin : ∀ j, j < k → ∃ u, c[o + j]? = some u := fun j hj => by
      obtain ⟨_, u, q, _⟩ := hc j _ (List.getElem?_eq_getElem (by omega))
      exact ⟨u, q⟩
    have hsz : o + k ≤ c.size := by
      obtain ⟨u, q⟩ := hin (k - 1) (by omega)
      have := (Array.getElem?_eq_some_iff.1 q).1
      omega
    have hget : ∀ j, j < k → (c.extract o (o + k))[j]? = c[o + j]? := fun j hj => by
      rw [Array.getElem?_extract, if_pos (by omega)]
    refine ⟨.agg (c.extract o (o + k)), ?_, fun j hj => ?_⟩
    · simp only [VR]
      refine ⟨_, rfl, ?_, ?_⟩
      · rw [VRs.iff]
        refine ⟨by simp; omega, fun i a v ha hv => ?_⟩
        obtain ⟨_, u, q1, q2⟩ := hc i a ha
        have hi := (List.getElem?_eq_some_iff.1 ha).1
        rw [Array.getElem?_toList, hget i (by omega), q1] at hv
        cases hv; exact q2
      · rw [List.all_eq_true]
        intro y hy
        obtain ⟨i, hi, rfl⟩ := List.getElem_of_mem hy
        exact (hc i _ (List.getElem?_eq_getElem hi)).1
    · show c[o + j]? = (c.extract o (o + k))[j]?
      rw [hget j hj]
  · have hcc : x.cells = [x] := by
      cases x <;> first
        | rfl
        | exact absurd ⟨_, rfl⟩ hag
        | (simp [AV.cells] at hl; omega)
    rw [hcc] at hc hl
    obtain ⟨h1, u, h2, h3⟩ := hc 0 x rfl
    refine ⟨u, h3, fun j hj => ?_⟩
    have : j = 0 := by simp at hl; omega
    subst this
    rw [h2, h3.sc_cells h1]; rfl
theorem zip_mem {α β : Type} {xs : List α} {ys : List β} {i : Nat} {x : α} {y : β} (hx : xs[i]? = some x) (hy : ys[i]? = some y) : (x, y) ∈ xs.zip ys := by
  have : (xs.zip ys)[i]? = some (x, y) := by rw [List.getElem?_zip_eq_some]; exact ⟨hx, hy⟩
  exact List.mem_of_getElem? this
theorem conv_VR (hH : HR N m h w) (hK : Rows h K) {v v' : AV} (hc : Conv h K v v') : ∀ {u : Value}, VR N m v u → VR N (m.frz K w) v' u := by
  have hle : m.le (m.frz K w) := Mp.le_frz
  induction hc with
  | refl v => intro u hv; exact hv.mono hle
  | nil =>
    intro u hv
    simp only [VR] at hv ⊢
    obtain ⟨p, a, cap, _, _, rfl, h1, _, h2, _⟩ := hv
    exact ⟨some a, cap, rfl, by simp, by simpa using h2, .inl ⟨trivial, by simp⟩⟩
  | nils =>
    intro u hv
    simp only [VR] at hv ⊢
    subst hv
    exact ⟨none, 0, rfl, by simp, by simp, .inl ⟨trivial, by simp⟩⟩
  | @slc wd id off len clip el rw' ts hid ho hl hw hs hcs ih =>
    intro u hv
    simp only [VR] at hv ⊢
    obtain ⟨p, a, cap, hp, hpw, rfl, h1, h2, h3, h4⟩ := hv
    obtain ⟨p', hp', _, hob⟩ := hH.at' id _ ho
    rw [hp] at hp'; cases hp'
    obtain ⟨_, _, c, e, fz, hb, _, _, hrow⟩ := hob
    have hlen : ts.length = len := by rw [← hs]; simp; omega
    refine ⟨some a, cap, by rw [hlen], by omega, by rw [hlen]; exact h3, ?_⟩
    by_cases h0 : len = 0
    · left; exact ⟨List.eq_nil_of_length_eq_zero (by omega), by simp⟩
    · right
      refine ⟨p.b, p.o + off * wd, c, by rw [h4 (by omega)], Mp.frz_mk hH hK hid hp hb, VRe.mk fun i t ht => ?_⟩
      have hi : i < len := by have := (List.getElem?_eq_some_iff.1 ht).1; omega
      have hx : ((el.drop off).take len)[i]? = some (el[off + i]'(by omega)) := by
        rw [List.getElem?_take, if_pos hi, List.getElem?_drop]
        exact List.getElem?_eq_getElem (by omega)
      have hz := zip_mem hx ht
      obtain ⟨q1, q2⟩ := hrow (off + i) _ (List.getElem?_eq_getElem (by omega))
      obtain ⟨u0, g1, g2⟩ := q2.val q1 hw
      refine ⟨u0, ih _ hz g1, by rw [(hcs _ hz).cellsLen]; exact q1, hw, fun j hj => ?_⟩
      rw [← g2 j hj]
      congr 1
      rw [Nat.add_mul]; omega
  | @ptr id i j wd el rw' x t hid ho h0 he hcs ih =>
    intro u hv
    simp only [VR] at hv ⊢
    obtain ⟨p, hp, rfl⟩ := hv
    obtain ⟨p', hp', _, hob⟩ := hH.at' id _ ho
    rw [hp] at hp'; cases hp'
    obtain ⟨hw, _, c, e, fz, hb, _, _, hrow⟩ := hob
    subst hw
    obtain ⟨q1, q2⟩ := hrow i _ he
    obtain ⟨u0, g1, g2⟩ := q2.val q1 h0
    refine ⟨p.b, p.o + i * p.w, c, u0, by rw [Nat.add_assoc], Mp.frz_mk hH hK hid hp hb, ih g1, by rw [hcs.cellsLen]; omega, fun k hk => g2 k (by rw [hcs.cellsLen] at hk; omega)⟩
  | @lst wd xs ts clip hl hcs ih =>
    intro u hv
    simp only [VR] at hv ⊢
    obtain ⟨a, cap, rfl, h1, h2, h3⟩ := hv
    refine ⟨a, cap, by rw [hl], by omega, by rw [← hl]; exact h2, ?_⟩
    rcases h3 with ⟨rfl, h3⟩ | ⟨b, o, c, rfl, hz, hr⟩
    · left; exact ⟨List.eq_nil_of_length_eq_zero (by simpa using hl.symm), h3⟩
    · right
      refine ⟨b, o, c, rfl, hle.2 _ _ hz, VRe.mk fun i t ht => ?_⟩
      have hi : i < xs.length := by have := (List.getElem?_eq_some_iff.1 ht).1; omega
      have hx := List.getElem?_eq_getElem hi
      obtain ⟨u0, g1, g2, g3, g4⟩ := hr.get hx
      have hzz := zip_mem hx ht
      exact ⟨u0, ih _ hzz g1, by rw [(hcs _ hzz).cellsLen]; exact g2, g3, g4⟩
  | clip =>
    intro u hv
    have hv := hv.mono hle
    simp only [VR] at hv ⊢
    obtain ⟨a, cap, h1, h2, _, h3⟩ := hv
    exact ⟨a, cap, h1, h2, by simp, h3⟩
  | @agg cs ds hl hcs ih =>
    intro u hv
    simp only [VR] at hv ⊢
    obtain ⟨vs, rfl, h1, h2⟩ := hv
    refine ⟨vs, rfl, ?_, ?_⟩
    · rw [VRs.iff] at h1 ⊢
      refine ⟨by omega, fun i d q hd hq => ?_⟩
      have hi : i < cs.length := by have := (List.getElem?_eq_some_iff.1 hd).1; omega
      have hx := List.getElem?_eq_getElem hi
      exact ih _ (zip_mem hx hd) (h1.2 i _ q hx hq)
    · rw [List.all_eq_true]
      intro d hd
      obtain ⟨i, hi, rfl⟩ := List.getElem_of_mem hd
      have hi' : i < cs.length := by omega
      have hx := List.getElem?_eq_getElem hi'
      have := (hcs _ (zip_mem hx (List.getElem?_eq_getElem hi))).scalar
      simp only at this
      rw [this]
      exact List.all_eq_true.1 h2 _ (List.getElem_mem hi')
  | @fn g cs ds hl hcs ih =>
    intro u hv
    simp only [VR] at hv ⊢
    obtain ⟨vs, rfl, h1⟩ := hv
    refine ⟨vs, rfl, ?_⟩
    rw [VRs.iff] at h1 ⊢
    refine ⟨by omega, fun i d q hd hq => ?_⟩
    have hi : i < cs.length := by have := (List.getElem?_eq_some_iff.1 hd).1; omega
    have hx := List.getElem?_eq_getElem hi
    exact ih _ (zip_mem hx hd) (h1.2 i _ q hx hq)
  | @tup cs ds hl hcs ih =>
    intro u hv
    simp only [VR] at hv ⊢
    obtain ⟨vs, rfl, h1⟩ := hv
    refine ⟨vs, rfl, ?_⟩
    rw [VRs.iff] at h1 ⊢
    refine ⟨by omega, fun i d q hd hq => ?_⟩
    have hi : i < cs.length := by have := (List.getElem?_eq_some_iff.1 hd).1; omega
    have hx := List.getElem?_eq_getElem hi
    exact ih _ (zip_mem hx hd) (h1.2 i _ q hx hq)
  | @sub x y j sh hp hy =>
    intro u hv
    have hv := hv.mono hle
    simp only [VR] at hv ⊢
    obtain ⟨b, o, c, u0, rfl, hz, hx, h0, hcc⟩ := hv
    obtain ⟨q1, q2⟩ := hx.cells h0
    have hcell : ∀ (i : Nat) (z : AV), x.cells[i]? = some z → z.sc = true ∧ ∃ v, c[o + i]? = some v ∧ VR N (m.frz K w) z v := by
      intro i z hz'
      have hi := (List.getElem?_eq_some_iff.1 hz').1
      refine ⟨List.all_eq_true.1 q2 _ (List.mem_of_getElem? hz'), ?_⟩
      obtain ⟨v, g1, g2⟩ := q1.get hz'
      exact ⟨v, by rw [hcc i hi, ← Array.getElem?_toList]; exact g1, g2⟩
    have hycells : CellsAt N (m.frz K w) c (o + j) y.cells := by
      cases sh with
      | none =>
        simp only [AV.part] at hp
        obtain ⟨r1, v, r2, r3⟩ := hcell j y hp
        have ey : y.cells = [y] := by cases y <;> first | rfl | (simp [AV.sc] at r1; done)
        rw [ey]
        intro i z hz'
        have hi : i = 0 := by have := (List.getElem?_eq_some_iff.1 hz').1; simp at this; omega
        subst hi
        simp only [List.getElem?_cons_zero, Option.some.injEq] at hz'
        subst hz'
        exact ⟨r1, v, by rw [Nat.add_zero]; exact r2, r3⟩
      | some k =>
        simp only [AV.part] at hp
        split at hp
        · rename_i hk
          simp only [Option.some.injEq] at hp
          subst hp
          intro i z hz'
          simp only [AV.cells] at hz'
          rw [List.getElem?_take] at hz'
          split at hz'
          · rename_i hik
            rw [List.getElem?_drop] at hz'
            obtain ⟨r1, v, r2, r3⟩ := hcell (j + i) z hz'
            exact ⟨r1, v, by rw [← r2]; congr 1; omega, r3⟩
          · cases hz'
        · cases hp
    obtain ⟨u', g1, g2⟩ := hycells.val rfl hy
    exact ⟨b, o + j, c, u', by rw [Nat.add_zero], hz, g1, hy, g2⟩
variable {m2 : Mp}
mutual
theorem tree_VR (hz : m2.z = m'.z) : ∀ (a : AV) (v : Value), a.tree = true → VR N m' a v → VR N m2 a v
  | .bool _, _, _, h => by simpa only [VR] using h
  | .int _ _, _, _, h => by simpa only [VR] using h
  | .str _, _, _, h => by simpa only [VR] using h
  | .nilp, _, _, h => by simpa only [VR] using h
  | .nils, _, _, h => by simpa only [VR] using h
  | .nilm, _, _, h => by simpa only [VR] using h
  | .nilf, _, _, h => by simpa only [VR] using h
  | .nili, _, _, h => by simpa only [VR] using h
  | .any, _, _, _ => by simp only [VR]
  | .ptr _ _ _, _, ht, _ => by simp [AV.tree] at ht
  | .map _, _, ht, _ => by simp [AV.tree] at ht
  | .slice _ _ _ _ _, _, ht, _ => by simp [AV.tree] at ht
  | .lst w xs _, _, ht, h => by
    simp only [VR] at h ⊢
    simp only [AV.tree] at ht
    obtain ⟨a, cap, h1, h2, h3, h4⟩ := h
    refine ⟨a, cap, h1, h2, h3, ?_⟩
    rcases h4 with h4 | ⟨b, o, c, h5, h6, h7⟩
    · exact .inl h4
    · exact .inr ⟨b, o, c, h5, by rw [hz]; exact h6, tree_VRe hz w xs c o ht h7⟩
  | .ept x _, _, ht, h => by
    simp only [VR] at h ⊢
    simp only [AV.tree] at ht
    obtain ⟨b, o, c, u, h1, h2, h3, h4⟩ := h
    exact ⟨b, o, c, u, h1, by rw [hz]; exact h2, tree_VR hz x u ht h3, h4⟩
  | .fn _ cs, _, ht, h => by
    simp only [VR] at h ⊢
    simp only [AV.tree] at ht
    obtain ⟨vs, h1, h2⟩ := h
    exact ⟨vs, h1, tree_VRs hz cs _ ht h2⟩
  | .iface _ x, _, ht, h => by
    simp only [VR] at h ⊢
    simp only [AV.tree] at ht
    obtain ⟨u, h1, h2⟩ := h
    exact ⟨u, h1, tree_VR hz x u ht h2⟩
  | .agg cs, _, ht, h => by
    simp only [VR] at h ⊢
    simp only [AV.tree] at ht
    obtain ⟨vs, h1, h2, h3⟩ := h
    exact ⟨vs, h1, tree_VRs hz cs _ ht h2, h3⟩
  | .tup cs, _, ht, h => by
    simp only [VR] at h ⊢
    simp only [AV.tree] at ht
    obtain ⟨vs, h1, h2⟩ := h
    exact ⟨vs, h1, tree_VRs hz cs _ ht h2⟩
theorem tree_VRs (hz : m2.z = m'.z) : ∀ (as : List AV) (vs : List Value), AV.trees as = true → VRs N m' as vs → VRs N m2 as vs
  | [], _, _, h => by simpa only [VRs] using h
  | a :: as, vs, ht, h => by
    simp only [VRs] at h ⊢
    simp only [AV.trees, Bool.and_eq_true] at ht
    obtain ⟨u, us, h1, h2, h3⟩ := h
    exact ⟨u, us, h1, tree_VR hz a u ht.1 h2, tree_VRs hz as us ht.2 h3⟩
theorem tree_VRe (hz : m2.z = m'.z) (w : Nat) : ∀ (as : List AV) (c : Array Value) (o : Nat), AV.trees as = true → VRe N m' w as c o → VRe N m2 w as c o
  | [], _, _, _, _ => by simp only [VRe]
  | a :: as, c, o, ht, h => by
    simp only [VRe] at h ⊢
    simp only [AV.trees, Bool.and_eq_true] at ht
    obtain ⟨⟨u, h1, h2⟩, h3⟩ := h
    exact ⟨⟨u, tree_VR hz a u ht.1 h1, h2⟩, tree_VRe hz w as c _ ht.2 h3⟩
end
mutual
theorem VR.back (hm : m.le m') (hz : m2.z = m'.z) (hp : ∀ id, m2 id = m id) : ∀ (a : AV) (v0 v : Value), VR N m a v0 → VR N m' a v → VR N m2 a v
  | .bool _, _, _, _, h => by simpa only [VR] using h
  | .int _ _, _, _, _, h => by simpa only [VR] using h
  | .str _, _, _, _, h => by simpa only [VR] using h
  | .nilp, _, _, _, h => by simpa only [VR] using h
  | .nils, _, _, _, h => by simpa only [VR] using h
  | .nilm, _, _, _, h => by simpa only [VR] using h
  | .nilf, _, _, _, h => by simpa only [VR] using h
  | .nili, _, _, _, h => by simpa only [VR] using h
  | .any, _, _, _, _ => by simp only [VR]
  | .ptr id _ _, _, _, h0, h => by
    simp only [VR] at h h0 ⊢
    obtain ⟨p0, g0, _⟩ := h0
    obtain ⟨p, g1, g2⟩ := h
    have := hm.1 _ _ g0
    rw [g1] at this; cases this
    exact ⟨p0, by rw [hp]; exact g0, g2⟩
  | .map _, _, _, h0, h => by
    simp only [VR] at h h0 ⊢
    obtain ⟨p0, g0, _⟩ := h0
    obtain ⟨p, g1, g2⟩ := h
    have := hm.1 _ _ g0
    rw [g1] at this; cases this
    exact ⟨p0, by rw [hp]; exact g0, g2⟩
  | .slice _ _ _ _ _, _, _, h0, h => by
    simp only [VR] at h h0 ⊢
    obtain ⟨p0, _, _, g0, _⟩ := h0
    obtain ⟨p, a, cap, g1, g2⟩ := h
    have := hm.1 _ _ g0
    rw [g1] at this; cases this
    exact ⟨p0, a, cap, by rw [hp]; exact g0, g2⟩
  | .lst w xs _, _, _, h0, h => by
    simp only [VR] at h h0 ⊢
    obtain ⟨a0, cap0, _, _, _, k4⟩ := h0
    obtain ⟨a, cap, h1, h2, h3, h4⟩ := h
    refine ⟨a, cap, h1, h2, h3, ?_⟩
    rcases h4 with h4 | ⟨b, o, c, h5, h6, h7⟩
    · exact .inl h4
    · rcases k4 with k4 | ⟨b', o', c', k5, k6, k7⟩
      · exact .inl ⟨k4.1, by rw [h5]; simp⟩
      · exact .inr ⟨b, o, c, h5, by rw [hz]; exact h6, VRe.back hm hz hp w xs c' o' c o k7 h7⟩
  | .ept x _, _, _, h0, h => by
    simp only [VR] at h h0 ⊢
    obtain ⟨_, _, _, u0, _, _, k3, _⟩ := h0
    obtain ⟨b, o, c, u, h1, h2, h3, h4⟩ := h
    exact ⟨b, o, c, u, h1, by rw [hz]; exact h2, VR.back hm hz hp x u0 u k3 h3, h4⟩
  | .fn _ cs, _, _, h0, h => by
    simp only [VR] at h h0 ⊢
    obtain ⟨vs0, _, k2⟩ := h0
    obtain ⟨vs, h1, h2⟩ := h
    exact ⟨vs, h1, VRs.back hm hz hp cs _ _ k2 h2⟩
  | .iface _ x, _, _, h0, h => by
    simp only [VR] at h h0 ⊢
    obtain ⟨u0, _, k2⟩ := h0
    obtain ⟨u, h1, h2⟩ := h
    exact ⟨u, h1, VR.back hm hz hp x u0 u k2 h2⟩
  | .agg cs, _, _, h0, h => by
    simp only [VR] at h h0 ⊢
    obtain ⟨vs0, _, k2, _⟩ := h0
    obtain ⟨vs, h1, h2, h3⟩ := h
    exact ⟨vs, h1, VRs.back hm hz hp cs _ _ k2 h2, h3⟩
  | .tup cs, _, _, h0, h => by
    simp only [VR] at h h0 ⊢
    obtain ⟨vs0, _, k2⟩ := h0
    obtain ⟨vs, h1, h2⟩ := h
    exact ⟨vs, h1, VRs.back hm hz hp cs _ _ k2 h2⟩
theorem VRs.back (hm : m.le m') (hz : m2.z = m'.z) (hp : ∀ id, m2 id = m id) : ∀ (as : List AV) (vs0 vs : List Value), VRs N m as vs0 → VRs N m' as vs → VRs N m2 as vs
  | [], _, _, _, h => by simpa only [VRs] using h
  | a :: as, vs0, vs, h0, h => by
    simp only [VRs] at h h0 ⊢
    obtain ⟨u0, us0, _, k2, k3⟩ := h0
    obtain ⟨u, us, h1, h2, h3⟩ := h
    exact ⟨u, us, h1, VR.back hm hz hp a u0 u k2 h2, VRs.back hm hz hp as us0 us k3 h3⟩
theorem VRe.back (hm : m.le m') (hz : m2.z = m'.z) (hp : ∀ id, m2 id = m id) (w : Nat) : ∀ (as : List AV) (c0 : Array Value) (o0 : Nat) (c : Array Value) (o : Nat), VRe N m w as c0 o0 → VRe N m' w as c o → VRe N m2 w as c o
  | [], _, _, _, _, _, _ => by simp only [VRe]
  | a :: as, c0, o0, c, o, h0, h => by
    simp only [VRe] at h h0 ⊢
    obtain ⟨⟨u0, k1, _⟩, k3⟩ := h0
    obtain ⟨⟨u, h1, h2⟩, h3⟩ := h
    exact ⟨⟨u, VR.back hm hz hp a u0 u k1 h1, h2⟩, VRe.back hm hz hp w as c0 _ c _ k3 h3⟩
end
theorem CellsAt.back (hm : m.le m') (hz : m2.z = m'.z) (hp : ∀ id, m2 id = m id) {c0 c : Array Value} {o0 o : Nat} {cs : List AV} (h0 : CellsAt N m c0 o0 cs) (h : CellsAt N m' c o cs) : CellsAt N m2 c o cs := by
  intro j x hx
  obtain ⟨_, u0, _, q0⟩ := h0 j x hx
  obtain ⟨h1, u, h2, h3⟩ := h j x hx
  exact ⟨h1, u, h2, VR.back hm hz hp x u0 u q0 h3⟩
theorem ObjAt.back (hm : m.le m') (hz : m2.z = m'.z) (hp : ∀ id, m2 id = m id) {p : Place} : ∀ {o : AObj}, ObjAt N m w p o → ObjAt N m' w' p o → ObjAt N m2 w' p o
  | .dead, _, _ => trivial
  | .row _ _ _, ⟨_, _, _, _, _, _, _, _, k6⟩, ⟨h1, h2, c, e, fz, h3, h4, h5, h6⟩ => ⟨h1, h2, c, e, fz, h3, h4, h5, fun i a ha => ⟨(h6 i a ha).1, (k6 i a ha).2.back hm hz hp (h6 i a ha).2⟩⟩
  | .map _, ⟨_, _, _, _, _, k4⟩, ⟨xs, cl, h1, h2, h3, h4⟩ => ⟨xs, cl, h1, h2, h3, fun i k v hk =>
      let ⟨_, _, _, r3, r4⟩ := k4 i k v hk
      let ⟨x, q1, q2, q3, q4⟩ := h4 i k v hk
      ⟨x, q1, q2, VR.back hm hz hp k _ _ r3 q3, VR.back hm hz hp v _ _ r4 q4⟩⟩
theorem HR.drop (hH : HR N m h w) (hH' : HR N m' h' w') (hm : m.le m') (hh : ∀ id o, h id = some o → h' id = some o) : HR N ⟨m.p, m'.z⟩ (h.tomb h') w' where
  at' := fun i o ho => by
    have ho : h i = some o := ho
    obtain ⟨p, h1, _, h3⟩ := hH.at' i o ho
    obtain ⟨p', h1', h2', h3'⟩ := hH'.at' i o (hh i o ho)
    have := hm.1 _ _ h1
    rw [h1'] at this; cases this
    exact ⟨p, h1, h2', h3.back (m2 := ⟨m.p, m'.z⟩) hm rfl (fun _ => rfl) h3'⟩
  none' := fun i hi => by
    refine hH.none' i ⟨hi.1, ?_⟩
    have : (h.tb i || h'.tb i || ((h'.f i).isSome && (h.f i).isNone)) = false := hi.2
    simp only [Bool.or_eq_false_iff] at this
    exact this.1.1
  apart := fun i j o1 o2 p q h1 h2 hw hl hij hp hq => hH'.apart i j o1 o2 p q (hh i o1 h1) (hh j o2 h2) hw hl hij (hm.1 _ _ hp) (hm.1 _ _ hq)
  zz := fun b c hz => by
    obtain ⟨h1, h2⟩ := hH'.zz b c hz
    exact ⟨h1, fun i o p ho hw hp => h2 i o p (hh i o ho) hw (hm.1 _ _ hp)⟩
theorem Fr.drop {B : Nat} (hF : Fr B m h w m' h' w') (hh : ∀ id o, h id = some o → h' id = some o) : Fr B m h w ⟨m.p, m'.z⟩ (h.tomb h') w' where
  os := hF.os
  tape := hF.tape
  output := hF.output
  size := hF.size
  le := ⟨fun _ _ q => q, hF.le.2⟩
  keep := fun b hb hs => ⟨(hF.keep b hb hs).1, fun i o p ho hw hp => (hF.keep b hb hs).2 i o p (hh i o ho) hw (hF.le.1 _ _ hp)⟩
  free := fun b hb hs => ⟨fun i o p ho hl hp => (hF.free b hb hs).1 i o p (hh i o ho) hl (hF.le.1 _ _ hp), (hF.free b hb hs).2⟩
mutual
theorem leaf_VR : ∀ (a : AV) (v : Value), a.leaf = true → VR N m' a v → VR N m2 a v
  | .bool _, _, _, h => by simpa only [VR] using h
  | .int _ _, _, _, h => by simpa only [VR] using h
  | .str _, _, _, h => by simpa only [VR] using h
  | .nilp, _, _, h => by simpa only [VR] using h
  | .nils, _, _, h => by simpa only [VR] using h
  | .nilm, _, _, h => by simpa only [VR] using h
  | .nilf, _, _, h => by simpa only [VR] using h
  | .nili, _, _, h => by simpa only [VR] using h
  | .any, _, ht, _ => by simp [AV.leaf] at ht
  | .ptr _ _ _, _, ht, _ => by simp [AV.leaf] at ht
  | .map _, _, ht, _ => by simp [AV.leaf] at ht
  | .slice _ _ _ _ _, _, ht, _ => by simp [AV.leaf] at ht
  | .lst _ _ _, _, ht, _ => by simp [AV.leaf] at ht
  | .ept _ _, _, ht, _ => by simp [AV.leaf] at ht
  | .fn _ cs, _, ht, h => by
    simp only [VR] at h ⊢
    simp only [AV.leaf] at ht
    obtain ⟨vs, h1, h2⟩ := h
    exact ⟨vs, h1, leaf_VRs cs _ ht h2⟩
  | .iface _ x, _, ht, h => by
    simp only [VR] at h ⊢
    simp only [AV.leaf] at ht
    obtain ⟨u, h1, h2⟩ := h
    exact ⟨u, h1, leaf_VR x u ht h2⟩
  | .agg cs, _, ht, h => by
    simp only [VR] at h ⊢
    simp only [AV.leaf] at ht
    obtain ⟨vs, h1, h2, h3⟩ := h
    exact ⟨vs, h1, leaf_VRs cs _ ht h2, h3⟩
  | .tup cs, _, ht, h => by
    simp only [VR] at h ⊢
    simp only [AV.leaf] at ht
    obtain ⟨vs, h1, h2⟩ := h
    exact ⟨vs, h1, leaf_VRs cs _ ht h2⟩
theorem leaf_VRs : ∀ (as : List AV) (vs : List Value), AV.leafs as = true → VRs N m' as vs → VRs N m2 as vs
  | [], _, _, h => by simpa only [VRs] using h
  | a :: as, vs, ht, h => by
    simp only [VRs] at h ⊢
    simp only [AV.leafs, Bool.and_eq_true] at ht
    obtain ⟨u, us, h1, h2, h3⟩ := h
    exact ⟨u, us, h1, leaf_VR a u ht.1 h2, leaf_VRs as us ht.2 h3⟩
end
theorem All.rows (hK : All h K) : Rows h K := fun i hi => (hK i).1 hi
theorem Fr.lent {B : Nat} (hK : All h K) (hF : Fr B (m.frz K w) (h.kill K) w m' h' w') (hB : w.heap.size ≤ B) : (∀ b, b < w.heap.size → w'.heap[b]? = w.heap[b]?) := by
  intro b hb
  refine (hF.keep b (by omega) fun i o p ho hw hp => ?_).1
  obtain ⟨h1, h2⟩ := kill_some ho (AObj.live_of_wr hw)
  have := (hK i).2 ⟨o, h2, hw⟩
  rw [this] at h1; cases h1
theorem ObjAt.same {p : Place} : ∀ {o : AObj}, (o.live = true → w'.heap[p.b]? = w.heap[p.b]?) → ObjAt N m w p o → ObjAt N m w' p o
  | .dead, _, _ => trivial
  | .row _ _ _, hw, ⟨h1, h2, c, e, fz, h3, h4⟩ => ⟨h1, h2, c, e, fz, by rw [hw rfl]; exact h3, h4⟩
  | .map _, hw, ⟨xs, cl, h1, h2⟩ => ⟨xs, cl, by rw [hw rfl]; exact h1, h2⟩
theorem HR.lent (hH : HR N m h w) (hw : ∀ b, b < w.heap.size → w'.heap[b]? = w.heap[b]?) (hs : w.heap.size ≤ w'.heap.size) : HR N m (h.tomb h') w' where
  at' := fun i o ho => by
    obtain ⟨p, h1, h2, h3⟩ := hH.at' i o ho
    exact ⟨p, h1, fun hl => Nat.lt_of_lt_of_le (h2 hl) hs, h3.same fun hl => hw _ (h2 hl)⟩
  none' := fun i hi => by
    refine hH.none' i ⟨hi.1, ?_⟩
    have : (h.tb i || h'.tb i || ((h'.f i).isSome && (h.f i).isNone)) = false := hi.2
    simp only [Bool.or_eq_false_iff] at this
    exact this.1.1
  apart := fun i j o1 o2 p q h1 h2 => hH.apart i j o1 o2 p q h1 h2
  zz := fun b c hz => by
    obtain ⟨⟨e, fz, h1⟩, h2⟩ := hH.zz b c hz
    have hb : b < w.heap.size := (Array.getElem?_eq_some_iff.1 h1).1
    exact ⟨⟨e, fz, by rw [hw b hb]; exact h1⟩, h2⟩
theorem conv_VRs (hH : HR N m h w) (hK : Rows h K) : ∀ {as as' : List AV} {us : List Value}, as.length = as'.length → (∀ p ∈ as.zip as', Conv h K p.1 p.2) → VRs N m as us → VRs N (m.frz K w) as' us
  | [], [], _, _, _, h => by simpa only [VRs] using h
  | a :: as, b :: bs, us, hl, hc, h => by
    simp only [VRs] at h ⊢
    obtain ⟨u, us, h1, h2, h3⟩ := h
    exact ⟨u, us, h1, conv_VR hH hK (hc (a, b) (by simp)) h2, conv_VRs hH hK (by simpa using hl) (fun p hp => hc p (by simp only [List.zip_cons_cons]; exact List.mem_cons_of_mem _ hp)) h3⟩
  | [], _ :: _, _, hl, _, _ => by simp at hl
  | _ :: _, [], _, hl, _, _ => by simp at hl
end
section
variable {S : Seat} {m : Mp} {L : List Nat} {n B : Nat} {st st' : St} {a : Act} {w : World} {K : List Nat}
theorem FR.frz (hf : FR S m L n B st a w) (hz : Frz K st st') : FR S (m.frz K w) L n B st' a w where
  heap := by rw [hz.h]; exact hf.heap.frz hz.rows
  slots := fun t v ht hL => by
    obtain ⟨v0, h1, h2⟩ := hz.s t v ht
    exact conv_VR hf.heap hz.rows h2 (hf.slots t v0 h1 hL)
  locs := fun t c hc => by
    obtain ⟨c0, h1, h2⟩ := hz.l t c hc
    obtain ⟨hL, b, g1, ⟨cs, e, fz, g2, g3, g4, g5⟩, g6, g7⟩ := hf.locs t c0 h1
    refine ⟨hL, b, g1, ⟨cs, e, fz, g2, by rw [h2.cellsLen]; exact g3, g4, fun j y hy => ?_⟩, by rw [hz.h]; exact g6.frz hz.rows, g7⟩
    obtain ⟨y0, q1, q2⟩ := h2.cell hy
    obtain ⟨q3, u, q4, q5⟩ := g5 j y0 q1
    exact ⟨by rw [q2.scalar]; exact q3, u, q4, conv_VR hf.heap hz.rows q2 q5⟩
  sep := fun t t' c c' b hc hc' h1 h2 => by
    obtain ⟨_, q1, _⟩ := hz.l t c hc
    obtain ⟨_, q2, _⟩ := hz.l t' c' hc'
    exact hf.sep t t' _ _ b q1 q2 h1 h2
  defers := hf.defers
  size := hf.size
  base := hf.base
end
end Go.Ab
namespace Go.Ab
open Go
def nopsGo (S : Seat) (L : List Nat) (ops : Array Oper) : List AOper → List NopE → List NopE
  | [], acc => acc
  | c :: l, acc => nopsGo S L ops l (if isNop c.o then (match ops[c.i]? with
    | some o => (match nopVal S L acc o, o.dst with
      | some (t, off), some d => acc ++ [⟨c.i, d, t, off, c.g⟩]
      | _, _ => acc)
    | none => acc) else acc)
def mCode (S : Seat) (L : List Nat) (n : Nat) : ACode → Code → Bool
  | .skip, .skip => true
  | .skip, .label _ => true
  | .reg pan l, .region _ ops draw => regOK S L n (nopsGo S L ops l []) pan draw l ops
  | .seq a b, .seq c d => mCode S L n a c && mCode S L n b d
  | .cond x a b, .cond y c d => mAo S.N L x y && mCode S L n a c && mCode S L n b d
  | .blk i a, .block id c => i == id && mCode S L n a c
  | .loop a, .loop c => mCode S L n a c
  | .exit i, .exit id => i == id
  | .ret, .ret => true
  | _, _ => false
variable {Γ : Nat → Option AFn} {kk : Nat}
theorem ops_inv {j : Job} {o : Out} (h : Ex Γ kk j o) : ∀ l st e st', j = .ops l st → o = .st e st' → (pan : Bool) → (pan = true ∨ e = .nrm) → RunO Γ kk pan l st e st' := by
  induction h with
  | nil => rintro l st e st' ⟨⟩ ⟨⟩ pan hp; exact .nrm rfl
  | @skip k c l0 st0 r hw h ih =>
    rintro l st e st' ⟨⟩ ho pan hp
    have hs : St1 Γ k c st0 (st0.put c.d .undef) := ⟨.inl ⟨hw, rfl⟩, fun h => by rw [hw] at h; cases h⟩
    cases ih _ _ _ _ rfl ho pan hp with
    | nrm h => exact .nrm ⟨_, hs, h⟩
    | @pan l1 c' l2 s1 v h' hp' hl h2 hw' hc => exact .pan (l1 := c :: l1) hp' (by rw [hl]; rfl) ⟨_, hs, h2⟩ hw' hc
  | @step k c l0 st0 st1 r hw hs' hck h ih =>
    rintro l st e st' ⟨⟩ ho pan hp
    have hs : St1 Γ k c st0 st1 := ⟨.inr ⟨hw, .inl hs'⟩, fun _ => hck⟩
    cases ih _ _ _ _ rfl ho pan hp with
    | nrm h => exact .nrm ⟨_, hs, h⟩
    | @pan l1 c' l2 s1 v h' hp' hl h2 hw' hc => exact .pan (l1 := c :: l1) hp' (by rw [hl]; rfl) ⟨_, hs, h2⟩ hw' hc
  | @call k c l0 st0 g as v h' r hw hce hk hck h ih1 ih =>
    rintro l st e st' ⟨⟩ ho pan hp
    have hs : St1 Γ k c st0 (({ st0 with h := h' } : St).put c.d v) := ⟨.inr ⟨hw, .inr ⟨g, as, v, h', hce, hk, rfl⟩⟩, fun _ => hck⟩
    cases ih _ _ _ _ rfl ho pan hp with
    | nrm h => exact .nrm ⟨_, hs, h⟩
    | @pan l1 c' l2 s1 v h' hp' hl h2 hw' hc => exact .pan (l1 := c :: l1) hp' (by rw [hl]; rfl) ⟨_, hs, h2⟩ hw' hc
  | @callP k c l0 st0 g as v h' hw hce hk =>
    rintro l st e st' ⟨⟩ ⟨⟩ pan hp
    exact .pan (l1 := []) (by simpa using hp) rfl rfl hw (.inl ⟨g, as, hce, hk⟩)
  | @panic k c l0 st0 x t v hw hce hv =>
    rintro l st e st' ⟨⟩ ⟨⟩ pan hp
    exact .pan (l1 := []) (s1 := st0) (h' := st0.h) (by simpa using hp) rfl rfl hw (.inr ⟨x, t, v, hce, rfl, hv, rfl⟩)
  | _ => rintro l st e st' ⟨⟩
def Qx (S : Seat) (L : List Nat) (n B : Nat) (m0 : Mp) (h0 : AH) (w0 : World) (e : AExit) (st : St) : Exit → Act → World → Prop
  | .normal, a, w => e = .nrm ∧ ∃ m, FR S m L n B st a w ∧ Fr B m0 h0 w0 m st.h w
  | .exit i, a, w => e = .exit i ∧ ∃ m, FR S m L n B st a w ∧ Fr B m0 h0 w0 m st.h w
  | .ret, a, w => e = .ret ∧ ∃ m, FR S m L n B st a w ∧ Fr B m0 h0 w0 m st.h w
  | .panic ch, a, w => a.defers = [] ∧ ∃ v u m, e = .pan v ∧ ch = [{ v := u, recovered := false }] ∧ HR S.N m st.h w ∧ Fr B m0 h0 w0 m st.h w ∧ VR S.N m v u
  | _, _, _ => False
def Qa (S : Seat) (L : List Nat) (n B : Nat) (m0 : Mp) (h0 : AH) (w0 : World) (e : AExit) (st : St) (Q : Exit → Act → World → Prop) : Prop :=
  ∀ x a w, Qx S L n B m0 h0 w0 e st x a w → Q x a w
def LoopWp (P : Program) (c : Code) (Q : Exit → Act → World → Prop) (a : Act) (w : World) : Prop :=
  ∀ (b : Frame) (k : List Item) (cs : List Frame), ∃ e a' w', Q e a' w' ∧ Arrives P (lone (b.at a (.code c :: .inLoop c :: k)) cs w) b k cs e a' w'
def WP' (P : Program) (c : Code) (Q : Exit → Act → World → Prop) (a : Act) (w : World) : Prop := match c with
  | .loop c => LoopWp P c Q a w
  | c => c.wp P Q a w
theorem WP'.wp {P : Program} {c : Code} {Q : Exit → Act → World → Prop} {a : Act} {w : World} (h : WP' P c Q a w) : c.wp P Q a w := by
  cases c with
  | loop c => exact fun b k cs => let ⟨e, a', w', q, r⟩ := h b k cs; ⟨e, a', w', q, .of_steps (.one step_loop) r⟩
  | _ => exact h
theorem LoopWp.step {P : Program} {Q : Exit → Act → World → Prop} {a : Act} {w : World} {c : Code} (h : c.wp P (Exit.then (LoopWp P c Q) Q) a w) : LoopWp P c Q a w := by
  intro b k cs
  obtain ⟨e, a₁, w₁, hq, harr⟩ := h b (.inLoop c :: k) cs
  cases e with
  | normal =>
    obtain ⟨e₂, a₂, w₂, hq₂, harr₂⟩ := hq b k cs
    exact ⟨e₂, a₂, w₂, hq₂, .of_steps (Steps.trans harr (.one step_inLoop)) harr₂⟩
  | exit id => exact ⟨_, a₁, w₁, hq, .pass (x := .inLoop c) rfl (fun _ _ => .inl (by simp)) harr⟩
  | goto l => exact ⟨_, a₁, w₁, hq, .pass (x := .inLoop c) rfl (fun _ _ => .inl (by simp)) harr⟩
  | ret => exact ⟨_, a₁, w₁, hq, .pass (x := .inLoop c) rfl (fun _ _ => .inl (by simp)) harr⟩
  | panic ch => exact ⟨_, a₁, w₁, hq, .pass (x := .inLoop c) rfl (fun _ _ => .inl (by simp)) harr⟩
  | outgrown => exact ⟨_, a₁, w₁, hq, .pass (x := .inLoop c) rfl (fun _ _ => .inl (by simp)) harr⟩
section
variable {S : Seat} {L : List Nat} {n B : Nat}
theorem code_sim (hG : GOK Γ) (hK : Known S Γ) (hcs : CallSim S Γ kk) {m0 : Mp} {h0 : AH} {w0 : World} {j : Job} {o : Out} (h : Ex Γ kk j o) :
    ∀ c st e st', j = .code c st → o = .st e st' → ∀ {code : Code} {a : Act} {w : World} {m : Mp} {Q : Exit → Act → World → Prop}, mCode S L n c code = true → FR S m L n B st a w → Fr B m0 h0 w0 m st.h w →
      Qa S L n B m0 h0 w0 e st' Q → WP' S.P code Q a w := by
  induction h with
  | cskip =>
    rintro c st e st' ⟨⟩ ⟨⟩ code a w m Q hm hf hfr hQ
    cases code <;> simp only [mCode, Bool.false_eq_true] at hm
    · exact wp_skip (hQ _ _ _ ⟨rfl, m, hf, hfr⟩)
    · exact wp_label (hQ _ _ _ ⟨rfl, m, hf, hfr⟩)
  | @reg k pan l st0 e0 st1 h hp ih =>
    rintro c st e st' ⟨⟩ ⟨⟩ code a w m Q hm hf hfr hQ
    cases code <;> simp only [mCode, Bool.false_eq_true] at hm
    rename_i id ops draw
    have hr := ops_inv h _ _ _ _ rfl rfl pan hp
    have q1 : e0 = .nrm → ∀ a' w' m', FR S m' L n B st1 a' w' → Fr B m0 h0 w0 m' st1.h w' → Q .normal a' w' := fun he a' w' m' q1 q2 => hQ _ _ _ ⟨he, m', q1, q2⟩
    have q2 : ∀ v, e0 = .pan v → ∀ a' w' m' u, a'.defers = [] → HR S.N m' st1.h w' → Fr B m0 h0 w0 m' st1.h w' → VR S.N m' v u → Q (.panic [{ v := u, recovered := false }]) a' w' :=
      fun v he a' w' m' u q0 q1 q2 q3 => hQ _ _ _ ⟨q0, v, u, m', he, rfl, q1, q2, q3⟩
    cases draw with
    | false =>
      have hm0 := hm
      unfold regOK at hm
      simp only [Bool.false_eq_true, if_false, Bool.and_eq_true] at hm
      obtain ⟨h1, h2⟩ := hm
      unfold regSeq at h2
      simp only [Bool.and_eq_true, beq_iff_eq] at h2
      obtain ⟨⟨⟨h3, h4⟩, h5⟩, h6⟩ := h2
      refine wp_region ?_
      have e1 : List.range ops.size = l.map (·.i) := by rw [← h3]; exact (idxs_range h4).symm
      rw [e1]
      exact region_seq hG hK hcs q1 q2 h4 h1 h5 h6 hf (fun e _ hlt => by omega) hfr hr
    | true =>
      have hR := regD_of hm
      refine wp_region_any S.mixed ?_
      have hl : left (Array.replicate ops.size false) l = l := by
        refine List.filter_eq_self.2 fun c hc => ?_
        have := hR.rng c hc
        simp [Array.getD, this]
      have hlen : l.length ≤ ops.size := len_le hR
      refine region_any hG hK hcs hR q1 q2 ops.size (by simp) (by rw [hl]; exact hlen) ?_ hf.drew (fun e _ hlt => ?_) (hfr.trans Fr.drew) (by rw [hl]; exact hr)
      · intro x o hx
        simp [Array.getD] at hx
      · simp [Array.getD] at hlt
  | @seqN k a0 b0 st0 st1 r h h' ih1 ih2 =>
    rintro c st e st' ⟨⟩ rfl code a w m Q hm hf hfr hQ
    cases code <;> simp only [mCode, Bool.false_eq_true, Bool.and_eq_true] at hm
    refine wp_seq (ih1 hcs _ _ _ _ rfl rfl hm.1 hf hfr ?_).wp
    rintro x a1 w1 hx
    cases x <;> simp only [Qx, reduceCtorEq, false_and, and_false, exists_false] at hx
    · obtain ⟨_, m1, q1, q2⟩ := hx
      exact (ih2 hcs _ _ _ _ rfl rfl hm.2 q1 q2 hQ).wp
    all_goals try (obtain ⟨_, _, _, _, q, _⟩ := hx; cases q)
  | @seqX k a0 b0 st0 e0 st1 h he ih =>
    rintro c st e st' ⟨⟩ ⟨⟩ code a w m Q hm hf hfr hQ
    cases code <;> simp only [mCode, Bool.false_eq_true, Bool.and_eq_true] at hm
    refine wp_seq (ih hcs _ _ _ _ rfl rfl hm.1 hf hfr ?_).wp
    rintro x a1 w1 hx
    have := hQ x a1 w1 hx
    cases x with
    | normal => exact absurd hx.1 he
    | _ => exact this
  | @cond k c0 a0 b0 st0 t r hc h ih =>
    rintro c st e st' ⟨⟩ rfl code a w m Q hm hf hfr hQ
    cases code <;> simp only [mCode, Bool.false_eq_true, Bool.and_eq_true] at hm
    have hv := mAo_VR (a := a) hm.1.1 hf.slots hc
    simp only [VR] at hv
    refine wp_cond hv ?_
    cases t with
    | true => exact (ih hcs _ _ _ _ rfl rfl hm.1.2 hf hfr hQ).wp
    | false => exact (ih hcs _ _ _ _ rfl rfl hm.2 hf hfr hQ).wp
  | @blk k i a0 st0 e0 st1 h ih =>
    rintro c st e st' ⟨⟩ ⟨⟩ code a w m Q hm hf hfr hQ
    cases code <;> simp only [mCode, Bool.false_eq_true, Bool.and_eq_true, beq_iff_eq] at hm
    obtain ⟨rfl, hm⟩ := hm
    refine wp_block (ih hcs _ _ _ _ rfl rfl hm hf hfr ?_).wp
    rintro x a1 w1 hx
    cases x with
    | normal =>
      obtain ⟨rfl, q⟩ := hx
      exact hQ _ _ _ ⟨rfl, q⟩
    | exit i' =>
      obtain ⟨rfl, q⟩ := hx
      simp only [Exit.inBlock]
      split
      · rename_i hi
        exact hQ _ _ _ ⟨by simp [blkExit, hi], q⟩
      · rename_i hi
        exact hQ _ _ _ ⟨by simp [blkExit, hi], q⟩
    | ret =>
      obtain ⟨rfl, q⟩ := hx
      exact hQ _ _ _ ⟨rfl, q⟩
    | panic ch =>
      obtain ⟨hd, v, u, m1, rfl, q⟩ := hx
      exact hQ _ _ _ ⟨hd, v, u, m1, rfl, q⟩
    | goto l => exact hx.elim
    | outgrown => exact hx.elim
  | @loopN k a0 st0 st1 r h h' ih1 ih2 =>
    rintro c st e st' ⟨⟩ rfl code a w m Q hm hf hfr hQ
    cases code <;> simp only [mCode, Bool.false_eq_true] at hm
    rename_i body
    refine LoopWp.step (ih1 hcs _ _ _ _ rfl rfl hm hf hfr ?_).wp
    rintro x a1 w1 hx
    cases x <;> simp only [Qx, reduceCtorEq, false_and, and_false, exists_false] at hx
    · obtain ⟨_, m1, q1, q2⟩ := hx
      exact ih2 hcs _ _ _ _ rfl rfl (code := .loop body) (by simpa only [mCode] using hm) q1 q2 hQ
    all_goals try (obtain ⟨_, _, _, _, q, _⟩ := hx; cases q)
  | @loopX k a0 st0 e0 st1 h he ih =>
    rintro c st e st' ⟨⟩ ⟨⟩ code a w m Q hm hf hfr hQ
    cases code <;> simp only [mCode, Bool.false_eq_true] at hm
    refine LoopWp.step (ih hcs _ _ _ _ rfl rfl hm hf hfr ?_).wp
    rintro x a1 w1 hx
    have := hQ x a1 w1 hx
    cases x with
    | normal => exact absurd hx.1 he
    | _ => exact this
  | exit =>
    rintro c st e st' ⟨⟩ ⟨⟩ code a w m Q hm hf hfr hQ
    cases code <;> simp only [mCode, Bool.false_eq_true, beq_iff_eq] at hm
    subst hm
    exact wp_exit (hQ _ _ _ ⟨rfl, m, hf, hfr⟩)
  | ret =>
    rintro c st e st' ⟨⟩ ⟨⟩ code a w m Q hm hf hfr hQ
    cases code <;> simp only [mCode, Bool.false_eq_true] at hm
    exact wp_ret (hQ _ _ _ ⟨rfl, m, hf, hfr⟩)
  | @frz k c0 st0 st1 r K hz h ih =>
    rintro c st e st' ⟨⟩ rfl code a w m Q hm hf hfr hQ
    have hfr' : Fr B m0 h0 w0 (m.frz K w) st1.h w := by
      rw [hz.h]; exact hfr.trans (Fr.frz hz.rows)
    exact ih hcs _ _ _ _ rfl rfl hm (hf.frz hz) hfr' hQ
  | _ => rintro c st e st' ⟨⟩
where
  idxs_range : ∀ {l : List AOper}, idxs l 0 = true → l.map (·.i) = List.range l.length := by
    intro l h
    have : ∀ (l : List AOper) (k : Nat), idxs l k = true → l.map (·.i) = List.range' k l.length := by
      intro l
      induction l with
      | nil => intro k _; rfl
      | cons c l ih =>
        intro k h
        simp only [idxs, Bool.and_eq_true, beq_iff_eq] at h
        rw [List.map_cons, List.length_cons, List.range'_succ, ih _ h.2, h.1]
    rw [this l 0 h, List.range_eq_range']
  len_le : ∀ {S : Seat} {L : List Nat} {n : Nat} {ns : List NopE} {pan : Bool} {l : List AOper} {ops : Array Oper}, RegD S L n ns pan l ops → l.length ≤ ops.size := by
    intro S L n ns pan l ops hR
    have hnd : (l.map (·.i)).Nodup := by
      rw [List.nodup_iff_pairwise_ne, List.pairwise_map]
      refine hR.pair.imp fun {y d} h => ?_
      unfold pairF at h
      simp only [Bool.and_eq_true, Bool.not_eq_true', beq_eq_false_iff_ne] at h
      exact h.1.1
    have hsub : (l.map (·.i)) ⊆ List.range ops.size := by
      intro i hi
      obtain ⟨c, hc, rfl⟩ := List.mem_map.1 hi
      exact List.mem_range.2 (hR.rng c hc)
    have := nodup_len hnd hsub
    simpa using this
  nodup_len : ∀ {xs ys : List Nat}, xs.Nodup → xs ⊆ ys → xs.length ≤ ys.length := by
    intro xs
    induction xs with
    | nil => intro ys _ _; simp
    | cons x xs ih =>
      intro ys hn hs
      rw [List.nodup_cons] at hn
      have hx : x ∈ ys := hs List.mem_cons_self
      have h1 : xs ⊆ ys.erase x := by
        intro y hy
        have : y ≠ x := by rintro rfl; exact hn.1 hy
        exact (List.mem_erase_of_ne this).2 (hs (List.mem_cons_of_mem _ hy))
      have := ih hn.2 h1
      rw [List.length_erase_of_mem hx] at this
      have hpos : 0 < ys.length := List.length_pos_of_mem hx
      simp only [List.length_cons]
      omega
end
end Go.Ab
namespace Go.Ab
open Go
def mRes (S : Seat) (L : List Nat) : ARes → ResultVar → Bool
  | .t n, .tmp t => n == t && !mem L t
  | .l n sh, .cell t T => n == t && mShape S T sh
  | .h n sh, .cell t T => n == t && !mem L t && mShape S T sh
  | _, _ => false
def mRess (S : Seat) (L : List Nat) : List ARes → List ResultVar → Bool
  | [], [] => true
  | x :: xs, y :: ys => mRes S L x y && mRess S L xs ys
  | _, _ => false
def locsOf : ACode → List Nat
  | .reg _ l => l.filterMap fun c => if isLocW c.o then c.d else none
  | .seq a b => locsOf a ++ locsOf b
  | .cond _ a b => locsOf a ++ locsOf b
  | .blk _ a => locsOf a
  | .loop a => locsOf a
  | _ => []
def mFun (S : Seat) (F : AFun) (fn : Func) : Bool := match fn.body with
  | some c => decide (F.np ≤ fn.ntmps) && mRess S (locsOf F.body) F.res fn.results.toList && mCode S (locsOf F.body) fn.ntmps F.body c
  | none => false
section
variable {S : Seat} {m : Mp} {L : List Nat} {n B : Nat} {st : St} {a : Act} {w : World}
theorem mRes_run (hf : FR S m L n B st a w) {x : ARes} {y : ResultVar} {v : AV} (h : mRes S L x y = true) (hv : resOf st x = some v) :
    ∃ u, (match y with
      | .tmp t => pure (a.tmps.getD t undef)
      | .cell b t => do loadVar t (← asAddr (a.tmps.getD b undef)) : Sem Value).run S.P w = .ok u w ∧ VR S.N m v u := by
  cases x <;> cases y <;> simp only [mRes, Bool.false_eq_true, Bool.and_eq_true, beq_iff_eq, Bool.not_eq_true'] at h
  case t.tmp t t' =>
    obtain ⟨rfl, h2⟩ := h
    simp only [resOf] at hv
    exact ⟨_, rfl, hf.slots _ _ hv (mem_not.1 h2)⟩
  case l.cell t sh t' T =>
    obtain ⟨rfl, h2⟩ := h
    simp only [resOf] at hv
    cases hlk : lk st.l t with
    | none => simp [hlk] at hv
    | some c =>
      simp only [hlk, Option.bind_some] at hv
      obtain ⟨_, b, h1, ⟨cs, e, fz, hb, _, _, hcs⟩, _⟩ := hf.locs t c hlk
      obtain ⟨u, hu, hr⟩ := run_loadVar (S := S) (t := T) (sh := sh) (o := 0) (j := 0) hb hcs hv h2
      refine ⟨u, ?_, hr⟩
      have : a.tmps.getD t undef = .pointer (some ⟨b, 0, none⟩) := by simp [Array.getD_eq_getD_getElem?, h1]
      simp [this, asAddr, Sem.run_bind, hu]
  case h.cell t sh t' T =>
    obtain ⟨⟨rfl, h1⟩, h2⟩ := h
    simp only [resOf] at hv
    split at hv
    · rename_i id i j hp
      split at hv
      · rename_i w' el rw' ho
        cases hel : el[i]? with
        | none => simp [hel] at hv
        | some e =>
          simp only [hel, Option.bind_some] at hv
          have hp' := hf.slots _ _ hp (mem_not.1 h1)
          obtain ⟨u, hu, hr⟩ := sim_load (t := T) hf.heap h2 hp' ho hel hv
          obtain ⟨p, _, hq⟩ := hp'.ptr_inv
          refine ⟨u, ?_, hr⟩
          rw [hq] at hu
          simp only [hq]
          simpa [asAddr, Instr.loadAt, Instr.sureAddr, Sem.run_bind] using hu
      · cases hv
    · cases hv
theorem mRess_run (hf : FR S m L n B st a w) : ∀ {xs : List ARes} {ys : List ResultVar} {vs : List AV}, mRess S L xs ys = true → resAll st xs = some vs →
    ∃ us, (ys.mapM (fun | .tmp t => pure (a.tmps.getD t undef) | .cell b t => do loadVar t (← asAddr (a.tmps.getD b undef)) : ResultVar → Sem Value)).run S.P w = .ok us w ∧ VRs S.N m vs us
  | [], [], vs, _, h => by
    simp only [resAll, Option.some.injEq] at h
    subst h
    exact ⟨[], by simp, by simp only [VRs]⟩
  | [], _ :: _, _, h, _ => by simp [mRess] at h
  | _ :: _, [], _, h, _ => by simp [mRess] at h
  | x :: xs, y :: ys, vs, h, hv => by
    simp only [mRess, Bool.and_eq_true] at h
    simp only [resAll] at hv
    split at hv
    · rename_i v vs' h1 h2
      simp only [Option.some.injEq] at hv
      subst hv
      obtain ⟨u, hu, hr⟩ := mRes_run hf h.1 h1
      obtain ⟨us, hus, hrs⟩ := mRess_run hf h.2 h2
      refine ⟨u :: us, ?_, by simp only [VRs]; exact ⟨u, us, rfl, hr, hrs⟩⟩
      rw [List.mapM_cons]
      simp only [Sem.run_bind]
      cases y with
      | tmp t =>
        simp only at hu ⊢
        rw [hu]
        simp only [Result.andThen_ok, Sem.run_bind]
        rw [hus]
        rfl
      | cell b t =>
        simp only at hu ⊢
        rw [hu]
        simp only [Result.andThen_ok, Sem.run_bind]
        rw [hus]
        rfl
    · cases hv
theorem results_run (hf : FR S m L n B st a w) {fn : Func} {xs : List ARes} {vs : List AV} (h : mRess S L xs fn.results.toList = true) (hv : resAll st xs = some vs) :
    ∃ u, (results fn a.tmps).run S.P w = .ok u w ∧ VR S.N m (packed vs) u := by
  obtain ⟨us, hus, hr⟩ := mRess_run hf h hv
  have hlen := hr.length
  unfold results
  rw [Array.mapM_eq_mapM_toList]
  simp only [Sem.run_bind, map_eq_pure_bind]
  erw [hus]
  simp only [Result.andThen_ok, Sem.run_pure]
  cases vs with
  | nil =>
    have : us = [] := List.length_eq_zero_iff.1 (by simpa using hlen.symm)
    subst this
    exact ⟨_, rfl, by simp only [packed, VR, VRs]; exact ⟨#[], by simp, rfl⟩⟩
  | cons v vs =>
    simp only [VRs] at hr
    obtain ⟨u, us', rfl, h1, h2⟩ := hr
    cases vs with
    | nil =>
      simp only [VRs] at h2
      subst h2
      exact ⟨_, rfl, by simpa [packed] using h1⟩
    | cons v2 vs =>
      simp only [VRs] at h2
      obtain ⟨u2, us2, rfl, h3, h4⟩ := h2
      refine ⟨_, rfl, ?_⟩
      simp only [packed, VR]
      refine ⟨(u :: u2 :: us2).toArray, by simp, ?_⟩
      simp only [VRs]
      exact ⟨u, _, rfl, h1, u2, us2, rfl, h3, h4⟩
theorem FR.enter {h : AH} {as : List AV} {vs : Array Value} (hH : HR S.N m h w) (hvs : VRs S.N m as vs.toList) (hn : as.length ≤ n) (L : List Nat) :
    FR S m L n w.heap.size { s := params 0 as, l := Env.empty, h := h } { tmps := vs ++ Array.replicate (n - vs.size) undef, defers := [] } w where
  heap := hH
  slots := by
    intro t v ht _
    have hp : ∀ (as : List AV) (us : List Value) (k : Nat), VRs S.N m as us → lk (params k as) t = some v → k ≤ t ∧ ∃ u, us[t - k]? = some u ∧ VR S.N m v u := by
      intro as
      induction as with
      | nil => intro us k _ h; cases h
      | cons a as ih =>
        intro us k h hl
        simp only [VRs] at h
        obtain ⟨u, us', rfl, h1, h2⟩ := h
        simp only [params, lk_set] at hl
        split at hl
        · rename_i hk
          subst hk
          cases hl
          exact ⟨Nat.le_refl _, u, by simp, h1⟩
        · obtain ⟨q1, u', q2, q3⟩ := ih us' (k + 1) h2 hl
          refine ⟨by omega, u', ?_, q3⟩
          have : t - k = (t - (k + 1)) + 1 := by omega
          rw [this, List.getElem?_cons_succ]; exact q2
    obtain ⟨_, u, h1, h2⟩ := hp as vs.toList 0 hvs ht
    have h3 : vs[t]? = some u := by simpa using h1
    have hlt : t < vs.size := by
      rcases Nat.lt_or_ge t vs.size with h | h
      · exact h
      · rw [Array.getElem?_eq_none h] at h3; cases h3
    have h4 : (vs ++ Array.replicate (n - vs.size) undef)[t]? = some u := by rw [Array.getElem?_append_left hlt]; exact h3
    simp only [Array.getD_eq_getD_getElem?]
    rw [h4]
    exact h2
  locs := fun t c h => by cases h
  sep := fun t t' c c' b h => by cases h
  defers := rfl
  size := by
    have := hvs.length
    simp only [Array.size_append, Array.size_replicate]
    simp only [Array.length_toList] at this
    omega
  base := Nat.le_refl _
end
structure Fits (S : Seat) (Γ : Nat → Option AFn) : Prop where
  fn : ∀ g F, Γ g = some (.fn F) → ∃ fn, S.P.funcs[S.N.f g]? = some fn ∧ mFun S F fn = true
  ext : ∀ g R, Γ g = some (.ext R) → ∀ as h r h', R as h r h' → ∀ m w (vs : Array Value), HR S.N m h w → VRs S.N m as vs.toList →
    Calls S.P (S.N.f g) vs w fun e w' => ∃ m', Fr w.heap.size m h w m' h' w' ∧ HR S.N m' h' w' ∧ (match r with
      | .ok v => ∃ u, e = .returned u ∧ VR S.N m' v u
      | .pan v => ∃ u, e = .panicked [{ v := u, recovered := false }] ∧ VR S.N m' v u)
theorem call_one {S : Seat} {Γ : Nat → Option AFn} (hG : GOK Γ) (hK : Known S Γ) (hF : Fits S Γ) {kk : Nat} (ih : ∀ k, k < kk → CallSim S Γ k) {j : Job} {o : Out} (hx : Ex Γ kk j o) :
    ∀ g as h r h', j = .call g as h → o = .res r h' → ∀ m w (vs : Array Value), HR S.N m h w → VRs S.N m as vs.toList →
    Calls S.P (S.N.f g) vs w fun e w' => ∃ m', Fr w.heap.size m h w m' h' w' ∧ HR S.N m' h' w' ∧ (match r with
      | .ok v => ∃ u, e = .returned u ∧ VR S.N m' v u
      | .pan v => ∃ u, e = .panicked [{ v := u, recovered := false }] ∧ VR S.N m' v u) := by
  induction hx with
  | ext hg hr =>
    rintro g as h r h' ⟨⟩ ⟨⟩ m w vs hH hvs
    exact hF.ext _ _ hg _ _ _ _ hr m w vs hH hvs
  | @fn k g F as h st e us hg hn hb he hr =>
    rintro g as h r h' ⟨⟩ ⟨⟩ m w vs hH hvs
    obtain ⟨fn, hfn, hm⟩ := hF.fn g F hg
    unfold mFun at hm
    cases hbody : fn.body with
    | none => simp [hbody] at hm
    | some c =>
      simp only [hbody, Bool.and_eq_true, decide_eq_true_eq] at hm
      obtain ⟨⟨h1, h2⟩, h3⟩ := hm
      refine calls_of_wp hfn hbody ?_
      refine (code_sim hG hK (ih k (Nat.lt_succ_self k)) hb _ _ _ _ rfl rfl h3 (FR.enter hH hvs (by omega) (locsOf F.body)) (Fr.refl _ _ _ _) ?_).wp
      have key : ∀ x a' w', (x = .normal ∨ x = .ret) → (∃ m', FR S m' (locsOf F.body) fn.ntmps w.heap.size st a' w' ∧ Fr w.heap.size m h w m' st.h w') → bodyPost S.P fn (fun e w' => ∃ m', Fr w.heap.size m h w m' st.h w' ∧ HR S.N m' st.h w' ∧ ∃ u, e = .returned u ∧ VR S.N m' (packed us) u) x a' w' := by
        rintro x a' w' hxx ⟨m', q1, q2⟩
        obtain ⟨u, hu, hv⟩ := results_run q1 h2 hr
        rcases hxx with rfl | rfl
        · exact ⟨q1.defers, u, hu, m', q2, q1.heap, u, rfl, hv⟩
        · exact ⟨q1.defers, u, hu, m', q2, q1.heap, u, rfl, hv⟩
      intro x a' w' hq
      cases x with
      | normal => exact key _ a' w' (.inl rfl) hq.2
      | ret => exact key _ a' w' (.inr rfl) hq.2
      | exit i => obtain ⟨q, _⟩ := hq; rcases he with rfl | rfl <;> cases q
      | goto l => exact hq.elim
      | panic ch => obtain ⟨_, v, u, m', q, _⟩ := hq; rcases he with rfl | rfl <;> cases q
      | outgrown => exact hq.elim
  | @fnP k g F as h st v hg hn hb =>
    rintro g as h r h' ⟨⟩ ⟨⟩ m w vs hH hvs
    obtain ⟨fn, hfn, hm⟩ := hF.fn g F hg
    unfold mFun at hm
    cases hbody : fn.body with
    | none => simp [hbody] at hm
    | some c =>
      simp only [hbody, Bool.and_eq_true, decide_eq_true_eq] at hm
      obtain ⟨⟨h1, h2⟩, h3⟩ := hm
      refine calls_of_wp hfn hbody ?_
      refine (code_sim hG hK (ih k (Nat.lt_succ_self k)) hb _ _ _ _ rfl rfl h3 (FR.enter hH hvs (by omega) (locsOf F.body)) (Fr.refl _ _ _ _) ?_).wp
      intro x a' w' hq
      cases x with
      | panic ch =>
        obtain ⟨q0, v', u, m', q, rfl, q1, q2, q3⟩ := hq
        cases q
        exact ⟨q0, m', q2, q1, u, rfl, q3⟩
      | normal => cases hq.1
      | ret => cases hq.1
      | exit i => cases hq.1
      | goto l => exact hq.elim
      | outgrown => exact hq.elim
  | @frzA k g as as' h r K hR hl hc hx ihx =>
    rintro g as h r h' ⟨⟩ rfl m w vs hH hvs
    refine Calls.mono (ihx ih _ _ _ _ _ rfl rfl (m.frz K w) w vs (hH.frz hR) (conv_VRs hH hR hl hc hvs)) ?_
    rintro e w' ⟨m', h1, h2, h3⟩
    exact ⟨m', (Fr.frz hR).trans h1, h2, h3⟩
  | @frzR k g as h v v' h' K hR hc hx ihx =>
    rintro g as h r h' ⟨⟩ ⟨⟩ m w vs hH hvs
    refine Calls.mono (ihx ih _ _ _ _ _ rfl rfl m w vs hH hvs) ?_
    rintro e w' ⟨m', h1, h2, u, rfl, h3⟩
    exact ⟨m'.frz K w', h1.trans (Fr.frz hR), h2.frz hR, u, rfl, conv_VR h2 hR hc h3⟩
  | @brw k g as as' h v h' K hK hl hc ht hx ihx =>
    rintro g as h r h' ⟨⟩ ⟨⟩ m w vs hH hvs
    refine Calls.mono (ihx ih _ _ _ _ _ rfl rfl (m.frz K w) w vs (hH.frz hK.rows) (conv_VRs hH hK.rows hl hc hvs)) ?_
    rintro e w' ⟨m', h1, h2, u, rfl, h3⟩
    have hw := Fr.lent hK h1 (Nat.le_refl _)
    refine ⟨m, ⟨h1.os, h1.tape, h1.output, h1.size, m.le_refl, fun b hb hs => ⟨hw b hb, fun i o p => hs i o p⟩, fun b hb hf => ⟨fun i o p => hf.1 i o p, hf.2⟩⟩, hH.lent hw h1.size, u, rfl, leaf_VR _ _ ht h3⟩
  | @drop k g as h v h' hh ht hx ihx =>
    rintro g as h r h' ⟨⟩ ⟨⟩ m w vs hH hvs
    refine Calls.mono (ihx ih _ _ _ _ _ rfl rfl m w vs hH hvs) ?_
    rintro e w' ⟨m', h1, h2, u, rfl, h3⟩
    exact ⟨⟨m.p, m'.z⟩, h1.drop hh, hH.drop h2 h1.le hh, u, rfl, tree_VR (m' := m') (m2 := ⟨m.p, m'.z⟩) rfl _ _ ht h3⟩
  | _ => rintro g as h r h' ⟨⟩
theorem call_sim {S : Seat} {Γ : Nat → Option AFn} (hG : GOK Γ) (hK : Known S Γ) (hF : Fits S Γ) : ∀ k, CallSim S Γ k := by
  intro k
  induction k using Nat.strongRecOn with
  | _ k ih => exact fun g as h r h' hx m w vs hH hvs => call_one hG hK hF ih hx _ _ _ _ _ rfl rfl m w vs hH hvs
end Go.Ab
namespace Go.Ab
open Go
def kindOf : TypeDesc → TyK
  | .int k => .int k
  | .string => .str
  | .bool => .bool
  | .pointer _ => .ptr
  | .slice e => .slice e
  | .array n e => .arr n e
  | .struct fs => .struct (fs.toList.map fun f => (f.offset, f.type))
  | .map k e => .map k e
  | .func _ _ _ => .func
  | .interface _ => .iface
  | _ => .other
def avOf1 : Value → Option AV
  | .bool b => some (.bool b)
  | .int k n => some (.int k n)
  | .string b => some (.str b.data.toList)
  | .pointer none => some .nilp
  | .slice none 0 0 => some .nils
  | .map none => some .nilm
  | .nilFunc => some .nilf
  | .nilIface => some .nili
  | _ => none
def avOfs : List Value → Option (List AV)
  | [] => some []
  | v :: vs => match avOf1 v, avOfs vs with
    | some a, some as => some (a :: as)
    | _, _ => none
def avOf : Value → Option AV
  | .agg vs => (avOfs vs.toList).map .agg
  | v => avOf1 v
theorem kindEq_refl (k : IntKind) : kindEq k k = true := by cases k <;> rfl
theorem fieldsEq_refl : ∀ fs : List Field, fieldsEq (fs.map fun f => (f.offset, f.type)) fs = true
  | [] => rfl
  | f :: fs => by simp [fieldsEq, fieldsEq_refl fs]
theorem avOf1_ok {v : Value} {a : AV} (h : avOf1 v = some a) : constEq a v = true ∧ a.sc = true := by
  unfold avOf1 at h
  split at h <;> first
    | (cases h; done)
    | (simp only [Option.some.injEq] at h; subst h; simp [constEq, kindEq_refl, AV.sc])
theorem avOfs_ok : ∀ {vs : List Value} {as : List AV}, avOfs vs = some as → constEqs as vs = true ∧ as.all AV.sc = true
  | [], as, h => by simp only [avOfs, Option.some.injEq] at h; subst h; exact ⟨rfl, rfl⟩
  | v :: vs, as, h => by
    simp only [avOfs] at h
    split at h
    · rename_i a as' h1 h2
      simp only [Option.some.injEq] at h
      subst h
      obtain ⟨q1, q2⟩ := avOf1_ok h1
      obtain ⟨q3, q4⟩ := avOfs_ok h2
      simp [constEqs, q1, q2, q3, q4]
    · cases h
theorem avOf_ok {v : Value} {a : AV} (h : avOf v = some a) : constEq a v = true := by
  unfold avOf at h
  split at h
  · rename_i vs
    simp only [Option.map_eq_some_iff] at h
    obtain ⟨as, h1, rfl⟩ := h
    obtain ⟨q1, q2⟩ := avOfs_ok h1
    simp [constEq, q1, q2]
  · exact (avOf1_ok h).1
def tyOf (P : Program) (t : TypeId) : Option TyI := match P.info? t, P.underlying t with
  | some ti, some d => some ⟨kindOf d, ti.size, ti.bytes, ti.zero.bind avOf⟩
  | _, _ => none
theorem tyOf_ok {P : Program} {t : TypeId} {i : TyI} (h : tyOf P t = some i) : TyOK P t i := by
  unfold tyOf at h
  split at h
  · rename_i ti d h1 h2
    simp only [Option.some.injEq] at h
    subst h
    refine ⟨⟨d, h2, ?_⟩, ti, h1, rfl, rfl, fun z hz => ?_⟩
    · cases d <;> simp [kindOf, descK, kindEq_refl, fieldsEq_refl]
    · simp only [Option.bind_eq_some_iff] at hz
      obtain ⟨v, q1, q2⟩ := hz
      exact ⟨v, q1, avOf_ok q2⟩
  · cases h
def Seat.of (P : Program) (N : Nums) (h : P.follows .mixedOrders = true) : Seat where
  P := P
  N := N
  T := tyOf P
  hT := fun _ _ h => tyOf_ok h
  mixed := h
end Go.Ab
namespace Go.Ab
open Go
theorem enter_run {P : Program} {f : FuncId} {fn : Func} {c : Code} (hf : P.funcs[f]? = some fn) (hname : (fn.name == "runtime.NumGoroutine") = false) (hb : fn.body = some c) (args : Array Value) (w : World) :
    (callFunc f args).run P w = .ok (.enter f args) w := by
  have h1 : fn.name ≠ "runtime.NumGoroutine" := by simpa using hname
  simp [callFunc, hf, h1, hb]
def FitsAt (S : Seat) (g : Nat) (F : AFun) : Prop := ∃ fn, S.P.funcs[S.N.f g]? = some fn ∧ (fn.name == "runtime.NumGoroutine") = false ∧ mFun S F fn = true
def FitAll (S : Seat) : List (Nat × AFun) → Prop
  | [] => True
  | (g, F) :: r => FitsAt S g F ∧ FitAll S r
theorem look_fit {S : Seat} : ∀ {tab : List (Nat × AFun)}, FitAll S tab → ∀ {g : Nat} {x : AFn}, lookT g tab = some x → ∃ F, x = .fn F ∧ FitsAt S g F
  | [], _, g, x, h => by cases h
  | (k, F) :: r, hf, g, x, h => by
    simp only [lookT] at h
    cases hk : Nat.beq k g with
    | true =>
      rw [hk] at h
      have : k = g := Nat.eq_of_beq_eq_true hk
      subst this
      simp only [cond_true, Option.some.injEq] at h
      exact ⟨F, h.symm, hf.1⟩
    | false =>
      rw [hk] at h
      exact look_fit hf.2 h
def lookN (g : Nat) : List (Nat × Nat) → Nat
  | [] => 0
  | (k, n) :: r => bif Nat.beq k g then n else lookN g r
theorem fits_mk {S : Seat} {P : Program} {g k : Nat} {F : AFun} {fn : Func} (hN : S.N.f g = k) (hP : S.P = P) (hf : P.funcs[k]? = some fn) (hn : (fn.name == "runtime.NumGoroutine") = false) (hm : mFun S F fn = true) : FitsAt S g F :=
  ⟨fn, by rw [hN, hP]; exact hf, hn, hm⟩
section
variable {S : Seat} {Γ : Nat → Option AFn} {tab : List (Nat × AFun)}
theorem gok_of (hΓ : ∀ g, Γ g = lookT g tab) (hf : FitAll S tab) : GOK Γ := fun g R hg => by
  rw [hΓ] at hg
  obtain ⟨F, h, _⟩ := look_fit hf hg
  cases h
theorem fits_of (hΓ : ∀ g, Γ g = lookT g tab) (hf : FitAll S tab) : Fits S Γ where
  fn := fun g F hg => by
    rw [hΓ] at hg
    obtain ⟨F', h, fn, h1, _, h2⟩ := look_fit hf hg
    cases h
    exact ⟨fn, h1, h2⟩
  ext := fun g R hg => by
    rw [hΓ] at hg
    obtain ⟨F, h, _⟩ := look_fit hf hg
    cases h
theorem known_of (hΓ : ∀ g, Γ g = lookT g tab) (hf : FitAll S tab) : Known S Γ := fun g hg args w => by
  rw [hΓ] at hg
  obtain ⟨x, hx⟩ := Option.ne_none_iff_exists'.1 hg
  obtain ⟨F, _, fn, h1, hn, h2⟩ := look_fit hf hx
  unfold mFun at h2
  cases hb : fn.body with
  | none => rw [hb] at h2; cases h2
  | some c => exact enter_run h1 hn hb args w
end
def fz0 (W : World) : Mp := ⟨fun _ => none, fun b => match W.heap[b]? with
  | some (.cells c _ _) => some c
  | _ => none⟩
theorem fz0_HR {N : Nums} {W : World} : HR N (fz0 W) AH.empty W where
  at' := fun id o h => by cases h
  none' := fun _ _ => rfl
  apart := fun i j o o' p q h => by cases h
  zz := fun b c h => by
    refine ⟨?_, fun id o p h => by cases h⟩
    simp only [fz0] at h
    split at h
    · rename_i c' e fz hh
      cases h
      exact ⟨e, fz, hh⟩
    · cases h
theorem leaf_ret {v : AV} (hl : v.leaf = true) {r : AV} (h : RelV ρ0 v r) : r = v := leaf_eq _ _ hl h
theorem law_calls {S : Seat} {Γ : Nat → Option AFn} (hG : GOK Γ) (hK : Known S Γ) (hF : Fits S Γ) {g : Nat} {as : List AV} {b : Bool} (hp : Pure Γ g as (.bool b)) {W : World} {vs : Array Value}
    (hv : VRs S.N (fz0 W) as vs.toList) : Calls S.P (S.N.f g) vs W fun e w' => e = .returned (.bool b) ∧ RowKit.Below W.heap.size W w' := by
  unfold Pure at hp
  obtain ⟨t1, t2, hp⟩ := hp
  obtain ⟨k, r, hr', h1, h2, h3, h4⟩ := hp AH.empty as (trees_rel _ t1)
  have hr := leaf_ret rfl h4
  subst hr
  refine Calls.mono (call_sim hG hK hF k g as _ _ _ h1 (fz0 W) W vs fz0_HR hv) ?_
  rintro e w' ⟨m', hfr, _, u, rfl, hu⟩
  simp only [VR] at hu
  subst hu
  exact ⟨rfl, hfr.os, hfr.tape, hfr.output, hfr.size, fun i hi => (hfr.keep i hi (fun id o p h => by cases h)).1⟩
section
variable {H : Type} (enc : TypeId × Value → H) (N : Nums) (P : Program) (W : World)
def RdL (as : List AV) (cs : List Value) : Prop := VRs N (fz0 W) as cs ∧ as.all AV.sc = true
def Wt (t : TypeId) (d : DataW H) : Prop := ∀ n ∈ d.weights P t, n ≤ reachBytes
def Rd {α : Type} (t : TypeId) (e : α → AV) (bd : α → Prop) : Prop := ∀ fuel cs d, DataW.trod enc P W 0 (fun _ => true) true fuel t cs = some d → Wt P t d.1 → ∃ x, RdL N W (e x).cells cs ∧ bd x
variable {enc N P W}
theorem Rd.mono {α : Type} {t : TypeId} {e : α → AV} {bd bd' : α → Prop} (h : Rd enc N P W t e bd) (hb : ∀ x, bd x → bd' x) : Rd enc N P W t e bd' := fun fuel cs d hd hw =>
  let ⟨x, h1, h2⟩ := h fuel cs d hd hw; ⟨x, h1, hb x h2⟩
theorem rd_int {t : TypeId} {k : IntKind} (ht : P.underlying t = some (.int k)) : Rd enc N P W t (fun n : Int => .int k n) (fun n => (Lit.int k n).wf = true) := fun fuel cs d h _ => by
  obtain ⟨n, rfl, _, hw⟩ := DataW.trod_int ht h
  refine ⟨n, ⟨?_, rfl⟩, hw⟩
  simp only [AV.cells, VRs, VR]
  exact ⟨_, _, rfl, rfl, rfl⟩
theorem rd_bool {t : TypeId} (ht : P.underlying t = some .bool) : Rd enc N P W t AV.bool (fun _ => True) := fun fuel cs d h _ => by
  obtain ⟨n, rfl, _⟩ := DataW.trod_bool ht h
  refine ⟨n, ⟨?_, rfl⟩, trivial⟩
  simp only [AV.cells, VRs, VR]
  exact ⟨_, _, rfl, rfl, rfl⟩
theorem rd_str {t : TypeId} (ht : P.underlying t = some .string) : Rd enc N P W t AV.str (fun s => s.length ≤ 140737488355328) := fun fuel cs d h hw => by
  obtain ⟨s, rfl, rfl, _⟩ := DataW.trod_string ht h
  refine ⟨s.data.toList, ⟨?_, rfl⟩, ?_⟩
  · simp only [AV.cells, VRs, VR]
    exact ⟨_, _, rfl, by cases s; rfl, rfl⟩
  · have := hw s.data.toList.length (by simp [DataW.weights])
    have e : reachBytes ≤ 140737488355328 := by decide
    exact Nat.le_trans this e
theorem RdL.nil {cs : List Value} {o : Nat} (h : cs.length ≤ o) : RdL N W [] (cs.drop o) := by
  rw [List.drop_eq_nil_of_le h]; exact ⟨by simp only [VRs], rfl⟩
theorem RdL.cat {as bs : List AV} {cs : List Value} {o n : Nat} (h : RdL N W as ((cs.drop o).take n)) (k : RdL N W bs (cs.drop (o + n))) : RdL N W (as ++ bs) (cs.drop o) := by
  refine ⟨?_, by simp [h.2, k.2]⟩
  have e : cs.drop o = (cs.drop o).take n ++ cs.drop (o + n) := by
    rw [← List.drop_drop, List.take_append_drop]
  rw [e]
  exact h.1.append k.1
theorem RdL.val {a : AV} {cs : List Value} (h : RdL N W a.cells cs) (hl : 0 < a.cells.length) : ∃ u : Value, VR N (fz0 W) a u ∧ u.cells.toList = cs := by
  by_cases hag : ∃ xs, a = .agg xs
  · obtain ⟨xs, rfl⟩ := hag
    refine ⟨.agg cs.toArray, ?_, by simp [Value.cells]⟩
    simp only [VR]
    exact ⟨_, rfl, h.1, h.2⟩
  · have hc : a.cells = [a] ∧ a.sc = true := by
      cases a <;> first
        | exact ⟨rfl, rfl⟩
        | exact absurd ⟨_, rfl⟩ hag
        | (simp [AV.cells] at hl; done)
    obtain ⟨h1, h2⟩ := h
    rw [hc.1] at h1
    simp only [VRs] at h1
    obtain ⟨u, us, rfl, h3, rfl⟩ := h1
    exact ⟨u, h3, by rw [h3.sc_cells hc.2]⟩
theorem cells_at {base : Nat} {a : Addr} {n : Nat} {cs : List Value} (h : W.cells? base a n = some cs) : cs.length = n ∧ ∀ i, i < n → W.cell? (a.add i) = cs[i]? := by
  obtain ⟨_, h1, h2⟩ := World.cells?_some h
  exact ⟨h1, h2⟩
theorem list_of {α : Type} {p : Nat → α → Prop} : ∀ n : Nat, (∀ i : Nat, i < n → ∃ x, p i x) → ∃ xs : List α, xs.length = n ∧ ∀ (i : Nat) (h : i < xs.length), p i xs[i]
  | 0, _ => ⟨[], rfl, fun i h => by simp at h⟩
  | n + 1, h => by
    obtain ⟨xs, h1, h2⟩ := list_of n fun i hi => h i (by omega)
    obtain ⟨x, hx⟩ := h n (by omega)
    refine ⟨xs ++ [x], by simp [h1], fun i hi => ?_⟩
    rcases Nat.lt_or_ge i xs.length with q | q
    · rw [List.getElem_append_left q]; exact h2 i q
    · have : i = n := by simp at hi; omega
      subst this
      rw [List.getElem_append_right q]
      simpa using hx
theorem weights_all {e' : TypeId} : ∀ {l : List (DataW H)} {d : DataW H}, d ∈ l → ∀ n ∈ d.weights P e', n ∈ DataW.weightsAll P e' l
  | x :: l, d, hd, n, hn => by
    simp only [DataW.weightsAll, List.mem_append]
    rcases List.mem_cons.1 hd with rfl | hd
    · exact .inl hn
    · exact .inr (weights_all hd n hn)
  | [], _, hd, _, _ => by cases hd
theorem rd_slice {α : Type} {t e' : TypeId} {w : Nat} {e : α → AV} {bd : α → Prop} (ht : P.underlying t = some (.slice e')) (hw : P.cellsOf e' = w) (h0 : 0 < w) (hl : ∀ x, (e x).cells.length = w) (hb : 0 < P.bytesOf e')
    (he : Rd enc N P W e' e bd) : Rd enc N P W t (fun xs : List α => .lst w (xs.map e) false) (fun xs => xs.length ≤ 140737488355328 ∧ ∀ x ∈ xs, bd x) := fun fuel cs d h hwt => by
  rcases DataW.trod_slice ht h with ⟨rfl, _⟩ | ⟨a, len, cap, elems, rest, n, rfl, rfl, rfl, _, hlc, _, hel, hat, _, _⟩
  · refine ⟨[], ⟨?_, rfl⟩, by simp⟩
    simp only [List.map_nil, AV.cells, VRs, VR]
    exact ⟨_, _, rfl, ⟨none, 0, rfl, by simp, fun h => by simp at h, .inl ⟨trivial, fun _ => rfl⟩⟩, rfl⟩
  · rw [hw] at hat
    obtain ⟨xs, hxl, hx⟩ := list_of (p := fun i (x : α) => ∃ ci, W.cells? 0 (a.add (i * w)) w = some ci ∧ RdL N W (e x).cells ci ∧ bd x) len fun i hi => by
      have h1 := hat i hi
      rw [List.getElem?_eq_getElem (by omega)] at h1
      simp only [Option.bind_eq_some_iff] at h1
      obtain ⟨ci, h1, h2⟩ := h1
      obtain ⟨x, h3, h4⟩ := he _ _ _ h2 (fun m hm => hwt m (by
        simp only [DataW.weights, ht, List.mem_cons, List.mem_append]
        exact .inr (.inl (weights_all (List.mem_map.2 ⟨_, List.getElem_mem (by omega), rfl⟩) m hm))))
      exact ⟨x, ci, h1, h3, h4⟩
    have hm : len ≤ 140737488355328 := by
      have h1 := hwt _ (by simp only [DataW.weights, ht]; exact List.mem_cons_self ..)
      have h2 : reachBytes ≤ 140737488355328 := by decide
      have h3 := Nat.le_mul_of_pos_right ((elems.map (·.1)).length + (rest.map (·.1)).length) hb
      simp only [List.length_map] at h1 h3
      omega
    refine ⟨xs, ⟨?_, rfl⟩, by omega, fun x hm => ?_⟩
    · simp only [AV.cells, VRs]
      refine ⟨_, _, rfl, ?_, rfl⟩
      simp only [VR]
      refine ⟨some a, cap, by rw [List.length_map, hxl], by rw [List.length_map, hxl]; exact hlc, fun q => by simp at q, ?_⟩
      rcases Nat.eq_zero_or_pos len with hz | hz
      · refine .inl ⟨?_, fun q => by cases q⟩
        rw [List.map_eq_nil_iff]; exact List.eq_nil_of_length_eq_zero (by omega)
      · right
        obtain ⟨c0, hc0, _, _⟩ := hx 0 (by omega)
        obtain ⟨hl0, hcell0⟩ := cells_at hc0
        have hq := hcell0 0 h0
        have e00 : (a.add (0 * w)).add 0 = a := by simp [Addr.add]
        rw [e00, List.getElem?_eq_getElem (by omega)] at hq
        obtain ⟨b, o, s⟩ := a
        have hblk : ∃ c ty fz, W.heap[b]? = some (.cells c ty fz) ∧ s = none := by
          simp only [World.cell?] at hq
          split at hq
          · rename_i c ty fz hh
            split at hq
            · cases hq
            · rename_i hs
              exact ⟨c, ty, fz, hh, by cases s <;> simp_all⟩
          · cases hq
        obtain ⟨c, ty, fz, hh, rfl⟩ := hblk
        refine ⟨b, o, c, rfl, by simp only [fz0, hh], ?_⟩
        have cell : ∀ k, W.cell? ⟨b, k, none⟩ = c[k]? := fun k => by simp [World.cell?, hh]
        have adds : ∀ k, (⟨b, o, none⟩ : Addr).add k = ⟨b, o + k, none⟩ := fun k => by
          unfold Addr.add; split
          · subst_vars; rfl
          · rfl
        have all : ∀ (i : Nat) (hi : i < xs.length), ∃ u, VR N (fz0 W) (e xs[i]) u ∧ (e xs[i]).cells.length = w ∧ 0 < w ∧ ∀ j, j < w → c[o + i * w + j]? = u.cells[j]? := fun i hi => by
          obtain ⟨ci, h1, h2, _⟩ := hx i hi
          obtain ⟨h3, h4⟩ := cells_at h1
          obtain ⟨u, h5, h6⟩ := h2.val (by rw [hl]; exact h0)
          refine ⟨u, h5, hl _, h0, fun j hj => ?_⟩
          have := h4 j hj
          rw [adds] at this
          have e2 : (⟨b, o + i * w, none⟩ : Addr).add j = ⟨b, o + i * w + j, none⟩ := by
            unfold Addr.add; split
            · subst_vars; rfl
            · rfl
          rw [e2, cell] at this
          rw [this, ← h6]; simp
        have gen : ∀ (ys : List α) (k : Nat), (∀ (i : Nat) (hi : i < ys.length), ∃ u, VR N (fz0 W) (e ys[i]) u ∧ (e ys[i]).cells.length = w ∧ 0 < w ∧ ∀ j, j < w → c[k + i * w + j]? = u.cells[j]?) → VRe N (fz0 W) w (ys.map e) c k := by
          intro ys
          induction ys with
          | nil => intro k _; simp only [List.map_nil, VRe]
          | cons y ys ih =>
            intro k hk
            simp only [List.map_cons, VRe]
            refine ⟨?_, ih (k + w) fun i hi => ?_⟩
            · obtain ⟨u, h1, h2, h3, h4⟩ := hk 0 (by simp)
              exact ⟨u, h1, h2, h3, fun j hj => by have := h4 j hj; simpa using this⟩
            · obtain ⟨u, h1, h2, h3, h4⟩ := hk (i + 1) (by simpa using hi)
              refine ⟨u, by simpa using h1, by simpa using h2, h3, fun j hj => ?_⟩
              have := h4 j hj
              rw [← this]
              congr 1
              rw [Nat.add_mul]; omega
        exact gen xs o all
    · obtain ⟨i, hi, rfl⟩ := List.getElem_of_mem hm
      obtain ⟨_, _, _, h⟩ := hx i hi
      exact h
theorem rd_fields {t : TypeId} {fs : Array Field} {n fuel : Nat} {cs : List Value} {d} (ht : P.underlying t = some (.struct fs)) (hn : P.cellsOf t = n) (h : DataW.trod enc P W 0 (fun _ => true) true fuel t cs = some d) (hwt : Wt P t d.1) :
    cs.length = n ∧ ∀ (i : Nat) (f : Field), fs[i]? = some f → ∃ k y, DataW.trod enc P W 0 (fun _ => true) true k f.type ((cs.drop f.offset).take (P.cellsOf f.type)) = some y ∧ Wt P f.type y.1 := by
  obtain ⟨xs, k, rfl, rfl, h1, h2, h3⟩ := DataW.trod_struct ht h
  refine ⟨by omega, fun i f hf => ?_⟩
  have hi : i < xs.length := by
    have := (Array.getElem?_eq_some_iff.1 hf).1
    omega
  refine ⟨k, xs[i], by rw [h3 i f hf, List.getElem?_eq_getElem hi], fun m hm => hwt m ?_⟩
  simp only [DataW.weights, ht]
  refine DataW.weights_mem_each (j := i) (t := f.type) (d := xs[i].1) ?_ ?_ m hm
  · rw [List.getElem?_map, Array.getElem?_toList, hf]; rfl
  · rw [List.getElem?_map, List.getElem?_eq_getElem hi]; rfl
theorem rd_field {α : Type} {ft : TypeId} {fs : Array Field} {cs : List Value} {e : α → AV} {bd : α → Prop} (hf : ∀ (i : Nat) (f : Field), fs[i]? = some f → ∃ k y, DataW.trod enc P W 0 (fun _ => true) true k f.type ((cs.drop f.offset).take (P.cellsOf f.type)) = some y ∧ Wt P f.type y.1)
    (i off n : Nat) {f : Field} (hi : fs[i]? = some f) (hft : f.type = ft) (ho : f.offset = off) (hn : P.cellsOf ft = n) (he : Rd enc N P W ft e bd) : ∃ x, RdL N W (e x).cells ((cs.drop off).take n) ∧ bd x := by
  obtain ⟨k, y, hy, hw⟩ := hf i f hi
  rw [hft, ho, hn] at hy
  rw [hft] at hw
  exact he _ _ _ hy hw
def RdA {α : Type} (N : Nums) (W : World) (e : α → AV) (bd : α → Prop) (v : Value) : Prop := ∃ x, VR N (fz0 W) (e x) v ∧ bd x
theorem arg_struct {α : Type} {t : TypeId} {fs : Array Field} {e : α → AV} {bd : α → Prop} {v : Value} {d} {ps : List MemPlace} (ht : P.underlying t = some (.struct fs)) (he : ∀ x, ∃ cs, e x = .agg cs) (hr : Rd enc N P W t e bd)
    {b : Nat} (hok : Value.okWide P W .any b t v) (h : DataW.Trod enc P W 0 (fun _ => true) true t v d ps) (hwt : Wt P t d) : RdA N W e bd v := by
  obtain ⟨fuel, h⟩ := h
  unfold Value.okWide at hok
  rw [ht] at hok
  obtain ⟨cs, rfl, _, _⟩ := hok
  obtain ⟨x, h1, h2⟩ := hr _ _ _ h hwt
  refine ⟨x, ?_, h2⟩
  obtain ⟨as, ha⟩ := he x
  rw [ha] at h1 ⊢
  simp only [VR]
  exact ⟨cs, rfl, h1.1, h1.2⟩
theorem arg_int {t : TypeId} {k : IntKind} {v : Value} {d} {ps : List MemPlace} (ht : P.underlying t = some (.int k))
    {b : Nat} (hok : Value.okWide P W .any b t v) (h : DataW.Trod enc P W 0 (fun _ => true) true t v d ps) : RdA N W (fun n : Int => .int k n) (fun n => (Lit.int k n).wf = true) v := by
  obtain ⟨n, rfl, _, _, hw⟩ := ChangeShapes.open_int ht hok h
  exact ⟨n, by simp only [VR], hw⟩
end
section
variable {H : Type} {enc : TypeId × Value → H} {P : Program} {W W' : World}
theorem args_stay (hl : laidOutB P = true) (hb : RowKit.Below W.heap.size W W') {sp : Nat → Bool} : ∀ {ts : List TypeId} {vs : List Value} {ds : List (DataW H)} {ps : List MemPlace},
    (∀ t ∈ ts, P.readableRec t = true ∧ t < P.types.size) → DataW.TrodAll enc P W 0 (fun _ => true) true ts vs ds ps → (∀ p ∈ ps, sp p.block = true) → DataW.TrodAll enc P W' 0 sp true ts vs ds ps
  | [], vs, ds, ps, _, h, _ => by
    obtain ⟨rfl, rfl, rfl⟩ := ChangeShapes.trodAll_nil h
    exact ChangeShapes.trodAll_mk0
  | t :: ts, vs, ds, ps, ht, h, hs => by
    obtain ⟨v, vs', d, ds', p, q, rfl, rfl, rfl, h1, h2⟩ := ChangeShapes.trodAll_cons h
    obtain ⟨r1, r2⟩ := ht t (by simp)
    have hlt : ∀ x ∈ p, x.block < W.heap.size := fun x hx => (ChangeShapes.trodAll_mk1 h1).lt x (by simpa using hx)
    exact ⟨p, q, WideElems.Trod_stays hl r1 r2 h1 (fun x hx => hb.same (hlt x hx)) (fun x hx => hs x (by simp [hx])), args_stay hl hb (fun t ht' => ht t (by simp [ht'])) h2 (fun x hx => hs x (by simp [hx])), rfl⟩
theorem law_post {f : Func} {s : ChangeSpec} {args : Array Value} {ds gs : List (DataW H)} {before : List MemPlace} {tb : TypeId} (hsv : s.vars = [])
    (hW : DataW.Whole enc P f.params.toList s.vars false W args.toList ds gs before) (hl : laidOutB P = true) (hrow : ∀ t ∈ f.params.toList, P.readableRec t = true ∧ t < P.types.size)
    (hr : f.resultTypes = #[tb]) (htb : P.underlying tb = some .bool) (hs : (s.fn H ds).results = [.lit (.bool true)] ∧ (s.fn H ds).args = ds ∧ (s.fn H ds).vars = []) (hb : RowKit.Below W.heap.size W W') :
    s.post enc P f false true false false W args (.bool true) W' := by
  have hW' := hW
  have hlt : ∀ p ∈ before, p.block < W.heap.size := fun p hp => hW.lt p hp
  obtain ⟨pa, q, hA, hV, rfl, hz, hn⟩ := hW
  rw [hsv] at hV
  obtain ⟨rfl, rfl⟩ := ChangeShapes.trodVars_none hV
  have hres : ∀ (b : Nat) (sp : Nat → Bool) (hd : Bool), DataW.TrodAll enc P W' b sp hd f.resultTypes.toList ((Value.bool true).resultList f.resultTypes.size) (s.fn H (ds ++ [])).results [] := fun b sp hd => by
    rw [hr, List.append_nil, hs.1]
    exact ChangeShapes.trodAll_mk1 (RowKit.shut_bool htb true)
  have hargs : ∀ sp : Nat → Bool, (∀ p ∈ pa ++ [], sp p.block = true) → DataW.TrodAll enc P W' 0 sp true f.params.toList args.toList (s.fn H (ds ++ [])).args pa := fun sp hsp => by
    rw [List.append_nil, hs.2.1]
    exact args_stay hl hb hrow hA (by simpa using hsp)
  have hvars : ∀ sp : Nat → Bool, DataW.TrodVars enc P W' sp s.vars (s.fn H (ds ++ [])).vars [] := fun sp => by
    rw [hsv, List.append_nil, hs.2.2]; rfl
  have hold : ∀ p ∈ pa ++ [], (fun b => decide (b < W.heap.size)) p.block = true := fun p hp => by simpa using hlt p hp
  refine ⟨ds, [], pa ++ [], [], pa, [], hW', hres _ _ _, hargs _ hold, hvars _, World.keptBut_mono (fun p hp => ⟨hp, by simpa using hp⟩) (hb.frame (· ∈ pa ++ [])), fun _ => ?_⟩
  refine ⟨RowKit.ok_one hr rfl (RowKit.okWide_bool_mk htb true), _, _, ([] ++ pa) ++ [], ⟨[] ++ pa, [], ChangeShapes.trodAll_append (hargs _ (fun _ _ => rfl)) (hres _ _ _), hvars _, rfl, fun b off hp => ?_, fun ha => by cases ha⟩, fun p hp _ => by simpa using hp⟩
  have hin : MemPlace.cell b off ∈ pa ++ [] := by simpa using hp
  rw [hb.frozen (hlt _ hin)]
  exact hz b off hin
theorem law_lifted {C : Checked} {os : Os} (started : os.Started) {f : FuncId} {fn : Func} {s : ChangeSpec} {tb : TypeId} (own : ownKnob C.prog.godebug = none) (noInit : C.prog.inits.idxOf? f = none) (hfn : C.prog.funcs[f]? = some fn)
    (witness : ∃ (w : World) (tape : Tape) (i : Input), w.os = os ∧ (w.forCall tape i).Shaped C.prog ∧ i.vars = [] ∧ Input.okWide C.prog (w.forCall tape i) .any w.heap.size f i ∧
      s.pre6 enc C.prog fn [] false (w.forCall tape i).memory i.args ∧ ({} : Assume).holds C.prog (lone (Frame.enter C.prog f i.args .normal) [] (w.forCall tape i)))
    (hl : laidOutB C.prog = true) (hrow : ∀ t ∈ fn.params.toList, C.prog.readableRec t = true ∧ t < C.prog.types.size) (hsv : s.vars = []) (hr : fn.resultTypes = #[tb]) (htb : C.prog.underlying tb = some .bool)
    (hs : ∀ ds : List (DataW H), ds.length = fn.params.size → (s.fn H ds).results = [.lit (.bool true)] ∧ (s.fn H ds).args = ds ∧ (s.fn H ds).vars = [])
    (core : ∀ (W : World) (base : Nat) (args : Array Value) (ds : List (DataW H)) (ps : List MemPlace), (∀ (j : Nat) t v, fn.params[j]? = some t → args[j]? = some v → Value.okWide C.prog W .any base t v) →
      DataW.TrodAll enc C.prog W 0 (fun _ => true) true fn.params.toList args.toList ds ps → (∀ n ∈ DataW.weightsEach C.prog fn.params.toList ds, n ≤ reachBytes) →
      Calls C.prog f args W fun e W' => e = .returned (.bool true) ∧ RowKit.Below W.heap.size W W') :
    ReturnsInHanded {} C os f .any (s.pre6 enc C.prog fn [] false) (s.post enc C.prog fn false true false false) := by
  refine returnsInHanded_of_change_sized own started noInit hfn witness ?_
  intro W base args ds gs before hval hW _ hwt _
  have hW' := hW
  obtain ⟨p, q, hA, hV, rfl, _, _⟩ := hW
  rw [hsv] at hV
  obtain ⟨rfl, rfl⟩ := ChangeShapes.trodVars_none hV
  have hlen : ds.length = fn.params.size := by
    have key : ∀ {ts : List TypeId} {vs : List Value} {ds : List (DataW H)} {ps : List MemPlace}, DataW.TrodAll enc C.prog W 0 (fun _ => true) true ts vs ds ps → ds.length = ts.length := by
      intro ts
      induction ts with
      | nil => intro vs ds ps h; obtain ⟨_, rfl, _⟩ := ChangeShapes.trodAll_nil h; rfl
      | cons t ts ih =>
        intro vs ds ps h
        obtain ⟨v, vs', d, ds', p, q, rfl, rfl, rfl, _, h2⟩ := ChangeShapes.trodAll_cons h
        simp [ih h2]
    simpa using key hA
  have hw : ∀ n ∈ DataW.weightsEach C.prog fn.params.toList ds, n ≤ reachBytes := by
    have hv0 : s.plain.varTypes C.prog = [] := by
      have : s.plain.vars = [] := hsv
      simp [DataSpec.varTypes, this]
    rw [hv0, List.append_nil, List.append_nil] at hwt
    intro n hn
    simpa using List.all_eq_true.1 hwt n hn
  refine (core W base args ds p hval hA hw).mono ?_
  rintro e W' ⟨rfl, hb⟩
  exact ⟨_, rfl, law_post hsv hW' hl hrow hr htb (hs ds hlen) hb⟩
end
end Go.Ab
namespace Go.Ab
open Go
set_option maxRecDepth 10000
theorem c338 (xs : List Int) (hx : xs.length ≤ 140737488355328) (left : Nat) (hl : left ≤ 1048576) : Pure Gm 338 [.lst 1 (xs.map encI) false, .int .i64 left] (.int .i64 (leftI xs.length left)) :=
  szS0_ok g338 shI.tree xs left hl hx
theorem c1173 (xs : List GPort) (hx : xs.length ≤ 140737488355328) (left : Nat) (hl : left ≤ 1048576) : Pure Gm 1173 [.lst 2 (xs.map GPort.enc) false, .int .i64 left] (.int .i64 (leftI xs.length left)) :=
  szS0_ok g1173 GPort.isSh.tree xs left hl hx
theorem c852 (x : GAgent) (hb : x.bd) (left : Nat) (hl : left ≤ 1048576) : Pure Gm 852 [x.enc, .int .i64 left] (.int .i64 (leftI x.sz left)) := by
  refine Pure.intro [] [] g852 (by kernel_rfl) rfl (by simp [AV.trees, AV.tree, GAgent.tr]) rfl ?_
  simp only [F852, vparams, go_sem, Nat.reduceEqDiff, reduceIte, Bool.not_true, Bool.not_false, Bool.false_eq_true, List.length_cons, List.length_nil, Nat.reduceAdd, List.getElem?_cons_zero, List.getElem?_cons_succ, decide_true, eq_self]
  refine lbox_ok rfl ?_
  simp only [go_sem, Nat.reduceEqDiff, reduceIte, Bool.not_true, Bool.not_false, Bool.false_eq_true, List.length_cons, List.length_nil, Nat.reduceAdd, List.getElem?_cons_zero, List.getElem?_cons_succ, decide_true, eq_self]
  unfold GAgent.bd at hb
  refine call_pure (c338 _ hb.1 _ (by omega)) ?_
  simp only [go_sem, Nat.reduceEqDiff, reduceIte, Bool.not_true, Bool.not_false, Bool.false_eq_true, List.length_cons, List.length_nil, Nat.reduceAdd, List.getElem?_cons_zero, List.getElem?_cons_succ, decide_true, eq_self]
  refine cnd_split ?_ ?_ <;> intro hc <;> simp only [hc, go_sem, Nat.reduceEqDiff, reduceIte, Bool.not_true, Bool.not_false, Bool.false_eq_true, List.length_cons, List.length_nil, Nat.reduceAdd, List.getElem?_cons_zero, List.getElem?_cons_succ, decide_true, eq_self]
  · have hq := of_decide_eq_true hc; rw [leftI_lt] at hq
    exact fin_eq rfl (by rw [leftI_neg (by unfold GAgent.sz; omega)])
  have hq := of_decide_eq_false hc; rw [leftI_lt] at hq; rw [leftI_pos (by omega)]; clear hc
  refine call_pure (c1173 _ hb.2 _ (by omega)) ?_
  simp only [go_sem, Nat.reduceEqDiff, reduceIte, Bool.not_true, Bool.not_false, Bool.false_eq_true, List.length_cons, List.length_nil, Nat.reduceAdd, List.getElem?_cons_zero, List.getElem?_cons_succ, decide_true, eq_self]
  refine cnd_split ?_ ?_ <;> intro hc <;> simp only [hc, go_sem, Nat.reduceEqDiff, reduceIte, Bool.not_true, Bool.not_false, Bool.false_eq_true, List.length_cons, List.length_nil, Nat.reduceAdd, List.getElem?_cons_zero, List.getElem?_cons_succ, decide_true, eq_self]
  · have hq := of_decide_eq_true hc; rw [leftI_lt] at hq
    exact fin_eq rfl (by rw [leftI_neg (by unfold GAgent.sz; omega)])
  have hq := of_decide_eq_false hc; rw [leftI_lt] at hq; rw [leftI_pos (by omega)]; clear hc
  exact fin_eq rfl (by rw [leftI_pos (by unfold GAgent.sz; omega)]; unfold GAgent.sz; first | rfl | (congr 2; omega))
theorem c501 (xs : List GAgent) (hx : xs.length ≤ 140737488355328 ∧ (∀ y ∈ xs, GAgent.bd y)) (left : Nat) (hl : left ≤ 1048576) : Pure Gm 501 [.lst 5 (xs.map GAgent.enc) false, .int .i64 left] (.int .i64 (leftI (xs.length + sumN GAgent.sz xs) left)) :=
  szS_ok GAgent.isSh g501 GAgent.sz xs (fun x hm lf hlf => c852 x (hx.2 x hm) lf hlf) left hl hx.1
theorem c182 (x : GNet) (hb : x.bd) (left : Nat) (hl : left ≤ 1048576) : Pure Gm 182 [x.enc, .int .i64 left] (.int .i64 (leftI x.sz left)) := by
  refine Pure.intro [] [] g182 (by kernel_rfl) rfl (by simp [AV.trees, AV.tree, GNet.tr]) rfl ?_
  simp only [F182, vparams, go_sem, Nat.reduceEqDiff, reduceIte, Bool.not_true, Bool.not_false, Bool.false_eq_true, List.length_cons, List.length_nil, Nat.reduceAdd, List.getElem?_cons_zero, List.getElem?_cons_succ, decide_true, eq_self]
  refine lbox_ok rfl ?_
  simp only [go_sem, Nat.reduceEqDiff, reduceIte, Bool.not_true, Bool.not_false, Bool.false_eq_true, List.length_cons, List.length_nil, Nat.reduceAdd, List.getElem?_cons_zero, List.getElem?_cons_succ, decide_true, eq_self]
  unfold GNet.bd at hb
  refine call_pure (c501 _ ⟨hb.1, hb.2⟩ _ (by omega)) ?_
  simp only [go_sem, Nat.reduceEqDiff, reduceIte, Bool.not_true, Bool.not_false, Bool.false_eq_true, List.length_cons, List.length_nil, Nat.reduceAdd, List.getElem?_cons_zero, List.getElem?_cons_succ, decide_true, eq_self]
  refine cnd_split ?_ ?_ <;> intro hc <;> simp only [hc, go_sem, Nat.reduceEqDiff, reduceIte, Bool.not_true, Bool.not_false, Bool.false_eq_true, List.length_cons, List.length_nil, Nat.reduceAdd, List.getElem?_cons_zero, List.getElem?_cons_succ, decide_true, eq_self]
  · have hq := of_decide_eq_true hc; rw [leftI_lt] at hq
    exact fin_eq rfl (by rw [leftI_neg (by unfold GNet.sz; omega)])
  have hq := of_decide_eq_false hc; rw [leftI_lt] at hq; rw [leftI_pos (by omega)]; clear hc
  exact fin_eq rfl (by rw [leftI_pos (by unfold GNet.sz; omega)]; unfold GNet.sz; first | rfl | (congr 2; omega))
theorem c181 (xs : List GNet) (hx : xs.length ≤ 140737488355328 ∧ (∀ y ∈ xs, GNet.bd y)) (left : Nat) (hl : left ≤ 1048576) : Pure Gm 181 [.lst 1 (xs.map GNet.enc) false, .int .i64 left] (.int .i64 (leftI (xs.length + sumN GNet.sz xs) left)) :=
  szS_ok GNet.isSh g181 GNet.sz xs (fun x hm lf hlf => c182 x (hx.2 x hm) lf hlf) left hl hx.1
theorem c364 (xs : List GOrigin) (hx : xs.length ≤ 140737488355328) (left : Nat) (hl : left ≤ 1048576) : Pure Gm 364 [.lst 3 (xs.map GOrigin.enc) false, .int .i64 left] (.int .i64 (leftI xs.length left)) :=
  szS0_ok g364 GOrigin.isSh.tree xs left hl hx
theorem c365 (xs : List GBreak) (hx : xs.length ≤ 140737488355328) (left : Nat) (hl : left ≤ 1048576) : Pure Gm 365 [.lst 2 (xs.map GBreak.enc) false, .int .i64 left] (.int .i64 (leftI xs.length left)) :=
  szS0_ok g365 GBreak.isSh.tree xs left hl hx
theorem c740 (x : GCheckpoint) (hb : x.bd) (left : Nat) (hl : left ≤ 1048576) : Pure Gm 740 [x.enc, .int .i64 left] (.int .i64 (leftI x.sz left)) := by
  refine Pure.intro [] [] g740 (by kernel_rfl) rfl (by simp [AV.trees, AV.tree, GCheckpoint.tr]) rfl ?_
  simp only [F740, vparams, go_sem, Nat.reduceEqDiff, reduceIte, Bool.not_true, Bool.not_false, Bool.false_eq_true, List.length_cons, List.length_nil, Nat.reduceAdd, List.getElem?_cons_zero, List.getElem?_cons_succ, decide_true, eq_self]
  refine lbox_ok rfl ?_
  simp only [go_sem, Nat.reduceEqDiff, reduceIte, Bool.not_true, Bool.not_false, Bool.false_eq_true, List.length_cons, List.length_nil, Nat.reduceAdd, List.getElem?_cons_zero, List.getElem?_cons_succ, decide_true, eq_self]
  unfold GCheckpoint.bd at hb
  refine call_pure (c182 _ hb.1 _ (by omega)) ?_
  simp only [go_sem, Nat.reduceEqDiff, reduceIte, Bool.not_true, Bool.not_false, Bool.false_eq_true, List.length_cons, List.length_nil, Nat.reduceAdd, List.getElem?_cons_zero, List.getElem?_cons_succ, decide_true, eq_self]
  refine cnd_split ?_ ?_ <;> intro hc <;> simp only [hc, go_sem, Nat.reduceEqDiff, reduceIte, Bool.not_true, Bool.not_false, Bool.false_eq_true, List.length_cons, List.length_nil, Nat.reduceAdd, List.getElem?_cons_zero, List.getElem?_cons_succ, decide_true, eq_self]
  · have hq := of_decide_eq_true hc; rw [leftI_lt] at hq
    exact fin_eq rfl (by rw [leftI_neg (by unfold GCheckpoint.sz; omega)])
  have hq := of_decide_eq_false hc; rw [leftI_lt] at hq; rw [leftI_pos (by omega)]; clear hc
  refine call_pure (c364 _ hb.2 _ (by omega)) ?_
  simp only [go_sem, Nat.reduceEqDiff, reduceIte, Bool.not_true, Bool.not_false, Bool.false_eq_true, List.length_cons, List.length_nil, Nat.reduceAdd, List.getElem?_cons_zero, List.getElem?_cons_succ, decide_true, eq_self]
  refine cnd_split ?_ ?_ <;> intro hc <;> simp only [hc, go_sem, Nat.reduceEqDiff, reduceIte, Bool.not_true, Bool.not_false, Bool.false_eq_true, List.length_cons, List.length_nil, Nat.reduceAdd, List.getElem?_cons_zero, List.getElem?_cons_succ, decide_true, eq_self]
  · have hq := of_decide_eq_true hc; rw [leftI_lt] at hq
    exact fin_eq rfl (by rw [leftI_neg (by unfold GCheckpoint.sz; omega)])
  have hq := of_decide_eq_false hc; rw [leftI_lt] at hq; rw [leftI_pos (by omega)]; clear hc
  exact fin_eq rfl (by rw [leftI_pos (by unfold GCheckpoint.sz; omega)]; unfold GCheckpoint.sz; first | rfl | (congr 2; omega))
theorem c366 (xs : List GCheckpoint) (hx : xs.length ≤ 140737488355328 ∧ (∀ y ∈ xs, GCheckpoint.bd y)) (left : Nat) (hl : left ≤ 1048576) : Pure Gm 366 [.lst 3 (xs.map GCheckpoint.enc) false, .int .i64 left] (.int .i64 (leftI (xs.length + sumN GCheckpoint.sz xs) left)) :=
  szS_ok GCheckpoint.isSh g366 GCheckpoint.sz xs (fun x hm lf hlf => c740 x (hx.2 x hm) lf hlf) left hl hx.1
theorem c104 (x : GDebugger) (hb : x.bd) (left : Nat) (hl : left ≤ 1048576) : Pure Gm 104 [x.enc, .int .i64 left] (.int .i64 (leftI x.sz left)) := by
  refine Pure.intro [] [] g104 (by kernel_rfl) rfl (by simp [AV.trees, AV.tree, GDebugger.tr]) rfl ?_
  simp only [F104, vparams, go_sem, Nat.reduceEqDiff, reduceIte, Bool.not_true, Bool.not_false, Bool.false_eq_true, List.length_cons, List.length_nil, Nat.reduceAdd, List.getElem?_cons_zero, List.getElem?_cons_succ, decide_true, eq_self]
  refine lbox_ok rfl ?_
  simp only [go_sem, Nat.reduceEqDiff, reduceIte, Bool.not_true, Bool.not_false, Bool.false_eq_true, List.length_cons, List.length_nil, Nat.reduceAdd, List.getElem?_cons_zero, List.getElem?_cons_succ, decide_true, eq_self]
  unfold GDebugger.bd at hb
  refine call_pure (c181 _ ⟨hb.1, hb.2.1⟩ _ (by omega)) ?_
  simp only [go_sem, Nat.reduceEqDiff, reduceIte, Bool.not_true, Bool.not_false, Bool.false_eq_true, List.length_cons, List.length_nil, Nat.reduceAdd, List.getElem?_cons_zero, List.getElem?_cons_succ, decide_true, eq_self]
  refine cnd_split ?_ ?_ <;> intro hc <;> simp only [hc, go_sem, Nat.reduceEqDiff, reduceIte, Bool.not_true, Bool.not_false, Bool.false_eq_true, List.length_cons, List.length_nil, Nat.reduceAdd, List.getElem?_cons_zero, List.getElem?_cons_succ, decide_true, eq_self]
  · have hq := of_decide_eq_true hc; rw [leftI_lt] at hq
    exact fin_eq rfl (by rw [leftI_neg (by unfold GDebugger.sz; omega)])
  have hq := of_decide_eq_false hc; rw [leftI_lt] at hq; rw [leftI_pos (by omega)]; clear hc
  refine call_pure (c338 _ hb.2.2.1 _ (by omega)) ?_
  simp only [go_sem, Nat.reduceEqDiff, reduceIte, Bool.not_true, Bool.not_false, Bool.false_eq_true, List.length_cons, List.length_nil, Nat.reduceAdd, List.getElem?_cons_zero, List.getElem?_cons_succ, decide_true, eq_self]
  refine cnd_split ?_ ?_ <;> intro hc <;> simp only [hc, go_sem, Nat.reduceEqDiff, reduceIte, Bool.not_true, Bool.not_false, Bool.false_eq_true, List.length_cons, List.length_nil, Nat.reduceAdd, List.getElem?_cons_zero, List.getElem?_cons_succ, decide_true, eq_self]
  · have hq := of_decide_eq_true hc; rw [leftI_lt] at hq
    exact fin_eq rfl (by rw [leftI_neg (by unfold GDebugger.sz; omega)])
  have hq := of_decide_eq_false hc; rw [leftI_lt] at hq; rw [leftI_pos (by omega)]; clear hc
  refine call_pure (c182 _ hb.2.2.2.1 _ (by omega)) ?_
  simp only [go_sem, Nat.reduceEqDiff, reduceIte, Bool.not_true, Bool.not_false, Bool.false_eq_true, List.length_cons, List.length_nil, Nat.reduceAdd, List.getElem?_cons_zero, List.getElem?_cons_succ, decide_true, eq_self]
  refine cnd_split ?_ ?_ <;> intro hc <;> simp only [hc, go_sem, Nat.reduceEqDiff, reduceIte, Bool.not_true, Bool.not_false, Bool.false_eq_true, List.length_cons, List.length_nil, Nat.reduceAdd, List.getElem?_cons_zero, List.getElem?_cons_succ, decide_true, eq_self]
  · have hq := of_decide_eq_true hc; rw [leftI_lt] at hq
    exact fin_eq rfl (by rw [leftI_neg (by unfold GDebugger.sz; omega)])
  have hq := of_decide_eq_false hc; rw [leftI_lt] at hq; rw [leftI_pos (by omega)]; clear hc
  refine call_pure (c364 _ hb.2.2.2.2.1 _ (by omega)) ?_
  simp only [go_sem, Nat.reduceEqDiff, reduceIte, Bool.not_true, Bool.not_false, Bool.false_eq_true, List.length_cons, List.length_nil, Nat.reduceAdd, List.getElem?_cons_zero, List.getElem?_cons_succ, decide_true, eq_self]
  refine cnd_split ?_ ?_ <;> intro hc <;> simp only [hc, go_sem, Nat.reduceEqDiff, reduceIte, Bool.not_true, Bool.not_false, Bool.false_eq_true, List.length_cons, List.length_nil, Nat.reduceAdd, List.getElem?_cons_zero, List.getElem?_cons_succ, decide_true, eq_self]
  · have hq := of_decide_eq_true hc; rw [leftI_lt] at hq
    exact fin_eq rfl (by rw [leftI_neg (by unfold GDebugger.sz; omega)])
  have hq := of_decide_eq_false hc; rw [leftI_lt] at hq; rw [leftI_pos (by omega)]; clear hc
  refine call_pure (c365 _ hb.2.2.2.2.2.1 _ (by omega)) ?_
  simp only [go_sem, Nat.reduceEqDiff, reduceIte, Bool.not_true, Bool.not_false, Bool.false_eq_true, List.length_cons, List.length_nil, Nat.reduceAdd, List.getElem?_cons_zero, List.getElem?_cons_succ, decide_true, eq_self]
  refine cnd_split ?_ ?_ <;> intro hc <;> simp only [hc, go_sem, Nat.reduceEqDiff, reduceIte, Bool.not_true, Bool.not_false, Bool.false_eq_true, List.length_cons, List.length_nil, Nat.reduceAdd, List.getElem?_cons_zero, List.getElem?_cons_succ, decide_true, eq_self]
  · have hq := of_decide_eq_true hc; rw [leftI_lt] at hq
    exact fin_eq rfl (by rw [leftI_neg (by unfold GDebugger.sz; omega)])
  have hq := of_decide_eq_false hc; rw [leftI_lt] at hq; rw [leftI_pos (by omega)]; clear hc
  refine call_pure (c366 _ ⟨hb.2.2.2.2.2.2.1, hb.2.2.2.2.2.2.2⟩ _ (by omega)) ?_
  simp only [go_sem, Nat.reduceEqDiff, reduceIte, Bool.not_true, Bool.not_false, Bool.false_eq_true, List.length_cons, List.length_nil, Nat.reduceAdd, List.getElem?_cons_zero, List.getElem?_cons_succ, decide_true, eq_self]
  refine cnd_split ?_ ?_ <;> intro hc <;> simp only [hc, go_sem, Nat.reduceEqDiff, reduceIte, Bool.not_true, Bool.not_false, Bool.false_eq_true, List.length_cons, List.length_nil, Nat.reduceAdd, List.getElem?_cons_zero, List.getElem?_cons_succ, decide_true, eq_self]
  · have hq := of_decide_eq_true hc; rw [leftI_lt] at hq
    exact fin_eq rfl (by rw [leftI_neg (by unfold GDebugger.sz; omega)])
  have hq := of_decide_eq_false hc; rw [leftI_lt] at hq; rw [leftI_pos (by omega)]; clear hc
  exact fin_eq rfl (by rw [leftI_pos (by unfold GDebugger.sz; omega)]; unfold GDebugger.sz; first | rfl | (congr 2; omega))
theorem c147 (xs : List Int) (hl : xs.length ≤ 1048576) : Pure Gm 147 [.lst 1 (xs.map encI) false] (.lst 1 (xs.map encI) false) := toS0_ok g147 xs hl
theorem c1419 (x : GPort) : Pure Gm 1419 [x.enc] x.enc := by
  refine Pure.intro [] [] g1419 (by kernel_rfl) rfl (by simp [AV.trees, AV.tree, GPort.tr]) GPort.tr ?_
  simp only [F1419, vparams, go_sem, Nat.reduceEqDiff, reduceIte, Bool.not_true, Bool.not_false, Bool.false_eq_true, List.length_cons, List.length_nil, Nat.reduceAdd, List.getElem?_cons_zero, List.getElem?_cons_succ, decide_true, eq_self]
  refine lbox_ok rfl ?_
  simp only [go_sem, Nat.reduceEqDiff, reduceIte, Bool.not_true, Bool.not_false, Bool.false_eq_true, List.length_cons, List.length_nil, Nat.reduceAdd, List.getElem?_cons_zero, List.getElem?_cons_succ, decide_true, eq_self]
  refine lst_all rfl rfl ⟨_, rfl⟩ (by decide) ?_
  simp only [go_sem, Nat.reduceEqDiff, reduceIte, Bool.not_true, Bool.not_false, Bool.false_eq_true, List.length_cons, List.length_nil, Nat.reduceAdd, List.getElem?_cons_zero, List.getElem?_cons_succ, decide_true, eq_self]
  exact fin_eq GPort.tr rfl
theorem c1178 (xs : List GPort) (hl : xs.length ≤ 1048576) : Pure Gm 1178 [.lst 2 (xs.map GPort.enc) false] (.lst 2 (xs.map GPort.enc) false) :=
  toS_ok GPort.isSh rfl rfl (by simp) g1178 xs (fun x hm => c1419 x) (by omega)
theorem c858 (x : GAgent) (hz : x.sz ≤ 1048576) : Pure Gm 858 [x.enc] x.enc := by
  refine Pure.intro [] [] g858 (by kernel_rfl) rfl (by simp [AV.trees, AV.tree, GAgent.tr]) GAgent.tr ?_
  simp only [F858, vparams, go_sem, Nat.reduceEqDiff, reduceIte, Bool.not_true, Bool.not_false, Bool.false_eq_true, List.length_cons, List.length_nil, Nat.reduceAdd, List.getElem?_cons_zero, List.getElem?_cons_succ, decide_true, eq_self]
  refine lbox_ok rfl ?_
  simp only [go_sem, Nat.reduceEqDiff, reduceIte, Bool.not_true, Bool.not_false, Bool.false_eq_true, List.length_cons, List.length_nil, Nat.reduceAdd, List.getElem?_cons_zero, List.getElem?_cons_succ, decide_true, eq_self]
  unfold GAgent.sz at hz
  refine call_pure (c147 _ (by omega)) ?_
  simp only [go_sem, Nat.reduceEqDiff, reduceIte, Bool.not_true, Bool.not_false, Bool.false_eq_true, List.length_cons, List.length_nil, Nat.reduceAdd, List.getElem?_cons_zero, List.getElem?_cons_succ, decide_true, eq_self]
  refine call_pure (c1178 _ (by omega)) ?_
  simp only [go_sem, Nat.reduceEqDiff, reduceIte, Bool.not_true, Bool.not_false, Bool.false_eq_true, List.length_cons, List.length_nil, Nat.reduceAdd, List.getElem?_cons_zero, List.getElem?_cons_succ, decide_true, eq_self]
  refine lst_all rfl rfl ⟨_, rfl⟩ (by decide) ?_
  simp only [go_sem, Nat.reduceEqDiff, reduceIte, Bool.not_true, Bool.not_false, Bool.false_eq_true, List.length_cons, List.length_nil, Nat.reduceAdd, List.getElem?_cons_zero, List.getElem?_cons_succ, decide_true, eq_self]
  exact fin_eq GAgent.tr rfl
theorem c504 (xs : List GAgent) (hl : xs.length + sumN GAgent.sz xs ≤ 1048576) : Pure Gm 504 [.lst 5 (xs.map GAgent.enc) false] (.lst 5 (xs.map GAgent.enc) false) :=
  toS_ok GAgent.isSh rfl rfl (by simp) g504 xs (fun x hm => c858 x (by have := le_sumN (f := GAgent.sz) hm; omega)) (by omega)
theorem c185 (x : GNet) (hz : x.sz ≤ 1048576) : Pure Gm 185 [x.enc] x.enc := by
  refine Pure.intro [] [] g185 (by kernel_rfl) rfl (by simp [AV.trees, AV.tree, GNet.tr]) GNet.tr ?_
  simp only [F185, vparams, go_sem, Nat.reduceEqDiff, reduceIte, Bool.not_true, Bool.not_false, Bool.false_eq_true, List.length_cons, List.length_nil, Nat.reduceAdd, List.getElem?_cons_zero, List.getElem?_cons_succ, decide_true, eq_self]
  refine lbox_ok rfl ?_
  simp only [go_sem, Nat.reduceEqDiff, reduceIte, Bool.not_true, Bool.not_false, Bool.false_eq_true, List.length_cons, List.length_nil, Nat.reduceAdd, List.getElem?_cons_zero, List.getElem?_cons_succ, decide_true, eq_self]
  unfold GNet.sz at hz
  refine call_pure (c504 _ (by omega)) ?_
  simp only [go_sem, Nat.reduceEqDiff, reduceIte, Bool.not_true, Bool.not_false, Bool.false_eq_true, List.length_cons, List.length_nil, Nat.reduceAdd, List.getElem?_cons_zero, List.getElem?_cons_succ, decide_true, eq_self]
  exact fin_eq GNet.tr rfl
theorem c184 (xs : List GNet) (hl : xs.length + sumN GNet.sz xs ≤ 1048576) : Pure Gm 184 [.lst 1 (xs.map GNet.enc) false] (.lst 1 (xs.map GNet.enc) false) :=
  toS_ok GNet.isSh rfl rfl (by simp) g184 xs (fun x hm => c185 x (by have := le_sumN (f := GNet.sz) hm; omega)) (by omega)
theorem c745 (x : GOrigin) : Pure Gm 745 [x.enc] x.enc := by
  refine Pure.intro [] [] g745 (by kernel_rfl) rfl (by simp [AV.trees, AV.tree, GOrigin.tr]) GOrigin.tr ?_
  simp only [F745, vparams, go_sem, Nat.reduceEqDiff, reduceIte, Bool.not_true, Bool.not_false, Bool.false_eq_true, List.length_cons, List.length_nil, Nat.reduceAdd, List.getElem?_cons_zero, List.getElem?_cons_succ, decide_true, eq_self]
  refine lbox_ok rfl ?_
  simp only [go_sem, Nat.reduceEqDiff, reduceIte, Bool.not_true, Bool.not_false, Bool.false_eq_true, List.length_cons, List.length_nil, Nat.reduceAdd, List.getElem?_cons_zero, List.getElem?_cons_succ, decide_true, eq_self]
  refine lst_all rfl rfl ⟨_, rfl⟩ (by decide) ?_
  simp only [go_sem, Nat.reduceEqDiff, reduceIte, Bool.not_true, Bool.not_false, Bool.false_eq_true, List.length_cons, List.length_nil, Nat.reduceAdd, List.getElem?_cons_zero, List.getElem?_cons_succ, decide_true, eq_self]
  exact fin_eq GOrigin.tr rfl
theorem c370 (xs : List GOrigin) (hl : xs.length ≤ 1048576) : Pure Gm 370 [.lst 3 (xs.map GOrigin.enc) false] (.lst 3 (xs.map GOrigin.enc) false) :=
  toS_ok GOrigin.isSh rfl rfl (by simp) g370 xs (fun x hm => c745 x) (by omega)
theorem c134 (x : GBreak) : Pure Gm 134 [x.enc] x.enc := by
  refine Pure.intro [] [] g134 (by kernel_rfl) rfl (by simp [AV.trees, AV.tree, GBreak.tr]) GBreak.tr ?_
  simp only [F134, vparams, go_sem, Nat.reduceEqDiff, reduceIte, Bool.not_true, Bool.not_false, Bool.false_eq_true, List.length_cons, List.length_nil, Nat.reduceAdd, List.getElem?_cons_zero, List.getElem?_cons_succ, decide_true, eq_self]
  refine lbox_ok rfl ?_
  simp only [go_sem, Nat.reduceEqDiff, reduceIte, Bool.not_true, Bool.not_false, Bool.false_eq_true, List.length_cons, List.length_nil, Nat.reduceAdd, List.getElem?_cons_zero, List.getElem?_cons_succ, decide_true, eq_self]
  refine lst_all rfl rfl ⟨_, rfl⟩ (by decide) ?_
  simp only [go_sem, Nat.reduceEqDiff, reduceIte, Bool.not_true, Bool.not_false, Bool.false_eq_true, List.length_cons, List.length_nil, Nat.reduceAdd, List.getElem?_cons_zero, List.getElem?_cons_succ, decide_true, eq_self]
  exact fin_eq GBreak.tr rfl
theorem c371 (xs : List GBreak) (hl : xs.length ≤ 1048576) : Pure Gm 371 [.lst 2 (xs.map GBreak.enc) false] (.lst 2 (xs.map GBreak.enc) false) :=
  toS_ok GBreak.isSh rfl rfl (by simp) g371 xs (fun x hm => c134 x) (by omega)
theorem c746 (x : GCheckpoint) (hz : x.sz ≤ 1048576) : Pure Gm 746 [x.enc] x.enc := by
  refine Pure.intro [] [] g746 (by kernel_rfl) rfl (by simp [AV.trees, AV.tree, GCheckpoint.tr]) GCheckpoint.tr ?_
  simp only [F746, vparams, go_sem, Nat.reduceEqDiff, reduceIte, Bool.not_true, Bool.not_false, Bool.false_eq_true, List.length_cons, List.length_nil, Nat.reduceAdd, List.getElem?_cons_zero, List.getElem?_cons_succ, decide_true, eq_self]
  refine lbox_ok rfl ?_
  simp only [go_sem, Nat.reduceEqDiff, reduceIte, Bool.not_true, Bool.not_false, Bool.false_eq_true, List.length_cons, List.length_nil, Nat.reduceAdd, List.getElem?_cons_zero, List.getElem?_cons_succ, decide_true, eq_self]
  unfold GCheckpoint.sz at hz
  refine call_pure (c185 _ (by omega)) ?_
  simp only [go_sem, Nat.reduceEqDiff, reduceIte, Bool.not_true, Bool.not_false, Bool.false_eq_true, List.length_cons, List.length_nil, Nat.reduceAdd, List.getElem?_cons_zero, List.getElem?_cons_succ, decide_true, eq_self]
  refine call_pure (c370 _ (by omega)) ?_
  simp only [go_sem, Nat.reduceEqDiff, reduceIte, Bool.not_true, Bool.not_false, Bool.false_eq_true, List.length_cons, List.length_nil, Nat.reduceAdd, List.getElem?_cons_zero, List.getElem?_cons_succ, decide_true, eq_self]
  refine lst_all rfl rfl ⟨_, rfl⟩ (by decide) ?_
  simp only [go_sem, Nat.reduceEqDiff, reduceIte, Bool.not_true, Bool.not_false, Bool.false_eq_true, List.length_cons, List.length_nil, Nat.reduceAdd, List.getElem?_cons_zero, List.getElem?_cons_succ, decide_true, eq_self]
  exact fin_eq GCheckpoint.tr rfl
theorem c372 (xs : List GCheckpoint) (hl : xs.length + sumN GCheckpoint.sz xs ≤ 1048576) : Pure Gm 372 [.lst 3 (xs.map GCheckpoint.enc) false] (.lst 3 (xs.map GCheckpoint.enc) false) :=
  toS_ok GCheckpoint.isSh rfl rfl (by simp) g372 xs (fun x hm => c746 x (by have := le_sumN (f := GCheckpoint.sz) hm; omega)) (by omega)
theorem c106 (x : GDebugger) (hz : x.sz ≤ 1048576) : Pure Gm 106 [x.enc] x.enc := by
  refine Pure.intro [] [] g106 (by kernel_rfl) rfl (by simp [AV.trees, AV.tree, GDebugger.tr]) GDebugger.tr ?_
  simp only [F106, vparams, go_sem, Nat.reduceEqDiff, reduceIte, Bool.not_true, Bool.not_false, Bool.false_eq_true, List.length_cons, List.length_nil, Nat.reduceAdd, List.getElem?_cons_zero, List.getElem?_cons_succ, decide_true, eq_self]
  refine lbox_ok rfl ?_
  simp only [go_sem, Nat.reduceEqDiff, reduceIte, Bool.not_true, Bool.not_false, Bool.false_eq_true, List.length_cons, List.length_nil, Nat.reduceAdd, List.getElem?_cons_zero, List.getElem?_cons_succ, decide_true, eq_self]
  unfold GDebugger.sz at hz
  refine call_pure (c184 _ (by omega)) ?_
  simp only [go_sem, Nat.reduceEqDiff, reduceIte, Bool.not_true, Bool.not_false, Bool.false_eq_true, List.length_cons, List.length_nil, Nat.reduceAdd, List.getElem?_cons_zero, List.getElem?_cons_succ, decide_true, eq_self]
  refine call_pure (c147 _ (by omega)) ?_
  simp only [go_sem, Nat.reduceEqDiff, reduceIte, Bool.not_true, Bool.not_false, Bool.false_eq_true, List.length_cons, List.length_nil, Nat.reduceAdd, List.getElem?_cons_zero, List.getElem?_cons_succ, decide_true, eq_self]
  refine call_pure (c185 _ (by omega)) ?_
  simp only [go_sem, Nat.reduceEqDiff, reduceIte, Bool.not_true, Bool.not_false, Bool.false_eq_true, List.length_cons, List.length_nil, Nat.reduceAdd, List.getElem?_cons_zero, List.getElem?_cons_succ, decide_true, eq_self]
  refine call_pure (c370 _ (by omega)) ?_
  simp only [go_sem, Nat.reduceEqDiff, reduceIte, Bool.not_true, Bool.not_false, Bool.false_eq_true, List.length_cons, List.length_nil, Nat.reduceAdd, List.getElem?_cons_zero, List.getElem?_cons_succ, decide_true, eq_self]
  refine call_pure (c371 _ (by omega)) ?_
  simp only [go_sem, Nat.reduceEqDiff, reduceIte, Bool.not_true, Bool.not_false, Bool.false_eq_true, List.length_cons, List.length_nil, Nat.reduceAdd, List.getElem?_cons_zero, List.getElem?_cons_succ, decide_true, eq_self]
  refine call_pure (c372 _ (by omega)) ?_
  simp only [go_sem, Nat.reduceEqDiff, reduceIte, Bool.not_true, Bool.not_false, Bool.false_eq_true, List.length_cons, List.length_nil, Nat.reduceAdd, List.getElem?_cons_zero, List.getElem?_cons_succ, decide_true, eq_self]
  refine lst_all rfl rfl ⟨_, rfl⟩ (by decide) ?_
  simp only [go_sem, Nat.reduceEqDiff, reduceIte, Bool.not_true, Bool.not_false, Bool.false_eq_true, List.length_cons, List.length_nil, Nat.reduceAdd, List.getElem?_cons_zero, List.getElem?_cons_succ, decide_true, eq_self]
  exact fin_eq GDebugger.tr rfl
theorem c86 (xs : List Int) (hl : xs.length ≤ 1048576) : Pure Gm 86 [.lst 1 (xs.map encI) false, .lst 1 (xs.map encI) false] (.bool true) := eqS0_ok g86 xs hl
theorem c1422 (x : GPort) : Pure Gm 1422 [x.enc, x.enc] (.bool true) := by
  refine Pure.intro [] [] g1422 (by kernel_rfl) rfl (by simp [AV.trees, AV.tree, GPort.tr]) rfl ?_
  simp only [F1422, vparams, go_sem, Nat.reduceEqDiff, reduceIte, Bool.not_true, Bool.not_false, Bool.false_eq_true, List.length_cons, List.length_nil, Nat.reduceAdd, List.getElem?_cons_zero, List.getElem?_cons_succ, decide_true, eq_self]
  refine lbox_ok rfl ?_
  simp only [go_sem, Nat.reduceEqDiff, reduceIte, Bool.not_true, Bool.not_false, Bool.false_eq_true, List.length_cons, List.length_nil, Nat.reduceAdd, List.getElem?_cons_zero, List.getElem?_cons_succ, decide_true, eq_self]
  refine lbox_ok rfl ?_
  simp only [go_sem, Nat.reduceEqDiff, reduceIte, Bool.not_true, Bool.not_false, Bool.false_eq_true, List.length_cons, List.length_nil, Nat.reduceAdd, List.getElem?_cons_zero, List.getElem?_cons_succ, decide_true, eq_self]
  exact fin_eq rfl rfl
theorem c1184 (xs : List GPort) (hl : xs.length ≤ 1048576) : Pure Gm 1184 [.lst 2 (xs.map GPort.enc) false, .lst 2 (xs.map GPort.enc) false] (.bool true) :=
  eqS_ok GPort.isSh g1184 xs (fun x hm => c1422 x) (by omega)
theorem c870 (x : GAgent) (hz : x.sz ≤ 1048576) : Pure Gm 870 [x.enc, x.enc] (.bool true) := by
  refine Pure.intro [] [] g870 (by kernel_rfl) rfl (by simp [AV.trees, AV.tree, GAgent.tr]) rfl ?_
  simp only [F870, vparams, go_sem, Nat.reduceEqDiff, reduceIte, Bool.not_true, Bool.not_false, Bool.false_eq_true, List.length_cons, List.length_nil, Nat.reduceAdd, List.getElem?_cons_zero, List.getElem?_cons_succ, decide_true, eq_self]
  refine lbox_ok rfl ?_
  simp only [go_sem, Nat.reduceEqDiff, reduceIte, Bool.not_true, Bool.not_false, Bool.false_eq_true, List.length_cons, List.length_nil, Nat.reduceAdd, List.getElem?_cons_zero, List.getElem?_cons_succ, decide_true, eq_self]
  refine lbox_ok rfl ?_
  simp only [go_sem, Nat.reduceEqDiff, reduceIte, Bool.not_true, Bool.not_false, Bool.false_eq_true, List.length_cons, List.length_nil, Nat.reduceAdd, List.getElem?_cons_zero, List.getElem?_cons_succ, decide_true, eq_self]
  unfold GAgent.sz at hz
  refine call_pure (c86 _ (by omega)) ?_
  simp only [go_sem, Nat.reduceEqDiff, reduceIte, Bool.not_true, Bool.not_false, Bool.false_eq_true, List.length_cons, List.length_nil, Nat.reduceAdd, List.getElem?_cons_zero, List.getElem?_cons_succ, decide_true, eq_self]
  refine call_pure (c1184 _ (by omega)) ?_
  simp only [go_sem, Nat.reduceEqDiff, reduceIte, Bool.not_true, Bool.not_false, Bool.false_eq_true, List.length_cons, List.length_nil, Nat.reduceAdd, List.getElem?_cons_zero, List.getElem?_cons_succ, decide_true, eq_self]
  exact fin_eq rfl rfl
theorem c508 (xs : List GAgent) (hl : xs.length + sumN GAgent.sz xs ≤ 1048576) : Pure Gm 508 [.lst 5 (xs.map GAgent.enc) false, .lst 5 (xs.map GAgent.enc) false] (.bool true) :=
  eqS_ok GAgent.isSh g508 xs (fun x hm => c870 x (by have := le_sumN (f := GAgent.sz) hm; omega)) (by omega)
theorem c188 (x : GNet) (hz : x.sz ≤ 1048576) : Pure Gm 188 [x.enc, x.enc] (.bool true) := by
  refine Pure.intro [] [] g188 (by kernel_rfl) rfl (by simp [AV.trees, AV.tree, GNet.tr]) rfl ?_
  simp only [F188, vparams, go_sem, Nat.reduceEqDiff, reduceIte, Bool.not_true, Bool.not_false, Bool.false_eq_true, List.length_cons, List.length_nil, Nat.reduceAdd, List.getElem?_cons_zero, List.getElem?_cons_succ, decide_true, eq_self]
  refine lbox_ok rfl ?_
  simp only [go_sem, Nat.reduceEqDiff, reduceIte, Bool.not_true, Bool.not_false, Bool.false_eq_true, List.length_cons, List.length_nil, Nat.reduceAdd, List.getElem?_cons_zero, List.getElem?_cons_succ, decide_true, eq_self]
  refine lbox_ok rfl ?_
  simp only [go_sem, Nat.reduceEqDiff, reduceIte, Bool.not_true, Bool.not_false, Bool.false_eq_true, List.length_cons, List.length_nil, Nat.reduceAdd, List.getElem?_cons_zero, List.getElem?_cons_succ, decide_true, eq_self]
  unfold GNet.sz at hz
  refine call_pure (c508 _ (by omega)) ?_
  simp only [go_sem, Nat.reduceEqDiff, reduceIte, Bool.not_true, Bool.not_false, Bool.false_eq_true, List.length_cons, List.length_nil, Nat.reduceAdd, List.getElem?_cons_zero, List.getElem?_cons_succ, decide_true, eq_self]
  exact fin_eq rfl rfl
theorem c187 (xs : List GNet) (hl : xs.length + sumN GNet.sz xs ≤ 1048576) : Pure Gm 187 [.lst 1 (xs.map GNet.enc) false, .lst 1 (xs.map GNet.enc) false] (.bool true) :=
  eqS_ok GNet.isSh g187 xs (fun x hm => c188 x (by have := le_sumN (f := GNet.sz) hm; omega)) (by omega)
theorem c752 (x : GOrigin) : Pure Gm 752 [x.enc, x.enc] (.bool true) := by
  refine Pure.intro [] [] g752 (by kernel_rfl) rfl (by simp [AV.trees, AV.tree, GOrigin.tr]) rfl ?_
  simp only [F752, vparams, go_sem, Nat.reduceEqDiff, reduceIte, Bool.not_true, Bool.not_false, Bool.false_eq_true, List.length_cons, List.length_nil, Nat.reduceAdd, List.getElem?_cons_zero, List.getElem?_cons_succ, decide_true, eq_self]
  refine lbox_ok rfl ?_
  simp only [go_sem, Nat.reduceEqDiff, reduceIte, Bool.not_true, Bool.not_false, Bool.false_eq_true, List.length_cons, List.length_nil, Nat.reduceAdd, List.getElem?_cons_zero, List.getElem?_cons_succ, decide_true, eq_self]
  refine lbox_ok rfl ?_
  simp only [go_sem, Nat.reduceEqDiff, reduceIte, Bool.not_true, Bool.not_false, Bool.false_eq_true, List.length_cons, List.length_nil, Nat.reduceAdd, List.getElem?_cons_zero, List.getElem?_cons_succ, decide_true, eq_self]
  exact fin_eq rfl rfl
theorem c377 (xs : List GOrigin) (hl : xs.length ≤ 1048576) : Pure Gm 377 [.lst 3 (xs.map GOrigin.enc) false, .lst 3 (xs.map GOrigin.enc) false] (.bool true) :=
  eqS_ok GOrigin.isSh g377 xs (fun x hm => c752 x) (by omega)
theorem c753 (x : GBreak) : Pure Gm 753 [x.enc, x.enc] (.bool true) := by
  refine Pure.intro [] [] g753 (by kernel_rfl) rfl (by simp [AV.trees, AV.tree, GBreak.tr]) rfl ?_
  simp only [F753, vparams, go_sem, Nat.reduceEqDiff, reduceIte, Bool.not_true, Bool.not_false, Bool.false_eq_true, List.length_cons, List.length_nil, Nat.reduceAdd, List.getElem?_cons_zero, List.getElem?_cons_succ, decide_true, eq_self]
  refine lbox_ok rfl ?_
  simp only [go_sem, Nat.reduceEqDiff, reduceIte, Bool.not_true, Bool.not_false, Bool.false_eq_true, List.length_cons, List.length_nil, Nat.reduceAdd, List.getElem?_cons_zero, List.getElem?_cons_succ, decide_true, eq_self]
  refine lbox_ok rfl ?_
  simp only [go_sem, Nat.reduceEqDiff, reduceIte, Bool.not_true, Bool.not_false, Bool.false_eq_true, List.length_cons, List.length_nil, Nat.reduceAdd, List.getElem?_cons_zero, List.getElem?_cons_succ, decide_true, eq_self]
  exact fin_eq rfl rfl
theorem c378 (xs : List GBreak) (hl : xs.length ≤ 1048576) : Pure Gm 378 [.lst 2 (xs.map GBreak.enc) false, .lst 2 (xs.map GBreak.enc) false] (.bool true) :=
  eqS_ok GBreak.isSh g378 xs (fun x hm => c753 x) (by omega)
theorem c754 (x : GCheckpoint) (hz : x.sz ≤ 1048576) : Pure Gm 754 [x.enc, x.enc] (.bool true) := by
  refine Pure.intro [] [] g754 (by kernel_rfl) rfl (by simp [AV.trees, AV.tree, GCheckpoint.tr]) rfl ?_
  simp only [F754, vparams, go_sem, Nat.reduceEqDiff, reduceIte, Bool.not_true, Bool.not_false, Bool.false_eq_true, List.length_cons, List.length_nil, Nat.reduceAdd, List.getElem?_cons_zero, List.getElem?_cons_succ, decide_true, eq_self]
  refine lbox_ok rfl ?_
  simp only [go_sem, Nat.reduceEqDiff, reduceIte, Bool.not_true, Bool.not_false, Bool.false_eq_true, List.length_cons, List.length_nil, Nat.reduceAdd, List.getElem?_cons_zero, List.getElem?_cons_succ, decide_true, eq_self]
  refine lbox_ok rfl ?_
  simp only [go_sem, Nat.reduceEqDiff, reduceIte, Bool.not_true, Bool.not_false, Bool.false_eq_true, List.length_cons, List.length_nil, Nat.reduceAdd, List.getElem?_cons_zero, List.getElem?_cons_succ, decide_true, eq_self]
  unfold GCheckpoint.sz at hz
  refine call_pure (c188 _ (by omega)) ?_
  simp only [go_sem, Nat.reduceEqDiff, reduceIte, Bool.not_true, Bool.not_false, Bool.false_eq_true, List.length_cons, List.length_nil, Nat.reduceAdd, List.getElem?_cons_zero, List.getElem?_cons_succ, decide_true, eq_self]
  refine call_pure (c377 _ (by omega)) ?_
  simp only [go_sem, Nat.reduceEqDiff, reduceIte, Bool.not_true, Bool.not_false, Bool.false_eq_true, List.length_cons, List.length_nil, Nat.reduceAdd, List.getElem?_cons_zero, List.getElem?_cons_succ, decide_true, eq_self]
  exact fin_eq rfl rfl
theorem c379 (xs : List GCheckpoint) (hl : xs.length + sumN GCheckpoint.sz xs ≤ 1048576) : Pure Gm 379 [.lst 3 (xs.map GCheckpoint.enc) false, .lst 3 (xs.map GCheckpoint.enc) false] (.bool true) :=
  eqS_ok GCheckpoint.isSh g379 xs (fun x hm => c754 x (by have := le_sumN (f := GCheckpoint.sz) hm; omega)) (by omega)
theorem c108 (x : GDebugger) (hz : x.sz ≤ 1048576) : Pure Gm 108 [x.enc, x.enc] (.bool true) := by
  refine Pure.intro [] [] g108 (by kernel_rfl) rfl (by simp [AV.trees, AV.tree, GDebugger.tr]) rfl ?_
  simp only [F108, vparams, go_sem, Nat.reduceEqDiff, reduceIte, Bool.not_true, Bool.not_false, Bool.false_eq_true, List.length_cons, List.length_nil, Nat.reduceAdd, List.getElem?_cons_zero, List.getElem?_cons_succ, decide_true, eq_self]
  refine lbox_ok rfl ?_
  simp only [go_sem, Nat.reduceEqDiff, reduceIte, Bool.not_true, Bool.not_false, Bool.false_eq_true, List.length_cons, List.length_nil, Nat.reduceAdd, List.getElem?_cons_zero, List.getElem?_cons_succ, decide_true, eq_self]
  refine lbox_ok rfl ?_
  simp only [go_sem, Nat.reduceEqDiff, reduceIte, Bool.not_true, Bool.not_false, Bool.false_eq_true, List.length_cons, List.length_nil, Nat.reduceAdd, List.getElem?_cons_zero, List.getElem?_cons_succ, decide_true, eq_self]
  unfold GDebugger.sz at hz
  refine call_pure (c187 _ (by omega)) ?_
  simp only [go_sem, Nat.reduceEqDiff, reduceIte, Bool.not_true, Bool.not_false, Bool.false_eq_true, List.length_cons, List.length_nil, Nat.reduceAdd, List.getElem?_cons_zero, List.getElem?_cons_succ, decide_true, eq_self]
  refine call_pure (c86 _ (by omega)) ?_
  simp only [go_sem, Nat.reduceEqDiff, reduceIte, Bool.not_true, Bool.not_false, Bool.false_eq_true, List.length_cons, List.length_nil, Nat.reduceAdd, List.getElem?_cons_zero, List.getElem?_cons_succ, decide_true, eq_self]
  refine call_pure (c188 _ (by omega)) ?_
  simp only [go_sem, Nat.reduceEqDiff, reduceIte, Bool.not_true, Bool.not_false, Bool.false_eq_true, List.length_cons, List.length_nil, Nat.reduceAdd, List.getElem?_cons_zero, List.getElem?_cons_succ, decide_true, eq_self]
  refine call_pure (c377 _ (by omega)) ?_
  simp only [go_sem, Nat.reduceEqDiff, reduceIte, Bool.not_true, Bool.not_false, Bool.false_eq_true, List.length_cons, List.length_nil, Nat.reduceAdd, List.getElem?_cons_zero, List.getElem?_cons_succ, decide_true, eq_self]
  refine call_pure (c378 _ (by omega)) ?_
  simp only [go_sem, Nat.reduceEqDiff, reduceIte, Bool.not_true, Bool.not_false, Bool.false_eq_true, List.length_cons, List.length_nil, Nat.reduceAdd, List.getElem?_cons_zero, List.getElem?_cons_succ, decide_true, eq_self]
  refine call_pure (c379 _ (by omega)) ?_
  simp only [go_sem, Nat.reduceEqDiff, reduceIte, Bool.not_true, Bool.not_false, Bool.false_eq_true, List.length_cons, List.length_nil, Nat.reduceAdd, List.getElem?_cons_zero, List.getElem?_cons_succ, decide_true, eq_self]
  exact fin_eq rfl rfl
end Go.Ab
namespace Go.Ab
open Go
set_option maxRecDepth 10000
def inI (n lo hi : Int) : Bool := decide (lo ≤ n) && decide (n ≤ hi)
def portsOf (k f : Int) : Int :=
  if k = 9 then (if inI f 0 3 then f + 1 else 0) else if f ≠ 0 then 0 else
  if k = 1 ∨ k = 5 ∨ k = 6 ∨ k = 12 then 1 else if k = 8 ∨ k = 10 ∨ k = 11 then 2 else if k = 2 ∨ k = 3 ∨ k = 4 ∨ k = 7 then 3 else 0
def hasLevel (k : Int) : Bool := decide (k = 2) || decide (k = 3) || decide (k = 4) || decide (k = 7) || decide (k = 8) || decide (k = 9) || decide (k = 10) || decide (k = 11) || decide (k = 12)
def kindI (k : Int) : Bool := inI k 1 12
def levelOk (k l : Int) : Bool := if hasLevel k then inI l 0 8 else kindI k && decide (l = 0)
def breakOk (b : GBreak) : Bool := if b.Kind = 1 then inI b.Value 1 8 else if b.Kind = 2 then inI b.Value 0 23 else if b.Kind = 3 then inI b.Value 1 600 else false
def defOk (n : Int) : Bool := inI n 0 23
def fieldsOf (x : GAgent) : Int := if x.Kind = 9 then (x.Ports.length : Int) - 1 else 0
def contentOk (x : GAgent) : Bool :=
  if x.Kind = 6 then decide ((x.Data.length : Int) = 0) && inI x.Value (-2147483648) 2147483647
  else if x.Kind = 7 then decide ((x.Data.length : Int) = 0) && inI x.Value 1 6
  else if x.Kind = 8 then decide ((x.Data.length : Int) = 1) && inI x.Value 1 6 && x.Data.all fun d => inI d (-2147483648) 2147483647
  else if x.Kind = 9 then decide ((x.Data.length : Int) = 0) && inI x.Value 0 3
  else if x.Kind = 12 then decide ((x.Data.length : Int) = 0) && defOk x.Value
  else if x.Kind = 10 then decide (x.Value = 0) && inI x.Data.length 1 4 && x.Data.all defOk
  else if x.Kind = 11 then decide (x.Value = 0) && decide ((x.Data.length : Int) = 2) && x.Data.all defOk
  else decide (x.Value = 0) && decide ((x.Data.length : Int) = 0)
def agentOk (x : GAgent) : Bool := decide (0 < portsOf x.Kind (fieldsOf x)) && decide ((x.Ports.length : Int) = portsOf x.Kind (fieldsOf x)) && levelOk x.Kind x.Level && contentOk x
def agentsFrom : List GAgent → Nat → Bool
  | [], _ => true
  | x :: xs, i => agentOk x && (decide (x.Kind = 1) == decide (i = 0)) && agentsFrom xs (i + 1)
def agentsOk (xs : List GAgent) : Bool := inI xs.length 1 600 && agentsFrom xs 0
def portsLen (xs : List GAgent) (a : Int) : Nat := match xs[a.toNat]? with
  | some x => x.Ports.length
  | none => 0
def portOk (xs : List GAgent) (p : GPort) : Bool := inI p.Agent 0 ((xs.length : Int) - 1) && inI p.Slot 0 ((portsLen xs p.Agent : Int) - 1)
theorem drop_at {α : Type} {xs : List α} {i : Nat} (h : i < xs.length) : xs.drop i = xs[i] :: xs.drop (i + 1) := by simp
theorem c340 {n lo hi : Int} : Pure Gm 340 [.int .i64 n, .int .i64 lo, .int .i64 hi] (.bool (inI n lo hi)) := by
  refine Pure.intro [] [] g340 (by kernel_rfl) rfl (by simp [AV.trees, AV.tree, go_sem]) rfl ?_
  simp only [F340, vparams, go_sem, Nat.reduceEqDiff, reduceIte, Bool.not_true, Bool.not_false, Bool.false_eq_true, List.length_cons, List.length_nil, Nat.reduceAdd, List.getElem?_cons_zero, List.getElem?_cons_succ, decide_true, eq_self, List.length_map]
  repeat' (first | (refine lbox_ok rfl ?_; simp only [go_sem, Nat.reduceEqDiff, reduceIte, Bool.not_true, Bool.not_false, Bool.false_eq_true, List.length_cons, List.length_nil, Nat.reduceAdd, List.getElem?_cons_zero, List.getElem?_cons_succ, decide_true, eq_self, List.length_map]) | (first | (refine grd_split ?_ ?_ <;> intro hc <;> simp only [hc, go_sem, Nat.reduceEqDiff, reduceIte, Bool.not_true, Bool.not_false, Bool.false_eq_true, List.length_cons, List.length_nil, Nat.reduceAdd, List.getElem?_cons_zero, List.getElem?_cons_succ, decide_true, eq_self, List.length_map]) | (refine cnd_split ?_ ?_ <;> intro hc <;> simp only [hc, go_sem, Nat.reduceEqDiff, reduceIte, Bool.not_true, Bool.not_false, Bool.false_eq_true, List.length_cons, List.length_nil, Nat.reduceAdd, List.getElem?_cons_zero, List.getElem?_cons_succ, decide_true, eq_self, List.length_map])) | refine fin_eq rfl ?_)
  all_goals (simp_all [inI] <;> omega)
theorem c426 {b : GBreak} : Pure Gm 426 [.ept b.enc 0] (.bool (breakOk b)) := by
  refine Pure.intro [] [] g426 (by kernel_rfl) rfl (by simp [AV.trees, AV.tree, go_sem]) rfl ?_
  simp only [F426, vparams, go_sem, Nat.reduceEqDiff, reduceIte, Bool.not_true, Bool.not_false, Bool.false_eq_true, List.length_cons, List.length_nil, Nat.reduceAdd, List.getElem?_cons_zero, List.getElem?_cons_succ, decide_true, eq_self, List.length_map]
  repeat' (first | (refine lbox_ok rfl ?_; simp only [go_sem, Nat.reduceEqDiff, reduceIte, Bool.not_true, Bool.not_false, Bool.false_eq_true, List.length_cons, List.length_nil, Nat.reduceAdd, List.getElem?_cons_zero, List.getElem?_cons_succ, decide_true, eq_self, List.length_map]) | (first | (refine grd_split ?_ ?_ <;> intro hc <;> simp only [hc, go_sem, Nat.reduceEqDiff, reduceIte, Bool.not_true, Bool.not_false, Bool.false_eq_true, List.length_cons, List.length_nil, Nat.reduceAdd, List.getElem?_cons_zero, List.getElem?_cons_succ, decide_true, eq_self, List.length_map]) | (refine cnd_split ?_ ?_ <;> intro hc <;> simp only [hc, go_sem, Nat.reduceEqDiff, reduceIte, Bool.not_true, Bool.not_false, Bool.false_eq_true, List.length_cons, List.length_nil, Nat.reduceAdd, List.getElem?_cons_zero, List.getElem?_cons_succ, decide_true, eq_self, List.length_map])) | (refine call_pure (c340) ?_; simp only [go_sem, Nat.reduceEqDiff, reduceIte, Bool.not_true, Bool.not_false, Bool.false_eq_true, List.length_cons, List.length_nil, Nat.reduceAdd, List.getElem?_cons_zero, List.getElem?_cons_succ, decide_true, eq_self, List.length_map]) | refine fin_eq rfl ?_)
  all_goals (simp_all [breakOk])
theorem c1372 {k : Int} : Pure Gm 1372 [.int .i64 k] (.bool (hasLevel k)) := by
  refine Pure.intro [] [] g1372 (by kernel_rfl) rfl (by simp [AV.trees, AV.tree, go_sem]) rfl ?_
  simp only [F1372, vparams, go_sem, Nat.reduceEqDiff, reduceIte, Bool.not_true, Bool.not_false, Bool.false_eq_true, List.length_cons, List.length_nil, Nat.reduceAdd, List.getElem?_cons_zero, List.getElem?_cons_succ, decide_true, eq_self, List.length_map]
  repeat' (first | (refine lbox_ok rfl ?_; simp only [go_sem, Nat.reduceEqDiff, reduceIte, Bool.not_true, Bool.not_false, Bool.false_eq_true, List.length_cons, List.length_nil, Nat.reduceAdd, List.getElem?_cons_zero, List.getElem?_cons_succ, decide_true, eq_self, List.length_map]) | (first | (refine grd_split ?_ ?_ <;> intro hc <;> simp only [hc, go_sem, Nat.reduceEqDiff, reduceIte, Bool.not_true, Bool.not_false, Bool.false_eq_true, List.length_cons, List.length_nil, Nat.reduceAdd, List.getElem?_cons_zero, List.getElem?_cons_succ, decide_true, eq_self, List.length_map]) | (refine cnd_split ?_ ?_ <;> intro hc <;> simp only [hc, go_sem, Nat.reduceEqDiff, reduceIte, Bool.not_true, Bool.not_false, Bool.false_eq_true, List.length_cons, List.length_nil, Nat.reduceAdd, List.getElem?_cons_zero, List.getElem?_cons_succ, decide_true, eq_self, List.length_map])) | refine fin_eq rfl ?_)
  all_goals (simp_all [hasLevel])
theorem c1489 {k : Int} : Pure Gm 1489 [.int .i64 k] (.bool (kindI k)) := by
  refine Pure.intro [] [] g1489 (by kernel_rfl) rfl (by simp [AV.trees, AV.tree, go_sem]) rfl ?_
  simp only [F1489, vparams, go_sem, Nat.reduceEqDiff, reduceIte, Bool.not_true, Bool.not_false, Bool.false_eq_true, List.length_cons, List.length_nil, Nat.reduceAdd, List.getElem?_cons_zero, List.getElem?_cons_succ, decide_true, eq_self, List.length_map]
  repeat' (first | (refine lbox_ok rfl ?_; simp only [go_sem, Nat.reduceEqDiff, reduceIte, Bool.not_true, Bool.not_false, Bool.false_eq_true, List.length_cons, List.length_nil, Nat.reduceAdd, List.getElem?_cons_zero, List.getElem?_cons_succ, decide_true, eq_self, List.length_map]) | (first | (refine grd_split ?_ ?_ <;> intro hc <;> simp only [hc, go_sem, Nat.reduceEqDiff, reduceIte, Bool.not_true, Bool.not_false, Bool.false_eq_true, List.length_cons, List.length_nil, Nat.reduceAdd, List.getElem?_cons_zero, List.getElem?_cons_succ, decide_true, eq_self, List.length_map]) | (refine cnd_split ?_ ?_ <;> intro hc <;> simp only [hc, go_sem, Nat.reduceEqDiff, reduceIte, Bool.not_true, Bool.not_false, Bool.false_eq_true, List.length_cons, List.length_nil, Nat.reduceAdd, List.getElem?_cons_zero, List.getElem?_cons_succ, decide_true, eq_self, List.length_map])) | (refine call_pure (c340) ?_; simp only [go_sem, Nat.reduceEqDiff, reduceIte, Bool.not_true, Bool.not_false, Bool.false_eq_true, List.length_cons, List.length_nil, Nat.reduceAdd, List.getElem?_cons_zero, List.getElem?_cons_succ, decide_true, eq_self, List.length_map]) | refine fin_eq rfl ?_)
  all_goals (simp_all [kindI])
theorem c1385 {k l : Int} : Pure Gm 1385 [.int .i64 k, .int .i64 l] (.bool (levelOk k l)) := by
  refine Pure.intro [] [] g1385 (by kernel_rfl) rfl (by simp [AV.trees, AV.tree, go_sem]) rfl ?_
  simp only [F1385, vparams, go_sem, Nat.reduceEqDiff, reduceIte, Bool.not_true, Bool.not_false, Bool.false_eq_true, List.length_cons, List.length_nil, Nat.reduceAdd, List.getElem?_cons_zero, List.getElem?_cons_succ, decide_true, eq_self, List.length_map]
  repeat' (first | (refine lbox_ok rfl ?_; simp only [go_sem, Nat.reduceEqDiff, reduceIte, Bool.not_true, Bool.not_false, Bool.false_eq_true, List.length_cons, List.length_nil, Nat.reduceAdd, List.getElem?_cons_zero, List.getElem?_cons_succ, decide_true, eq_self, List.length_map]) | (first | (refine grd_split ?_ ?_ <;> intro hc <;> simp only [hc, go_sem, Nat.reduceEqDiff, reduceIte, Bool.not_true, Bool.not_false, Bool.false_eq_true, List.length_cons, List.length_nil, Nat.reduceAdd, List.getElem?_cons_zero, List.getElem?_cons_succ, decide_true, eq_self, List.length_map]) | (refine cnd_split ?_ ?_ <;> intro hc <;> simp only [hc, go_sem, Nat.reduceEqDiff, reduceIte, Bool.not_true, Bool.not_false, Bool.false_eq_true, List.length_cons, List.length_nil, Nat.reduceAdd, List.getElem?_cons_zero, List.getElem?_cons_succ, decide_true, eq_self, List.length_map])) | (refine call_pure (c340) ?_; simp only [go_sem, Nat.reduceEqDiff, reduceIte, Bool.not_true, Bool.not_false, Bool.false_eq_true, List.length_cons, List.length_nil, Nat.reduceAdd, List.getElem?_cons_zero, List.getElem?_cons_succ, decide_true, eq_self, List.length_map]) | (refine call_pure (c1372) ?_; simp only [go_sem, Nat.reduceEqDiff, reduceIte, Bool.not_true, Bool.not_false, Bool.false_eq_true, List.length_cons, List.length_nil, Nat.reduceAdd, List.getElem?_cons_zero, List.getElem?_cons_succ, decide_true, eq_self, List.length_map]) | (refine call_pure (c1489) ?_; simp only [go_sem, Nat.reduceEqDiff, reduceIte, Bool.not_true, Bool.not_false, Bool.false_eq_true, List.length_cons, List.length_nil, Nat.reduceAdd, List.getElem?_cons_zero, List.getElem?_cons_succ, decide_true, eq_self, List.length_map]) | refine fin_eq rfl ?_)
  all_goals (simp_all [levelOk])
theorem c1494 {k : Int} : Pure Gm 1494 [.int .i64 k] (.bool (defOk k)) := by
  refine Pure.intro [] [] g1494 (by kernel_rfl) rfl (by simp [AV.trees, AV.tree, go_sem]) rfl ?_
  simp only [F1494, vparams, go_sem, Nat.reduceEqDiff, reduceIte, Bool.not_true, Bool.not_false, Bool.false_eq_true, List.length_cons, List.length_nil, Nat.reduceAdd, List.getElem?_cons_zero, List.getElem?_cons_succ, decide_true, eq_self, List.length_map]
  repeat' (first | (refine lbox_ok rfl ?_; simp only [go_sem, Nat.reduceEqDiff, reduceIte, Bool.not_true, Bool.not_false, Bool.false_eq_true, List.length_cons, List.length_nil, Nat.reduceAdd, List.getElem?_cons_zero, List.getElem?_cons_succ, decide_true, eq_self, List.length_map]) | (first | (refine grd_split ?_ ?_ <;> intro hc <;> simp only [hc, go_sem, Nat.reduceEqDiff, reduceIte, Bool.not_true, Bool.not_false, Bool.false_eq_true, List.length_cons, List.length_nil, Nat.reduceAdd, List.getElem?_cons_zero, List.getElem?_cons_succ, decide_true, eq_self, List.length_map]) | (refine cnd_split ?_ ?_ <;> intro hc <;> simp only [hc, go_sem, Nat.reduceEqDiff, reduceIte, Bool.not_true, Bool.not_false, Bool.false_eq_true, List.length_cons, List.length_nil, Nat.reduceAdd, List.getElem?_cons_zero, List.getElem?_cons_succ, decide_true, eq_self, List.length_map])) | (refine call_pure (c340) ?_; simp only [go_sem, Nat.reduceEqDiff, reduceIte, Bool.not_true, Bool.not_false, Bool.false_eq_true, List.length_cons, List.length_nil, Nat.reduceAdd, List.getElem?_cons_zero, List.getElem?_cons_succ, decide_true, eq_self, List.length_map]) | refine fin_eq rfl ?_)
  all_goals (simp_all [defOk])
theorem c1371 {k f : Int} : Pure Gm 1371 [.int .i64 k, .int .i64 f] (.int .i64 (portsOf k f)) := by
  refine Pure.intro [] [] g1371 (by kernel_rfl) rfl (by simp [AV.trees, AV.tree, go_sem]) rfl ?_
  simp only [F1371, vparams, go_sem, Nat.reduceEqDiff, reduceIte, Bool.not_true, Bool.not_false, Bool.false_eq_true, List.length_cons, List.length_nil, Nat.reduceAdd, List.getElem?_cons_zero, List.getElem?_cons_succ, decide_true, eq_self, List.length_map]
  repeat' (first | (refine lbox_ok rfl ?_; simp only [go_sem, Nat.reduceEqDiff, reduceIte, Bool.not_true, Bool.not_false, Bool.false_eq_true, List.length_cons, List.length_nil, Nat.reduceAdd, List.getElem?_cons_zero, List.getElem?_cons_succ, decide_true, eq_self, List.length_map]) | (first | (refine grd_split ?_ ?_ <;> intro hc <;> simp only [hc, go_sem, Nat.reduceEqDiff, reduceIte, Bool.not_true, Bool.not_false, Bool.false_eq_true, List.length_cons, List.length_nil, Nat.reduceAdd, List.getElem?_cons_zero, List.getElem?_cons_succ, decide_true, eq_self, List.length_map]) | (refine cnd_split ?_ ?_ <;> intro hc <;> simp only [hc, go_sem, Nat.reduceEqDiff, reduceIte, Bool.not_true, Bool.not_false, Bool.false_eq_true, List.length_cons, List.length_nil, Nat.reduceAdd, List.getElem?_cons_zero, List.getElem?_cons_succ, decide_true, eq_self, List.length_map])) | (refine call_pure (c340) ?_; simp only [go_sem, Nat.reduceEqDiff, reduceIte, Bool.not_true, Bool.not_false, Bool.false_eq_true, List.length_cons, List.length_nil, Nat.reduceAdd, List.getElem?_cons_zero, List.getElem?_cons_succ, decide_true, eq_self, List.length_map]) | refine fin_eq rfl ?_)
  all_goals ((try rw [wrap_small (by simp_all [inI]; omega) (by simp_all [inI]; omega)]); simp_all [portsOf] <;> omega)
theorem c1384 {x : GAgent} (hx : x.Ports.length ≤ 140737488355328) : Pure Gm 1384 [.ept x.enc 0] (.int .i64 (fieldsOf x)) := by
  refine Pure.intro [] [] g1384 (by kernel_rfl) rfl (by simp [AV.trees, AV.tree, go_sem]) rfl ?_
  simp only [F1384, vparams, go_sem, Nat.reduceEqDiff, reduceIte, Bool.not_true, Bool.not_false, Bool.false_eq_true, List.length_cons, List.length_nil, Nat.reduceAdd, List.getElem?_cons_zero, List.getElem?_cons_succ, decide_true, eq_self, List.length_map]
  repeat' (first | (refine lbox_ok rfl ?_; simp only [go_sem, Nat.reduceEqDiff, reduceIte, Bool.not_true, Bool.not_false, Bool.false_eq_true, List.length_cons, List.length_nil, Nat.reduceAdd, List.getElem?_cons_zero, List.getElem?_cons_succ, decide_true, eq_self, List.length_map]) | (first | (refine grd_split ?_ ?_ <;> intro hc <;> simp only [hc, go_sem, Nat.reduceEqDiff, reduceIte, Bool.not_true, Bool.not_false, Bool.false_eq_true, List.length_cons, List.length_nil, Nat.reduceAdd, List.getElem?_cons_zero, List.getElem?_cons_succ, decide_true, eq_self, List.length_map]) | (refine cnd_split ?_ ?_ <;> intro hc <;> simp only [hc, go_sem, Nat.reduceEqDiff, reduceIte, Bool.not_true, Bool.not_false, Bool.false_eq_true, List.length_cons, List.length_nil, Nat.reduceAdd, List.getElem?_cons_zero, List.getElem?_cons_succ, decide_true, eq_self, List.length_map])) | refine fin_eq rfl ?_)
  all_goals ((try rw [wrap_small (by omega) (by omega)]); simp_all [fieldsOf] <;> omega)
theorem c1386 {x : GAgent} (hx : x.Data.length ≤ 1048576) : Pure Gm 1386 [.ept x.enc 0] (.bool (contentOk x)) := by
  refine Pure.intro [] [] g1386 (by kernel_rfl) rfl (by simp [AV.trees, AV.tree, go_sem]) rfl ?_
  simp only [F1386, vparams, go_sem, Nat.reduceEqDiff, reduceIte, Bool.not_true, Bool.not_false, Bool.false_eq_true, List.length_cons, List.length_nil, Nat.reduceAdd, List.getElem?_cons_zero, List.getElem?_cons_succ, decide_true, eq_self, List.length_map]
  have one : (x.Data.length : Int) = 1 → ∃ d, x.Data = [d] := fun h => List.length_eq_one_iff.1 (by omega)
  have z0 : (x.Data.length : Int) = 1 → (x.Data.map encI)[0]? = some (.int .i64 (x.Data.headD 0)) := fun h => by
    obtain ⟨d, hd⟩ := one h
    rw [hd]; rfl
  have z1 : (x.Data.length : Int) = 1 → (x.Data.all fun d => inI d (-2147483648) 2147483647) = inI (x.Data.headD 0) (-2147483648) 2147483647 := fun h => by
    obtain ⟨d, hd⟩ := one h
    rw [hd]; simp
  repeat' (first
    | (first | (refine grd_split ?_ ?_ <;> intro hc <;> simp only [hc, go_sem, Nat.reduceEqDiff, reduceIte, Bool.not_true, Bool.not_false, Bool.false_eq_true, List.length_cons, List.length_nil, Nat.reduceAdd, List.getElem?_cons_zero, List.getElem?_cons_succ, decide_true, eq_self, List.length_map]) | (refine cnd_split ?_ ?_ <;> intro hc <;> simp only [hc, go_sem, Nat.reduceEqDiff, reduceIte, Bool.not_true, Bool.not_false, Bool.false_eq_true, List.length_cons, List.length_nil, Nat.reduceAdd, List.getElem?_cons_zero, List.getElem?_cons_succ, decide_true, eq_self, List.length_map]))
    | (refine call_pure (c340) ?_; simp only [go_sem, Nat.reduceEqDiff, reduceIte, Bool.not_true, Bool.not_false, Bool.false_eq_true, List.length_cons, List.length_nil, Nat.reduceAdd, List.getElem?_cons_zero, List.getElem?_cons_succ, decide_true, eq_self, List.length_map])
    | (refine call_pure (c1494) ?_; simp only [go_sem, Nat.reduceEqDiff, reduceIte, Bool.not_true, Bool.not_false, Bool.false_eq_true, List.length_cons, List.length_nil, Nat.reduceAdd, List.getElem?_cons_zero, List.getElem?_cons_succ, decide_true, eq_self, List.length_map])
    | refine fin_eq rfl ?_
    | (rw [z0 (of_decide_eq_true (by assumption))]; simp only [Option.map_some]; simp only [go_sem, Nat.reduceEqDiff, reduceIte, Bool.not_true, Bool.not_false, Bool.false_eq_true, List.length_cons, List.length_nil, Nat.reduceAdd, List.getElem?_cons_zero, List.getElem?_cons_succ, decide_true, eq_self, List.length_map])
    | (refine Sem.loop (fun i : Nat => i ≤ x.Data.length ∧ contentOk x = (x.Data.drop i).all defOk) (fun i => (⟨[(0, .ept x.enc 0), (3, .int .i64 (i : Nat))], [], []⟩ : VSt)) (fun i => x.Data.length - i) 0 (by kernel_rfl) ⟨Nat.zero_le _, ?_⟩ (Can.sub (by simp [go_sem]) (by simp [go_sem])) ?_))
  all_goals try (simp_all [contentOk]; done)
  all_goals
    clear z0 z1 one
    rintro i ⟨hi, hI⟩
    simp only [go_sem, Nat.reduceEqDiff, reduceIte, Bool.not_true, Bool.not_false, Bool.false_eq_true, List.length_cons, List.length_nil, Nat.reduceAdd, List.getElem?_cons_zero, List.getElem?_cons_succ, decide_true, eq_self, List.length_map]
    refine cnd_split ?_ ?_ <;> intro hc <;> simp only [hc, go_sem, Nat.reduceEqDiff, reduceIte, Bool.not_true, Bool.not_false, Bool.false_eq_true, List.length_cons, List.length_nil, Nat.reduceAdd, List.getElem?_cons_zero, List.getElem?_cons_succ, decide_true, eq_self, List.length_map]
    · have hlt : i < x.Data.length := by have := of_decide_eq_true hc; omega
      simp only [List.getElem?_map, List.getElem?_eq_getElem hlt, Option.map_some, go_sem, Nat.reduceEqDiff, reduceIte, Bool.not_true, Bool.not_false, Bool.false_eq_true, List.length_cons, List.length_nil, Nat.reduceAdd, List.getElem?_cons_zero, List.getElem?_cons_succ, decide_true, eq_self, List.length_map]
      simp only [encI]
      simp only [go_sem, Nat.reduceEqDiff, reduceIte, Bool.not_true, Bool.not_false, Bool.false_eq_true, List.length_cons, List.length_nil, Nat.reduceAdd, List.getElem?_cons_zero, List.getElem?_cons_succ, decide_true, eq_self, List.length_map]
      refine call_pure c1494 ?_
      simp only [go_sem, Nat.reduceEqDiff, reduceIte, Bool.not_true, Bool.not_false, Bool.false_eq_true, List.length_cons, List.length_nil, Nat.reduceAdd, List.getElem?_cons_zero, List.getElem?_cons_succ, decide_true, eq_self, List.length_map]
      refine cnd_split ?_ ?_ <;> intro hc <;> simp only [hc, go_sem, Nat.reduceEqDiff, reduceIte, Bool.not_true, Bool.not_false, Bool.false_eq_true, List.length_cons, List.length_nil, Nat.reduceAdd, List.getElem?_cons_zero, List.getElem?_cons_succ, decide_true, eq_self, List.length_map]
      · refine fin_eq rfl ?_
        have hd : defOk x.Data[i] = false := by simpa using hc
        rw [hI, drop_at hlt, List.all_cons, hd, Bool.false_and]
      · simp only [wrap_succ (show i < 4611686018427387904 by omega)]; refine loopQ_nrm (i + 1) ⟨by omega, ?_⟩ (by omega) (Can.sub (by simp [go_sem]) (by simp [go_sem]))
        have hd : defOk x.Data[i] = true := by simpa using hc
        rw [hI, drop_at hlt, List.all_cons, hd, Bool.true_and]
    · have hge : i = x.Data.length := by have := of_decide_eq_false hc; omega
      subst hge
      refine fin_eq rfl ?_
      rw [hI]; simp
end Go.Ab
namespace Go.Ab
open Go
set_option maxRecDepth 10000
def originOk (o : GOrigin) (a : Int) : Bool := inI o.Step 0 a && inI o.Def (-1) 23 && inI o.Source (-1) 599 && (decide (0 ≤ o.Source) || decide (o.Def < 0))
theorem c1096 {x : GAgent} (hz : x.sz ≤ 1048576) : Pure Gm 1096 [.ept x.enc 0] (.bool (agentOk x)) := by
  refine Pure.intro [] [] g1096 (by kernel_rfl) rfl (by simp [AV.trees, AV.tree, go_sem]) rfl ?_
  simp only [F1096, vparams, go_sem, Nat.reduceEqDiff, reduceIte, Bool.not_true, Bool.not_false, Bool.false_eq_true, List.length_cons, List.length_nil, Nat.reduceAdd, List.getElem?_cons_zero, List.getElem?_cons_succ, decide_true, eq_self, List.length_map]
  repeat' (first | (refine lbox_ok rfl ?_; simp only [go_sem, Nat.reduceEqDiff, reduceIte, Bool.not_true, Bool.not_false, Bool.false_eq_true, List.length_cons, List.length_nil, Nat.reduceAdd, List.getElem?_cons_zero, List.getElem?_cons_succ, decide_true, eq_self, List.length_map]) | (first | (refine grd_split ?_ ?_ <;> intro hc <;> simp only [hc, go_sem, Nat.reduceEqDiff, reduceIte, Bool.not_true, Bool.not_false, Bool.false_eq_true, List.length_cons, List.length_nil, Nat.reduceAdd, List.getElem?_cons_zero, List.getElem?_cons_succ, decide_true, eq_self, List.length_map]) | (refine cnd_split ?_ ?_ <;> intro hc <;> simp only [hc, go_sem, Nat.reduceEqDiff, reduceIte, Bool.not_true, Bool.not_false, Bool.false_eq_true, List.length_cons, List.length_nil, Nat.reduceAdd, List.getElem?_cons_zero, List.getElem?_cons_succ, decide_true, eq_self, List.length_map])) | (refine call_pure (c1384 (by unfold GAgent.sz at hz; omega)) ?_; simp only [go_sem, Nat.reduceEqDiff, reduceIte, Bool.not_true, Bool.not_false, Bool.false_eq_true, List.length_cons, List.length_nil, Nat.reduceAdd, List.getElem?_cons_zero, List.getElem?_cons_succ, decide_true, eq_self, List.length_map]) | (refine call_pure (c1371) ?_; simp only [go_sem, Nat.reduceEqDiff, reduceIte, Bool.not_true, Bool.not_false, Bool.false_eq_true, List.length_cons, List.length_nil, Nat.reduceAdd, List.getElem?_cons_zero, List.getElem?_cons_succ, decide_true, eq_self, List.length_map]) | (refine call_pure (c1385) ?_; simp only [go_sem, Nat.reduceEqDiff, reduceIte, Bool.not_true, Bool.not_false, Bool.false_eq_true, List.length_cons, List.length_nil, Nat.reduceAdd, List.getElem?_cons_zero, List.getElem?_cons_succ, decide_true, eq_self, List.length_map]) | (refine call_pure (c1386 (by unfold GAgent.sz at hz; omega)) ?_; simp only [go_sem, Nat.reduceEqDiff, reduceIte, Bool.not_true, Bool.not_false, Bool.false_eq_true, List.length_cons, List.length_nil, Nat.reduceAdd, List.getElem?_cons_zero, List.getElem?_cons_succ, decide_true, eq_self, List.length_map]) | refine fin_eq rfl ?_)
  all_goals (simp_all [agentOk] <;> omega)
theorem c710 {xs : List GAgent} (hl : xs.length + sumN GAgent.sz xs ≤ 1048576) : Pure Gm 710 [.lst 5 (xs.map GAgent.enc) false] (.bool (agentsOk xs)) := by
  refine Pure.intro [] [] g710 (by kernel_rfl) rfl (by simp [AV.trees, AV.tree, trees_map GAgent.isSh.tree]) rfl ?_
  simp only [F710, vparams, go_sem, Nat.reduceEqDiff, reduceIte, Bool.not_true, Bool.not_false, Bool.false_eq_true, List.length_cons, List.length_nil, Nat.reduceAdd, List.getElem?_cons_zero, List.getElem?_cons_succ, decide_true, eq_self, List.length_map]
  refine call_pure c340 ?_
  simp only [go_sem, Nat.reduceEqDiff, reduceIte, Bool.not_true, Bool.not_false, Bool.false_eq_true, List.length_cons, List.length_nil, Nat.reduceAdd, List.getElem?_cons_zero, List.getElem?_cons_succ, decide_true, eq_self, List.length_map]
  refine cnd_split ?_ ?_ <;> intro hc <;> simp only [hc, go_sem, Nat.reduceEqDiff, reduceIte, Bool.not_true, Bool.not_false, Bool.false_eq_true, List.length_cons, List.length_nil, Nat.reduceAdd, List.getElem?_cons_zero, List.getElem?_cons_succ, decide_true, eq_self, List.length_map]
  · refine fin_eq rfl ?_
    simp_all [agentsOk]
  refine Sem.loop (fun i : Nat => i ≤ xs.length ∧ agentsOk xs = agentsFrom (xs.drop i) i) (fun i => (⟨[(0, .lst 5 (xs.map GAgent.enc) false), (3, .int .i64 (i : Nat))], [], []⟩ : VSt)) (fun i => xs.length - i) 0 (by kernel_rfl) ⟨Nat.zero_le _, by simp_all [agentsOk]⟩ (Can.sub (by simp [go_sem]) (by simp [go_sem])) ?_
  rintro i ⟨hi, hI⟩
  simp only [go_sem, Nat.reduceEqDiff, reduceIte, Bool.not_true, Bool.not_false, Bool.false_eq_true, List.length_cons, List.length_nil, Nat.reduceAdd, List.getElem?_cons_zero, List.getElem?_cons_succ, decide_true, eq_self, List.length_map]
  refine cnd_split ?_ ?_ <;> intro hc <;> simp only [hc, go_sem, Nat.reduceEqDiff, reduceIte, Bool.not_true, Bool.not_false, Bool.false_eq_true, List.length_cons, List.length_nil, Nat.reduceAdd, List.getElem?_cons_zero, List.getElem?_cons_succ, decide_true, eq_self, List.length_map]
  · have hlt : i < xs.length := by have := of_decide_eq_true hc; omega
    simp only [List.getElem?_map, List.getElem?_eq_getElem hlt, Option.map_some, go_sem, Nat.reduceEqDiff, reduceIte, Bool.not_true, Bool.not_false, Bool.false_eq_true, List.length_cons, List.length_nil, Nat.reduceAdd, List.getElem?_cons_zero, List.getElem?_cons_succ, decide_true, eq_self, List.length_map]
    have hs := le_sumN (f := GAgent.sz) (List.getElem_mem hlt)
    refine call_pure (c1096 (by omega)) ?_
    simp only [go_sem, Nat.reduceEqDiff, reduceIte, Bool.not_true, Bool.not_false, Bool.false_eq_true, List.length_cons, List.length_nil, Nat.reduceAdd, List.getElem?_cons_zero, List.getElem?_cons_succ, decide_true, eq_self, List.length_map]
    refine grd_split ?_ ?_ <;> intro hc <;> simp only [hc, go_sem, Nat.reduceEqDiff, reduceIte, Bool.not_true, Bool.not_false, Bool.false_eq_true, List.length_cons, List.length_nil, Nat.reduceAdd, List.getElem?_cons_zero, List.getElem?_cons_succ, decide_true, eq_self, List.length_map]
    · simp only [List.getElem?_map, List.getElem?_eq_getElem hlt, Option.map_some, go_sem, Nat.reduceEqDiff, reduceIte, Bool.not_true, Bool.not_false, Bool.false_eq_true, List.length_cons, List.length_nil, Nat.reduceAdd, List.getElem?_cons_zero, List.getElem?_cons_succ, decide_true, eq_self, List.length_map]
      refine cnd_split ?_ ?_ <;> intro hc <;> simp only [hc, go_sem, Nat.reduceEqDiff, reduceIte, Bool.not_true, Bool.not_false, Bool.false_eq_true, List.length_cons, List.length_nil, Nat.reduceAdd, List.getElem?_cons_zero, List.getElem?_cons_succ, decide_true, eq_self, List.length_map]
      · refine fin_eq rfl ?_
        rw [hI, drop_at hlt]; simp_all [agentsFrom]
      · simp only [wrap_succ (show i < 4611686018427387904 by omega)]; refine loopQ_nrm (i + 1) ⟨by omega, ?_⟩ (by omega) (Can.sub (by simp [go_sem]) (by simp [go_sem]))
        rw [hI, drop_at hlt]; simp_all [agentsFrom]
    · refine fin_eq rfl ?_
      rw [hI, drop_at hlt]; simp_all [agentsFrom]
  · obtain rfl : i = xs.length := by have := of_decide_eq_false hc; omega
    refine fin_eq rfl ?_
    rw [hI]; simp [agentsFrom]
theorem c1109 {o : GOrigin} {a : Int} : Pure Gm 1109 [.ept o.enc 0, .int .i64 a] (.bool (originOk o a)) := by
  refine Pure.intro [] [] g1109 (by kernel_rfl) rfl (by simp [AV.trees, AV.tree, go_sem]) rfl ?_
  simp only [F1109, vparams, go_sem, Nat.reduceEqDiff, reduceIte, Bool.not_true, Bool.not_false, Bool.false_eq_true, List.length_cons, List.length_nil, Nat.reduceAdd, List.getElem?_cons_zero, List.getElem?_cons_succ, decide_true, eq_self, List.length_map]
  repeat' (first | (refine lbox_ok rfl ?_; simp only [go_sem, Nat.reduceEqDiff, reduceIte, Bool.not_true, Bool.not_false, Bool.false_eq_true, List.length_cons, List.length_nil, Nat.reduceAdd, List.getElem?_cons_zero, List.getElem?_cons_succ, decide_true, eq_self, List.length_map]) | (first | (refine grd_split ?_ ?_ <;> intro hc <;> simp only [hc, go_sem, Nat.reduceEqDiff, reduceIte, Bool.not_true, Bool.not_false, Bool.false_eq_true, List.length_cons, List.length_nil, Nat.reduceAdd, List.getElem?_cons_zero, List.getElem?_cons_succ, decide_true, eq_self, List.length_map]) | (refine cnd_split ?_ ?_ <;> intro hc <;> simp only [hc, go_sem, Nat.reduceEqDiff, reduceIte, Bool.not_true, Bool.not_false, Bool.false_eq_true, List.length_cons, List.length_nil, Nat.reduceAdd, List.getElem?_cons_zero, List.getElem?_cons_succ, decide_true, eq_self, List.length_map])) | (refine call_pure (c340) ?_; simp only [go_sem, Nat.reduceEqDiff, reduceIte, Bool.not_true, Bool.not_false, Bool.false_eq_true, List.length_cons, List.length_nil, Nat.reduceAdd, List.getElem?_cons_zero, List.getElem?_cons_succ, decide_true, eq_self, List.length_map]) | refine fin_eq rfl ?_)
  all_goals (simp_all [originOk] <;> omega)
end Go.Ab
namespace Go.Ab
open Go
set_option maxRecDepth 10000
theorem inI_iff {n lo hi : Int} : inI n lo hi = true ↔ lo ≤ n ∧ n ≤ hi := by simp [inI]
def peerAt (xs : List GAgent) (q : GPort) : Option GPort := match xs[q.Agent.toNat]? with
  | some y => y.Ports[q.Slot.toNat]?
  | none => none
def wireOk (xs : List GAgent) (me q : GPort) : Bool := !(decide (q = me)) && portOk xs q && decide (peerAt xs q = some me)
def wiresFrom (xs : List GAgent) (i : Nat) : List GPort → Nat → Bool
  | [], _ => true
  | q :: qs, k => wireOk xs ⟨i, k⟩ q && wiresFrom xs i qs (k + 1)
def netFrom (xs : List GAgent) : List GAgent → Nat → Bool
  | [], _ => true
  | x :: r, i => wiresFrom xs i x.Ports 0 && netFrom xs r (i + 1)
def netOk (n : GNet) : Bool := agentsOk n.Agents && netFrom n.Agents n.Agents 0
def schedOk (xs : List Int) : Bool := decide (xs.length ≤ 200) && xs.all fun n => inI n 0 600
def bookOk (xs : List GNet) : Bool := decide (xs.length ≤ 24) && xs.all netOk
theorem c488 {xs : List GAgent} {p : GPort} (hl : xs.length + sumN GAgent.sz xs ≤ 1048576) : Pure Gm 488 [.lst 5 (xs.map GAgent.enc) false, p.enc] (.bool (portOk xs p)) := by
  refine Pure.intro [] [] g488 (by kernel_rfl) rfl (by simp [AV.trees, AV.tree, trees_map GAgent.isSh.tree, GPort.tr]) rfl ?_
  simp only [F488, vparams, go_sem, Nat.reduceEqDiff, reduceIte, Bool.not_true, Bool.not_false, Bool.false_eq_true, List.length_cons, List.length_nil, Nat.reduceAdd, List.getElem?_cons_zero, List.getElem?_cons_succ, decide_true, eq_self, List.length_map]
  refine lbox_ok rfl ?_; simp only [go_sem, Nat.reduceEqDiff, reduceIte, Bool.not_true, Bool.not_false, Bool.false_eq_true, List.length_cons, List.length_nil, Nat.reduceAdd, List.getElem?_cons_zero, List.getElem?_cons_succ, decide_true, eq_self, List.length_map]
  rw [wrap_small (by omega) (by omega)]
  refine call_pure c340 ?_
  simp only [go_sem, Nat.reduceEqDiff, reduceIte, Bool.not_true, Bool.not_false, Bool.false_eq_true, List.length_cons, List.length_nil, Nat.reduceAdd, List.getElem?_cons_zero, List.getElem?_cons_succ, decide_true, eq_self, List.length_map]
  refine grd_split ?_ ?_ <;> intro hc <;> simp only [hc, go_sem, Nat.reduceEqDiff, reduceIte, Bool.not_true, Bool.not_false, Bool.false_eq_true, List.length_cons, List.length_nil, Nat.reduceAdd, List.getElem?_cons_zero, List.getElem?_cons_succ, decide_true, eq_self, List.length_map]
  · have h := inI_iff.1 hc
    have hlt : p.Agent.toNat < xs.length := by omega
    rw [idx_li h.1]
    simp only [List.getElem?_map, List.getElem?_eq_getElem hlt, Option.map_some, go_sem, Nat.reduceEqDiff, reduceIte, Bool.not_true, Bool.not_false, Bool.false_eq_true, List.length_cons, List.length_nil, Nat.reduceAdd, List.getElem?_cons_zero, List.getElem?_cons_succ, decide_true, eq_self, List.length_map]
    have hs : xs[p.Agent.toNat].Data.length + xs[p.Agent.toNat].Ports.length ≤ sumN GAgent.sz xs := le_sumN (f := GAgent.sz) (List.getElem_mem hlt)
    rw [wrap_small (by omega) (by omega)]
    refine call_pure c340 ?_
    simp only [go_sem, Nat.reduceEqDiff, reduceIte, Bool.not_true, Bool.not_false, Bool.false_eq_true, List.length_cons, List.length_nil, Nat.reduceAdd, List.getElem?_cons_zero, List.getElem?_cons_succ, decide_true, eq_self, List.length_map]
    refine fin_eq rfl ?_
    simp [portOk, hc, portsLen, List.getElem?_eq_getElem hlt]
  · refine fin_eq rfl ?_
    simp_all [portOk]
theorem c412 {xs : List Int} (hl : xs.length ≤ 1048576) : Pure Gm 412 [.lst 1 (xs.map encI) false] (.bool (schedOk xs)) := by
  refine Pure.intro [] [] g412 (by kernel_rfl) rfl (by simp [AV.trees, AV.tree, trees_map shI.tree]) rfl ?_
  simp only [F412, vparams, go_sem, Nat.reduceEqDiff, reduceIte, Bool.not_true, Bool.not_false, Bool.false_eq_true, List.length_cons, List.length_nil, Nat.reduceAdd, List.getElem?_cons_zero, List.getElem?_cons_succ, decide_true, eq_self, List.length_map]
  refine cnd_split ?_ ?_ <;> intro hc <;> simp only [hc, go_sem, Nat.reduceEqDiff, reduceIte, Bool.not_true, Bool.not_false, Bool.false_eq_true, List.length_cons, List.length_nil, Nat.reduceAdd, List.getElem?_cons_zero, List.getElem?_cons_succ, decide_true, eq_self, List.length_map]
  · refine fin_eq rfl ?_
    have := of_decide_eq_true hc
    have h2 : ¬ xs.length ≤ 200 := by omega
    simp [schedOk, h2]
  have h0 : xs.length ≤ 200 := by have := of_decide_eq_false hc; omega
  refine Sem.loop (fun i : Nat => i ≤ xs.length ∧ schedOk xs = (xs.drop i).all fun n => inI n 0 600) (fun i => (⟨[(0, .lst 1 (xs.map encI) false), (3, .int .i64 (i : Nat))], [], []⟩ : VSt)) (fun i => xs.length - i) 0 (by kernel_rfl) ⟨Nat.zero_le _, by simp [schedOk, h0]⟩ (Can.sub (by simp [go_sem]) (by simp [go_sem])) ?_
  rintro i ⟨hi, hI⟩
  simp only [go_sem, Nat.reduceEqDiff, reduceIte, Bool.not_true, Bool.not_false, Bool.false_eq_true, List.length_cons, List.length_nil, Nat.reduceAdd, List.getElem?_cons_zero, List.getElem?_cons_succ, decide_true, eq_self, List.length_map]
  refine cnd_split ?_ ?_ <;> intro hc <;> simp only [hc, go_sem, Nat.reduceEqDiff, reduceIte, Bool.not_true, Bool.not_false, Bool.false_eq_true, List.length_cons, List.length_nil, Nat.reduceAdd, List.getElem?_cons_zero, List.getElem?_cons_succ, decide_true, eq_self, List.length_map]
  · have hlt : i < xs.length := by have := of_decide_eq_true hc; omega
    simp only [List.getElem?_map, List.getElem?_eq_getElem hlt, Option.map_some, go_sem, Nat.reduceEqDiff, reduceIte, Bool.not_true, Bool.not_false, Bool.false_eq_true, List.length_cons, List.length_nil, Nat.reduceAdd, List.getElem?_cons_zero, List.getElem?_cons_succ, decide_true, eq_self, List.length_map]
    simp only [encI]
    simp only [go_sem, Nat.reduceEqDiff, reduceIte, Bool.not_true, Bool.not_false, Bool.false_eq_true, List.length_cons, List.length_nil, Nat.reduceAdd, List.getElem?_cons_zero, List.getElem?_cons_succ, decide_true, eq_self, List.length_map]
    refine call_pure c340 ?_
    simp only [go_sem, Nat.reduceEqDiff, reduceIte, Bool.not_true, Bool.not_false, Bool.false_eq_true, List.length_cons, List.length_nil, Nat.reduceAdd, List.getElem?_cons_zero, List.getElem?_cons_succ, decide_true, eq_self, List.length_map]
    refine cnd_split ?_ ?_ <;> intro hc <;> simp only [hc, go_sem, Nat.reduceEqDiff, reduceIte, Bool.not_true, Bool.not_false, Bool.false_eq_true, List.length_cons, List.length_nil, Nat.reduceAdd, List.getElem?_cons_zero, List.getElem?_cons_succ, decide_true, eq_self, List.length_map]
    · refine fin_eq rfl ?_
      rw [hI, drop_at hlt, List.all_cons]; simp_all
    · simp only [wrap_succ (show i < 4611686018427387904 by omega)]; refine loopQ_nrm (i + 1) ⟨by omega, ?_⟩ (by omega) (Can.sub (by simp [go_sem]) (by simp [go_sem]))
      rw [hI, drop_at hlt, List.all_cons]; simp_all
  · obtain rfl : i = xs.length := by have := of_decide_eq_false hc; omega
    refine fin_eq rfl ?_
    rw [hI]; simp
theorem c318 {n : GNet} (hz : n.sz ≤ 1048576) : Pure Gm 318 [.ept n.enc 0] (.bool (netOk n)) := by
  refine Pure.intro [] [] g318 (by kernel_rfl) rfl (by simp [AV.trees, AV.tree, go_sem]) rfl ?_
  simp only [F318, vparams, go_sem, Nat.reduceEqDiff, reduceIte, Bool.not_true, Bool.not_false, Bool.false_eq_true, List.length_cons, List.length_nil, Nat.reduceAdd, List.getElem?_cons_zero, List.getElem?_cons_succ, decide_true, eq_self, List.length_map]
  have hz' : n.Agents.length + sumN GAgent.sz n.Agents ≤ 1048576 := hz
  refine call_pure (c710 hz') ?_
  simp only [go_sem, Nat.reduceEqDiff, reduceIte, Bool.not_true, Bool.not_false, Bool.false_eq_true, List.length_cons, List.length_nil, Nat.reduceAdd, List.getElem?_cons_zero, List.getElem?_cons_succ, decide_true, eq_self, List.length_map]
  refine cnd_split ?_ ?_ <;> intro hc <;> simp only [hc, go_sem, Nat.reduceEqDiff, reduceIte, Bool.not_true, Bool.not_false, Bool.false_eq_true, List.length_cons, List.length_nil, Nat.reduceAdd, List.getElem?_cons_zero, List.getElem?_cons_succ, decide_true, eq_self, List.length_map]
  · refine fin_eq rfl ?_
    simp_all [netOk]
  refine Sem.loop (fun i : Nat => i ≤ n.Agents.length ∧ netOk n = netFrom n.Agents (n.Agents.drop i) i) (fun i => (⟨[(0, .ept n.enc 0), (3, .int .i64 (i : Nat))], [], []⟩ : VSt)) (fun i => n.Agents.length - i) 0 (by kernel_rfl) ⟨Nat.zero_le _, by simp_all [netOk]⟩ (Can.sub (by simp [go_sem]) (by simp [go_sem])) ?_
  rintro i ⟨hi, hI⟩
  simp only [go_sem, Nat.reduceEqDiff, reduceIte, Bool.not_true, Bool.not_false, Bool.false_eq_true, List.length_cons, List.length_nil, Nat.reduceAdd, List.getElem?_cons_zero, List.getElem?_cons_succ, decide_true, eq_self, List.length_map]
  refine cnd_split ?_ ?_ <;> intro hc <;> simp only [hc, go_sem, Nat.reduceEqDiff, reduceIte, Bool.not_true, Bool.not_false, Bool.false_eq_true, List.length_cons, List.length_nil, Nat.reduceAdd, List.getElem?_cons_zero, List.getElem?_cons_succ, decide_true, eq_self, List.length_map]
  · have hlt : i < n.Agents.length := by have := of_decide_eq_true hc; omega
    simp only [List.getElem?_map, List.getElem?_eq_getElem hlt, Option.map_some, go_sem, Nat.reduceEqDiff, reduceIte, Bool.not_true, Bool.not_false, Bool.false_eq_true, List.length_cons, List.length_nil, Nat.reduceAdd, List.getElem?_cons_zero, List.getElem?_cons_succ, decide_true, eq_self, List.length_map]
    have hs : n.Agents[i].Data.length + n.Agents[i].Ports.length ≤ sumN GAgent.sz n.Agents := le_sumN (f := GAgent.sz) (List.getElem_mem hlt)
    refine Sem.loop (fun k : Nat => k ≤ n.Agents[i].Ports.length ∧ netOk n = (wiresFrom n.Agents i (n.Agents[i].Ports.drop k) k && netFrom n.Agents (n.Agents.drop (i + 1)) (i + 1))) (fun k => (⟨[(0, .ept n.enc 0), (3, .int .i64 (i : Nat)), (4, .ept n.Agents[i].enc 0), (5, .int .i64 (k : Nat))], [], []⟩ : VSt)) (fun k => n.Agents[i].Ports.length - k) 0 (by kernel_rfl) ⟨Nat.zero_le _, by rw [hI, drop_at hlt]; rfl⟩ (Can.sub (by simp [go_sem]) (by simp [go_sem])) ?_
    rintro k ⟨hk, hK⟩
    simp only [go_sem, Nat.reduceEqDiff, reduceIte, Bool.not_true, Bool.not_false, Bool.false_eq_true, List.length_cons, List.length_nil, Nat.reduceAdd, List.getElem?_cons_zero, List.getElem?_cons_succ, decide_true, eq_self, List.length_map]
    refine cnd_split ?_ ?_ <;> intro hc <;> simp only [hc, go_sem, Nat.reduceEqDiff, reduceIte, Bool.not_true, Bool.not_false, Bool.false_eq_true, List.length_cons, List.length_nil, Nat.reduceAdd, List.getElem?_cons_zero, List.getElem?_cons_succ, decide_true, eq_self, List.length_map]
    · have hkl : k < n.Agents[i].Ports.length := by have := of_decide_eq_true hc; omega
      rw [show AV.agg [AV.int IntKind.i64 (i : Nat), AV.int IntKind.i64 (k : Nat)] = GPort.enc ⟨i, k⟩ from rfl]
      refine lst_all rfl rfl ⟨_, rfl⟩ (by decide) ?_
      simp only [List.getElem?_map, List.getElem?_eq_getElem hkl, Option.map_some, go_sem, Nat.reduceEqDiff, reduceIte, Bool.not_true, Bool.not_false, Bool.false_eq_true, List.length_cons, List.length_nil, Nat.reduceAdd, List.getElem?_cons_zero, List.getElem?_cons_succ, decide_true, eq_self, List.length_map]
      refine lst_all rfl rfl ⟨_, rfl⟩ (by decide) ?_
      simp only [go_sem, Nat.reduceEqDiff, reduceIte, Bool.not_true, Bool.not_false, Bool.false_eq_true, List.length_cons, List.length_nil, Nat.reduceAdd, List.getElem?_cons_zero, List.getElem?_cons_succ, decide_true, eq_self, List.length_map]
      have stop : wireOk n.Agents ⟨i, k⟩ n.Agents[i].Ports[k] = false → netOk n = false := fun h => by rw [hK, drop_at hkl]; simp [wiresFrom, h]
      have go : wireOk n.Agents ⟨i, k⟩ n.Agents[i].Ports[k] = true → netOk n = (wiresFrom n.Agents i (n.Agents[i].Ports.drop (k + 1)) (k + 1) && netFrom n.Agents (n.Agents.drop (i + 1)) (i + 1)) := fun h => by rw [hK, drop_at hkl]; simp [wiresFrom, h]
      refine grd_split ?_ ?_ <;> intro hc <;> simp only [hc, go_sem, Nat.reduceEqDiff, reduceIte, Bool.not_true, Bool.not_false, Bool.false_eq_true, List.length_cons, List.length_nil, Nat.reduceAdd, List.getElem?_cons_zero, List.getElem?_cons_succ, decide_true, eq_self, List.length_map]
      · have hne : ¬ n.Agents[i].Ports[k] = ⟨i, k⟩ := of_decide_eq_false hc
        refine call_pure (c488 hz') ?_
        simp only [go_sem, Nat.reduceEqDiff, reduceIte, Bool.not_true, Bool.not_false, Bool.false_eq_true, List.length_cons, List.length_nil, Nat.reduceAdd, List.getElem?_cons_zero, List.getElem?_cons_succ, decide_true, eq_self, List.length_map]
        refine grd_split ?_ ?_ <;> intro hc <;> simp only [hc, go_sem, Nat.reduceEqDiff, reduceIte, Bool.not_true, Bool.not_false, Bool.false_eq_true, List.length_cons, List.length_nil, Nat.reduceAdd, List.getElem?_cons_zero, List.getElem?_cons_succ, decide_true, eq_self, List.length_map]
        · have hp : portOk n.Agents n.Agents[i].Ports[k] = true := by simpa using hc
          have hp2 := hp
          simp only [portOk, Bool.and_eq_true, inI_iff] at hp2
          have hlt2 : n.Agents[i].Ports[k].Agent.toNat < n.Agents.length := by omega
          have hpl : portsLen n.Agents n.Agents[i].Ports[k].Agent = n.Agents[n.Agents[i].Ports[k].Agent.toNat].Ports.length := by simp [portsLen, List.getElem?_eq_getElem hlt2]
          rw [hpl] at hp2
          have hlt3 : n.Agents[i].Ports[k].Slot.toNat < n.Agents[n.Agents[i].Ports[k].Agent.toNat].Ports.length := by omega
          have hpe : peerAt n.Agents n.Agents[i].Ports[k] = some n.Agents[n.Agents[i].Ports[k].Agent.toNat].Ports[n.Agents[i].Ports[k].Slot.toNat] := by simp [peerAt, List.getElem?_eq_getElem hlt2, List.getElem?_eq_getElem hlt3]
          rw [idx_li (by omega)]
          simp only [List.getElem?_map, List.getElem?_eq_getElem hlt2, Option.map_some, go_sem, Nat.reduceEqDiff, reduceIte, Bool.not_true, Bool.not_false, Bool.false_eq_true, List.length_cons, List.length_nil, Nat.reduceAdd, List.getElem?_cons_zero, List.getElem?_cons_succ, decide_true, eq_self, List.length_map]
          rw [idx_li (by omega)]
          simp only [List.getElem?_map, List.getElem?_eq_getElem hlt3, Option.map_some, go_sem, Nat.reduceEqDiff, reduceIte, Bool.not_true, Bool.not_false, Bool.false_eq_true, List.length_cons, List.length_nil, Nat.reduceAdd, List.getElem?_cons_zero, List.getElem?_cons_succ, decide_true, eq_self, List.length_map]
          refine cnd_split ?_ ?_ <;> intro hc <;> simp only [hc, go_sem, Nat.reduceEqDiff, reduceIte, Bool.not_true, Bool.not_false, Bool.false_eq_true, List.length_cons, List.length_nil, Nat.reduceAdd, List.getElem?_cons_zero, List.getElem?_cons_succ, decide_true, eq_self, List.length_map]
          · refine fin_eq rfl ?_
            rw [stop (by simp [wireOk, hpe]; intro _ _; simpa using hc)]
          · simp only [wrap_succ (show k < 4611686018427387904 by omega)]; refine loopQ_nrm (k + 1) ⟨by omega, ?_⟩ (by omega) (Can.sub (by simp [go_sem]) (by simp [go_sem]))
            exact go (by simp [wireOk, hpe, hp, hne]; simpa using hc)
        · refine fin_eq rfl ?_
          have hp : portOk n.Agents n.Agents[i].Ports[k] = false := by simpa using hc
          rw [stop (by simp [wireOk, hp])]
      · refine fin_eq rfl ?_
        have he : n.Agents[i].Ports[k] = ⟨i, k⟩ := of_decide_eq_true hc
        rw [stop (by simp [wireOk, he])]
    · obtain rfl : k = n.Agents[i].Ports.length := by have := of_decide_eq_false hc; omega
      simp only [wrap_succ (show i < 4611686018427387904 by omega)]; refine loopQ_nrm (i + 1) ⟨by omega, ?_⟩ (by omega) (Can.sub (by simp [go_sem]) (by simp [go_sem]))
      rw [hK]; simp [wiresFrom]
  · obtain rfl : i = n.Agents.length := by have := of_decide_eq_false hc; omega
    refine fin_eq rfl ?_
    rw [hI]; simp [netFrom]
theorem c598 {xs : List GNet} (hl : xs.length + sumN GNet.sz xs ≤ 1048576) : Pure Gm 598 [.lst 1 (xs.map GNet.enc) false] (.bool (bookOk xs)) := by
  refine Pure.intro [] [] g598 (by kernel_rfl) rfl (by simp [AV.trees, AV.tree, trees_map GNet.isSh.tree]) rfl ?_
  simp only [F598, vparams, go_sem, Nat.reduceEqDiff, reduceIte, Bool.not_true, Bool.not_false, Bool.false_eq_true, List.length_cons, List.length_nil, Nat.reduceAdd, List.getElem?_cons_zero, List.getElem?_cons_succ, decide_true, eq_self, List.length_map]
  refine cnd_split ?_ ?_ <;> intro hc <;> simp only [hc, go_sem, Nat.reduceEqDiff, reduceIte, Bool.not_true, Bool.not_false, Bool.false_eq_true, List.length_cons, List.length_nil, Nat.reduceAdd, List.getElem?_cons_zero, List.getElem?_cons_succ, decide_true, eq_self, List.length_map]
  · refine fin_eq rfl ?_
    have := of_decide_eq_true hc
    have h2 : ¬ xs.length ≤ 24 := by omega
    simp [bookOk, h2]
  have h0 : xs.length ≤ 24 := by have := of_decide_eq_false hc; omega
  refine Sem.loop (fun i : Nat => i ≤ xs.length ∧ bookOk xs = (xs.drop i).all netOk) (fun i => (⟨[(0, .lst 1 (xs.map GNet.enc) false), (3, .int .i64 (i : Nat))], [], []⟩ : VSt)) (fun i => xs.length - i) 0 (by kernel_rfl) ⟨Nat.zero_le _, by simp [bookOk, h0]⟩ (Can.sub (by simp [go_sem]) (by simp [go_sem])) ?_
  rintro i ⟨hi, hI⟩
  simp only [go_sem, Nat.reduceEqDiff, reduceIte, Bool.not_true, Bool.not_false, Bool.false_eq_true, List.length_cons, List.length_nil, Nat.reduceAdd, List.getElem?_cons_zero, List.getElem?_cons_succ, decide_true, eq_self, List.length_map]
  refine cnd_split ?_ ?_ <;> intro hc <;> simp only [hc, go_sem, Nat.reduceEqDiff, reduceIte, Bool.not_true, Bool.not_false, Bool.false_eq_true, List.length_cons, List.length_nil, Nat.reduceAdd, List.getElem?_cons_zero, List.getElem?_cons_succ, decide_true, eq_self, List.length_map]
  · have hlt : i < xs.length := by have := of_decide_eq_true hc; omega
    simp only [List.getElem?_map, List.getElem?_eq_getElem hlt, Option.map_some, go_sem, Nat.reduceEqDiff, reduceIte, Bool.not_true, Bool.not_false, Bool.false_eq_true, List.length_cons, List.length_nil, Nat.reduceAdd, List.getElem?_cons_zero, List.getElem?_cons_succ, decide_true, eq_self, List.length_map]
    have hs := le_sumN (f := GNet.sz) (List.getElem_mem hlt)
    refine call_pure (c318 (by omega)) ?_
    simp only [go_sem, Nat.reduceEqDiff, reduceIte, Bool.not_true, Bool.not_false, Bool.false_eq_true, List.length_cons, List.length_nil, Nat.reduceAdd, List.getElem?_cons_zero, List.getElem?_cons_succ, decide_true, eq_self, List.length_map]
    refine cnd_split ?_ ?_ <;> intro hc <;> simp only [hc, go_sem, Nat.reduceEqDiff, reduceIte, Bool.not_true, Bool.not_false, Bool.false_eq_true, List.length_cons, List.length_nil, Nat.reduceAdd, List.getElem?_cons_zero, List.getElem?_cons_succ, decide_true, eq_self, List.length_map]
    · refine fin_eq rfl ?_
      rw [hI, drop_at hlt, List.all_cons]; simp_all
    · simp only [wrap_succ (show i < 4611686018427387904 by omega)]; refine loopQ_nrm (i + 1) ⟨by omega, ?_⟩ (by omega) (Can.sub (by simp [go_sem]) (by simp [go_sem]))
      rw [hI, drop_at hlt, List.all_cons]; simp_all
  · obtain rfl : i = xs.length := by have := of_decide_eq_false hc; omega
    refine fin_eq rfl ?_
    rw [hI]; simp
end Go.Ab
namespace Go.Ab
open Go
set_option maxRecDepth 10000
def origsOk (n : GNet) (os : List GOrigin) (a : Int) : Bool := netOk n && decide ((os.length : Int) = n.Agents.length) && os.all fun o => originOk o a
def pointsFrom (every : Int) : List GCheckpoint → Nat → Bool
  | [], _ => true
  | p :: ps, i => decide (p.At = (i : Int) * every) && origsOk p.Net p.Origins p.At && pointsFrom every ps (i + 1)
def dbgOk (d : GDebugger) : Bool := bookOk d.Book && schedOk d.Schedule && inI d.Every 1 50 && inI d.At 0 4000 && origsOk d.Net d.Origins d.At && !(decide ((8 : Int) < d.Breaks.length)) && d.Breaks.all breakOk &&
  inI d.Points.length (d.At.tdiv d.Every + 1) ((4000 : Int).tdiv d.Every + 1) && pointsFrom d.Every d.Points 0
theorem tdiv_bd {a b : Int} (ha : 0 ≤ a) (hb : 0 < b) : 0 ≤ a.tdiv b ∧ a.tdiv b ≤ a := by
  rw [Int.tdiv_eq_ediv_of_nonneg ha]
  exact ⟨Int.ediv_nonneg ha (by omega), Int.ediv_le_self b ha⟩
theorem c741 {n : GNet} {os : List GOrigin} {a : Int} (hz : n.sz ≤ 1048576) (hl : os.length ≤ 1048576) : Pure Gm 741 [.ept n.enc 0, .lst 3 (os.map GOrigin.enc) false, .int .i64 a] (.bool (origsOk n os a)) := by
  refine Pure.intro [] [] g741 (by kernel_rfl) rfl (by simp [AV.trees, AV.tree, trees_map GOrigin.isSh.tree, GNet.tr]) rfl ?_
  simp only [F741, vparams, go_sem, Nat.reduceEqDiff, reduceIte, Bool.not_true, Bool.not_false, Bool.false_eq_true, List.length_cons, List.length_nil, Nat.reduceAdd, List.getElem?_cons_zero, List.getElem?_cons_succ, decide_true, eq_self, List.length_map]
  refine call_pure (c318 hz) ?_
  simp only [go_sem, Nat.reduceEqDiff, reduceIte, Bool.not_true, Bool.not_false, Bool.false_eq_true, List.length_cons, List.length_nil, Nat.reduceAdd, List.getElem?_cons_zero, List.getElem?_cons_succ, decide_true, eq_self, List.length_map]
  refine grd_split ?_ ?_ <;> intro hc <;> simp only [hc, go_sem, Nat.reduceEqDiff, reduceIte, Bool.not_true, Bool.not_false, Bool.false_eq_true, List.length_cons, List.length_nil, Nat.reduceAdd, List.getElem?_cons_zero, List.getElem?_cons_succ, decide_true, eq_self, List.length_map]
  · refine cnd_split ?_ ?_ <;> intro hc <;> simp only [hc, go_sem, Nat.reduceEqDiff, reduceIte, Bool.not_true, Bool.not_false, Bool.false_eq_true, List.length_cons, List.length_nil, Nat.reduceAdd, List.getElem?_cons_zero, List.getElem?_cons_succ, decide_true, eq_self, List.length_map]
    · refine fin_eq rfl ?_
      have h2 : ¬ ((os.length : Int) = n.Agents.length) := by simpa using hc
      simp [origsOk]; omega
    have h1 : netOk n = true := by simp_all
    have h2 : (os.length : Int) = n.Agents.length := by simpa using hc
    refine Sem.loop (fun i : Nat => i ≤ os.length ∧ origsOk n os a = (os.drop i).all fun o => originOk o a) (fun i => (⟨[(1, .lst 3 (os.map GOrigin.enc) false), (2, .int .i64 a), (7, .int .i64 (i : Nat))], [], []⟩ : VSt)) (fun i => os.length - i) 0 (by kernel_rfl) ⟨Nat.zero_le _, by simp [origsOk, h1, h2]⟩ (Can.sub (by simp [go_sem]) (by simp [go_sem])) ?_
    rintro i ⟨hi, hI⟩
    simp only [go_sem, Nat.reduceEqDiff, reduceIte, Bool.not_true, Bool.not_false, Bool.false_eq_true, List.length_cons, List.length_nil, Nat.reduceAdd, List.getElem?_cons_zero, List.getElem?_cons_succ, decide_true, eq_self, List.length_map]
    refine cnd_split ?_ ?_ <;> intro hc <;> simp only [hc, go_sem, Nat.reduceEqDiff, reduceIte, Bool.not_true, Bool.not_false, Bool.false_eq_true, List.length_cons, List.length_nil, Nat.reduceAdd, List.getElem?_cons_zero, List.getElem?_cons_succ, decide_true, eq_self, List.length_map]
    · have hlt : i < os.length := by have := of_decide_eq_true hc; omega
      simp only [List.getElem?_map, List.getElem?_eq_getElem hlt, Option.map_some, go_sem, Nat.reduceEqDiff, reduceIte, Bool.not_true, Bool.not_false, Bool.false_eq_true, List.length_cons, List.length_nil, Nat.reduceAdd, List.getElem?_cons_zero, List.getElem?_cons_succ, decide_true, eq_self, List.length_map]
      refine call_pure c1109 ?_
      simp only [go_sem, Nat.reduceEqDiff, reduceIte, Bool.not_true, Bool.not_false, Bool.false_eq_true, List.length_cons, List.length_nil, Nat.reduceAdd, List.getElem?_cons_zero, List.getElem?_cons_succ, decide_true, eq_self, List.length_map]
      refine cnd_split ?_ ?_ <;> intro hc <;> simp only [hc, go_sem, Nat.reduceEqDiff, reduceIte, Bool.not_true, Bool.not_false, Bool.false_eq_true, List.length_cons, List.length_nil, Nat.reduceAdd, List.getElem?_cons_zero, List.getElem?_cons_succ, decide_true, eq_self, List.length_map]
      · refine fin_eq rfl ?_
        rw [hI, drop_at hlt, List.all_cons]; simp_all
      · simp only [wrap_succ (show i < 4611686018427387904 by omega)]; refine loopQ_nrm (i + 1) ⟨by omega, ?_⟩ (by omega) (Can.sub (by simp [go_sem]) (by simp [go_sem]))
        rw [hI, drop_at hlt, List.all_cons]; simp_all
    · obtain rfl : i = os.length := by have := of_decide_eq_false hc; omega
      refine fin_eq rfl ?_
      rw [hI]; simp
  · refine fin_eq rfl ?_
    simp_all [origsOk]
theorem c367 {d : GDebugger} (hz : d.sz ≤ 1048576) : Pure Gm 367 [.ept d.enc 0] (.bool (dbgOk d)) := by
  refine Pure.intro [] [] g367 (by kernel_rfl) rfl (by simp [AV.trees, AV.tree, go_sem]) rfl ?_
  simp only [F367, vparams, go_sem, Nat.reduceEqDiff, reduceIte, Bool.not_true, Bool.not_false, Bool.false_eq_true, List.length_cons, List.length_nil, Nat.reduceAdd, List.getElem?_cons_zero, List.getElem?_cons_succ, decide_true, eq_self, List.length_map]
  unfold GDebugger.sz at hz
  have hzn : d.Net.sz ≤ 1048576 := by omega
  have conv : Cvs (only [] []) [.ept d.enc 4, .lst 3 (d.Origins.map GOrigin.enc) false, .int .i64 d.At] [.ept d.Net.enc 0, .lst 3 (d.Origins.map GOrigin.enc) false, .int .i64 d.At] :=
    Cvs.cons (.sub GDebugger.tr (GDebugger.q4_1) (by rw [GNet.ln]; decide)) (Cvs.cons (.refl (by simp [AV.tree, trees_map GOrigin.isSh.tree])) (Cvs.cons (.refl rfl) Cvs.nil))
  repeat' (first
    | (first | (refine grd_split ?_ ?_ <;> intro hc <;> simp only [hc, go_sem, Nat.reduceEqDiff, reduceIte, Bool.not_true, Bool.not_false, Bool.false_eq_true, List.length_cons, List.length_nil, Nat.reduceAdd, List.getElem?_cons_zero, List.getElem?_cons_succ, decide_true, eq_self, List.length_map]) | (refine cnd_split ?_ ?_ <;> intro hc <;> simp only [hc, go_sem, Nat.reduceEqDiff, reduceIte, Bool.not_true, Bool.not_false, Bool.false_eq_true, List.length_cons, List.length_nil, Nat.reduceAdd, List.getElem?_cons_zero, List.getElem?_cons_succ, decide_true, eq_self, List.length_map]))
    | (refine call_pure (c598 (by omega)) ?_; simp only [go_sem, Nat.reduceEqDiff, reduceIte, Bool.not_true, Bool.not_false, Bool.false_eq_true, List.length_cons, List.length_nil, Nat.reduceAdd, List.getElem?_cons_zero, List.getElem?_cons_succ, decide_true, eq_self, List.length_map])
    | (refine call_pure (c412 (by omega)) ?_; simp only [go_sem, Nat.reduceEqDiff, reduceIte, Bool.not_true, Bool.not_false, Bool.false_eq_true, List.length_cons, List.length_nil, Nat.reduceAdd, List.getElem?_cons_zero, List.getElem?_cons_succ, decide_true, eq_self, List.length_map])
    | (refine call_pure c340 ?_; simp only [go_sem, Nat.reduceEqDiff, reduceIte, Bool.not_true, Bool.not_false, Bool.false_eq_true, List.length_cons, List.length_nil, Nat.reduceAdd, List.getElem?_cons_zero, List.getElem?_cons_succ, decide_true, eq_self, List.length_map])
    | (refine call_conv conv (c741 hzn (by omega)) ?_; simp only [go_sem, Nat.reduceEqDiff, reduceIte, Bool.not_true, Bool.not_false, Bool.false_eq_true, List.length_cons, List.length_nil, Nat.reduceAdd, List.getElem?_cons_zero, List.getElem?_cons_succ, decide_true, eq_self, List.length_map])
    | refine fin_eq rfl ?_)
  all_goals try (simp_all [dbgOk]; done)
  have f1 : bookOk d.Book = true := by simp_all
  have f2 : schedOk d.Schedule = true := by simp_all
  have f3 : inI d.Every 1 50 = true := by simp_all
  have f4 : inI d.At 0 4000 = true := by simp_all
  have f5 : origsOk d.Net d.Origins d.At = true := by simp_all
  have f6 : decide ((8 : Int) < d.Breaks.length) = false := by simp_all
  have key : dbgOk d = (d.Breaks.all breakOk && inI d.Points.length (d.At.tdiv d.Every + 1) ((4000 : Int).tdiv d.Every + 1) && pointsFrom d.Every d.Points 0) := by simp [dbgOk, f1, f2, f3, f4, f5, f6]
  have e1 := inI_iff.1 f3
  have e2 := inI_iff.1 f4
  have b1 := tdiv_bd e2.1 (show 0 < d.Every by omega)
  have b2 := tdiv_bd (show (0 : Int) ≤ 4000 by omega) (show 0 < d.Every by omega)
  clear f1 f2 f3 f4 f5 f6 conv
  rename_i t1 t2 t3 t4 t5
  clear t1 t2 t3 t4 t5 hc
  obtain ⟨X, hX⟩ : ∃ X, X = (inI d.Points.length (d.At.tdiv d.Every + 1) ((4000 : Int).tdiv d.Every + 1) && pointsFrom d.Every d.Points 0) := ⟨_, rfl⟩
  rw [Bool.and_assoc, ← hX] at key
  refine Sem.loop (fun i : Nat => i ≤ d.Breaks.length ∧ dbgOk d = ((d.Breaks.drop i).all breakOk && X)) (fun i => (⟨[(0, .ept d.enc 0), (3, .int .i64 (i : Nat))], [], []⟩ : VSt)) (fun i => d.Breaks.length - i) 0 (by kernel_rfl) ⟨Nat.zero_le _, by rw [key]; simp⟩ (Can.sub (by simp [go_sem]) (by simp [go_sem])) ?_
  rintro i ⟨hi, hI⟩
  simp only [go_sem, Nat.reduceEqDiff, reduceIte, Bool.not_true, Bool.not_false, Bool.false_eq_true, List.length_cons, List.length_nil, Nat.reduceAdd, List.getElem?_cons_zero, List.getElem?_cons_succ, decide_true, eq_self, List.length_map]
  refine cnd_split ?_ ?_ <;> intro hc <;> simp only [hc, go_sem, Nat.reduceEqDiff, reduceIte, Bool.not_true, Bool.not_false, Bool.false_eq_true, List.length_cons, List.length_nil, Nat.reduceAdd, List.getElem?_cons_zero, List.getElem?_cons_succ, decide_true, eq_self, List.length_map]
  · have hlt : i < d.Breaks.length := by have := of_decide_eq_true hc; omega
    simp only [List.getElem?_map, List.getElem?_eq_getElem hlt, Option.map_some, go_sem, Nat.reduceEqDiff, reduceIte, Bool.not_true, Bool.not_false, Bool.false_eq_true, List.length_cons, List.length_nil, Nat.reduceAdd, List.getElem?_cons_zero, List.getElem?_cons_succ, decide_true, eq_self, List.length_map]
    refine call_pure c426 ?_
    simp only [go_sem, Nat.reduceEqDiff, reduceIte, Bool.not_true, Bool.not_false, Bool.false_eq_true, List.length_cons, List.length_nil, Nat.reduceAdd, List.getElem?_cons_zero, List.getElem?_cons_succ, decide_true, eq_self, List.length_map]
    refine cnd_split ?_ ?_ <;> intro hc <;> simp only [hc, go_sem, Nat.reduceEqDiff, reduceIte, Bool.not_true, Bool.not_false, Bool.false_eq_true, List.length_cons, List.length_nil, Nat.reduceAdd, List.getElem?_cons_zero, List.getElem?_cons_succ, decide_true, eq_self, List.length_map]
    · refine fin_eq rfl ?_
      rw [hI, drop_at hlt, List.all_cons]; simp_all
    · simp only [wrap_succ (show i < 4611686018427387904 by omega)]; refine loopQ_nrm (i + 1) ⟨by omega, ?_⟩ (by omega) (Can.sub (by simp [go_sem]) (by simp [go_sem]))
      rw [hI, drop_at hlt, List.all_cons]; simp_all
  have hX2 : dbgOk d = X := by
    obtain rfl : i = d.Breaks.length := by have := of_decide_eq_false hc; omega
    rw [hI]; simp
  clear hI key hi hc
  rw [if_neg (show ¬ d.Every = 0 by omega)]
  simp only [go_sem, Nat.reduceEqDiff, reduceIte, Bool.not_true, Bool.not_false, Bool.false_eq_true, List.length_cons, List.length_nil, Nat.reduceAdd, List.getElem?_cons_zero, List.getElem?_cons_succ, decide_true, eq_self, List.length_map]
  rw [if_neg (show ¬ d.Every = 0 by omega)]
  simp only [go_sem, Nat.reduceEqDiff, reduceIte, Bool.not_true, Bool.not_false, Bool.false_eq_true, List.length_cons, List.length_nil, Nat.reduceAdd, List.getElem?_cons_zero, List.getElem?_cons_succ, decide_true, eq_self, List.length_map]
  rw [wrap_small (n := d.At.tdiv d.Every) (by omega) (by omega), wrap_small (n := (4000 : Int).tdiv d.Every) (by omega) (by omega), wrap_small (n := d.At.tdiv d.Every + 1) (by omega) (by omega), wrap_small (n := (4000 : Int).tdiv d.Every + 1) (by omega) (by omega)]
  refine call_pure c340 ?_
  simp only [go_sem, Nat.reduceEqDiff, reduceIte, Bool.not_true, Bool.not_false, Bool.false_eq_true, List.length_cons, List.length_nil, Nat.reduceAdd, List.getElem?_cons_zero, List.getElem?_cons_succ, decide_true, eq_self, List.length_map]
  refine cnd_split ?_ ?_ <;> intro hc <;> simp only [hc, go_sem, Nat.reduceEqDiff, reduceIte, Bool.not_true, Bool.not_false, Bool.false_eq_true, List.length_cons, List.length_nil, Nat.reduceAdd, List.getElem?_cons_zero, List.getElem?_cons_succ, decide_true, eq_self, List.length_map]
  · refine fin_eq rfl ?_
    rw [hX2, hX]; simp_all
  have hq : inI d.Points.length (d.At.tdiv d.Every + 1) ((4000 : Int).tdiv d.Every + 1) = true := by simpa using hc
  rw [hq, Bool.true_and] at hX
  refine Sem.loop (fun i : Nat => i ≤ d.Points.length ∧ dbgOk d = pointsFrom d.Every (d.Points.drop i) i) (fun i => (⟨[(0, .ept d.enc 0), (4, .int .i64 (i : Nat))], [], []⟩ : VSt)) (fun i => d.Points.length - i) 0 (by kernel_rfl) ⟨Nat.zero_le _, by rw [hX2, hX]; simp⟩ (Can.sub (by simp [go_sem]) (by simp [go_sem])) ?_
  rintro i ⟨hi, hI⟩
  simp only [go_sem, Nat.reduceEqDiff, reduceIte, Bool.not_true, Bool.not_false, Bool.false_eq_true, List.length_cons, List.length_nil, Nat.reduceAdd, List.getElem?_cons_zero, List.getElem?_cons_succ, decide_true, eq_self, List.length_map]
  refine cnd_split ?_ ?_ <;> intro hc <;> simp only [hc, go_sem, Nat.reduceEqDiff, reduceIte, Bool.not_true, Bool.not_false, Bool.false_eq_true, List.length_cons, List.length_nil, Nat.reduceAdd, List.getElem?_cons_zero, List.getElem?_cons_succ, decide_true, eq_self, List.length_map]
  · have hlt : i < d.Points.length := by have := of_decide_eq_true hc; omega
    simp only [List.getElem?_map, List.getElem?_eq_getElem hlt, Option.map_some, go_sem, Nat.reduceEqDiff, reduceIte, Bool.not_true, Bool.not_false, Bool.false_eq_true, List.length_cons, List.length_nil, Nat.reduceAdd, List.getElem?_cons_zero, List.getElem?_cons_succ, decide_true, eq_self, List.length_map]
    have hs : (d.Points[i].Net.sz + d.Points[i].Origins.length) ≤ sumN GCheckpoint.sz d.Points := le_sumN (f := GCheckpoint.sz) (List.getElem_mem hlt)
    have m1 : (0 : Int) ≤ (i : Int) * d.Every := Int.mul_nonneg (by omega) (by omega)
    have m2 : (i : Int) * d.Every ≤ 1048576 * 50 := Int.mul_le_mul (by omega) (by omega) (by omega) (by omega)
    rw [wrap_small (n := (i : Int) * d.Every) (by omega) (by omega)]
    have conv : Cvs (only [] []) [.ept d.Points[i].enc 1, .lst 3 (d.Points[i].Origins.map GOrigin.enc) false, .int .i64 d.Points[i].At] [.ept d.Points[i].Net.enc 0, .lst 3 (d.Points[i].Origins.map GOrigin.enc) false, .int .i64 d.Points[i].At] :=
      Cvs.cons (.sub GCheckpoint.tr (GCheckpoint.q1_1) (by rw [GNet.ln]; decide)) (Cvs.cons (.refl (by simp [AV.tree, trees_map GOrigin.isSh.tree])) (Cvs.cons (.refl rfl) Cvs.nil))
    refine grd_split ?_ ?_ <;> intro hc <;> simp only [hc, go_sem, Nat.reduceEqDiff, reduceIte, Bool.not_true, Bool.not_false, Bool.false_eq_true, List.length_cons, List.length_nil, Nat.reduceAdd, List.getElem?_cons_zero, List.getElem?_cons_succ, decide_true, eq_self, List.length_map]
    · refine call_conv conv (c741 (by omega) (by omega)) ?_
      simp only [go_sem, Nat.reduceEqDiff, reduceIte, Bool.not_true, Bool.not_false, Bool.false_eq_true, List.length_cons, List.length_nil, Nat.reduceAdd, List.getElem?_cons_zero, List.getElem?_cons_succ, decide_true, eq_self, List.length_map]
      refine cnd_split ?_ ?_ <;> intro hc <;> simp only [hc, go_sem, Nat.reduceEqDiff, reduceIte, Bool.not_true, Bool.not_false, Bool.false_eq_true, List.length_cons, List.length_nil, Nat.reduceAdd, List.getElem?_cons_zero, List.getElem?_cons_succ, decide_true, eq_self, List.length_map]
      · refine fin_eq rfl ?_
        rw [hI, drop_at hlt]; simp_all [pointsFrom]
      · simp only [wrap_succ (show i < 4611686018427387904 by omega)]; refine loopQ_nrm (i + 1) ⟨by omega, ?_⟩ (by omega) (Can.sub (by simp [go_sem]) (by simp [go_sem]))
        rw [hI, drop_at hlt]; simp_all [pointsFrom]
    · refine fin_eq rfl ?_
      rw [hI, drop_at hlt]; simp_all [pointsFrom]
  · obtain rfl : i = d.Points.length := by have := of_decide_eq_false hc; omega
    refine fin_eq rfl ?_
    rw [hI]; simp [pointsFrom]
end Go.Ab
