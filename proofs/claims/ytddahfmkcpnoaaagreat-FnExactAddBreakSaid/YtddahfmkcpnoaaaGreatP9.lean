/- Texts Dbg16 .. Dbg33: the abstract machine, its laws and contracts of functions: lemmas for the statement. No condition. -/
import Derived.Test.YtddahfmkcpnoaaaGreatP8
namespace Go.Ab
open Go
set_option maxRecDepth 10000
set_option maxHeartbeats 2000000
theorem portOk_lt {xs : List GAgent} {p : GPort} (h : portOk xs p = true) : ∃ a s : Nat, p = ⟨a, s⟩ ∧ ∃ ha : a < xs.length, s < xs[a].Ports.length := by
  simp only [portOk, Bool.and_eq_true] at h
  have e1 := inI_iff.1 h.1
  have e2 := inI_iff.1 h.2
  have ha : p.Agent.toNat < xs.length := by omega
  simp only [portsLen, List.getElem?_eq_getElem ha] at e2
  refine ⟨p.Agent.toNat, p.Slot.toNat, ?_, ha, by omega⟩
  rw [Int.toNat_of_nonneg e1.1, Int.toNat_of_nonneg e2.1]
theorem c714 {xs : List GAgent} {p : GPort} : Pure Gm 714 [.lst 5 (xs.map GAgent.enc) false, p.enc] (.bool (portOk xs p)) := by
  refine Pure.intro [] [] g714 (by kernel_rfl) rfl (by simp [AV.trees, AV.tree, trees_map GAgent.isSh.tree, GPort.tr]) rfl ?_
  simp only [F714, vparams, go_sem, Nat.reduceEqDiff, reduceIte, Nat.reduceAdd, eq_self]
  refine lbox_ok rfl ?_; simp only [go_sem, Nat.reduceEqDiff, reduceIte, eq_self]
  have big (h0 : 0 ≤ p.Agent) (h1 : p.Agent < xs.length) : portOk xs p = (decide (0 ≤ p.Slot) && decide (p.Slot < (portsLen xs p.Agent : Int))) := by
    simp only [portOk, inI]; rw [Bool.eq_iff_iff]; simp; omega
  first | (refine grd_split ?_ ?_ <;> intro hc <;> simp only [hc, go_sem, Nat.reduceEqDiff, reduceIte, Bool.not_true, eq_self, List.length_map]) | (refine cnd_split ?_ ?_ <;> intro hc <;> simp only [hc, go_sem, Nat.reduceEqDiff, reduceIte, Bool.not_true, Bool.not_false, Bool.false_eq_true, List.length_cons, List.length_nil, Nat.reduceAdd, List.getElem?_cons_zero, List.getElem?_cons_succ, decide_true, eq_self, List.length_map])
  · first | (refine grd_split ?_ ?_ <;> intro hc <;> simp only [hc, go_sem, Nat.reduceEqDiff, reduceIte, Bool.not_true, eq_self]) | (refine cnd_split ?_ ?_ <;> intro hc <;> simp only [hc, go_sem, Nat.reduceEqDiff, reduceIte, Bool.not_true, Bool.not_false, Bool.false_eq_true, List.length_cons, List.length_nil, Nat.reduceAdd, List.getElem?_cons_zero, List.getElem?_cons_succ, decide_true, eq_self, List.length_map])
    · first | (refine grd_split ?_ ?_ <;> intro hc <;> simp only [hc, go_sem, Nat.reduceEqDiff, reduceIte, Bool.not_true, eq_self]) | (refine cnd_split ?_ ?_ <;> intro hc <;> simp only [hc, go_sem, Nat.reduceEqDiff, reduceIte, Bool.not_true, Bool.not_false, Bool.false_eq_true, List.length_cons, List.length_nil, Nat.reduceAdd, List.getElem?_cons_zero, List.getElem?_cons_succ, decide_true, eq_self, List.length_map])
      · have h0 : 0 ≤ p.Agent := by simp at *; omega
        have h1 : p.Agent < xs.length := by simp at *; omega
        have hlt : p.Agent.toNat < xs.length := by omega
        rw [idx_li h0]
        simp only [List.getElem?_map, List.getElem?_eq_getElem hlt, Option.map_some, go_sem, Nat.reduceEqDiff, reduceIte, Nat.reduceAdd, eq_self, List.length_map]
        refine fin_eq rfl ?_
        rw [big h0 h1]
        simp_all [portsLen]
      · refine fin_eq rfl ?_
        rw [big (by simp at *; omega) (by simp at *; omega)]
        simp_all
        try (intro h; omega)
    · refine fin_eq rfl ?_
      simp only [portOk, inI, AV.bool.injEq]; simp at *; omega
  · refine fin_eq rfl ?_
    simp only [portOk, inI, AV.bool.injEq]; simp at *; omega
theorem c713 {n : GNet} {a s : Nat} (ha : a < n.Agents.length) (hs : s < n.Agents[a].Ports.length) : Pure Gm 713 [GPort.enc ⟨(a : Int), (s : Int)⟩, .ept n.enc 0] (.bool (!wireOk n.Agents ⟨(a : Int), (s : Int)⟩ n.Agents[a].Ports[s])) := by
  refine Pure.intro [] [] g713 (by kernel_rfl) rfl (by simp [AV.trees, AV.tree, GNet.tr, GPort.tr]) rfl ?_
  simp only [F713, vparams, go_sem, Nat.reduceEqDiff, reduceIte, Nat.reduceAdd, eq_self]
  refine lbox_ok rfl ?_; simp only [go_sem, Nat.reduceEqDiff, reduceIte, Bool.not_true, eq_self]
  refine call_pure (c555 ha hs) ?_
  simp only [go_sem, Nat.reduceEqDiff, reduceIte, eq_self]
  refine lst_all (k := 2) (by rfl) (by rfl) (by exact ⟨_, rfl⟩) (by decide) ?_
  simp only [go_sem, Nat.reduceEqDiff, reduceIte, eq_self]
  obtain ⟨q, hq⟩ : ∃ q, q = n.Agents[a].Ports[s] := ⟨_, rfl⟩
  rw [← hq]
  first | (refine grd_split ?_ ?_ <;> intro hc <;> simp only [hc, go_sem, Nat.reduceEqDiff, reduceIte, Bool.not_true, Bool.not_false, Nat.reduceAdd, eq_self]) | (refine cnd_split ?_ ?_ <;> intro hc <;> simp only [hc, go_sem, Nat.reduceEqDiff, reduceIte, Bool.not_true, Bool.not_false, Bool.false_eq_true, List.length_cons, List.length_nil, Nat.reduceAdd, List.getElem?_cons_zero, List.getElem?_cons_succ, decide_true, eq_self, List.length_map])
  · refine call_pure c714 ?_
    simp only [go_sem, Nat.reduceEqDiff, reduceIte, eq_self]
    first | (refine grd_split ?_ ?_ <;> intro hc <;> simp only [hc, go_sem, Nat.reduceEqDiff, reduceIte, Bool.not_true, Bool.not_false, eq_self]) | (refine cnd_split ?_ ?_ <;> intro hc <;> simp only [hc, go_sem, Nat.reduceEqDiff, reduceIte, Bool.not_true, Bool.not_false, Bool.false_eq_true, List.length_cons, List.length_nil, Nat.reduceAdd, List.getElem?_cons_zero, List.getElem?_cons_succ, decide_true, eq_self, List.length_map])
    · have hp : portOk n.Agents q = true := by simpa using hc
      obtain ⟨a2, s2, rfl, ha2, hs2⟩ := portOk_lt hp
      refine call_pure (c555 ha2 hs2) ?_
      simp only [go_sem, Nat.reduceEqDiff, reduceIte, eq_self]
      refine fin_eq rfl ?_
      simp_all [wireOk, peerAt]
    · refine fin_eq rfl ?_
      simp_all [wireOk]
  · refine fin_eq rfl ?_
    simp_all [wireOk]
end Go.Ab
namespace Go.Ab
open Go
set_option maxRecDepth 10000
set_option maxHeartbeats 2000000
theorem sumN_app {α : Type} (f : α → Nat) : ∀ (xs ys : List α), sumN f (xs ++ ys) = sumN f xs + sumN f ys
  | [], ys => by simp [sumN]
  | x :: xs, ys => by simp only [List.cons_append, sumN, sumN_app f xs ys]; omega
theorem sumN_take {α : Type} (f : α → Nat) (xs : List α) (i : Nat) : sumN f (xs.take i) ≤ sumN f xs := by
  have := sumN_app f (xs.take i) (xs.drop i)
  rw [List.take_append_drop] at this
  omega
def slotsTo (i k : Nat) : List GPort := (List.range k).map fun s : Nat => ⟨(i : Int), (s : Int)⟩
theorem slotsTo_succ (i k : Nat) : slotsTo i (k + 1) = slotsTo i k ++ [⟨(i : Int), (k : Int)⟩] := by simp [slotsTo, List.range_succ]
def portsTo (xs : List GAgent) : Nat → List GPort
  | 0 => []
  | i + 1 => portsTo xs i ++ slotsTo i (portsLen xs (i : Int))
theorem portsTo_len (xs : List GAgent) : ∀ i, i ≤ xs.length → (portsTo xs i).length ≤ sumN GAgent.sz (xs.take i)
  | 0, _ => Nat.zero_le _
  | i + 1, h => by
    have := portsTo_len xs i (by omega)
    have hi : i < xs.length := by omega
    have e : xs.take (i + 1) = xs.take i ++ [xs[i]] := by simp [List.take_append_getElem]
    have e2 : sumN GAgent.sz (xs.take i ++ [xs[i]]) = sumN GAgent.sz (xs.take i) + GAgent.sz xs[i] := by
      rw [sumN_app]; rfl
    have e3 : xs[i].Ports.length ≤ GAgent.sz xs[i] := by unfold GAgent.sz; omega
    rw [e, e2]
    simp [portsTo, slotsTo, portsLen, List.getElem?_eq_getElem hi]
    omega
theorem c554 {n : GNet} (hz : n.sz ≤ 1048576) : Pure Gm 554 [.ept n.enc 0] (.lst 2 ((portsTo n.Agents n.Agents.length).map GPort.enc) false) := by
  refine Pure.intro [] [] g554 (by kernel_rfl) rfl (by simp [AV.trees, AV.tree, GNet.tr]) (by simp [AV.tree, trees_map GPort.isSh.tree]) ?_
  simp only [F554, vparams, go_sem, Nat.reduceEqDiff, reduceIte, Nat.reduceAdd, eq_self, List.length_map]
  unfold GNet.sz at hz
  refine Sem.loop (fun i : Nat => i ≤ n.Agents.length) (fun i => (⟨[(10, .lst 5 (n.Agents.map GAgent.enc) false), (11, .int .i64 (n.Agents.length : Int)), (12, .int .i64 (i : Nat)), (3, .slice 2 0 0 (portsTo n.Agents i).length false)], [], [.row 2 ((portsTo n.Agents i).map GPort.enc) true]⟩ : VSt)) (fun i => n.Agents.length - i) 0 (by kernel_rfl) (Nat.zero_le _) (Can.renum [none] rfl ⟨.ph, trivial⟩ ⟨⟨_, rfl, .tree (by simp [AV.tree, trees_map GAgent.isSh.tree])⟩, ⟨_, rfl, .tree rfl⟩, ⟨_, rfl, .tree rfl⟩, ⟨_, rfl, .ph rfl⟩, trivial⟩ trivial) ?_
  rintro i hi
  simp only [go_sem, Nat.reduceEqDiff, reduceIte, eq_self]
  refine cnd_split ?_ ?_ <;> intro hc <;> simp only [hc, go_sem, Nat.reduceEqDiff, reduceIte, eq_self]
  · have hlt : i < n.Agents.length := by have := of_decide_eq_true hc; omega
    simp only [List.getElem?_map, List.getElem?_eq_getElem hlt, Option.map_some, go_sem, Nat.reduceEqDiff, reduceIte, eq_self]
    refine lst_all (k := 5) (by rfl) (by rfl) (by exact ⟨_, rfl⟩) (by decide) ?_
    simp only [go_sem, Nat.reduceEqDiff, reduceIte, eq_self, List.length_map]
    have e0 : portsTo n.Agents i ++ slotsTo i 0 = portsTo n.Agents i := by simp [slotsTo]
    have hpl : n.Agents[i].Ports.length ≤ sumN GAgent.sz n.Agents := by
      have h1 : GAgent.sz n.Agents[i] ≤ sumN GAgent.sz n.Agents := le_sumN (f := GAgent.sz) (List.getElem_mem hlt)
      have h2 : n.Agents[i].Ports.length ≤ GAgent.sz n.Agents[i] := by unfold GAgent.sz; omega
      omega
    have htl := portsTo_len n.Agents i (by omega)
    have htt := sumN_take GAgent.sz n.Agents i
    refine Sem.loop (fun k : Nat => k ≤ n.Agents[i].Ports.length) (fun k => (⟨[(10, .lst 5 (n.Agents.map GAgent.enc) false), (11, .int .i64 (n.Agents.length : Int)), (12, .int .i64 (i : Nat)), (4, .int .i64 (i : Nat)), (19, .int .i64 (n.Agents[i].Ports.length : Int)), (20, .int .i64 (k : Nat)), (3, .slice 2 0 0 (portsTo n.Agents i ++ slotsTo i k).length false)], [], [.row 2 ((portsTo n.Agents i ++ slotsTo i k).map GPort.enc) true]⟩ : VSt)) (fun k => n.Agents[i].Ports.length - k) 0 (by kernel_rfl) (Nat.zero_le _) (by simp only [e0]; exact Can.sub (by simp [go_sem]) (by simp [go_sem])) ?_
    rintro k hk
    simp only [go_sem, Nat.reduceEqDiff, reduceIte, eq_self]
    refine cnd_split ?_ ?_ <;> intro hc <;> simp only [hc, go_sem, Nat.reduceEqDiff, reduceIte, List.length_cons, List.length_nil, Nat.reduceAdd, eq_self]
    · have hkl : k < n.Agents[i].Ports.length := by have := of_decide_eq_true hc; omega
      refine app_one (el := (portsTo n.Agents i ++ slotsTo i k).map GPort.enc) rfl rfl (by simp) (by simp [slotsTo]; omega) ?_
      simp only [go_sem, Nat.reduceEqDiff, reduceIte, eq_self]
      simp only [wrap_succ (show k < 4611686018427387904 by omega)]
      refine loopQ_nrm (k + 1) (by omega) (by omega) ?_
      have e1 : portsTo n.Agents i ++ slotsTo i (k + 1) = (portsTo n.Agents i ++ slotsTo i k) ++ [⟨(i : Int), (k : Int)⟩] := by rw [slotsTo_succ, List.append_assoc]
      simp only [e1, List.length_append, List.length_cons, List.length_nil, Nat.zero_add]
      refine Can.renum [some 2] rfl ⟨.row rfl ?_, trivial⟩ ⟨⟨_, rfl, .tree (by simp [AV.tree, trees_map GAgent.isSh.tree])⟩, ⟨_, rfl, .tree rfl⟩, ⟨_, rfl, .tree rfl⟩, ⟨_, rfl, .tree rfl⟩, ⟨_, rfl, .tree rfl⟩, ⟨_, rfl, .tree rfl⟩, ⟨_, rfl, .slice rfl⟩, trivial⟩ trivial
      have t := trees_map GPort.isSh.tree ((portsTo n.Agents i ++ slotsTo i k) ++ [⟨(i : Int), (k : Int)⟩])
      rw [List.map_append] at t
      rw [show ((portsTo n.Agents i ++ slotsTo i k) ++ [(⟨(i : Int), (k : Int)⟩ : GPort)]).map GPort.enc = (portsTo n.Agents i ++ slotsTo i k).map GPort.enc ++ [(⟨(i : Int), (k : Int)⟩ : GPort)].map GPort.enc from List.map_append]
      exact VR2s.trees t
    · obtain rfl : k = n.Agents[i].Ports.length := by have := of_decide_eq_false hc; omega
      simp only [wrap_succ (show i < 4611686018427387904 by omega)]
      refine loopQ_nrm (i + 1) (by omega) (by omega) ?_
      have e2 : portsTo n.Agents (i + 1) = portsTo n.Agents i ++ slotsTo i n.Agents[i].Ports.length := by simp [portsTo, portsLen, List.getElem?_eq_getElem hlt]
      rw [e2]
      exact Can.sub (by simp [go_sem]) (by simp [go_sem])
  · obtain rfl : i = n.Agents.length := by have := of_decide_eq_false hc; omega
    refine fin_cv (Cv.row rfl (by simp) (trees_map GPort.isSh.tree _) (by omega))
end Go.Ab
namespace Go.Ab
open Go
set_option maxRecDepth 10000
set_option maxHeartbeats 2000000
def peerOf (xs : List GAgent) (me : GPort) : GPort := (peerAt xs me).getD ⟨0, 0⟩
def meOk (xs : List GAgent) (me : GPort) : Bool := wireOk xs me (peerOf xs me)
theorem mem_slotsTo {i k : Nat} {q : GPort} : q ∈ slotsTo i k ↔ ∃ s : Nat, s < k ∧ q = ⟨i, s⟩ := by
  simp only [slotsTo, List.mem_map, List.mem_range]
  constructor
  · rintro ⟨s, h, rfl⟩; exact ⟨s, h, rfl⟩
  · rintro ⟨s, h, rfl⟩; exact ⟨s, h, rfl⟩
theorem mem_portsTo {xs : List GAgent} {q : GPort} : ∀ {m : Nat}, m ≤ xs.length → (q ∈ portsTo xs m ↔ ∃ (i : Nat) (hi : i < xs.length), i < m ∧ ∃ s : Nat, s < xs[i].Ports.length ∧ q = ⟨i, s⟩)
  | 0, _ => by simp [portsTo]
  | m + 1, hm => by
    have hml : m < xs.length := by omega
    simp only [portsTo, List.mem_append, mem_portsTo (xs := xs) (q := q) (m := m) (by omega), mem_slotsTo, portsLen, Int.toNat_natCast, List.getElem?_eq_getElem hml]
    constructor
    · rintro (⟨i, hi, h1, h2⟩ | h)
      · exact ⟨i, hi, by omega, h2⟩
      · exact ⟨m, hml, by omega, h⟩
    · rintro ⟨i, hi, h1, h2⟩
      by_cases e : i = m
      · subst e; exact .inr h2
      · exact .inl ⟨i, hi, by omega, h2⟩
theorem peerOf_at {xs : List GAgent} {a s : Nat} (ha : a < xs.length) (hs : s < xs[a].Ports.length) : peerOf xs ⟨a, s⟩ = xs[a].Ports[s] := by
  simp [peerOf, peerAt, List.getElem?_eq_getElem ha, List.getElem?_eq_getElem hs]
theorem wires_of {xs : List GAgent} {i : Nat} : ∀ {qs : List GPort} {j : Nat}, (∀ (m : Nat) (hm : m < qs.length), wireOk xs ⟨i, (j + m : Nat)⟩ qs[m] = true) → wiresFrom xs i qs j = true
  | [], _, _ => rfl
  | q :: qs, j, h => by
    simp only [wiresFrom, Bool.and_eq_true]
    refine ⟨h 0 (by simp), wires_of fun m hm => ?_⟩
    have := h (m + 1) (by simp; omega)
    rw [show j + (m + 1) = j + 1 + m by omega] at this
    simpa using this
theorem net_of {xs : List GAgent} : ∀ {l : List GAgent} {i : Nat}, (∀ (k : Nat) (hk : k < l.length), wiresFrom xs (i + k) l[k].Ports 0 = true) → netFrom xs l i = true
  | [], _, _ => rfl
  | x :: l, i, h => by
    simp only [netFrom, Bool.and_eq_true]
    refine ⟨h 0 (by simp), net_of fun k hk => ?_⟩
    have := h (k + 1) (by simp; omega)
    rw [show i + (k + 1) = i + 1 + k by omega] at this
    simpa using this
theorem ports_all (xs : List GAgent) : ((portsTo xs xs.length).all (meOk xs)) = netFrom xs xs 0 := by
  rw [Bool.eq_iff_iff, List.all_eq_true]
  constructor
  · intro h
    refine net_of fun k hk => wires_of fun m hm => ?_
    have := h ⟨k, m⟩ ((mem_portsTo (Nat.le_refl _)).2 ⟨k, hk, hk, m, hm, rfl⟩)
    rw [meOk, peerOf_at hk hm] at this
    simpa using this
  · intro h q hq
    obtain ⟨i, hi, _, s, hs, rfl⟩ := (mem_portsTo (Nat.le_refl _)).1 hq
    rw [meOk, peerOf_at hi hs]
    have := wires_at (net_at h i hi) s hs
    simpa using this
theorem c319 {n : GNet} (hz : n.sz ≤ 1048576) : Pure Gm 319 [n.enc] (.bool (netOk n)) := by
  refine Pure.intro [1] [] g319 (by kernel_rfl) rfl (by simp [AV.trees, GNet.tr]) rfl ?_
  simp only [F319, vparams, go_sem, Nat.reduceEqDiff, reduceIte, eq_self]
  have hz' := hz
  unfold GNet.sz at hz
  have hl : (portsTo n.Agents n.Agents.length).length ≤ 1048576 := by
    have h1 := portsTo_len n.Agents n.Agents.length (Nat.le_refl _)
    have h2 := sumN_take GAgent.sz n.Agents n.Agents.length
    omega
  refine hbox_ok rfl ?_
  simp only [go_sem, Nat.reduceEqDiff, reduceIte, Bool.not_true, List.length_nil, Nat.reduceAdd, List.getElem?_cons_zero, eq_self, List.nil_append, List.set_cons_zero]
  refine call_pure (c711 (by omega)) ?_
  simp only [go_sem, Nat.reduceEqDiff, reduceIte, eq_self]
  refine cnd_split ?_ ?_ <;> intro hc <;> simp only [hc, go_sem, Nat.reduceEqDiff, reduceIte, Bool.not_true, eq_self]
  · refine fin_eq rfl ?_
    have : agentsOk n.Agents = false := by simpa using hc
    simp [netOk, this]
  · refine call_pure (c554 hz') ?_
    simp only [go_sem, Nat.reduceEqDiff, reduceIte, Bool.not_true, eq_self]
    refine call_pure (c712 (f := .fn 713 [.ept n.enc 0]) (fun me => !meOk n.Agents me) (by simp [AV.tree, AV.trees, GNet.tr]) _ (fun x hx => ?_) hl) ?_
    · obtain ⟨i, hi, _, s, hs, rfl⟩ := (mem_portsTo (Nat.le_refl _)).1 hx
      refine ⟨713, _, rfl, ?_⟩
      have c := c713 hi hs
      rw [meOk, peerOf_at hi hs]
      exact c
    · simp only [any_not, go_sem, Nat.reduceEqDiff, reduceIte, eq_self]
      refine fin_eq rfl ?_
      have : agentsOk n.Agents = true := by simpa using hc
      rw [ports_all]
      simp [netOk, this]
end Go.Ab
namespace Go.Ab
open Go
set_option maxRecDepth 10000
set_option maxHeartbeats 2000000
theorem c860 {n : GNet} (hz : n.sz ≤ 1048576) : Pure Gm 860 [n.enc] (.bool (!netOk n)) := by
  refine Pure.intro [] [] g860 (by kernel_rfl) rfl (by simp [AV.trees, GNet.tr]) rfl ?_
  simp only [F860, vparams, go_sem, reduceIte, eq_self]
  refine lbox_ok rfl ?_; simp only [go_sem, Nat.reduceEqDiff, reduceIte, Bool.not_true, eq_self]
  refine call_pure (c319 hz) ?_
  simp only [go_sem, Nat.reduceEqDiff, reduceIte, eq_self]
  exact fin_eq rfl rfl
theorem c505 {xs : List GNet} (hl : xs.length ≤ 1048576) (hz : ∀ n ∈ xs, n.sz ≤ 1048576) : Pure Gm 505 [.lst 1 (xs.map GNet.enc) false] (.bool (bookOk xs)) := by
  refine Pure.intro [] [] g505 (by kernel_rfl) rfl (by simp [AV.trees, AV.tree, trees_map GNet.isSh.tree]) rfl ?_
  simp only [F505, vparams, go_sem, Nat.reduceEqDiff, reduceIte, eq_self, List.length_map]
  first | (refine grd_split ?_ ?_ <;> intro hc <;> simp only [hc, go_sem, Nat.reduceEqDiff, reduceIte, Bool.not_true, eq_self]) | (refine cnd_split ?_ ?_ <;> intro hc <;> simp only [hc, go_sem, Nat.reduceEqDiff, reduceIte, Bool.not_true, Bool.not_false, Bool.false_eq_true, List.length_cons, List.length_nil, Nat.reduceAdd, List.getElem?_cons_zero, List.getElem?_cons_succ, decide_true, eq_self, List.length_map])
  · refine call_pure (c859 (f := .fn 860 []) (fun n => !netOk n) rfl xs (fun x hx => ⟨860, [], rfl, c860 (hz x hx)⟩) hl) ?_
    simp only [any_not, go_sem, Nat.reduceEqDiff, reduceIte, eq_self]
    refine fin_eq rfl ?_
    simp only [bookOk, AV.bool.injEq]; simp at *; omega
  · refine fin_eq rfl ?_
    simp only [bookOk, AV.bool.injEq]; simp at *; omega
theorem c1114 {o : GOrigin} {a : Int} : Pure Gm 1114 [o.enc, .int .i64 a] (.bool (originOk o a)) := by
  refine Pure.intro [] [] g1114 (by kernel_rfl) rfl (by simp [AV.trees, AV.tree, GOrigin.tr]) rfl ?_
  simp only [F1114, vparams, go_sem, Nat.reduceEqDiff, reduceIte, Nat.reduceAdd, eq_self]
  refine lbox_ok rfl ?_; simp only [go_sem, Nat.reduceEqDiff, reduceIte, Bool.not_true, List.length_cons, List.length_nil, Nat.reduceAdd, eq_self]
  refine call_lend (vs' := [.int .i64 a, .lst 1 ([o.Step].map encI) false]) (Cvs.cons (.refl rfl) (Cvs.cons (Cv.row rfl rfl rfl (by decide)) Cvs.nil)) (c436 (by simp)) rfl ?_
  simp only [go_sem, Nat.reduceEqDiff, reduceIte, eq_self]
  repeat' (first | (first | (refine grd_split ?_ ?_ <;> intro hc <;> simp only [hc, go_sem, Nat.reduceEqDiff, reduceIte, Bool.not_true, Bool.not_false, eq_self]) | (refine cnd_split ?_ ?_ <;> intro hc <;> simp only [hc, go_sem, Nat.reduceEqDiff, reduceIte, Bool.not_true, Bool.not_false, Bool.false_eq_true, List.length_cons, List.length_nil, Nat.reduceAdd, List.getElem?_cons_zero, List.getElem?_cons_succ, decide_true, eq_self, List.length_map])) | refine fin_eq rfl ?_)
  all_goals (simp only [originOk, inI, AV.bool.injEq]; rw [Bool.eq_iff_iff]; simp [inI] at *; try omega)
theorem c1113 {o : GOrigin} {a : Int} : Pure Gm 1113 [o.enc, .ept (.int .i64 a) 0] (.bool (!originOk o a)) := by
  refine Pure.intro [] [] g1113 (by kernel_rfl) rfl (by simp [AV.trees, AV.tree, GOrigin.tr]) rfl ?_
  simp only [F1113, vparams, go_sem, Nat.reduceEqDiff, reduceIte, Nat.reduceAdd, eq_self]
  refine lbox_ok rfl ?_; simp only [go_sem, Nat.reduceEqDiff, reduceIte, Bool.not_true, eq_self]
  refine call_pure c1114 ?_
  simp only [go_sem, Nat.reduceEqDiff, reduceIte, eq_self]
  exact fin_eq rfl rfl
theorem c747 {n : GNet} {os : List GOrigin} {a : Int} (hz : n.sz ≤ 1048576) (hl : os.length ≤ 1048576) : Pure Gm 747 [n.enc, .lst 3 (os.map GOrigin.enc) false, .int .i64 a] (.bool (origsOk n os a)) := by
  refine Pure.intro [5] [] g747 (by kernel_rfl) rfl (by simp [AV.trees, AV.tree, trees_map GOrigin.isSh.tree, GNet.tr]) rfl ?_
  simp only [F747, vparams, go_sem, Nat.reduceEqDiff, reduceIte, Nat.reduceAdd, eq_self]
  refine lbox_ok rfl ?_; simp only [go_sem, Nat.reduceEqDiff, reduceIte, eq_self]
  refine hbox_ok rfl ?_
  simp only [go_sem, Nat.reduceEqDiff, reduceIte, Bool.not_true, List.length_nil, List.getElem?_cons_zero, eq_self, List.nil_append, List.set_cons_zero]
  refine call_pure (c319 hz) ?_
  simp only [go_sem, Nat.reduceEqDiff, reduceIte, eq_self]
  first | (refine grd_split ?_ ?_ <;> intro hc <;> simp only [hc, go_sem, Nat.reduceEqDiff, reduceIte, Bool.not_true, eq_self, List.length_map]) | (refine cnd_split ?_ ?_ <;> intro hc <;> simp only [hc, go_sem, Nat.reduceEqDiff, reduceIte, Bool.not_true, Bool.not_false, Bool.false_eq_true, List.length_cons, List.length_nil, Nat.reduceAdd, List.getElem?_cons_zero, List.getElem?_cons_succ, decide_true, eq_self, List.length_map])
  · first | (refine grd_split ?_ ?_ <;> intro hc <;> simp only [hc, go_sem, Nat.reduceEqDiff, reduceIte, Bool.not_true, eq_self]) | (refine cnd_split ?_ ?_ <;> intro hc <;> simp only [hc, go_sem, Nat.reduceEqDiff, reduceIte, Bool.not_true, Bool.not_false, Bool.false_eq_true, List.length_cons, List.length_nil, Nat.reduceAdd, List.getElem?_cons_zero, List.getElem?_cons_succ, decide_true, eq_self, List.length_map])
    · refine call_pure (c1112 (f := .fn 1113 [.ept (.int .i64 a) 0]) (fun o => !originOk o a) rfl os (fun x hx => ⟨1113, _, rfl, c1113⟩) hl) ?_
      simp only [any_not, go_sem, Nat.reduceEqDiff, reduceIte, eq_self]
      refine fin_eq rfl ?_
      simp_all [origsOk]
    · refine fin_eq rfl ?_
      simp_all [origsOk]
  · refine fin_eq rfl ?_
    simp_all [origsOk]
theorem c428 {b : GBreak} : Pure Gm 428 [b.enc] (.bool (breakOk b)) := by
  refine Pure.intro [] [] g428 (by kernel_rfl) rfl (by simp [AV.trees, GBreak.tr]) rfl ?_
  simp only [F428, vparams, go_sem, reduceIte, eq_self]
  refine lbox_ok rfl ?_; simp only [go_sem, Nat.reduceEqDiff, reduceIte, eq_self]
  repeat' (first | (first | (refine grd_split ?_ ?_ <;> intro hc <;> simp only [hc, go_sem, Nat.reduceEqDiff, reduceIte, Bool.not_true, eq_self]) | (refine cnd_split ?_ ?_ <;> intro hc <;> simp only [hc, go_sem, Nat.reduceEqDiff, reduceIte, Bool.not_true, eq_self])) | (refine call_pure c796 ?_; simp only [go_sem, Nat.reduceEqDiff, reduceIte, eq_self]) | refine fin_eq rfl ?_)
  all_goals (simp only [AV.bool.injEq]; rw [Bool.eq_iff_iff]; simp only [Bool.not_true, decide_eq_true_eq, decide_eq_false_iff_not] at *; simp [breakOk, inI, defOk, *]; try omega)
theorem c749 {b : GBreak} : Pure Gm 749 [b.enc] (.bool (!breakOk b)) := by
  refine Pure.intro [] [] g749 (by kernel_rfl) rfl (by simp [AV.trees, GBreak.tr]) rfl ?_
  simp only [F749, vparams, go_sem, reduceIte, eq_self]
  refine lbox_ok rfl ?_; simp only [go_sem, Nat.reduceEqDiff, reduceIte, Bool.not_true, eq_self]
  refine call_pure c428 ?_
  simp only [go_sem, Nat.reduceEqDiff, reduceIte, eq_self]
  exact fin_eq rfl rfl
end Go.Ab
namespace Go.Ab
open Go
set_option maxRecDepth 10000
set_option maxHeartbeats 2000000
theorem c373 {d : GDebugger} (hz : d.sz ≤ 1048576) : Pure Gm 373 [d.enc] (.bool (dbgOk d)) := by
  refine Pure.intro [] [] g373 (by kernel_rfl) rfl (by simp [AV.trees, GDebugger.tr]) rfl ?_
  simp only [F373, vparams, go_sem, reduceIte, eq_self]
  refine lbox_ok rfl ?_; simp only [go_sem, Nat.reduceEqDiff, reduceIte, Bool.not_true, eq_self]
  unfold GDebugger.sz at hz
  have hzn : d.Net.sz ≤ 1048576 := by omega
  refine call_pure (c505 (by omega) (fun n hn => by have := le_sumN (f := GNet.sz) hn; omega)) ?_
  simp only [go_sem, Nat.reduceEqDiff, reduceIte, eq_self]
  repeat' (first
    | (first | (refine grd_split ?_ ?_ <;> intro hc <;> simp only [hc, go_sem, Nat.reduceEqDiff, reduceIte, Bool.not_true, Bool.not_false, List.length_cons, List.length_nil, Nat.reduceAdd, eq_self]) | (refine cnd_split ?_ ?_ <;> intro hc <;> simp only [hc, go_sem, Nat.reduceEqDiff, reduceIte, eq_self, List.length_map]))
    | (refine call_pure (c406 (by omega)) ?_; simp only [go_sem, Nat.reduceEqDiff, reduceIte, eq_self])
    | (refine call_lend (vs' := [.int .i64 4000, .lst 1 ([d.At].map encI) false]) (Cvs.cons (.refl rfl) (Cvs.cons (Cv.row rfl rfl rfl (by decide)) Cvs.nil)) (c436 (by simp)) rfl ?_; simp only [go_sem, Nat.reduceEqDiff, reduceIte, eq_self])
    | (refine call_pure (c747 hzn (by omega)) ?_; simp only [go_sem, Nat.reduceEqDiff, reduceIte, eq_self])
    | (refine call_pure (c748 (f := .fn 749 []) (fun b => !breakOk b) rfl d.Breaks (fun x _ => ⟨749, [], rfl, c749⟩) (by omega)) ?_; simp only [go_sem, Nat.reduceEqDiff, reduceIte, eq_self])
    | refine fin_eq rfl ?_)
  case refine_1.refine_1.refine_1.refine_1.refine_1.refine_2.refine_1.refine_1 =>
    have h7 : d.Breaks.all breakOk = false := by rw [← any_not, hc]; rfl
    simp [dbgOk, h7]
  all_goals try (simp_all [dbgOk, inI]; done)
  all_goals try (simp_all [dbgOk, inI]; omega)
  have f1 : bookOk d.Book = true := by simp_all
  have f2 : schedOk d.Schedule = true := by simp_all
  have f3 : inI d.Every 1 50 = true := by simp [inI]; simp at *; omega
  have f4 : inI d.At 0 4000 = true := by simp_all
  have f5 : origsOk d.Net d.Origins d.At = true := by simp_all
  have f6 : decide ((8 : Int) < d.Breaks.length) = false := by simp_all
  have f7 : d.Breaks.all breakOk = true := by rw [← any_not, hc]; rfl
  have key : dbgOk d = (inI d.Points.length (d.At.tdiv d.Every + 1) ((4000 : Int).tdiv d.Every + 1) && pointsFrom d.Every d.Points 0) := by simp [dbgOk, f1, f2, f3, f4, f5, f6, f7]
  have e1 := inI_iff.1 f3
  have e2 := inI_iff.1 f4
  have b1 := tdiv_bd e2.1 (show 0 < d.Every by omega)
  have b2 := tdiv_bd (show (0 : Int) ≤ 4000 by omega) (show 0 < d.Every by omega)
  clear f1 f2 f3 f4 f5 f6 f7 hc
  rw [if_neg (show ¬ d.Every = 0 by omega)]
  simp only [go_sem, Nat.reduceEqDiff, reduceIte, eq_self]
  rw [wrap_small (n := d.At.tdiv d.Every) (by omega) (by omega), wrap_small (n := d.At.tdiv d.Every + 1) (by omega) (by omega)]
  have lo (h : decide ((d.Points.length : Int) < d.At.tdiv d.Every + 1) = false) (h2 : decide ((4000 : Int).tdiv d.Every + 1 < (d.Points.length : Int)) = false) : dbgOk d = pointsFrom d.Every d.Points 0 := by
    rw [key]; have : inI d.Points.length (d.At.tdiv d.Every + 1) ((4000 : Int).tdiv d.Every + 1) = true := by simp [inI]; simp at *; omega
    rw [this]; rfl
  first | (refine grd_split ?_ ?_ <;> intro hc <;> simp only [hc, go_sem, Nat.reduceEqDiff, reduceIte, Bool.not_false, eq_self]) | (refine cnd_split ?_ ?_ <;> intro hc <;> simp only [hc, go_sem, Nat.reduceEqDiff, reduceIte, Bool.not_true, Bool.not_false, Bool.false_eq_true, List.length_cons, List.length_nil, Nat.reduceAdd, List.getElem?_cons_zero, List.getElem?_cons_succ, decide_true, eq_self, List.length_map])
  · rw [if_neg (show ¬ d.Every = 0 by omega)]
    simp only [go_sem, Nat.reduceEqDiff, reduceIte, eq_self]
    rw [wrap_small (n := (4000 : Int).tdiv d.Every) (by omega) (by omega), wrap_small (n := (4000 : Int).tdiv d.Every + 1) (by omega) (by omega)]
    have hc1 := hc
    refine cnd_split ?_ ?_ <;> intro hc <;> simp only [hc, go_sem, Nat.reduceEqDiff, reduceIte, eq_self, List.length_map]
    · refine fin_eq rfl ?_
      rw [key]; simp [inI]; simp at *; omega
    · have hX := lo hc1 hc
      refine Sem.loop (fun i : Nat => i ≤ d.Points.length ∧ dbgOk d = pointsFrom d.Every (d.Points.drop i) i) (fun i => (⟨[(72, .lst 3 (d.Points.map GCheckpoint.enc) false), (73, .int .i64 (d.Points.length : Int)), (74, .int .i64 (i : Nat))], [(1, d.enc)], [.row 1 [.int .i64 d.At] true]⟩ : VSt)) (fun i => d.Points.length - i) 0 (by kernel_rfl) ⟨Nat.zero_le _, by rw [hX]; simp⟩ (Can.sub (by simp [go_sem]) (by simp [go_sem])) ?_
      rintro i ⟨hi, hI⟩
      simp only [go_sem, Nat.reduceEqDiff, reduceIte, eq_self]
      refine cnd_split ?_ ?_ <;> intro hc <;> simp only [hc, go_sem, Nat.reduceEqDiff, reduceIte, eq_self]
      · have hlt : i < d.Points.length := by have := of_decide_eq_true hc; omega
        simp only [List.getElem?_map, List.getElem?_eq_getElem hlt, Option.map_some, go_sem, Nat.reduceEqDiff, reduceIte, eq_self]
        refine lst_all (k := 3) (by rfl) (by rfl) (by exact ⟨_, rfl⟩) (by decide) ?_
        simp only [go_sem, Nat.reduceEqDiff, reduceIte, eq_self]
        have hs : (d.Points[i].Net.sz + d.Points[i].Origins.length) ≤ sumN GCheckpoint.sz d.Points := le_sumN (f := GCheckpoint.sz) (List.getElem_mem hlt)
        have m1 : (0 : Int) ≤ (i : Int) * d.Every := Int.mul_nonneg (by omega) (by omega)
        have m2 : (i : Int) * d.Every ≤ 1048576 * 50 := Int.mul_le_mul (by omega) (by omega) (by omega) (by omega)
        rw [wrap_small (n := (i : Int) * d.Every) (by omega) (by omega)]
        refine grd_split ?_ ?_ <;> intro hc <;> simp only [hc, go_sem, Nat.reduceEqDiff, reduceIte, Bool.not_true, Bool.not_false, eq_self]
        · refine call_pure (c747 (by omega) (by omega)) ?_
          simp only [go_sem, Nat.reduceEqDiff, reduceIte, eq_self]
          refine cnd_split ?_ ?_ <;> intro hc <;> simp only [hc, go_sem, Nat.reduceEqDiff, reduceIte, eq_self]
          · refine fin_eq rfl ?_
            rw [hI, drop_at hlt]; simp_all [pointsFrom]
          · simp only [wrap_succ (show i < 4611686018427387904 by omega)]; refine loopQ_nrm (i + 1) ⟨by omega, ?_⟩ (by omega) (Can.sub (by simp [go_sem]) (by simp [go_sem]))
            rw [hI, drop_at hlt]; simp_all [pointsFrom]
        · refine fin_eq rfl ?_
          rw [hI, drop_at hlt]; simp_all [pointsFrom]
      · obtain rfl : i = d.Points.length := by have := of_decide_eq_false hc; omega
        refine fin_eq rfl ?_
        rw [hI]; simp [pointsFrom]
  · refine fin_eq rfl ?_
    rw [key]; simp [inI]; simp at *; omega
end Go.Ab
namespace Go.Ab
open Go
set_option maxRecDepth 10000
set_option maxHeartbeats 2000000
end Go.Ab
namespace Go.Ab
open Go
set_option maxRecDepth 10000
set_option maxHeartbeats 2000000
end Go.Ab
namespace Go.Ab
open Go
set_option maxRecDepth 10000
set_option maxHeartbeats 2000000
end Go.Ab
namespace Go.Ab
open Go
set_option maxRecDepth 10000
set_option maxHeartbeats 2000000
end Go.Ab
namespace Go.Ab
open Go
set_option maxRecDepth 10000
set_option maxHeartbeats 2000000
def zeroD : GDebugger := { Book := [], Schedule := [], Every := 0, At := 0, Net := { Agents := [] }, Origins := [], Breaks := [], Points := [] }
def addI (d : GDebugger) (b : GBreak) : GDebugger × Int :=
  if dbgOk d then (if breakOk b then (if d.Breaks.length = 8 then (zeroD, 4) else ({ d with Breaks := d.Breaks ++ [b] }, 0)) else (zeroD, 2)) else (zeroD, 1)
theorem zeroD_fin {h : List AObj} {n : Int} : FinF (some [.agg [.nils, .nils, .int .i64 0, .int .i64 0, .nils, .nils, .nils, .nils], .int .i64 n]) h (.tup [zeroD.enc, .int .i64 n]) := by
  refine ⟨[none, none, none, none, none, none], rfl, ⟨.ph, .ph, .ph, .ph, .ph, .ph, trivial⟩, ?_⟩
  have a : VR2 [none, none, none, none, none, none] (.agg [.nils, .nils, .int .i64 0, .int .i64 0, .nils, .nils, .nils, .nils]) (.agg [.slice 1 0 0 0 false, .slice 1 1 0 0 false, .int .i64 0, .int .i64 0, .slice 5 2 0 0 false, .slice 3 3 0 0 false, .slice 2 4 0 0 false, .slice 3 5 0 0 false]) :=
    .agg rfl (VR2s.cons (.ph rfl) (VR2s.cons (.ph rfl) (VR2s.cons (.tree rfl) (VR2s.cons (.tree rfl) (VR2s.cons (.ph rfl) (VR2s.cons (.ph rfl) (VR2s.cons (.ph rfl) (VR2s.cons (.ph rfl) VR2s.nil)))))))).2
  exact .tup rfl (VR2s.cons a (VR2s.cons (.tree rfl) VR2s.nil)).2
theorem n133 (d : GDebugger) (b : GBreak) (hz : d.sz ≤ 1048576) : Fresh Gm 133 [d.enc, b.enc] (.tup [(addI d b).1.enc, .int .i64 (addI d b).2]) := by
  refine Fresh.intro [2, 3] [] g133 (by kernel_rfl) rfl (by simp [AV.trees, go_sem]) (by simp [AV.pl, AV.pls, GDebugger.plx]) ?_
  simp only [F133, vparams, go_sem, Nat.reduceEqDiff, reduceIte, Nat.reduceAdd, eq_self]
  refine hbox_ok rfl ?_
  simp only [go_sem, Nat.reduceEqDiff, reduceIte, List.length_nil, eq_self, List.nil_append]
  refine hbox_ok rfl ?_
  simp only [go_sem, Nat.reduceEqDiff, reduceIte, Bool.not_true, List.length_cons, List.length_nil, Nat.reduceAdd, List.getElem?_cons_zero, List.getElem?_cons_succ, eq_self, List.nil_append, List.cons_append, List.set_cons_zero, List.set_cons_succ]
  refine call_pure (c367 hz) ?_
  simp only [go_sem, Nat.reduceEqDiff, reduceIte, eq_self]
  refine cnd_split ?_ ?_ <;> intro hc <;> simp only [hc, go_sem, Nat.reduceEqDiff, reduceIte, Bool.not_true, eq_self]
  · rw [show addI d b = (zeroD, 1) by simp_all [addI]]
    refine lst_all (k := 8) (by rfl) (by rfl) (by exact ⟨_, rfl⟩) (by decide) ?_
    simp only [go_sem, Nat.reduceEqDiff, reduceIte, eq_self]
    exact zeroD_fin
  refine call_pure c426 ?_
  simp only [go_sem, Nat.reduceEqDiff, reduceIte, eq_self]
  refine cnd_split ?_ ?_ <;> intro hc <;> simp only [hc, go_sem, Nat.reduceEqDiff, reduceIte, Nat.reduceAdd, eq_self, List.length_map]
  · rw [show addI d b = (zeroD, 2) by simp_all [addI]]
    refine lst_all (k := 8) (by rfl) (by rfl) (by exact ⟨_, rfl⟩) (by decide) ?_
    simp only [go_sem, Nat.reduceEqDiff, reduceIte, eq_self]
    exact zeroD_fin
  refine cnd_split ?_ ?_ <;> intro hc <;> simp only [hc, go_sem, Nat.reduceEqDiff, reduceIte, Bool.not_true, eq_self]
  · rw [show addI d b = (zeroD, 4) by simp_all [addI]; omega]
    refine lst_all (k := 8) (by rfl) (by rfl) (by exact ⟨_, rfl⟩) (by decide) ?_
    simp only [go_sem, Nat.reduceEqDiff, reduceIte, eq_self]
    exact zeroD_fin
  rw [show addI d b = ({ d with Breaks := d.Breaks ++ [b] }, 0) by simp_all [addI]; omega]
  refine call_fresh (n427 d hz) ?_
  simp only [go_sem, GDebugger.layE, Nat.reduceEqDiff, reduceIte, List.length_cons, List.length_nil, Nat.reduceAdd, eq_self]
  have hB : 0 < AV.rows (.lst 1 (d.Book.map GNet.enc) false) := by simp only [AV.rows]; omega
  have hS : 0 < AV.rows (.lst 1 (d.Schedule.map encI) false) := by simp only [AV.rows]; omega
  have hN : 0 < AV.rows (.lst 5 (d.Net.Agents.map GAgent.enc) false) := by simp only [AV.rows]; omega
  have hO : 0 < AV.rows (.lst 3 (d.Origins.map GOrigin.enc) false) := by simp only [AV.rows]; omega
  have hP : 0 < AV.rows (.lst 3 (d.Points.map GCheckpoint.enc) false) := by simp only [AV.rows]; omega
  have rK : AV.rows (.lst 2 (d.Breaks.map GBreak.enc) false) = 1 := by have := GBreak.flat d.Breaks 0; have h2 := lays_len (d.Breaks.map GBreak.enc) 0; rw [this] at h2; simp only [AV.rows, ← h2, List.length_nil]
  have loK : ∀ n, (lay (.lst 2 (d.Breaks.map GBreak.enc) false) n).2 = [.row 2 (d.Breaks.map GBreak.enc) true] := fun n => by simp only [lay, GBreak.flat]
  have hX : AV.pls [.lst 1 (d.Book.map GNet.enc) false, .lst 1 (d.Schedule.map encI) false, .lst 5 (d.Net.Agents.map GAgent.enc) false, .lst 3 (d.Origins.map GOrigin.enc) false] = true := by simp only [AV.pls, AV.pl, pls_map GNet.plx, pls_map (enc := encI) (fun _ => rfl), pls_map GAgent.plx, pls_map GOrigin.plx, Bool.and_self]
  have hbX : AV.rowss [.lst 1 (d.Book.map GNet.enc) false, .lst 1 (d.Schedule.map encI) false, .lst 5 (d.Net.Agents.map GAgent.enc) false, .lst 3 (d.Origins.map GOrigin.enc) false] = AV.rows (.lst 1 (d.Book.map GNet.enc) false) + AV.rows (.lst 1 (d.Schedule.map encI) false) + AV.rows (.lst 5 (d.Net.Agents.map GAgent.enc) false) + AV.rows (.lst 3 (d.Origins.map GOrigin.enc) false) := by simp only [AV.rowss]; omega
  refine lst_all (k := 8) (by rfl) (by rfl) (by exact ⟨_, rfl⟩) (by decide) ?_
  simp only [go_sem, Nat.reduceEqDiff, reduceIte, List.length_cons, List.length_nil, Nat.reduceAdd, List.getElem?_cons_zero, List.getElem?_cons_succ, eq_self]
  have rK2 : AV.rows (.lst 2 ((d.Breaks ++ [b]).map GBreak.enc) false) = 1 := by have := GBreak.flat (d.Breaks ++ [b]) 0; have h2 := lays_len ((d.Breaks ++ [b]).map GBreak.enc) 0; rw [this] at h2; simp only [AV.rows, ← h2, List.length_nil]
  have loK2 : ∀ n, (lay (.lst 2 ((d.Breaks ++ [b]).map GBreak.enc) false) n).2 = [.row 2 ((d.Breaks ++ [b]).map GBreak.enc) true] := fun n => by simp only [lay, GBreak.flat]
  have key : ∀ Z, [AObj.dead, AObj.dead] ++ ((lay (.lst 1 (d.Book.map GNet.enc) false) (2)).2 ++ ((lay (.lst 1 (d.Schedule.map encI) false) (2 + AV.rows (.lst 1 (d.Book.map GNet.enc) false))).2 ++ ((lay (.lst 5 (d.Net.Agents.map GAgent.enc) false) (2 + AV.rows (.lst 1 (d.Book.map GNet.enc) false) + AV.rows (.lst 1 (d.Schedule.map encI) false))).2 ++ ((lay (.lst 3 (d.Origins.map GOrigin.enc) false) (2 + AV.rows (.lst 1 (d.Book.map GNet.enc) false) + AV.rows (.lst 1 (d.Schedule.map encI) false) + AV.rows (.lst 5 (d.Net.Agents.map GAgent.enc) false))).2 ++ ((lay (.lst 2 (d.Breaks.map GBreak.enc) false) (2 + AV.rows (.lst 1 (d.Book.map GNet.enc) false) + AV.rows (.lst 1 (d.Schedule.map encI) false) + AV.rows (.lst 5 (d.Net.Agents.map GAgent.enc) false) + AV.rows (.lst 3 (d.Origins.map GOrigin.enc) false))).2 ++ Z))))) = ([AObj.dead, AObj.dead] ++ (lays [.lst 1 (d.Book.map GNet.enc) false, .lst 1 (d.Schedule.map encI) false, .lst 5 (d.Net.Agents.map GAgent.enc) false, .lst 3 (d.Origins.map GOrigin.enc) false] 2).2) ++ .row 2 (d.Breaks.map GBreak.enc) true :: Z := by
    intro Z
    simp only [lays, lay_len, loK, List.append_assoc, List.append_nil, List.cons_append, List.nil_append]
  have hlen : ([AObj.dead, AObj.dead] ++ (lays [.lst 1 (d.Book.map GNet.enc) false, .lst 1 (d.Schedule.map encI) false, .lst 5 (d.Net.Agents.map GAgent.enc) false, .lst 3 (d.Origins.map GOrigin.enc) false] 2).2).length = 2 + AV.rows (.lst 1 (d.Book.map GNet.enc) false) + AV.rows (.lst 1 (d.Schedule.map encI) false) + AV.rows (.lst 5 (d.Net.Agents.map GAgent.enc) false) + AV.rows (.lst 3 (d.Origins.map GOrigin.enc) false) := by simp only [List.length_append, List.length_cons, List.length_nil, lays_len, hbX]; omega
  have hk : d.Breaks.length ≤ 1048576 := by unfold GDebugger.sz at hz; omega
  refine app_one (len := d.Breaks.length) (el := d.Breaks.map GBreak.enc) last_at ?_ (by simp) (by omega) ?_
  · simp only [List.append_assoc]
    rw [key]
    exact midO_at hlen
  simp only [go_sem, Nat.reduceEqDiff, reduceIte, eq_self]
  refine lst_all (k := 8) (by rfl) (by rfl) (by exact ⟨_, rfl⟩) (by decide) ?_
  simp only [go_sem, Nat.reduceEqDiff, reduceIte, eq_self]
  refine FinF.grow (c := 2) (w := 2) (pre := [.dead, .dead]) (X := [.lst 1 (d.Book.map GNet.enc) false, .lst 1 (d.Schedule.map encI) false, .lst 5 (d.Net.Agents.map GAgent.enc) false, .lst 3 (d.Origins.map GOrigin.enc) false]) (W := [.lst 3 (d.Points.map GCheckpoint.enc) false]) (el := (d.Breaks ++ [b]).map GBreak.enc) (x := .row 2 [b.enc] true) rfl hX (by simp only [AV.pls, AV.pl, pls_map GCheckpoint.plx, Bool.and_self]) (trees_map GBreak.isSh.tree _) ?_ ?_ ?_
  · simp only [List.append_assoc]
    rw [key, midO_set hlen]
    simp only [lays, hbX, rK, List.map_append, List.map_cons, List.map_nil, List.append_assoc, List.append_nil, List.cons_append, List.nil_append, Nat.add_assoc]
  · show (lays [GDebugger.enc { d with Breaks := d.Breaks ++ [b] }, .int .i64 0] 0).2 = _
    have li : ∀ n, lay (.int .i64 0) n = (.int .i64 0, []) := fun _ => rfl
    simp only [lays, GDebugger.layE, li, lay_len, List.append_nil, Nat.zero_add, List.append_assoc, hbX, rK2, loK2, List.cons_append, List.nil_append]
  · have li : ∀ n, lay (.int .i64 0) n = (.int .i64 0, []) := fun _ => rfl
    have hbP : AV.rowss [.lst 3 (d.Points.map GCheckpoint.enc) false] = AV.rows (.lst 3 (d.Points.map GCheckpoint.enc) false) := rfl
    show VR2 _ (.tup _) (.tup (lays [GDebugger.enc { d with Breaks := d.Breaks ++ [b] }, .int .i64 0] 0).1)
    simp only [lays, GDebugger.layE, li, hbX, hbP, List.length_append, List.length_cons, List.length_nil, lay_len, rK, rK2]
    refine .tup rfl (VR2s.cons ?_ (VR2s.cons (.tree rfl) VR2s.nil)).2
    exact .agg rfl (VR2s.cons (.slice (emu_at (by omega))) (VR2s.cons (.slice (emu_at (by omega))) (VR2s.cons (.tree rfl) (VR2s.cons (.tree rfl) (VR2s.cons (.slice (emu_at (by omega))) (VR2s.cons (.slice (emu_at (by omega))) (VR2s.cons (.slice (emu_at (by omega))) (VR2s.cons (.slice (emu_at (by omega))) VR2s.nil)))))))).2
end Go.Ab
namespace Go.Ab
open Go
set_option maxRecDepth 10000
set_option maxHeartbeats 2000000
theorem n135 (d : GDebugger) (b : GBreak) (hz : d.sz ≤ 1048576) : Fresh Gm 135 [d.enc, b.enc] (.tup [(addI d b).1.enc, .int .i64 (addI d b).2]) := by
  refine Fresh.intro [] [] g135 (by kernel_rfl) rfl (by simp [AV.trees, go_sem]) (by simp [AV.pl, AV.pls, GDebugger.plx]) ?_
  simp only [F135, vparams, go_sem, Nat.reduceEqDiff, reduceIte, Nat.reduceAdd, eq_self]
  refine lbox_ok rfl ?_
  simp only [go_sem, Nat.reduceEqDiff, reduceIte, eq_self]
  refine lbox_ok rfl ?_
  simp only [go_sem, Nat.reduceEqDiff, reduceIte, Bool.not_true, eq_self]
  refine call_pure (c373 hz) ?_
  simp only [go_sem, Nat.reduceEqDiff, reduceIte, eq_self]
  refine cnd_split ?_ ?_ <;> intro hc <;> simp only [hc, go_sem, Nat.reduceEqDiff, reduceIte, Bool.not_true, eq_self]
  · rw [show addI d b = (zeroD, 1) by simp_all [addI]]
    refine lst_all (k := 8) (by rfl) (by rfl) (by exact ⟨_, rfl⟩) (by decide) ?_
    simp only [go_sem, Nat.reduceEqDiff, reduceIte, eq_self]
    exact zeroD_fin
  refine call_pure c428 ?_
  simp only [go_sem, Nat.reduceEqDiff, reduceIte, eq_self]
  refine cnd_split ?_ ?_ <;> intro hc <;> simp only [hc, go_sem, Nat.reduceEqDiff, reduceIte, eq_self, List.length_map]
  · rw [show addI d b = (zeroD, 2) by simp_all [addI]]
    refine lst_all (k := 8) (by rfl) (by rfl) (by exact ⟨_, rfl⟩) (by decide) ?_
    simp only [go_sem, Nat.reduceEqDiff, reduceIte, eq_self]
    exact zeroD_fin
  refine cnd_split ?_ ?_ <;> intro hc <;> simp only [hc, go_sem, Nat.reduceEqDiff, reduceIte, Bool.not_true, eq_self]
  · rw [show addI d b = (zeroD, 4) by simp_all [addI]; omega]
    refine lst_all (k := 8) (by rfl) (by rfl) (by exact ⟨_, rfl⟩) (by decide) ?_
    simp only [go_sem, Nat.reduceEqDiff, reduceIte, eq_self]
    exact zeroD_fin
  rw [show addI d b = ({ d with Breaks := d.Breaks ++ [b] }, 0) by simp_all [addI]; omega]
  refine call_fresh (n429 d hz) ?_
  simp only [go_sem, GDebugger.layE, List.nil_append, Nat.zero_add, Nat.reduceEqDiff, reduceIte, List.length_nil, eq_self]
  have hB : 0 < AV.rows (.lst 1 (d.Book.map GNet.enc) false) := by simp only [AV.rows]; omega
  have hS : 0 < AV.rows (.lst 1 (d.Schedule.map encI) false) := by simp only [AV.rows]; omega
  have hN : 0 < AV.rows (.lst 5 (d.Net.Agents.map GAgent.enc) false) := by simp only [AV.rows]; omega
  have hO : 0 < AV.rows (.lst 3 (d.Origins.map GOrigin.enc) false) := by simp only [AV.rows]; omega
  have hP : 0 < AV.rows (.lst 3 (d.Points.map GCheckpoint.enc) false) := by simp only [AV.rows]; omega
  have rK : AV.rows (.lst 2 (d.Breaks.map GBreak.enc) false) = 1 := by have := GBreak.flat d.Breaks 0; have h2 := lays_len (d.Breaks.map GBreak.enc) 0; rw [this] at h2; simp only [AV.rows, ← h2, List.length_nil]
  have loK : ∀ n, (lay (.lst 2 (d.Breaks.map GBreak.enc) false) n).2 = [.row 2 (d.Breaks.map GBreak.enc) true] := fun n => by simp only [lay, GBreak.flat]
  have hX : AV.pls [.lst 1 (d.Book.map GNet.enc) false, .lst 1 (d.Schedule.map encI) false, .lst 5 (d.Net.Agents.map GAgent.enc) false, .lst 3 (d.Origins.map GOrigin.enc) false] = true := by simp only [AV.pls, AV.pl, pls_map GNet.plx, pls_map (enc := encI) (fun _ => rfl), pls_map GAgent.plx, pls_map GOrigin.plx, Bool.and_self]
  have hbX : AV.rowss [.lst 1 (d.Book.map GNet.enc) false, .lst 1 (d.Schedule.map encI) false, .lst 5 (d.Net.Agents.map GAgent.enc) false, .lst 3 (d.Origins.map GOrigin.enc) false] = AV.rows (.lst 1 (d.Book.map GNet.enc) false) + AV.rows (.lst 1 (d.Schedule.map encI) false) + AV.rows (.lst 5 (d.Net.Agents.map GAgent.enc) false) + AV.rows (.lst 3 (d.Origins.map GOrigin.enc) false) := by simp only [AV.rowss]; omega
  refine lst_all (k := 8) (by rfl) (by rfl) (by exact ⟨_, rfl⟩) (by decide) ?_
  simp only [go_sem, Nat.reduceEqDiff, reduceIte, List.length_cons, List.length_nil, Nat.reduceAdd, List.getElem?_cons_zero, List.getElem?_cons_succ, eq_self]
  have rK2 : AV.rows (.lst 2 ((d.Breaks ++ [b]).map GBreak.enc) false) = 1 := by have := GBreak.flat (d.Breaks ++ [b]) 0; have h2 := lays_len ((d.Breaks ++ [b]).map GBreak.enc) 0; rw [this] at h2; simp only [AV.rows, ← h2, List.length_nil]
  have loK2 : ∀ n, (lay (.lst 2 ((d.Breaks ++ [b]).map GBreak.enc) false) n).2 = [.row 2 ((d.Breaks ++ [b]).map GBreak.enc) true] := fun n => by simp only [lay, GBreak.flat]
  have key : ∀ Z, ((lay (.lst 1 (d.Book.map GNet.enc) false) (0)).2 ++ ((lay (.lst 1 (d.Schedule.map encI) false) (AV.rows (.lst 1 (d.Book.map GNet.enc) false))).2 ++ ((lay (.lst 5 (d.Net.Agents.map GAgent.enc) false) (AV.rows (.lst 1 (d.Book.map GNet.enc) false) + AV.rows (.lst 1 (d.Schedule.map encI) false))).2 ++ ((lay (.lst 3 (d.Origins.map GOrigin.enc) false) (AV.rows (.lst 1 (d.Book.map GNet.enc) false) + AV.rows (.lst 1 (d.Schedule.map encI) false) + AV.rows (.lst 5 (d.Net.Agents.map GAgent.enc) false))).2 ++ ((lay (.lst 2 (d.Breaks.map GBreak.enc) false) (AV.rows (.lst 1 (d.Book.map GNet.enc) false) + AV.rows (.lst 1 (d.Schedule.map encI) false) + AV.rows (.lst 5 (d.Net.Agents.map GAgent.enc) false) + AV.rows (.lst 3 (d.Origins.map GOrigin.enc) false))).2 ++ Z))))) = ((lays [.lst 1 (d.Book.map GNet.enc) false, .lst 1 (d.Schedule.map encI) false, .lst 5 (d.Net.Agents.map GAgent.enc) false, .lst 3 (d.Origins.map GOrigin.enc) false] 0).2) ++ .row 2 (d.Breaks.map GBreak.enc) true :: Z := by
    intro Z
    simp only [lays, lay_len, loK, List.append_assoc, List.append_nil, List.cons_append, List.nil_append, Nat.zero_add]
  have hlen : ((lays [.lst 1 (d.Book.map GNet.enc) false, .lst 1 (d.Schedule.map encI) false, .lst 5 (d.Net.Agents.map GAgent.enc) false, .lst 3 (d.Origins.map GOrigin.enc) false] 0).2).length = AV.rows (.lst 1 (d.Book.map GNet.enc) false) + AV.rows (.lst 1 (d.Schedule.map encI) false) + AV.rows (.lst 5 (d.Net.Agents.map GAgent.enc) false) + AV.rows (.lst 3 (d.Origins.map GOrigin.enc) false) := by simp only [lays_len, hbX]
  have hk : d.Breaks.length ≤ 1048576 := by unfold GDebugger.sz at hz; omega
  refine app_one (len := d.Breaks.length) (el := d.Breaks.map GBreak.enc) last_at ?_ (by simp) (by omega) ?_
  · simp only [List.append_assoc]
    rw [key]
    exact midO_at hlen
  simp only [go_sem, Nat.reduceEqDiff, reduceIte, eq_self]
  refine lst_all (k := 8) (by rfl) (by rfl) (by exact ⟨_, rfl⟩) (by decide) ?_
  simp only [go_sem, Nat.reduceEqDiff, reduceIte, eq_self]
  refine FinF.grow (c := 0) (w := 2) (pre := []) (X := [.lst 1 (d.Book.map GNet.enc) false, .lst 1 (d.Schedule.map encI) false, .lst 5 (d.Net.Agents.map GAgent.enc) false, .lst 3 (d.Origins.map GOrigin.enc) false]) (W := [.lst 3 (d.Points.map GCheckpoint.enc) false]) (el := (d.Breaks ++ [b]).map GBreak.enc) (x := .row 2 [b.enc] true) rfl hX (by simp only [AV.pls, AV.pl, pls_map GCheckpoint.plx, Bool.and_self]) (trees_map GBreak.isSh.tree _) ?_ ?_ ?_
  · simp only [List.append_assoc]
    rw [key, midO_set hlen]
    simp only [lays, hbX, rK, List.map_append, List.map_cons, List.map_nil, List.append_assoc, List.append_nil, List.cons_append, List.nil_append, Nat.zero_add, Nat.add_assoc]
  · show (lays [GDebugger.enc { d with Breaks := d.Breaks ++ [b] }, .int .i64 0] 0).2 = _
    have li : ∀ n, lay (.int .i64 0) n = (.int .i64 0, []) := fun _ => rfl
    simp only [lays, GDebugger.layE, li, lay_len, List.append_nil, Nat.zero_add, List.append_assoc, hbX, rK2, loK2, List.cons_append, List.nil_append]
  · have li : ∀ n, lay (.int .i64 0) n = (.int .i64 0, []) := fun _ => rfl
    have hbP : AV.rowss [.lst 3 (d.Points.map GCheckpoint.enc) false] = AV.rows (.lst 3 (d.Points.map GCheckpoint.enc) false) := rfl
    show VR2 _ (.tup _) (.tup (lays [GDebugger.enc { d with Breaks := d.Breaks ++ [b] }, .int .i64 0] 0).1)
    simp only [lays, GDebugger.layE, li, hbX, hbP, List.length_append, List.length_cons, List.length_nil, lay_len, rK, rK2]
    refine .tup rfl (VR2s.cons ?_ (VR2s.cons (.tree rfl) VR2s.nil)).2
    exact .agg rfl (VR2s.cons (.slice (emu_at (by omega))) (VR2s.cons (.slice (emu_at (by omega))) (VR2s.cons (.tree rfl) (VR2s.cons (.tree rfl) (VR2s.cons (.slice (emu_at (by omega))) (VR2s.cons (.slice (emu_at (by omega))) (VR2s.cons (.slice (emu_at (by omega))) (VR2s.cons (.slice (emu_at (by omega))) VR2s.nil)))))))).2
end Go.Ab
namespace Go.Ab
open Go
set_option maxRecDepth 10000
set_option maxHeartbeats 2000000
theorem layT {e : AV} {k : IntKind} {n : Int} {m : Nat} : lay (.tup [e, .int k n]) m = (.tup [(lay e m).1, .int k n], (lay e m).2) := by simp [lay, lays]
theorem layDp (x : GDebugger) (n : Nat) : (lay x.enc n).1.part 0 (some 8) = some (lay x.enc n).1 := lay_part (GDebugger.plx x) ⟨_, rfl⟩ rfl
theorem layDl (x : GDebugger) (n : Nat) : (lay x.enc n).1.cells.length = 8 := by rw [lay_cellsLen (GDebugger.plx x)]; rfl
theorem layDa (x : GDebugger) (n : Nat) : ∃ cs, (lay x.enc n).1 = .agg cs := ⟨_, congrArg Prod.fst (GDebugger.layE x n)⟩
theorem c12 {d : GDebugger} {b : GBreak} (hb : d.bd) : Pure Gm 12 [d.enc, b.enc] (.bool true) := by
  refine Pure.intro [] [] g12 (by kernel_rfl) rfl (by simp [AV.trees, GDebugger.tr, go_sem]) rfl ?_
  simp only [F12, vparams, go_sem, Nat.reduceEqDiff, reduceIte, Nat.reduceAdd, eq_self]
  refine lbox_ok rfl ?_; simp only [go_sem, Nat.reduceEqDiff, reduceIte, eq_self]
  refine lbox_ok rfl ?_; simp only [go_sem, Nat.reduceEqDiff, reduceIte, Bool.not_true, eq_self]
  refine call_pure (c104 d hb 1048576 (by omega)) ?_
  simp only [go_sem, Nat.reduceEqDiff, reduceIte, eq_self]
  refine cnd_split ?_ ?_ <;> intro hc <;> simp only [hc, go_sem, Nat.reduceEqDiff, reduceIte, Bool.not_true, eq_self]
  · exact fin_eq rfl rfl
  · have hz : d.sz ≤ 1048576 := by
      have := of_decide_eq_false hc
      rw [leftI_lt] at this; omega
    generalize hA : addI d b = A
    have k0 := n133 d b hz
    have k1 := n135 d b hz
    rw [hA] at k0 k1
    have kp := k0.pure (by simp [AV.cn, AV.cns, GDebugger.cnx]) (by simp [AV.tree, AV.trees, GDebugger.tr])
    refine call_pure (c106 d hz) ?_
    simp only [go_sem, Nat.reduceEqDiff, reduceIte, Bool.not_true, eq_self]
    refine call_pure (c134 b) ?_
    simp only [go_sem, Nat.reduceEqDiff, reduceIte, Bool.not_true, eq_self]
    refine call_pure kp ?_
    simp only [go_sem, Nat.reduceEqDiff, reduceIte, List.getElem?_cons_zero, List.getElem?_cons_succ, eq_self]
    refine lst_all (k := 8) (by rfl) (by rfl) (by exact ⟨_, rfl⟩) (by decide) ?_
    simp only [go_sem, Nat.reduceEqDiff, reduceIte, Bool.not_true, eq_self]
    refine call_fresh (n106 d hz) ?_
    simp only [go_sem, Nat.reduceEqDiff, reduceIte, List.length_nil, eq_self]
    refine lst_all (k := 8) (by rfl) (layDl _ _) (layDa _ _) (by decide) ?_
    simp only [go_sem, layDp, Nat.reduceEqDiff, reduceIte, Bool.not_true, eq_self]
    refine call_pure (c134 b) ?_
    simp only [go_sem, Nat.reduceEqDiff, reduceIte, Bool.not_true, eq_self]
    refine call_freshL (Cvs.cons (lay_at (pre := []) (post := []) (GDebugger.plx d) (GDebugger.cnx d) (by simp)) (Cvs.cons (.refl (by simp [go_sem])) Cvs.nil)) k1 ?_
    simp only [go_sem, layT, List.nil_append, lay_len, Nat.reduceEqDiff, reduceIte, List.getElem?_cons_zero, List.getElem?_cons_succ, eq_self]
    refine lst_all (k := 8) (by rfl) (layDl _ _) (layDa _ _) (by decide) ?_
    simp only [go_sem, layDp, Nat.reduceEqDiff, reduceIte, Bool.not_true, eq_self]
    have hA2 : A.1.sz ≤ 1048577 := by
      rw [← hA]
      unfold addI
      repeat' split
      · exact Nat.zero_le _
      · simp only [GDebugger.sz, List.length_append, List.length_cons, List.length_nil] at hz ⊢; omega
      · exact Nat.zero_le _
      · exact Nat.zero_le _
    have hL : (lay d.enc 0).2.length = d.enc.rows := lay_len _ _
    have cg : ∀ {h post : List AObj} {x : GDebugger}, x.enc.rows = d.enc.rows → h = (lay x.enc 0).2 ++ ((lay A.1.enc d.enc.rows).2 ++ post) → Cv h (lay A.1.enc d.enc.rows).1 A.1.enc := fun {h post x} hx hh => by
      have hl : (lay x.enc 0).2.length = d.enc.rows := (lay_len _ _).trans hx
      rw [← hl] at hh ⊢
      exact lay_at (GDebugger.plx A.1) (GDebugger.cnx A.1) hh
    refine call_lend (Cvs.cons (cg (post := []) (x := d) rfl (by simp)) (Cvs.cons (.refl (by simp [go_sem])) Cvs.nil)) (c108 A.1 (by omega)) rfl ?_
    simp only [go_sem, Nat.reduceEqDiff, reduceIte, Bool.not_true, decide_true, eq_self]
    simp only [layDp, go_sem, Nat.reduceEqDiff, reduceIte, Bool.not_true, eq_self]
    refine call_pure (c106 d hz) ?_
    simp only [go_sem, Nat.reduceEqDiff, reduceIte, Bool.not_true, eq_self]
    refine call_lend (Cvs.cons (lay_at (pre := []) (GDebugger.plx d) (GDebugger.cnx d) rfl) (Cvs.cons (.refl (by simp [go_sem])) Cvs.nil)) (c108 d (by omega)) rfl ?_
    simp only [go_sem, Nat.reduceEqDiff, reduceIte, Bool.not_true, eq_self]
    simp only [layDp, go_sem, Nat.reduceEqDiff, reduceIte, Bool.not_true, eq_self]
    have hct := d.ctVle
    refine call_markn (k136 d 1 (by omega) (by omega) (by omega)) (pre := []) (post := (lay A.1.enc d.enc.rows).2) rfl rfl rfl ?_
    simp only [go_sem, Nat.reduceEqDiff, reduceIte, List.length_nil, eq_self]
    have hneg : decide ((1 : Int) + ((d.ctV : Nat) : Int) < 0) = false := decide_eq_false (by omega)
    simp only [hneg, go_sem, layDp, Nat.reduceEqDiff, reduceIte, Bool.not_true, eq_self]
    refine call_lend (Cvs.cons (cg (post := []) (x := d.mkV 1) (GDebugger.rowsV d 1) (by simp)) (Cvs.cons (.refl (by simp [go_sem])) Cvs.nil)) (c108 A.1 (by omega)) rfl ?_
    simp only [go_sem, Nat.reduceEqDiff, reduceIte, Bool.not_true, decide_true, eq_self]
    simp only [layDp, go_sem, Nat.reduceEqDiff, reduceIte, Bool.not_true, eq_self]
    have hcA := A.1.ctVle
    have hlV : (lay (d.mkV 1).enc 0).2.length = d.enc.rows := (lay_len _ _).trans (GDebugger.rowsV d 1)
    refine call_markn (k136 A.1 1 (by omega) (by omega) (by omega)) (pre := (lay (d.mkV 1).enc 0).2) (post := []) hlV (by simp) rfl ?_
    simp only [go_sem, Nat.reduceEqDiff, reduceIte, eq_self]
    simp only [layDp, go_sem, Nat.reduceEqDiff, reduceIte, Bool.not_true, eq_self]
    have layV : ∀ n, (lay (A.1.mkV 1).enc n).1 = (lay A.1.enc n).1 := fun n => by
      simp [GDebugger.layE, GDebugger.mkV, mkL_length, AV.rows, rowss_mk GNet.mrk GNet.ct (enc := GNet.enc) GNet.rowsM, rowss_mk mkI ctI (enc := encI) (fun _ _ => rfl), rowss_mk GAgent.mrk GAgent.ct (enc := GAgent.enc) GAgent.rowsM, rowss_mk GOrigin.mrk GOrigin.ct (enc := GOrigin.enc) GOrigin.rowsM, rowss_mk GBreak.mrk GBreak.ct (enc := GBreak.enc) GBreak.rowsM]
    have cm : ∀ {h post : List AObj}, h = (lay (d.mkV 1).enc 0).2 ++ ((lay (A.1.mkV 1).enc d.enc.rows).2 ++ post) → Cv h (lay A.1.enc d.enc.rows).1 (A.1.mkV 1).enc := fun {h post} hh => by
      rw [← layV, ← hlV] at *
      exact lay_at (GDebugger.plx _) (GDebugger.cnx _) hh
    refine call_lend (Cvs.cons (cm (post := []) rfl) (Cvs.cons (.refl rfl) Cvs.nil)) (q137 A.1 1 (by omega) (by omega) (by omega)) rfl ?_
    simp only [go_sem, Nat.reduceEqDiff, reduceIte, eq_self]
    have hneg2 : decide ((1 : Int) + ((A.1.ctV : Nat) : Int) < 0) = false := decide_eq_false (by omega)
    simp only [hneg2, go_sem, Nat.reduceEqDiff, reduceIte, Bool.not_true, decide_true, eq_self]
    refine call_pure (c106 d hz) ?_
    simp only [go_sem, Nat.reduceEqDiff, reduceIte, Bool.not_true, eq_self]
    refine call_pure (c134 b) ?_
    simp only [go_sem, Nat.reduceEqDiff, reduceIte, Bool.not_true, eq_self]
    refine call_fresh k1 ?_
    simp only [go_sem, layT, List.append_nil, Nat.reduceEqDiff, reduceIte, List.getElem?_cons_zero, List.getElem?_cons_succ, eq_self]
    refine lst_all (k := 8) (by rfl) (layDl _ _) (layDa _ _) (by decide) ?_
    simp only [go_sem, layDp, Nat.reduceEqDiff, reduceIte, Bool.not_true, eq_self]
    refine call_lend (Cvs.cons (lay_at (pre := (lay (d.mkV 1).enc 0).2 ++ (lay (A.1.mkV 1).enc d.enc.rows).2) (post := []) (GDebugger.plx A.1) (GDebugger.cnx A.1) (by simp)) (Cvs.cons (.refl (by simp [go_sem])) Cvs.nil)) (c108 A.1 (by omega)) rfl ?_
    simp only [go_sem, Nat.reduceEqDiff, reduceIte, Bool.not_true, decide_true, eq_self]
    simp only [layDp, go_sem, Nat.reduceEqDiff, reduceIte, Bool.not_true, eq_self]
    refine call_lend (Cvs.cons (cm (List.append_assoc _ _ _)) (Cvs.cons (.refl rfl) Cvs.nil)) (q137 A.1 1 (by omega) (by omega) (by omega)) rfl ?_
    simp only [go_sem, Nat.reduceEqDiff, reduceIte, eq_self]
    simp only [hneg2, go_sem, Nat.reduceEqDiff, reduceIte, Bool.not_true, decide_true, eq_self]
    exact fin_eq rfl rfl
end Go.Ab
