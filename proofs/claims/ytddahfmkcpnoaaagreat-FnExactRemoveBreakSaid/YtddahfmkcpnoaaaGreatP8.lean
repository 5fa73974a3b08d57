/- Texts Dbg34 .. Dbg35: the abstract machine, its laws and contracts of functions: lemmas for the statement. No condition. -/
import Derived.Test.YtddahfmkcpnoaaaGreatP7
namespace Go.Ab
open Go
set_option maxRecDepth 10000
set_option maxHeartbeats 2000000
def remL (xs : List GBreak) (k : Nat) : List GBreak := xs.take k ++ xs.drop (k + 1)
def remI (d : GDebugger) (k : Int) : GDebugger × Int :=
  if dbgOk d then (if inI k 0 ((d.Breaks.length : Int) - 1) then ({ d with Breaks := remL d.Breaks k.toNat }, 0) else (zeroD, 2)) else (zeroD, 1)
theorem remL_len {xs : List GBreak} {k : Nat} (h : k < xs.length) : (remL xs k).length = xs.length - 1 := by simp [remL]; omega
theorem set_last {A : List AObj} {x y : AObj} {n : Nat} (h : A.length = n) : (A ++ [x]).set n y = A ++ [y] := by
  subst h; simp
theorem s437 {xs : List GBreak} {h : List AObj} {id k : Nat} {K : AV → List AObj → Prop} (ho : h[id]? = some (.row 2 (xs.map GBreak.enc) true)) (hz : xs.length ≤ 1048576) (hk : k < xs.length)
    (hK : K (.slice 2 h.length 0 (xs.length - 1) false) (h.set id .dead ++ [.row 2 ((remL xs k).map GBreak.enc) true])) : SCall Gm 437 [.slice 2 id 0 xs.length false, .int .i64 (k : Int), .int .i64 ((k : Int) + 1)] h K := by
  refine SCall.cut h.length (xs.length - 1) 2 ?_
  refine SCall.run [] [] g437 (by kernel_rfl) rfl ?_
  simp only [F437, vparams, go_sem, Nat.reduceEqDiff, reduceIte, Nat.reduceAdd, eq_self]
  have hid : id < h.length := (List.getElem?_eq_some_iff.1 ho).1
  refine slm_ok ho (by simp; omega) (c := xs.length) (b := k + 1) (a := k) (by simp [bnd, go_sem]) (by simp [bnd, go_sem]; omega) (by simp [bnd, go_sem]; omega) ?_
  simp only [go_sem, Nat.reduceEqDiff, reduceIte, eq_self]
  have hne : decide ((k : Int) = (k : Int) + 1) = false := decide_eq_false (by omega)
  simp only [hne, go_sem, Nat.reduceEqDiff, reduceIte, eq_self]
  refine put_v (v := .slice 2 id 0 k false) (by simp [val, bnd, go_sem, show k ≤ xs.length by omega]) ?_
  simp only [go_sem, Nat.reduceEqDiff, reduceIte, eq_self]
  refine put_v (v := .slice 2 id (k + 1) (xs.length - (k + 1)) false) (by simp [val, bnd, go_sem, show (0 : Int) ≤ (k : Int) + 1 ∧ (k : Int) + 1 ≤ (xs.length : Int) by omega]) ?_
  simp only [go_sem, Nat.reduceEqDiff, reduceIte, eq_self]
  refine apx_ok (el := xs.map GBreak.enc) (ys := (xs.map GBreak.enc).drop (k + 1)) ?_ ho (by simp; omega) (by simp; omega) ?_
  · have := Els.part (h := h) (w := 2) (id := id) (off := k + 1) (n := xs.length - (k + 1)) (c := false) ho (by simp; omega)
    rwa [List.take_of_length_le (by simp)] at this
  simp only [go_sem, Nat.reduceEqDiff, reduceIte, eq_self]
  have e1 : k + (List.drop (k + 1) (xs.map GBreak.enc)).length = xs.length - 1 := by simp; omega
  simp only [e1]
  generalize hrow : (((xs.map GBreak.enc).drop 0).take k) ++ (List.drop (k + 1) (xs.map GBreak.enc) ++ List.drop (0 + k + (List.drop (k + 1) (xs.map GBreak.enc)).length) (xs.map GBreak.enc)) = row
  have hl : row.length = xs.length := by rw [← hrow]; simp; omega
  have htk : row.take (xs.length - 1) = (remL xs k).map GBreak.enc := by
    rw [← hrow, ← List.append_assoc, List.take_append_of_le_length (by simp; omega), List.take_of_length_le (by simp; omega)]
    simp [remL]
  have hA : (h.set id .dead).length = h.length := by simp
  have hat : (h.set id .dead ++ [AObj.row 2 row true])[h.length]? = some (AObj.row 2 row true) := by
    rw [List.getElem?_append_right (by simp)]; simp
  refine slx_ok hat (by omega) (b := xs.length) (a := xs.length - 1) (by simp only [bnd, go_sem, Nat.reduceEqDiff, reduceIte, eq_self, hl]; simp) (by simp only [bnd, go_sem, Nat.reduceEqDiff, reduceIte, eq_self]; simp) ?_
  simp only [go_sem, Nat.reduceEqDiff, reduceIte, eq_self]
  refine clr_ok hat (by omega) (by omega) ?_
  simp only [go_sem, Nat.reduceEqDiff, reduceIte, eq_self]
  refine ⟨_, by rw [set_last hA, List.getElem?_append_right (by omega), hA, Nat.sub_self, List.getElem?_cons_zero], ?_⟩
  rw [set_last hA, set_last hA]
  have e2 : ∀ r : List AV, List.take (xs.length - 1) (List.take (0 + (xs.length - 1)) row ++ r) = (remL xs k).map GBreak.enc := by
    intro r
    rw [Nat.zero_add, List.take_append_of_le_length (by simp; omega), List.take_take, Nat.min_self, htk]
  rw [e2]
  exact hK
theorem n138 (d : GDebugger) (k : Int) (hz : d.sz ≤ 1048576) : Fresh Gm 138 [d.enc, .int .i64 k] (.tup [(remI d k).1.enc, .int .i64 (remI d k).2]) := by
  refine Fresh.intro [2] [] g138 (by kernel_rfl) rfl (by simp [AV.trees, AV.tree, go_sem]) (by simp [AV.pl, AV.pls, GDebugger.plx]) ?_
  simp only [F138, vparams, go_sem, Nat.reduceEqDiff, reduceIte, Nat.reduceAdd, eq_self]
  have hk : d.Breaks.length ≤ 1048576 := by unfold GDebugger.sz at hz; omega
  refine hbox_ok rfl ?_
  simp only [go_sem, Nat.reduceEqDiff, reduceIte, Bool.not_true, List.length_nil, List.getElem?_cons_zero, eq_self, List.nil_append, List.set_cons_zero]
  refine call_pure (c367 hz) ?_
  simp only [go_sem, Nat.reduceEqDiff, reduceIte, eq_self]
  refine cnd_split ?_ ?_ <;> intro hc <;> simp only [hc, go_sem, Nat.reduceEqDiff, reduceIte, Bool.not_true, Nat.reduceAdd, eq_self, List.length_map]
  · rw [show remI d k = (zeroD, 1) by simp_all [remI]]
    refine lst_all (k := 8) (by rfl) (by rfl) (by exact ⟨_, rfl⟩) (by decide) ?_
    simp only [go_sem, Nat.reduceEqDiff, reduceIte, eq_self]
    exact zeroD_fin
  rw [wrap_small (by omega) (by omega)]
  refine call_pure c340 ?_
  simp only [go_sem, Nat.reduceEqDiff, reduceIte, eq_self]
  refine cnd_split ?_ ?_ <;> intro hc <;> simp only [hc, go_sem, Nat.reduceEqDiff, reduceIte, Bool.not_true, eq_self]
  · rw [show remI d k = (zeroD, 2) by simp_all [remI]]
    refine lst_all (k := 8) (by rfl) (by rfl) (by exact ⟨_, rfl⟩) (by decide) ?_
    simp only [go_sem, Nat.reduceEqDiff, reduceIte, eq_self]
    exact zeroD_fin
  have hk0 : 0 ≤ k ∧ k ≤ (d.Breaks.length : Int) - 1 := by simpa [inI] using hc
  obtain ⟨n, rfl⟩ := Int.eq_ofNat_of_zero_le hk0.1
  have hk3 : n < d.Breaks.length := by omega
  rw [show remI d (n : Int) = ({ d with Breaks := remL d.Breaks n }, 0) by simp_all [remI]]
  refine call_fresh (n427 d hz) ?_
  simp only [go_sem, GDebugger.layE, Nat.reduceEqDiff, reduceIte, List.length_cons, List.length_nil, Nat.reduceAdd, eq_self]
  have hB : 0 < AV.rows (.lst 1 (d.Book.map GNet.enc) false) := by simp only [AV.rows]; omega
  have hS : 0 < AV.rows (.lst 1 (d.Schedule.map encI) false) := by simp only [AV.rows]; omega
  have hN : 0 < AV.rows (.lst 5 (d.Net.Agents.map GAgent.enc) false) := by simp only [AV.rows]; omega
  have hO : 0 < AV.rows (.lst 3 (d.Origins.map GOrigin.enc) false) := by simp only [AV.rows]; omega
  have hP : 0 < AV.rows (.lst 3 (d.Points.map GCheckpoint.enc) false) := by simp only [AV.rows]; omega
  have rK : AV.rows (.lst 2 (d.Breaks.map GBreak.enc) false) = 1 := by have := GBreak.flat d.Breaks 0; have h2 := lays_len (d.Breaks.map GBreak.enc) 0; rw [this] at h2; simp only [AV.rows, ← h2, List.length_nil]
  have loK : ∀ n, (lay (.lst 2 (d.Breaks.map GBreak.enc) false) n).2 = [.row 2 (d.Breaks.map GBreak.enc) true] := fun n => by simp only [lay, GBreak.flat]
  have hX : AV.pls [.lst 1 (d.Book.map GNet.enc) false, .lst 1 (d.Schedule.map encI) false, .lst 5 (d.Net.Agents.map GAgent.enc) false, .lst 3 (d.Origins.map GOrigin.enc) false] = true := by simp only [AV.pls, AV.pl, pls_map GNet.plx, pls_map (enc := encI) (fun _ => rfl), pls_map GAgent.plx, pls_map GOrigin.plx, Bool.and_self]
  have hbX : AV.rowss [.lst 1 (d.Book.map GNet.enc) false, .lst 1 (d.Schedule.map encI) false, .lst 5 (d.Net.Agents.map GAgent.enc) false, .lst 3 (d.Origins.map GOrigin.enc) false] = AV.rows (.lst 1 (d.Book.map GNet.enc) false) + AV.rows (.lst 1 (d.Schedule.map encI) false) + AV.rows (.lst 5 (d.Net.Agents.map GAgent.enc) false) + AV.rows (.lst 3 (d.Origins.map GOrigin.enc) false) := by simp only [AV.rowss]; omega
  refine lst_all (k := 8) (by rfl) (by rfl) (by exact ⟨_, rfl⟩) (by decide) ?_
  simp only [go_sem, Nat.reduceEqDiff, reduceIte, List.getElem?_cons_zero, List.getElem?_cons_succ, eq_self]
  have rK2 : AV.rows (.lst 2 ((remL d.Breaks n).map GBreak.enc) false) = 1 := by have := GBreak.flat (remL d.Breaks n) 0; have h2 := lays_len ((remL d.Breaks n).map GBreak.enc) 0; rw [this] at h2; simp only [AV.rows, ← h2, List.length_nil]
  have loK2 : ∀ q, (lay (.lst 2 ((remL d.Breaks n).map GBreak.enc) false) q).2 = [.row 2 ((remL d.Breaks n).map GBreak.enc) true] := fun q => by simp only [lay, GBreak.flat]
  have key : ∀ Z, [AObj.dead] ++ ((lay (.lst 1 (d.Book.map GNet.enc) false) (1)).2 ++ ((lay (.lst 1 (d.Schedule.map encI) false) (1 + AV.rows (.lst 1 (d.Book.map GNet.enc) false))).2 ++ ((lay (.lst 5 (d.Net.Agents.map GAgent.enc) false) (1 + AV.rows (.lst 1 (d.Book.map GNet.enc) false) + AV.rows (.lst 1 (d.Schedule.map encI) false))).2 ++ ((lay (.lst 3 (d.Origins.map GOrigin.enc) false) (1 + AV.rows (.lst 1 (d.Book.map GNet.enc) false) + AV.rows (.lst 1 (d.Schedule.map encI) false) + AV.rows (.lst 5 (d.Net.Agents.map GAgent.enc) false))).2 ++ ((lay (.lst 2 (d.Breaks.map GBreak.enc) false) (1 + AV.rows (.lst 1 (d.Book.map GNet.enc) false) + AV.rows (.lst 1 (d.Schedule.map encI) false) + AV.rows (.lst 5 (d.Net.Agents.map GAgent.enc) false) + AV.rows (.lst 3 (d.Origins.map GOrigin.enc) false))).2 ++ Z))))) = ([AObj.dead] ++ (lays [.lst 1 (d.Book.map GNet.enc) false, .lst 1 (d.Schedule.map encI) false, .lst 5 (d.Net.Agents.map GAgent.enc) false, .lst 3 (d.Origins.map GOrigin.enc) false] 1).2) ++ .row 2 (d.Breaks.map GBreak.enc) true :: Z := by
    intro Z
    simp only [lays, lay_len, loK, List.append_assoc, List.append_nil, List.cons_append, List.nil_append]
  have hlen : ([AObj.dead] ++ (lays [.lst 1 (d.Book.map GNet.enc) false, .lst 1 (d.Schedule.map encI) false, .lst 5 (d.Net.Agents.map GAgent.enc) false, .lst 3 (d.Origins.map GOrigin.enc) false] 1).2).length = 1 + AV.rows (.lst 1 (d.Book.map GNet.enc) false) + AV.rows (.lst 1 (d.Schedule.map encI) false) + AV.rows (.lst 5 (d.Net.Agents.map GAgent.enc) false) + AV.rows (.lst 3 (d.Origins.map GOrigin.enc) false) := by simp only [List.length_append, List.length_cons, List.length_nil, lays_len, hbX]; omega
  try simp only [List.append_assoc]
  rw [key]
  clear key
  generalize hP : [AObj.dead] ++ (lays [.lst 1 (d.Book.map GNet.enc) false, .lst 1 (d.Schedule.map encI) false, .lst 5 (d.Net.Agents.map GAgent.enc) false, .lst 3 (d.Origins.map GOrigin.enc) false] 1).2 = P at hlen ⊢
  generalize hZ : (lay (.lst 3 (d.Points.map GCheckpoint.enc) false) _).2 = Z
  refine put_v (v := .slice 2 (1 + AV.rows (.lst 1 (d.Book.map GNet.enc) false) + AV.rows (.lst 1 (d.Schedule.map encI) false) + AV.rows (.lst 5 (d.Net.Agents.map GAgent.enc) false) + AV.rows (.lst 3 (d.Origins.map GOrigin.enc) false)) 0 n false) (by simp [val, bnd, go_sem, show n ≤ d.Breaks.length by omega]) ?_
  simp only [go_sem, Nat.reduceEqDiff, reduceIte, List.getElem?_cons_zero, List.getElem?_cons_succ, eq_self]
  rw [wrap_small (by omega) (by omega)]
  refine put_v (v := .slice 2 (1 + AV.rows (.lst 1 (d.Book.map GNet.enc) false) + AV.rows (.lst 1 (d.Schedule.map encI) false) + AV.rows (.lst 5 (d.Net.Agents.map GAgent.enc) false) + AV.rows (.lst 3 (d.Origins.map GOrigin.enc) false)) (n + 1) (d.Breaks.length - (n + 1)) false) (by simp [val, bnd, go_sem, show (0 : Int) ≤ (n : Int) + 1 ∧ (n : Int) + 1 ≤ (d.Breaks.length : Int) by omega]) ?_
  simp only [go_sem, Nat.reduceEqDiff, reduceIte, eq_self]
  refine app_lit (Els.part (midO_at hlen) (by simp; omega)) (by simp; omega) ?_
  simp only [go_sem, Nat.reduceEqDiff, reduceIte, eq_self]
  have e1 : (((d.Breaks.map GBreak.enc).drop 0).take n).length = n := by simp; omega
  refine app_row (el := ((d.Breaks.map GBreak.enc).drop 0).take n) (Els.part (by rw [List.getElem?_append_left (by simp; omega)]; exact midO_at hlen) (by simp; omega)) last_at rfl (by simp; omega) ?_
  simp only [go_sem, Nat.reduceEqDiff, reduceIte, eq_self]
  refine lst_all (k := 8) (by rfl) (by rfl) (by exact ⟨_, rfl⟩) (by decide) ?_
  simp only [go_sem, Nat.reduceEqDiff, reduceIte, eq_self]
  have lZ : Z.length = AV.rows (.lst 3 (d.Points.map GCheckpoint.enc) false) := by rw [← hZ]; exact lay_len _ _
  have e2 : (((d.Breaks.map GBreak.enc).drop 0).take n) ++ List.take (d.Breaks.length - (n + 1)) (List.drop (n + 1) (d.Breaks.map GBreak.enc)) = (remL d.Breaks n).map GBreak.enc := by
    rw [List.take_of_length_le (i := d.Breaks.length - (n + 1)) (by simp)]
    simp [remL]
  have e3 : (((d.Breaks.map GBreak.enc).drop 0).take n).length + (List.take (d.Breaks.length - (n + 1)) (List.drop (n + 1) (d.Breaks.map GBreak.enc))).length = (remL d.Breaks n).length := by
    rw [← List.length_append, e2, List.length_map]
  rw [e2, e3, set_last rfl]
  refine FinF.swapIn (c := 1) (w := 2) (q := 1) (pre := [.dead]) (post := [.dead, .row 2 ((remL d.Breaks n).map GBreak.enc) true]) (X := [.lst 1 (d.Book.map GNet.enc) false, .lst 1 (d.Schedule.map encI) false, .lst 5 (d.Net.Agents.map GAgent.enc) false, .lst 3 (d.Origins.map GOrigin.enc) false]) (W := [.lst 3 (d.Points.map GCheckpoint.enc) false]) (el := (remL d.Breaks n).map GBreak.enc) (y := .row 2 (d.Breaks.map GBreak.enc) true) rfl hX (by simp only [AV.pls, AV.pl, pls_map GCheckpoint.plx, Bool.and_self]) (trees_map GBreak.isSh.tree _) ?_ rfl ?_ ?_
  · subst hP hZ
    simp only [lays, hbX, rK, List.append_assoc, List.append_nil, List.cons_append, List.nil_append, Nat.add_assoc]
  · show (lays [GDebugger.enc { d with Breaks := remL d.Breaks n }, .int .i64 0] 0).2 = _
    have li : ∀ n, lay (.int .i64 0) n = (.int .i64 0, []) := fun _ => rfl
    simp only [lays, GDebugger.layE, li, lay_len, List.append_nil, Nat.zero_add, List.append_assoc, hbX, rK2, loK2, List.cons_append, List.nil_append]
  · have li : ∀ n, lay (.int .i64 0) n = (.int .i64 0, []) := fun _ => rfl
    have hbP : AV.rowss [.lst 3 (d.Points.map GCheckpoint.enc) false] = AV.rows (.lst 3 (d.Points.map GCheckpoint.enc) false) := rfl
    show VR2 _ (.tup _) (.tup (lays [GDebugger.enc { d with Breaks := remL d.Breaks n }, .int .i64 0] 0).1)
    simp only [lays, GDebugger.layE, li, hbX, hbP, hlen, lZ, List.length_append, List.length_cons, List.length_nil, remL_len hk3, lay_len, rK, rK2]
    refine .tup rfl (VR2s.cons ?_ (VR2s.cons (.tree rfl) VR2s.nil)).2
    exact .agg rfl (VR2s.cons (.slice (emq_at (by omega))) (VR2s.cons (.slice (emq_at (by omega))) (VR2s.cons (.tree rfl) (VR2s.cons (.tree rfl) (VR2s.cons (.slice (emq_at (by omega))) (VR2s.cons (.slice (emq_at (by omega))) (VR2s.cons (.slice (emq_at (by omega))) (VR2s.cons (.slice (emq_at (by omega))) VR2s.nil)))))))).2
theorem n139 (d : GDebugger) (k : Int) (hz : d.sz ≤ 1048576) : Fresh Gm 139 [d.enc, .int .i64 k] (.tup [(remI d k).1.enc, .int .i64 (remI d k).2]) := by
  refine Fresh.intro [] [] g139 (by kernel_rfl) rfl (by simp [AV.trees, AV.tree, go_sem]) (by simp [AV.pl, AV.pls, GDebugger.plx]) ?_
  simp only [F139, vparams, go_sem, Nat.reduceEqDiff, reduceIte, Nat.reduceAdd, eq_self]
  have hk : d.Breaks.length ≤ 1048576 := by unfold GDebugger.sz at hz; omega
  refine lbox_ok rfl ?_
  simp only [go_sem, Nat.reduceEqDiff, reduceIte, Bool.not_true, eq_self]
  refine call_pure (c373 hz) ?_
  simp only [go_sem, Nat.reduceEqDiff, reduceIte, eq_self]
  refine cnd_split ?_ ?_ <;> intro hc <;> simp only [hc, go_sem, Nat.reduceEqDiff, reduceIte, Bool.not_true, List.length_cons, List.length_nil, Nat.reduceAdd, eq_self, List.length_map]
  · rw [show remI d k = (zeroD, 1) by simp_all [remI]]
    refine lst_all (k := 8) (by rfl) (by rfl) (by exact ⟨_, rfl⟩) (by decide) ?_
    simp only [go_sem, Nat.reduceEqDiff, reduceIte, eq_self]
    exact zeroD_fin
  rw [wrap_small (by omega) (by omega)]
  refine call_lend (vs' := [.int .i64 ((d.Breaks.length : Int) - 1), .lst 1 ([k].map encI) false]) (Cvs.cons (.refl rfl) (Cvs.cons (Cv.row rfl rfl rfl (by decide)) Cvs.nil)) (c436 (by simp)) rfl ?_
  simp only [go_sem, Nat.reduceEqDiff, reduceIte, eq_self]
  refine cnd_split ?_ ?_ <;> intro hc <;> simp only [hc, go_sem, Nat.reduceEqDiff, reduceIte, Bool.not_true, eq_self]
  · rw [show remI d k = (zeroD, 2) by simp_all [remI]]
    refine lst_all (k := 8) (by rfl) (by rfl) (by exact ⟨_, rfl⟩) (by decide) ?_
    simp only [go_sem, Nat.reduceEqDiff, reduceIte, eq_self]
    exact zeroD_fin
  have hk0 : 0 ≤ k ∧ k ≤ (d.Breaks.length : Int) - 1 := by simpa [inI] using hc
  obtain ⟨n, rfl⟩ := Int.eq_ofNat_of_zero_le hk0.1
  have hk3 : n < d.Breaks.length := by omega
  rw [show remI d (n : Int) = ({ d with Breaks := remL d.Breaks n }, 0) by simp_all [remI]]
  refine call_fresh (n429 d hz) ?_
  simp only [go_sem, GDebugger.layE, List.nil_append, Nat.reduceEqDiff, reduceIte, List.length_cons, List.length_nil, Nat.reduceAdd, eq_self]
  have hB : 0 < AV.rows (.lst 1 (d.Book.map GNet.enc) false) := by simp only [AV.rows]; omega
  have hS : 0 < AV.rows (.lst 1 (d.Schedule.map encI) false) := by simp only [AV.rows]; omega
  have hN : 0 < AV.rows (.lst 5 (d.Net.Agents.map GAgent.enc) false) := by simp only [AV.rows]; omega
  have hO : 0 < AV.rows (.lst 3 (d.Origins.map GOrigin.enc) false) := by simp only [AV.rows]; omega
  have hP : 0 < AV.rows (.lst 3 (d.Points.map GCheckpoint.enc) false) := by simp only [AV.rows]; omega
  have rK : AV.rows (.lst 2 (d.Breaks.map GBreak.enc) false) = 1 := by have := GBreak.flat d.Breaks 0; have h2 := lays_len (d.Breaks.map GBreak.enc) 0; rw [this] at h2; simp only [AV.rows, ← h2, List.length_nil]
  have loK : ∀ n, (lay (.lst 2 (d.Breaks.map GBreak.enc) false) n).2 = [.row 2 (d.Breaks.map GBreak.enc) true] := fun n => by simp only [lay, GBreak.flat]
  have hX : AV.pls [.lst 1 (d.Book.map GNet.enc) false, .lst 1 (d.Schedule.map encI) false, .lst 5 (d.Net.Agents.map GAgent.enc) false, .lst 3 (d.Origins.map GOrigin.enc) false] = true := by simp only [AV.pls, AV.pl, pls_map GNet.plx, pls_map (enc := encI) (fun _ => rfl), pls_map GAgent.plx, pls_map GOrigin.plx, Bool.and_self]
  have hbX : AV.rowss [.lst 1 (d.Book.map GNet.enc) false, .lst 1 (d.Schedule.map encI) false, .lst 5 (d.Net.Agents.map GAgent.enc) false, .lst 3 (d.Origins.map GOrigin.enc) false] = AV.rows (.lst 1 (d.Book.map GNet.enc) false) + AV.rows (.lst 1 (d.Schedule.map encI) false) + AV.rows (.lst 5 (d.Net.Agents.map GAgent.enc) false) + AV.rows (.lst 3 (d.Origins.map GOrigin.enc) false) := by simp only [AV.rowss]; omega
  refine lst_all (k := 8) (by rfl) (by rfl) (by exact ⟨_, rfl⟩) (by decide) ?_
  simp only [go_sem, Nat.reduceEqDiff, reduceIte, Bool.not_true, List.getElem?_cons_zero, List.getElem?_cons_succ, eq_self]
  have rK2 : AV.rows (.lst 2 ((remL d.Breaks n).map GBreak.enc) false) = 1 := by have := GBreak.flat (remL d.Breaks n) 0; have h2 := lays_len ((remL d.Breaks n).map GBreak.enc) 0; rw [this] at h2; simp only [AV.rows, ← h2, List.length_nil]
  have loK2 : ∀ q, (lay (.lst 2 ((remL d.Breaks n).map GBreak.enc) false) q).2 = [.row 2 ((remL d.Breaks n).map GBreak.enc) true] := fun q => by simp only [lay, GBreak.flat]
  have key : ∀ Z, [AObj.row 1 [.int .i64 (n : Int)] true] ++ ((lay (.lst 1 (d.Book.map GNet.enc) false) (1)).2 ++ ((lay (.lst 1 (d.Schedule.map encI) false) (1 + AV.rows (.lst 1 (d.Book.map GNet.enc) false))).2 ++ ((lay (.lst 5 (d.Net.Agents.map GAgent.enc) false) (1 + AV.rows (.lst 1 (d.Book.map GNet.enc) false) + AV.rows (.lst 1 (d.Schedule.map encI) false))).2 ++ ((lay (.lst 3 (d.Origins.map GOrigin.enc) false) (1 + AV.rows (.lst 1 (d.Book.map GNet.enc) false) + AV.rows (.lst 1 (d.Schedule.map encI) false) + AV.rows (.lst 5 (d.Net.Agents.map GAgent.enc) false))).2 ++ ((lay (.lst 2 (d.Breaks.map GBreak.enc) false) (1 + AV.rows (.lst 1 (d.Book.map GNet.enc) false) + AV.rows (.lst 1 (d.Schedule.map encI) false) + AV.rows (.lst 5 (d.Net.Agents.map GAgent.enc) false) + AV.rows (.lst 3 (d.Origins.map GOrigin.enc) false))).2 ++ Z))))) = ([AObj.row 1 [.int .i64 (n : Int)] true] ++ (lays [.lst 1 (d.Book.map GNet.enc) false, .lst 1 (d.Schedule.map encI) false, .lst 5 (d.Net.Agents.map GAgent.enc) false, .lst 3 (d.Origins.map GOrigin.enc) false] 1).2) ++ .row 2 (d.Breaks.map GBreak.enc) true :: Z := by
    intro Z
    simp only [lays, lay_len, loK, List.append_assoc, List.append_nil, List.cons_append, List.nil_append]
  have hlen : ([AObj.row 1 [.int .i64 (n : Int)] true] ++ (lays [.lst 1 (d.Book.map GNet.enc) false, .lst 1 (d.Schedule.map encI) false, .lst 5 (d.Net.Agents.map GAgent.enc) false, .lst 3 (d.Origins.map GOrigin.enc) false] 1).2).length = 1 + AV.rows (.lst 1 (d.Book.map GNet.enc) false) + AV.rows (.lst 1 (d.Schedule.map encI) false) + AV.rows (.lst 5 (d.Net.Agents.map GAgent.enc) false) + AV.rows (.lst 3 (d.Origins.map GOrigin.enc) false) := by simp only [List.length_append, List.length_cons, List.length_nil, lays_len, hbX]; omega
  try simp only [List.append_assoc]
  rw [key]
  clear key
  generalize hP : [AObj.row 1 [.int .i64 (n : Int)] true] ++ (lays [.lst 1 (d.Book.map GNet.enc) false, .lst 1 (d.Schedule.map encI) false, .lst 5 (d.Net.Agents.map GAgent.enc) false, .lst 3 (d.Origins.map GOrigin.enc) false] 1).2 = P at hlen ⊢
  generalize hZ : (lay (.lst 3 (d.Points.map GCheckpoint.enc) false) _).2 = Z
  rw [wrap_small (by omega) (by omega)]
  refine call_here (s437 (xs := d.Breaks) (id := (1 + AV.rows (.lst 1 (d.Book.map GNet.enc) false) + AV.rows (.lst 1 (d.Schedule.map encI) false) + AV.rows (.lst 5 (d.Net.Agents.map GAgent.enc) false) + AV.rows (.lst 3 (d.Origins.map GOrigin.enc) false))) (k := n) (midO_at hlen) hk hk3 ?_)
  simp only [go_sem, Nat.reduceEqDiff, reduceIte, eq_self]
  refine lst_all (k := 8) (by rfl) (by rfl) (by exact ⟨_, rfl⟩) (by decide) ?_
  simp only [go_sem, Nat.reduceEqDiff, reduceIte, eq_self]
  have lZ : Z.length = AV.rows (.lst 3 (d.Points.map GCheckpoint.enc) false) := by rw [← hZ]; exact lay_len _ _
  rw [midO_set hlen]
  refine FinF.swapIn (c := 1) (w := 2) (q := 0) (pre := [.row 1 [.int .i64 (n : Int)] true]) (post := [.row 2 ((remL d.Breaks n).map GBreak.enc) true]) (X := [.lst 1 (d.Book.map GNet.enc) false, .lst 1 (d.Schedule.map encI) false, .lst 5 (d.Net.Agents.map GAgent.enc) false, .lst 3 (d.Origins.map GOrigin.enc) false]) (W := [.lst 3 (d.Points.map GCheckpoint.enc) false]) (el := (remL d.Breaks n).map GBreak.enc) (y := .dead) rfl hX (by simp only [AV.pls, AV.pl, pls_map GCheckpoint.plx, Bool.and_self]) (trees_map GBreak.isSh.tree _) ?_ rfl ?_ ?_
  · subst hP hZ
    simp only [lays, hbX, rK, List.append_assoc, List.append_nil, List.cons_append, List.nil_append, Nat.add_assoc]
  · show (lays [GDebugger.enc { d with Breaks := remL d.Breaks n }, .int .i64 0] 0).2 = _
    have li : ∀ n, lay (.int .i64 0) n = (.int .i64 0, []) := fun _ => rfl
    simp only [lays, GDebugger.layE, li, lay_len, List.append_nil, Nat.zero_add, List.append_assoc, hbX, rK2, loK2, List.cons_append, List.nil_append]
  · have li : ∀ n, lay (.int .i64 0) n = (.int .i64 0, []) := fun _ => rfl
    have hbP : AV.rowss [.lst 3 (d.Points.map GCheckpoint.enc) false] = AV.rows (.lst 3 (d.Points.map GCheckpoint.enc) false) := rfl
    show VR2 _ (.tup _) (.tup (lays [GDebugger.enc { d with Breaks := remL d.Breaks n }, .int .i64 0] 0).1)
    simp only [lays, GDebugger.layE, li, hbX, hbP, hlen, lZ, List.length_append, List.length_cons, List.length_nil, remL_len hk3, lay_len, rK, rK2]
    refine .tup rfl (VR2s.cons ?_ (VR2s.cons (.tree rfl) VR2s.nil)).2
    exact .agg rfl (VR2s.cons (.slice (emq_at (by omega))) (VR2s.cons (.slice (emq_at (by omega))) (VR2s.cons (.tree rfl) (VR2s.cons (.tree rfl) (VR2s.cons (.slice (emq_at (by omega))) (VR2s.cons (.slice (emq_at (by omega))) (VR2s.cons (.slice (emq_at (by omega))) (VR2s.cons (.slice (emq_at (by omega))) VR2s.nil)))))))).2
end Go.Ab
namespace Go.Ab
open Go
set_option maxRecDepth 10000
set_option maxHeartbeats 2000000
theorem c13 {d : GDebugger} {k : Int} (hb : d.bd) : Pure Gm 13 [d.enc, .int .i64 k] (.bool true) := by
  refine Pure.intro [] [] g13 (by kernel_rfl) rfl (by simp [AV.trees, AV.tree, GDebugger.tr, go_sem]) rfl ?_
  simp only [F13, vparams, go_sem, Nat.reduceEqDiff, reduceIte, Nat.reduceAdd, eq_self]
  refine lbox_ok rfl ?_; simp only [go_sem, Nat.reduceEqDiff, reduceIte, Bool.not_true, eq_self]
  refine call_pure (c104 d hb 1048576 (by omega)) ?_
  simp only [go_sem, Nat.reduceEqDiff, reduceIte, eq_self]
  refine cnd_split ?_ ?_ <;> intro hc <;> simp only [hc, go_sem, Nat.reduceEqDiff, reduceIte, Bool.not_true, eq_self]
  · exact fin_eq rfl rfl
  · have hz : d.sz ≤ 1048576 := by
      have := of_decide_eq_false hc
      rw [leftI_lt] at this; omega
    generalize hA : remI d k = A
    have k0 := n138 d k hz
    have k1 := n139 d k hz
    rw [hA] at k0 k1
    have kp := k0.pure (by simp [AV.cn, AV.cns, GDebugger.cnx]) (by simp [AV.tree, AV.trees, GDebugger.tr])
    refine call_pure (c106 d hz) ?_
    simp only [go_sem, Nat.reduceEqDiff, reduceIte, Bool.not_true, eq_self]
    refine call_pure kp ?_
    simp only [go_sem, Nat.reduceEqDiff, reduceIte, List.getElem?_cons_zero, List.getElem?_cons_succ, eq_self]
    refine lst_all (k := 8) (by rfl) (by rfl) (by exact ⟨_, rfl⟩) (by decide) ?_
    simp only [go_sem, Nat.reduceEqDiff, reduceIte, Bool.not_true, eq_self]
    refine call_fresh (n106 d hz) ?_
    simp only [go_sem, Nat.reduceEqDiff, reduceIte, List.length_nil, eq_self]
    refine lst_all (k := 8) (by rfl) (layDl _ _) (layDa _ _) (by decide) ?_
    simp only [go_sem, layDp, Nat.reduceEqDiff, reduceIte, Bool.not_true, eq_self]
    refine call_freshL (Cvs.cons (lay_at (pre := []) (post := []) (GDebugger.plx d) (GDebugger.cnx d) (by simp)) (Cvs.cons (.refl rfl) Cvs.nil)) k1 ?_
    simp only [go_sem, layT, List.nil_append, lay_len, Nat.reduceEqDiff, reduceIte, List.getElem?_cons_zero, List.getElem?_cons_succ, eq_self]
    refine lst_all (k := 8) (by rfl) (layDl _ _) (layDa _ _) (by decide) ?_
    simp only [go_sem, layDp, Nat.reduceEqDiff, reduceIte, Bool.not_true, eq_self]
    have hA2 : A.1.sz ≤ 1048577 := by
      rw [← hA]
      unfold remI
      repeat' split
      · rename_i hk
        have hk0 : 0 ≤ k ∧ k ≤ (d.Breaks.length : Int) - 1 := by simpa [inI] using hk
        have hk3 : k.toNat < d.Breaks.length := by omega
        have := remL_len hk3
        simp only [GDebugger.sz, this] at hz ⊢; omega
      · exact Nat.zero_le _
      · exact Nat.zero_le _
    have hL : (lay d.enc 0).2.length = d.enc.rows := lay_len _ _
    have cg : ∀ {h post : List AObj} {x : GDebugger}, x.enc.rows = d.enc.rows → h = (lay x.enc 0).2 ++ ((lay A.1.enc d.enc.rows).2 ++ post) → Cv h (lay A.1.enc d.enc.rows).1 A.1.enc := fun {h post x} hx hh => by
      have hl : (lay x.enc 0).2.length = d.enc.rows := (lay_len _ _).trans hx
      rw [← hl] at hh ⊢
      exact lay_at (GDebugger.plx A.1) (GDebugger.cnx A.1) hh
    refine call_lend (Cvs.cons (cg (post := []) (x := d) rfl (by simp)) (Cvs.cons (.refl (by simp [go_sem])) Cvs.nil)) (c108 A.1 (by omega)) rfl ?_
    simp only [go_sem, Nat.reduceEqDiff, reduceIte, Bool.not_true, decide_true, eq_self]
    simp only [layDp, go_sem, Nat.reduceEqDiff, reduceIte, Bool.not_true, eq_self]
    refine call_pure (c106 d hz) ?_
    simp only [go_sem, Nat.reduceEqDiff, reduceIte, Bool.not_true, eq_self]
    refine call_lend (Cvs.cons (lay_at (pre := []) (GDebugger.plx d) (GDebugger.cnx d) rfl) (Cvs.cons (.refl (by simp [go_sem])) Cvs.nil)) (c108 d (by omega)) rfl ?_
    simp only [go_sem, Nat.reduceEqDiff, reduceIte, Bool.not_true, eq_self]
    simp only [layDp, go_sem, Nat.reduceEqDiff, reduceIte, Bool.not_true, eq_self]
    have hct := d.ctVle
    refine call_markn (k136 d 1 (by omega) (by omega) (by omega)) (pre := []) (post := (lay A.1.enc d.enc.rows).2) rfl rfl rfl ?_
    simp only [go_sem, Nat.reduceEqDiff, reduceIte, List.length_nil, eq_self]
    have hneg : decide ((1 : Int) + ((d.ctV : Nat) : Int) < 0) = false := decide_eq_false (by omega)
    simp only [hneg, go_sem, layDp, Nat.reduceEqDiff, reduceIte, Bool.not_true, eq_self]
    refine call_lend (Cvs.cons (cg (post := []) (x := d.mkV 1) (GDebugger.rowsV d 1) (by simp)) (Cvs.cons (.refl (by simp [go_sem])) Cvs.nil)) (c108 A.1 (by omega)) rfl ?_
    simp only [go_sem, Nat.reduceEqDiff, reduceIte, Bool.not_true, decide_true, eq_self]
    simp only [layDp, go_sem, Nat.reduceEqDiff, reduceIte, Bool.not_true, eq_self]
    have hcA := A.1.ctVle
    have hlV : (lay (d.mkV 1).enc 0).2.length = d.enc.rows := (lay_len _ _).trans (GDebugger.rowsV d 1)
    refine call_markn (k136 A.1 1 (by omega) (by omega) (by omega)) (pre := (lay (d.mkV 1).enc 0).2) (post := []) hlV (by simp) rfl ?_
    simp only [go_sem, Nat.reduceEqDiff, reduceIte, eq_self]
    simp only [layDp, go_sem, Nat.reduceEqDiff, reduceIte, Bool.not_true, eq_self]
    have layV : ∀ n, (lay (A.1.mkV 1).enc n).1 = (lay A.1.enc n).1 := fun n => by
      simp [GDebugger.layE, GDebugger.mkV, mkL_length, AV.rows, rowss_mk GNet.mrk GNet.ct (enc := GNet.enc) GNet.rowsM, rowss_mk mkI ctI (enc := encI) (fun _ _ => rfl), rowss_mk GAgent.mrk GAgent.ct (enc := GAgent.enc) GAgent.rowsM, rowss_mk GOrigin.mrk GOrigin.ct (enc := GOrigin.enc) GOrigin.rowsM, rowss_mk GBreak.mrk GBreak.ct (enc := GBreak.enc) GBreak.rowsM]
    have cm : ∀ {h post : List AObj}, h = (lay (d.mkV 1).enc 0).2 ++ ((lay (A.1.mkV 1).enc d.enc.rows).2 ++ post) → Cv h (lay A.1.enc d.enc.rows).1 (A.1.mkV 1).enc := fun {h post} hh => by
      rw [← layV, ← hlV] at *
      exact lay_at (GDebugger.plx _) (GDebugger.cnx _) hh
    refine call_lend (Cvs.cons (cm (post := []) rfl) (Cvs.cons (.refl rfl) Cvs.nil)) (q137 A.1 1 (by omega) (by omega) (by omega)) rfl ?_
    simp only [go_sem, Nat.reduceEqDiff, reduceIte, eq_self]
    have hneg2 : decide ((1 : Int) + ((A.1.ctV : Nat) : Int) < 0) = false := decide_eq_false (by omega)
    simp only [hneg2, go_sem, Nat.reduceEqDiff, reduceIte, Bool.not_true, decide_true, eq_self]
    refine call_pure (c106 d hz) ?_
    simp only [go_sem, Nat.reduceEqDiff, reduceIte, Bool.not_true, eq_self]
    refine call_fresh k1 ?_
    simp only [go_sem, layT, List.append_nil, Nat.reduceEqDiff, reduceIte, List.getElem?_cons_zero, List.getElem?_cons_succ, eq_self]
    refine lst_all (k := 8) (by rfl) (layDl _ _) (layDa _ _) (by decide) ?_
    simp only [go_sem, layDp, Nat.reduceEqDiff, reduceIte, Bool.not_true, eq_self]
    refine call_lend (Cvs.cons (lay_at (pre := (lay (d.mkV 1).enc 0).2 ++ (lay (A.1.mkV 1).enc d.enc.rows).2) (post := []) (GDebugger.plx A.1) (GDebugger.cnx A.1) (by simp)) (Cvs.cons (.refl (by simp [go_sem])) Cvs.nil)) (c108 A.1 (by omega)) rfl ?_
    simp only [go_sem, Nat.reduceEqDiff, reduceIte, Bool.not_true, decide_true, eq_self]
    simp only [layDp, go_sem, Nat.reduceEqDiff, reduceIte, Bool.not_true, eq_self]
    refine call_lend (Cvs.cons (cm (List.append_assoc _ _ _)) (Cvs.cons (.refl rfl) Cvs.nil)) (q137 A.1 1 (by omega) (by omega) (by omega)) rfl ?_
    simp only [go_sem, Nat.reduceEqDiff, reduceIte, eq_self]
    simp only [hneg2, go_sem, Nat.reduceEqDiff, reduceIte, Bool.not_true, decide_true, eq_self]
    exact fin_eq rfl rfl
end Go.Ab
