/- LotsUses, in plain lists. -/
import Derived.Test.YtjoimapgmocoeaaUseAll
import Derived.Test.YtjoimapgmocoeaaLotLeft
import Derived.Test.YtjoimapgmocoeaaXa31
set_option linter.unusedVariables false
set_option linter.unusedSimpArgs false
namespace Go.Proofs.Ytjoimapgmocoeaa.Lk
open Go.RowKit Go.Proofs.YtjoimapgmocoeaaW.PrintWords Go.Proofs.YtjoimapgmocoeaaW.PrintLast Go.Proofs.YtjoimapgmocoeaaW.PrintMore Go.Proofs.Ytjoimapgmocoeaa.Xa
theorem LotIn.wrong {x : SL} (h : LotIn x) {last : Int} (hl : last < x.f0) : wrongW x last = 0 := by
  have hr := h.ok.rest
  obtain ⟨⟨h1, h2, h3, h4, h5, h6⟩, h7, h8, h9, h10, h11, h12, h13⟩ := h
  unfold wrongW
  rw [if_neg (by omega), if_neg (by omega), if_neg (by omega), if_pos]
  refine ⟨?_, by omega⟩
  simp only [numB, Bool.and_eq_true, decide_eq_true_eq]
  omega
theorem check_all : ∀ (l : List SL) (id : Int), Rise id l → (∀ x ∈ l, LotIn x) → checkGo id l = 0
  | [], _, _, _ => rfl
  | x :: xs, id, hr, hi => by
    simp only [checkGo]
    rw [if_pos ((hi x (List.mem_cons_self ..)).wrong hr.1)]
    exact check_all xs x.f0 hr.2 (fun y h => hi y (List.mem_cons_of_mem _ h))
theorem rise_same : ∀ (l m : List SL) (id : Int), l.length = m.length → (∀ j, j < l.length → (m.getD j zL).f0 = (l.getD j zL).f0) → Rise id l → Rise id m
  | [], [], _, _, _, _ => True.intro
  | [], y :: ys, _, h, _, _ => absurd h (by simp)
  | x :: xs, [], _, h, _, _ => absurd h (by simp)
  | x :: xs, y :: ys, id, h, e, hr => by
    have h0 := e 0 (by simp)
    simp only [List.getD_cons_zero] at h0
    refine ⟨by rw [h0]; exact hr.1, ?_⟩
    rw [h0]
    exact rise_same xs ys x.f0 (by simpa using h) (fun j hj => by simpa using e (j + 1) (by simpa using hj)) hr.2
theorem pts_len (l : List SL) (r : Nat → Int) : ∀ (n : Int) (is : List Nat), (pts l r n is).length ≤ is.length
  | _, [] => Nat.le_refl _
  | n, i :: is => by
    simp only [pts]
    split
    · simp
    · simpa using pts_len l r _ is
theorem ordN_len (l : List SL) (now : Int) : (ordN l now).length ≤ l.length := by
  unfold ordN
  rw [List.length_map]
  exact orderL_len l now
theorem mn_eq (a b : Int) : mn a b = min a b := by unfold mn; split <;> omega
theorem LotsUses_l0 (L b : List SL) (a2 now later over taken : Int) (A : List SL) (p : List SP) (G E : Nat → Int) (hL : L.length < 15) (hlen : b.length = L.length) (hk : AllOk L)
    (hb : ∀ j, j < L.length → (b.getD j zL).f4 = (L.getD j zL).f4 ∧ (b.getD j zL).f6 = (L.getD j zL).f6 ∧ (b.getD j zL).f8 = (L.getD j zL).f8 ∧ (b.getD j zL).f5 = (L.getD j zL).f5 + G j ∧ (b.getD j zL).f7 = (L.getD j zL).f7 + E j)
    (hG : ∀ j, j < L.length → 0 ≤ G j ∧ G j ≤ 6000) (hE : ∀ j, j < L.length → 0 ≤ E j ∧ E j ≤ 6000 ∧ (E j ≠ 0 → ¬ wrap64 (now + later) < (L.getD j zL).f3))
    (fin : ∀ x17 x18, x17 = sumTo G L.length → x18 = sumTo E L.length → 0 ≤ x17 → x17 ≤ 100000 → 0 ≤ x18 → x18 ≤ 100000 → Ev (fun k => (tolllaw10_within.f a2 6000).bind fun t471 => (if x17 = (mn taken t471) then ((tolllaw10_within.f a2 6000).bind fun t472 => (if over = (wrap64 (t472 - x17)) then (tolllaw10_LotsUses.j3 k L now A p (decide (x18 > (wrap64 (taken - x17))))) else (tolllaw10_LotsUses.j3 k L now A p true))) else (tolllaw10_LotsUses.j3 k L now A p true))) true)
    (d : Nat) : ∀ (i : Nat) (x17 x18 : Int), i + d = L.length → x17 = sumTo G i → x18 = sumTo E i → 0 ≤ x17 → x17 ≤ 6000 * (i : Int) → 0 ≤ x18 → x18 ≤ 6000 * (i : Int) → Ev (fun k => tolllaw10_LotsUses.l0 k L a2 now later A p b over taken x17 x18 (i : Int)) true := by
  induction d with
  | zero =>
    intro i x17 x18 hi h1 h2 h3 h4 h5 h6
    have e : i = L.length := by omega
    refine Ev.step (fun k => by simp only [tolllaw10_LotsUses.l0]; rfl) ?_
    refine Ev.ite_neg (by omega) ?_
    rw [e] at h1 h2
    exact fin x17 x18 h1 h2 h3 (by omega) h5 (by omega)
  | succ d ih =>
    intro i x17 x18 hi h1 h2 h3 h4 h5 h6
    have hil : i < L.length := by omega
    obtain ⟨x, hx⟩ : ∃ x, x = L.getD i zL := ⟨_, rfl⟩
    obtain ⟨y, hy⟩ : ∃ y, y = b.getD i zL := ⟨_, rfl⟩
    have eL : rd_T33 L (i : Int) = x := by rw [hx]; simp [rd_T33, hil]
    have eb : rd_T33 b (i : Int) = y := by rw [hy]; simp [rd_T33, hil, hlen]
    have hbi := hb i hil
    obtain ⟨g1, g2⟩ := hG i hil
    have hEi := hE i hil
    have hki := hk i hil
    rw [← hx, ← hy] at hbi
    rw [← hx] at hEi hki
    obtain ⟨b4, b6, b8, b5, b7⟩ := hbi
    obtain ⟨e1, e2, e3⟩ := hEi
    obtain ⟨o1, o2, o3, o4, o5, o6⟩ := hki
    have nx : Ev (fun k => tolllaw10_LotsUses.l0 k L a2 now later A p b over taken (x17 + G i) (x18 + E i) ((i : Int) + 1)) true := by
      exact ih (i + 1) _ _ (by omega) (by simp only [sumTo]; rw [h1]) (by simp only [sumTo]; rw [h2]) (by omega) (by omega) (by omega) (by omega)
    refine Ev.step (fun k => by simp only [tolllaw10_LotsUses.l0]; rfl) ?_
    rw [eL, eb]
    refine Ev.ite_pos (by omega) (Ev.ite_pos (by omega) (Ev.ite_pos (by omega) (Ev.ite_pos b4 (Ev.ite_pos b6 ?_))))
    rw [show (y.f8 != x.f8) = false by rw [b8]; simp]
    refine Ev.step (fun k => by simp only [tolllaw10_LotsUses.j2]; rfl) ?_
    rw [eL, eb, b5, b7, w64 (x := x17 + (x.f5 + G i)) (by omega) (by omega), w64 (x := x17 + (x.f5 + G i) - x.f5) (by omega) (by omega), w64 (x := x18 + (x.f7 + E i)) (by omega) (by omega), w64 (x := x18 + (x.f7 + E i) - x.f7) (by omega) (by omega), w64 (x := (i : Int) + 1) (by omega) (by omega), show x17 + (x.f5 + G i) - x.f5 = x17 + G i by omega, show x18 + (x.f7 + E i) - x.f7 = x18 + E i by omega]
    refine Ev.ite_neg (by decide) (Ev.ite_pos (by omega) (Ev.ite_pos (by omega) (Ev.ite_pos (by omega) ?_)))
    by_cases q : x.f7 + E i = x.f7
    · exact Ev.ite_pos q nx
    · exact Ev.ite_neg q (Ev.ite_neg (e3 (by omega)) nx)
theorem LotsUses_pure (l : List SL) (a1 a2 a3 a4 : Int) : Ev (fun k => tolllaw10_LotsUses.f k l a1 a2 a3 a4) true := by
  obtain ⟨n, hn, b1, c1⟩ : ∃ n, n = a1 % 5000 ∧ 0 ≤ n ∧ n < 5000 := ⟨_, rfl, Int.emod_nonneg a1 (show (5000 : Int) ≠ 0 by decide), Int.emod_lt_of_pos a1 (show (0 : Int) < 5000 by decide)⟩
  obtain ⟨m, hm, b2, c2⟩ : ∃ m, m = a2 % 6000 ∧ 0 ≤ m ∧ m < 6000 := ⟨_, rfl, Int.emod_nonneg a2 (show (6000 : Int) ≠ 0 by decide), Int.emod_lt_of_pos a2 (show (0 : Int) < 6000 by decide)⟩
  obtain ⟨now, hnow, b3, c3⟩ : ∃ n, n = a3 % 100000 ∧ 0 ≤ n ∧ n < 100000 := ⟨_, rfl, Int.emod_nonneg a3 (show (100000 : Int) ≠ 0 by decide), Int.emod_lt_of_pos a3 (show (0 : Int) < 100000 by decide)⟩
  obtain ⟨later, hlater, b4, c4⟩ : ∃ n, n = a4 % 12 ∧ 0 ≤ n ∧ n < 12 := ⟨_, rfl, Int.emod_nonneg a4 (show (12 : Int) ≠ 0 by decide), Int.emod_lt_of_pos a4 (show (0 : Int) < 12 by decide)⟩
  obtain ⟨L, hL, hg, hk, hp, hri, hin⟩ : ∃ L, L = goodL l now ∧ L.length ≤ 14 ∧ AllOk L ∧ Apart L ∧ Rise 0 L ∧ ∀ y ∈ L, LotIn y := ⟨_, rfl, goodL_len l now, goodL_ok l now b3 c3, goodL_apart l now, goodGo_rise _ 0 _, goodL_in l now b3 c3⟩
  unfold tolllaw10_LotsUses.f
  refine Ev.bindc known_f (Ev.ite_pos rfl (Ev.bindc (within_f _ _ (by decide) (by decide)) (Ev.bindc (within_f _ _ (by decide) (by decide)) ?_)))
  rw [← hnow, ← hlater]
  refine Ev.bind (good_f l _ b3 c3) (Ev.bindc (within_f _ _ (by decide) (by decide)) ?_)
  rw [← hL, ← hn]
  refine Ev.bindc (take_f _ _ _ (by omega)) ?_
  rw [takeW_spec L n now hk b1 (by omega)]
  simp only []
  have hr0 : ∀ i ∈ ordN L now, 0 ≤ rst L i := fun i _ => rst_nonneg hk i
  obtain ⟨F, hF⟩ : ∃ F, F = am (rst L) n (ordN L now) := ⟨_, rfl⟩
  obtain ⟨G, hG⟩ : ∃ G, G = am F m (ordN L now) := ⟨_, rfl⟩
  have hFb : ∀ j, 0 ≤ F j ∧ F j ≤ rst L j ∧ F j ≤ n := fun j => by
    rw [hF]
    exact ⟨(am_bnd _ j n _ b1 hr0).1, am_le _ j n _ b1 hr0 (rst_nonneg hk j), (am_bnd _ j n _ b1 hr0).2.1⟩
  have hGb : ∀ j, 0 ≤ G j ∧ G j ≤ F j ∧ G j ≤ m := fun j => by
    rw [hG]
    exact ⟨(am_bnd F j m _ b2 (fun i _ => (hFb i).1)).1, am_le F j m _ b2 (fun i _ => (hFb i).1) (hFb j).1, (am_bnd F j m _ b2 (fun i _ => (hFb i).1)).2.1⟩
  obtain ⟨hk2, hr2⟩ := addH_ok L F hk (fun j _ => ⟨(hFb j).1, (hFb j).2.1⟩)
  have hlt : ∀ i ∈ ordN L now, i < L.length := fun i h => ((mem_ordN L now i).1 h).1
  have huse : ∀ (t q : Int), 0 ≤ q → q ≤ 6000 → useW (addH L F) q t (pts L (rst L) n (ordN L now)) = (useMap t (addH L F) F (am F q (ordN L now)), lk F q (ordN L now)) := fun t q h0 h1 => by
    have := useW_spec t L (ordN L now) (addH L F) (rst L) n q (addH_len ..) (fun j _ => (addH_rest L F j).1) hp hk2 b1 h0 (by omega) (ordN_nodup L now) (fun i h => ⟨hlt i h, ((mem_ordN L now i).1 h).2.2⟩) (fun i h => by
      rw [← hF, addH_get _ _ _ (hlt i h)]
      have := (hk i (hlt i h)).b6
      show F i ≤ (L.getD i zL).f6 + F i
      omega)
    rw [← hF] at this
    exact this
  have hmap : ∀ (t : Int) (g : Nat → Int) (j : Nat), j < L.length → (useMap t (addH L F) F g).getD j zL = { L.getD j zL with f5 := (L.getD j zL).f5 + g j, f7 := if (L.getD j zL).f3 ≤ t then (L.getD j zL).f7 + (F j - g j) else (L.getD j zL).f7 } := fun t g j hj => by
    rw [useMap_get _ _ _ _ _ (by rw [addH_len]; exact hj), addH_get _ _ _ hj]
    simp only [show (L.getD j zL).f6 + F j - F j = (L.getD j zL).f6 by omega]
  have hplen : (pts L (rst L) n (ordN L now)).length < 1000000 := by
    have := pts_len L (rst L) n (ordN L now)
    have := ordN_len L now
    omega
  have halen : (addH L F).length < 15 := by rw [addH_len]; omega
  rw [← hF]
  refine Ev.bindc (within_f _ _ (by decide) (by decide)) (Ev.bindc (use_f _ _ _ _ halen hplen) ?_)
  rw [← hm, huse _ m b2 (by omega), ← hG]
  simp only []
  obtain ⟨t, ht⟩ : ∃ t, t = wrap64 (now + later) := ⟨_, rfl⟩
  rw [← ht]
  obtain ⟨b, hb⟩ : ∃ b, b = useMap t (addH L F) F G := ⟨_, rfl⟩
  have hbl : b.length = L.length := by rw [hb, useMap_len, addH_len]
  have hbat : ∀ j, j < L.length → b.getD j zL = { L.getD j zL with f5 := (L.getD j zL).f5 + G j, f7 := if (L.getD j zL).f3 ≤ t then (L.getD j zL).f7 + (F j - G j) else (L.getD j zL).f7 } := fun j hj => by rw [hb]; exact hmap t G j hj
  rw [← hb]
  have hLin : ∀ j, j < L.length → LotIn (L.getD j zL) := fun j hj => by
    have e : L.getD j zL = L[j] := by simp [hj]
    rw [e]
    exact hin _ (List.getElem_mem hj)
  have hchk : checkGo 0 b = 0 := by
    refine check_all b 0 (rise_same L b 0 hbl.symm (fun j hj => by rw [hbat j hj]) hri) (fun x hx => ?_)
    obtain ⟨j, hj, rfl⟩ := List.getElem_of_mem hx
    have hj2 : j < L.length := by omega
    have e : b[j] = b.getD j zL := by simp [hj]
    have hi := hLin j hj2
    have hr := hi.ok.rest
    have hf := hFb j
    have hgb := hGb j
    unfold rst at hf
    rw [e, hbat j hj2]
    obtain ⟨⟨o1, o2, o3, o4, o5, o6⟩, p0, p1, p2, p3, p4, p5, p6⟩ := hi
    by_cases q : (L.getD j zL).f3 ≤ t
    · refine ⟨⟨?_, ?_, ?_, ?_, ?_, ?_⟩, ?_, ?_, ?_, ?_, ?_, ?_, ?_⟩ <;> simp only [if_pos q] <;> omega
    · refine ⟨⟨?_, ?_, ?_, ?_, ?_, ?_⟩, ?_, ?_, ?_, ?_, ?_, ?_, ?_⟩ <;> simp only [if_neg q] <;> omega
  refine Ev.bind (check_f b (by omega)) (Ev.ite_pos hchk ?_)
  rw [show ((b.length : Int) != (L.length : Int)) = false by rw [hbl]; simp]
  refine Ev.step (fun k => by simp only [tolllaw10_LotsUses.j0]; rfl) ?_
  refine Ev.ite_neg (by decide) (Ev.bindc (within_f _ _ (by decide) (by decide)) ?_)
  rw [← hn]
  have hlk := lk_bnd (rst L) n (ordN L now) b1 hr0
  rw [w64 (x := n - lk (rst L) n (ordN L now)) (by omega) (by omega)]
  have hsF := am_sum (rst L) L.length n (ordN L now) (ordN_nodup L now) hlt
  rw [← hF] at hsF
  have hsG := am_sum F L.length m (ordN L now) (ordN_nodup L now) hlt
  rw [← hG] at hsG
  have hcl := lk_closed F m (ordN L now) b2 (fun i _ => (hFb i).1)
  rw [← sumTo_supp L.length (ordN L now) F (ordN_nodup L now) hlt (fun j hj => by rw [hF]; exact am_not _ j _ _ hj)] at hcl
  have hsub := sumTo_sub F G L.length
  obtain ⟨E, hE⟩ : ∃ E : Nat → Int, E = fun j => if (L.getD j zL).f3 ≤ t then F j - G j else 0 := ⟨_, rfl⟩
  have hEb : ∀ j, 0 ≤ E j ∧ E j ≤ F j - G j ∧ (E j ≠ 0 → ¬ t < (L.getD j zL).f3) := fun j => by
    have := hFb j
    have := hGb j
    rw [hE]
    simp only []
    split
    · omega
    · omega
  have hsE := sumTo_le L.length (fun j _ => (hEb j).2.1)
  rw [hsub] at hsE
  refine LotsUses_l0 L b a2 now later _ _ (addH L F) _ G E (by omega) hbl hk (fun j hj => ?_) (fun j _ => ?_) (fun j _ => ?_) ?_ L.length 0 0 0 (by omega) rfl rfl (by decide) (by decide) (by decide) (by decide)
  · rw [hbat j hj, hE]
    refine ⟨rfl, rfl, rfl, rfl, ?_⟩
    simp only []
    split <;> omega
  · have := hGb j
    omega
  · have := hFb j
    have := hGb j
    have := hEb j
    rw [← ht]
    refine ⟨this.1, by omega, this.2.2⟩
  · intro x17 x18 h17 h18 q1 q2 q3 q4
    refine Ev.bindc (within_f _ _ (by decide) (by decide)) ?_
    rw [← hm, mn_eq]
    refine Ev.ite_pos (by omega) (Ev.bindc (within_f _ _ (by decide) (by decide)) ?_)
    rw [← hm, w64 (x := m - x17) (by omega) (by omega)]
    refine Ev.ite_pos (by omega) ?_
    rw [w64 (by omega) (by omega), decide_eq_false (by omega)]
    refine Ev.step (fun k => by simp only [tolllaw10_LotsUses.j3]; rfl) ?_
    refine Ev.ite_neg (by decide) (Ev.bindc (use_f _ _ _ _ halen hplen) ?_)
    rw [huse now 0 (by decide) (by decide)]
    have hz : useMap now (addH L F) F (am F 0 (ordN L now)) = L := by
      apply ext_get (by rw [useMap_len, addH_len])
      intro j hj
      rw [useMap_len, addH_len] at hj
      rw [hmap now _ j hj, am_zero F j _ (fun i _ => (hFb i).1)]
      by_cases q : j ∈ ordN L now
      · have hv := ((mem_ordN L now j).1 q).2.1
        simp only [validB, Bool.and_eq_true, decide_eq_true_eq] at hv
        rw [if_neg (by omega)]
        simp
      · have hz : F j = 0 := by rw [hF]; exact am_not _ j _ _ q
        rw [hz]
        simp
    rw [hz]
    exact Ev.bind (same_f L (by omega)) (Ev.now _)
theorem uses_walk (a0 : Option Addr) (l0 : List SL) (c0 : Nat) (a1 a2 a3 a4 : Int) (w : World) (hC : k33.C w a0 l0.length l0) (hc : l0.length ≤ c0) (w1 : (Lit.int .i64 a1).wf = true) (w2 : (Lit.int .i64 a2).wf = true) (w3 : (Lit.int .i64 a3).wf = true) (w4 : (Lit.int .i64 a4).wf = true) :
    Calls Try.prog 11 #[.slice a0 l0.length c0, .int .i64 a1, .int .i64 a2, .int .i64 a3, .int .i64 a4] w fun e w' => e = .returned (.bool true) ∧ Below w.heap.size w w' := by
  obtain ⟨k, hk⟩ := Ev.rounds (LotsUses_pure l0 a1 a2 a3 a4)
  exact tolllaw10_LotsUses.calls k a0 c0 l0 a1 a2 a3 a4 true w hC hc hk
end Go.Proofs.Ytjoimapgmocoeaa.Lk
