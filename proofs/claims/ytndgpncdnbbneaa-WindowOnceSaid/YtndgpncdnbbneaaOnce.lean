/- WindowOnce: its walk. -/
import Derived.Test.YtndgpncdnbbneaaOncePlain
import Derived.Test.YtndgpncdnbbneaaWinCalls
set_option linter.unusedVariables false
set_option linter.unusedSimpArgs false
namespace Go.Proofs.Ytndgpncdnbbneaa.Lk
open Go.RowKit Go.Proofs.Ytndgpncdnbbneaa.Xa Go.Proofs.YtndgpncdnbbneaaW.PrintWords Go.Proofs.YtndgpncdnbbneaaW.PrintLast Go.Proofs.Ytndgpncdnbbneaa.Own
def arrI (f : Int → Int) : List Value := (List.range 100).map fun (j : Nat) => .int .i64 (f (j : Int))
def arrB (f : Int → Bool) : List Value := (List.range 100).map fun (j : Nat) => .bool (f (j : Int))
theorem ways80 (i n : Int) : (i < n ∧ i < 80) ∨ (i < n ∧ ¬ i < 80) ∨ ¬ i < n := by omega
theorem within_v (a n v : Int) (w : World) (h0 : 0 < n) (h1 : n ≤ 2147483648) (h : a % n = v) : Calls Try.prog 7 #[.int .i64 a, .int .i64 n] w fun e w' => e = .returned (.int .i64 v) ∧ w = w' := by
  subst h
  exact within_calls a n w h0 h1
theorem boxA (W : World) (a : SA) : ∃ W', (storeCells ⟨W.heap.size, 0, none⟩ (cellsA a).toList).run Try.prog (W.alloc (.cells #[.int .i64 0, .int .i64 0, .int .i64 0, .int .i64 0, .string ⟨#[]⟩, .int .i64 0, .int .i64 0, .int .i64 0, .int .i64 0, .int .i64 0, .int .i64 0, .int .i64 0, .int .i64 0] 32)) = .ok () W' ∧ W'.heap[W.heap.size]? = some (.cells (cellsA a) 32 (0, 0)) ∧ Below W.heap.size W W' :=
  box_store (P := Try.prog) W [.int .i64 0, .int .i64 0, .int .i64 0, .int .i64 0, .string ⟨#[]⟩, .int .i64 0, .int .i64 0, .int .i64 0, .int .i64 0, .int .i64 0, .int .i64 0, .int .i64 0, .int .i64 0] (cellsA a).toList 32 rfl (fun v hv => by simp only [cellsA, List.mem_cons, List.not_mem_nil, or_false] at hv; rcases hv with rfl | rfl | rfl | rfl | rfl | rfl | rfl | rfl | rfl | rfl | rfl | rfl | rfl <;> rfl)
theorem cellI {w : World} {g : Nat} {f : Int → Int} (h : w.heap[g]? = some (.cells (arrI f).toArray 25 (0, 0))) (j : Int) (h0 : 0 ≤ j) (h1 : j < 100) : w.cell? ⟨g, j.toNat, none⟩ = some (.int .i64 (f j)) := by
  rw [cell_of_row w _ _ _ _ (0, 0) h]
  have h2 : j.toNat < 100 := by omega
  have h3 : ((j.toNat : Nat) : Int) = j := Int.toNat_of_nonneg h0
  simp [arrI, h2, h3]
theorem cellB {w : World} {g : Nat} {f : Int → Bool} (h : w.heap[g]? = some (.cells (arrB f).toArray 26 (0, 0))) (j : Int) (h0 : 0 ≤ j) (h1 : j < 100) : w.cell? ⟨g, j.toNat, none⟩ = some (.bool (f j)) := by
  rw [cell_of_row w _ _ _ _ (0, 0) h]
  have h2 : j.toNat < 100 := by omega
  have h3 : ((j.toNat : Nat) : Int) = j := Int.toNat_of_nonneg h0
  simp [arrB, h2, h3]
theorem setI {w : World} {g : Nat} {f : Int → Int} (h : w.heap[g]? = some (.cells (arrI f).toArray 25 (0, 0))) (j v : Int) (h0 : 0 ≤ j) (h1 : j < 100) : (w.setCell ⟨g, j.toNat, none⟩ (.int .i64 v)).heap[g]? = some (.cells (arrI (upd f j v)).toArray 25 (0, 0)) := by
  refine blk_put h _ _ (Array.toList_inj.1 ?_)
  simp only [Array.toList_setIfInBounds]
  refine List.ext_getElem (by simp [arrI]) fun k h2 h3 => ?_
  rw [List.getElem_set]
  have h4 : k < 100 := by simpa [arrI] using h3
  by_cases h5 : j.toNat = k
  · rw [if_pos h5]
    simp [arrI, upd, show (k : Int) = j by omega]
  · rw [if_neg h5]
    simp [arrI, upd, show ¬ (k : Int) = j by omega]
theorem setB {w : World} {g : Nat} {f : Int → Bool} (h : w.heap[g]? = some (.cells (arrB f).toArray 26 (0, 0))) (j : Int) (h0 : 0 ≤ j) (h1 : j < 100) : (w.setCell ⟨g, j.toNat, none⟩ (.bool true)).heap[g]? = some (.cells (arrB (updB f j)).toArray 26 (0, 0)) := by
  refine blk_put h _ _ (Array.toList_inj.1 ?_)
  simp only [Array.toList_setIfInBounds]
  refine List.ext_getElem (by simp [arrB]) fun k h2 h3 => ?_
  rw [List.getElem_set]
  have h4 : k < 100 := by simpa [arrB] using h3
  by_cases h5 : j.toNat = k
  · rw [if_pos h5]
    simp [arrB, updB, show (k : Int) = j by omega]
  · rw [if_neg h5]
    simp [arrB, updB, show ¬ (k : Int) = j by omega]
theorem Win.set {w : World} {base : Nat} {A : Option Addr} {n c : Nat} {xs : List SE} (h : Win w base A n c xs) {g : Nat} (hg : g < base) (o : Nat) (u : Value) : Win (w.setCell ⟨g, o, none⟩ u) base A n c xs :=
  ⟨Kd.Q_mono (Kd.Q_far (p := ⟨g, o, none⟩) (Kd.Q_bound h.1) (fun k hk => by have h2 := hk.2.1; show k ≠ g; omega) u) (fun _ _ => trivial), h.2⟩
/-- An answer with this number. -/
def nO (n : Int) : SA := ⟨0, 0, 0, n, z30⟩
theorem zero25 (w : World) : (zeroValue 25).run Try.prog w = .ok (.agg (arrI fun _ => 0).toArray) w := by kernel_rfl
theorem zero26 (w : World) : (zeroValue 26).run Try.prog w = .ok (.agg (arrB fun _ => false).toArray) w := by kernel_rfl
set_option maxHeartbeats 8000000 in
set_option maxRecDepth 100000 in
theorem once_calls (A0 : Option Addr) (c0 : Nat) (l0 : List Int) (w : World) (hr0 : Kd.C (Kd.int .i64) w A0 l0.length l0) (hc0 : l0.length ≤ c0) :
    Calls Try.prog 3 #[.slice A0 l0.length c0] w fun e w' => e = .returned (.bool true) ∧ Below w.heap.size w w' := by
  have HR := Aside0.mk hr0
  have HC := Aside0.mk hc0
  clear hr0 hc0
  go_enter Try.func3, Try.ntmps3
  go_wp2_with fail
  refine (known_calls _).mono ?_
  rintro e w1 ⟨rfl, hb⟩
  have HB := Aside0.mk hb
  clear hb
  go_wp2_with (first | ((with_reducible refine gate_dst (N := 4) rfl ?_); (refine box_event (N := 4) (cs := (arrI fun _ => 0).toArray) (t := 25) rfl rfl (by go_simp; rw [zero25]; rfl) ?_); intro g4 hg4 w2 hb4 hb2; have H4 := Aside0.mk hg4; have HB2 := Aside0.mk hb2; have HX4 := Aside0.mk hb4; clear hg4 hb4 hb2) | ((with_reducible refine gate_dst (N := 5) rfl ?_); (refine box_event (N := 5) (cs := (arrB fun _ => false).toArray) (t := 26) rfl rfl (by go_simp; rw [zero26]; rfl) ?_); intro g5 hg5 w3 hb5 hb3; have H5 := Aside0.mk hg5; have HB3 := Aside0.mk hb3; have HX5 := Aside0.mk hb5; clear hg5 hb5 hb3))
  have hg : w.heap.size ≤ g4 ∧ g4 < g5 ∧ g5 < w3.heap.size := ⟨by rw [H4.out]; exact below_size HB.out, by rw [H4.out, H5.out]; have := blk_lt HX4.out; have := H4.out; omega, blk_lt HX5.out⟩
  have HG := Aside0.mk hg
  have HB4 := Aside0.mk (below_step (below_step HB.out HB2.out) HB3.out)
  have HX4b := Aside0.mk (blk_below HX4.out HB3.out)
  clear hg HB HB2 HB3 HX4 H4 H5
  obtain ⟨B0, hB0⟩ : ∃ B0, B0 = w3.heap.size := ⟨_, rfl⟩
  rw [← hB0] at HG
  go_loopg [3, 6] 81 (fun kq v3 v6 w' => ∃ (n : Nat) (i : Int) (c : Nat) (A : Option Addr) (xs : List SE) (nt : Int → Int) (st : Int → Bool), v3 = .slice A n c ∧ v6 = .int .i64 i ∧ Aside0 (0 ≤ i ∧ i ≤ 80 ∧ i ≤ (l0.length : Int) ∧ (kq : Int) + i = 81) ∧ Aside0 (OInv nt st xs) ∧ Aside0 (Win w' B0 A n c xs) ∧ Aside0 (w'.heap[g4]? = some (.cells (arrI nt).toArray 25 (0, 0))) ∧ Aside0 (w'.heap[g5]? = some (.cells (arrB st).toArray 26 (0, 0))) ∧ Aside0 (B0 ≤ w'.heap.size) ∧ Aside0 (Below w.heap.size w w'))
  case atStart => exact ⟨0, 0, 0, none, [], _, _, rfl, rfl, ⟨⟨by decide, by decide, by omega, rfl⟩⟩, ⟨OInv.start⟩, ⟨⟨Kd.Q_nil _ _ _ _ _, by simp⟩⟩, HX4b, HX5, ⟨by rw [hB0]; exact Nat.le_refl _⟩, HB4⟩
  case round =>
    clear HB4 HX4b HX5
    obtain ⟨n, i, c, A, xs, nt, st, rfl, rfl, HI, OI, HW, HX4, HX5, HS, HB⟩ := hrel
    cases gk with
    | zero => exact absurd HI.out (by omega)
    | succ k1 =>
    have p : 0 ≤ i := HI.out.1
    rcases ways80 i (l0.length : Int) with ⟨h1, h2⟩ | ⟨h1, h2⟩ | h1
    rotate_left
    · have c1b : decide (i < (l0.length : Int)) = true := decide_eq_true h1
      have c2b : decide (i < 80) = false := decide_eq_false h2
      go_wp2
      go_ret
      exact ⟨rfl, HB.out⟩
    · have c1b : decide (i < (l0.length : Int)) = false := decide_eq_false h1
      go_wp2
      go_ret
      exact ⟨rfl, HB.out⟩
    have c1b : decide (i < (l0.length : Int)) = true := decide_eq_true h1
    have c2b : decide (i < 80) = true := decide_eq_true h2
    obtain ⟨ad, e, hx⟩ := Kd.at_int HR.out i p h1
    cases e
    have hx1 := (HB.out.cell (World.block_lt_of_cell? w _ hx)).trans hx
    obtain ⟨v, hv⟩ : ∃ v, v = rd l0 i % 99 := ⟨_, rfl⟩
    obtain ⟨id, hid⟩ : ∃ id, id = 1 + v := ⟨_, rfl⟩
    have hi1 : 1 ≤ id := by omega
    have hi2 : id ≤ 99 := by omega
    have hwi : wrap64 (1 + v) = id := by rw [hid]; exact w64 (by omega) (by omega)
    have M1 := Aside0.mk (show 0 ≤ i + 1 ∧ i + 1 ≤ 80 ∧ i + 1 ≤ (l0.length : Int) ∧ (k1 : Int) + (i + 1) = 81 by have := HI.out; omega)
    have m2 : k1 < k1 + 1 := Nat.lt_succ_self _
    have hw5 : wrap64 (i + 1) = i + 1 := w64 (by omega) (by omega)
    have HV := Aside0.mk hv
    clear hv hid
    go_wp2_with fail
    refine (within_v _ 99 v _ (by decide) (by decide) HV.out.symm).mono ?_
    rintro e w' ⟨rfl, rfl⟩
    clear hx1
    go_wp2_with fail
    refine (ask_calls _ _ _ _ _ _ _ HW.out).mono ?_
    rintro e w4 ⟨rfl, hb⟩
    rw [hwi]
    have pa : 0 ≤ id := by omega
    have qa : id < 100 := by omega
    obtain ⟨w5, hst, hbx, hb5⟩ := boxA w4 (askSpec xs id).2
    have HW5 := Aside0.mk ((HW.out.below hb).below hb5)
    have HX45 := Aside0.mk (blk_below (blk_below HX4.out hb) hb5)
    have HX55 := Aside0.mk (blk_below (blk_below HX5.out hb) hb5)
    have HS5 := Aside0.mk (Nat.le_trans HS.out (Nat.le_trans hb.size hb5.size))
    have HB5 := Aside0.mk (below_step (below_step HB.out hb) hb5)
    have hcI := cellI HX45.out id pa qa
    have hcB := cellB HX55.out id pa qa
    have hbox3 : w5.cell? ⟨w4.heap.size, 3, none⟩ = some (.int .i64 (askSpec xs id).2.f3) := by rw [cell_of_row w5 _ _ _ _ (0, 0) hbx]; rfl
    clear HW HX4 HX5 HS HB hb hb5 hbx
    have hthree := ask_three xs id OI.out.len
    rcases hthree with ⟨e0, he, hej, hq⟩ | ⟨hq, hst2⟩ | ⟨hq, hn, ho⟩
    · rw [hq] at hst hbox3 ⊢
      obtain ⟨hk1, hk2⟩ := OI.out.known he
      rw [hej] at hk1 hk2
      have hkb : (nt id == 0) = false := beq_eq_false_iff_ne.mpr hk2
      have hkc : (e0.f1.f3 != nt id) = false := by rw [hk1]; exact bne_self_eq_false _
      have HK1 := Aside0.mk hk1
      have HK2 := Aside0.mk hk2
      clear hk1 hk2
      go_wp2_with fail
      go_quiet (fail)
      have OI2 := OI
      have HXI := Aside0.mk (blk_drewN HX45.out nq)
      have HXB := Aside0.mk (blk_drewN HX55.out nq)
      have HSZ : Aside0 (B0 ≤ (w5.drewN nq).heap.size) := ⟨HS5.out⟩
      have HBB := Aside0.mk (pw_below_drewN HB5.out nq)
      have HWW := Aside0.mk (HW5.out.below (pw_below_drewN (Below.refl _ _) nq))
      clear hcI hcB hbox3 hst hkb hkc he hej
      go_wp2_with fail
      have HT := Aside0.mk (cnt_top OI2.out)
      go_loopg [10, 11, 12] 100 (fun kq v10 v11 v12 w' => ∃ (l m j : Int), v10 = .int .i64 l ∧ v11 = .int .i64 m ∧ v12 = .int .i64 j ∧ Aside0 (0 ≤ j ∧ j ≤ 99 ∧ (kq : Int) = j + 1 ∧ l = 12 - m ∧ m = (cnt xs j : Int)) ∧ Aside0 (Win w' B0 A n c xs) ∧ Aside0 (w'.heap[g4]? = some (.cells (arrI nt).toArray 25 (0, 0))) ∧ Aside0 (w'.heap[g5]? = some (.cells (arrB st).toArray 26 (0, 0))) ∧ Aside0 (B0 ≤ w'.heap.size) ∧ Aside0 (Below w.heap.size w w'))
      case atStart => exact ⟨12, 0, 99, rfl, rfl, rfl, ⟨⟨by decide, by decide, rfl, rfl, by rw [HT.out]; rfl⟩⟩, HWW, HXI, HXB, HSZ, HBB⟩
      case round =>
        clear HWW HXI HXB HSZ HBB HT
        obtain ⟨l, m, j, rfl, rfl, rfl, HJ, HWW, HXI, HXB, HSZ, HBB⟩ := hrel
        cases gk with
        | zero => exact absurd HJ.out.2.2.1 (by have := HJ.out.1; omega)
        | succ k2 =>
        have pj : 0 ≤ j := HJ.out.1
        have qj : j < 100 := by have := HJ.out.2.1; omega
        by_cases hj : 0 < j
        · have hjb : decide (0 < j) = true := decide_eq_true hj
          have hcI := cellI HXI.out j pj qj
          have hat := OI2.out.at_j j (by omega) HJ.out.2.1
          have hwj : wrap64 (j - 1) = j - 1 := w64 (by omega) (by omega)
          have m3 : k2 < k2 + 1 := Nat.lt_succ_self _
          by_cases hc : 0 < nt j ∧ cnt xs j < 12
          · obtain ⟨⟨a, ha⟩, hcn⟩ := hat.1 hc
            have hm := HJ.out
            have hd1 : decide (0 < nt j) = true := decide_eq_true hc.1
            have hd2 : decide (0 < l) = true := decide_eq_true (by omega)
            have hwl : wrap64 (l - 1) = l - 1 := w64 (by omega) (by omega)
            have hwm : wrap64 (m + 1) = m + 1 := w64 (by omega) (by omega)
            have HJ2 := Aside0.mk (show 0 ≤ j - 1 ∧ j - 1 ≤ 99 ∧ (k2 : Int) = j - 1 + 1 ∧ l - 1 = 12 - (m + 1) ∧ m + 1 = (cnt xs (j - 1) : Int) by omega)
            clear hat hm hcn
            go_wp2_with fail
            refine (ask_calls _ _ _ _ _ _ _ HWW.out).mono ?_
            rintro e w7 ⟨rfl, hb⟩
            rw [ha]
            have HB7 := Aside0.mk hb
            clear hb hcI
            go_wp2_with fail
            go_roundg k2
            case measure => exact m3
            case rel => exact ⟨l - 1, m + 1, j - 1, by first | rfl | rw [hwl], by first | rfl | rw [hwm], by first | rfl | rw [hwj], HJ2, ⟨HWW.out.below HB7.out⟩, ⟨blk_below HXI.out HB7.out⟩, ⟨blk_below HXB.out HB7.out⟩, ⟨Nat.le_trans HSZ.out HB7.out.size⟩, ⟨below_step HBB.out HB7.out⟩⟩
          · have hcn := hat.2 hc
            have hm := HJ.out
            have HJ2 := Aside0.mk (show 0 ≤ j - 1 ∧ j - 1 ≤ 99 ∧ (k2 : Int) = j - 1 + 1 ∧ l = 12 - m ∧ m = (cnt xs (j - 1) : Int) by omega)
            by_cases hn : 0 < nt j
            · have hd1 : decide (0 < nt j) = true := decide_eq_true hn
              have hd2 : decide (0 < l) = false := decide_eq_false (fun h9 => hc ⟨hn, by omega⟩)
              clear hat hm hcn
              go_wp2
              go_roundg k2
              case measure => exact m3
              case rel => exact ⟨l, m, j - 1, rfl, rfl, rfl, HJ2, HWW, HXI, HXB, HSZ, HBB⟩
            · have hd1 : decide (0 < nt j) = false := decide_eq_false hn
              clear hat hm hcn
              go_wp2
              go_roundg k2
              case measure => exact m3
              case rel => exact ⟨l, m, j - 1, rfl, rfl, rfl, HJ2, HWW, HXI, HXB, HSZ, HBB⟩
        · have hjb : decide (0 < j) = false := decide_eq_false hj
          have hnm : ((n : Int) != m) = false := by
            have h1 := HJ.out.2.2.2.2
            rw [show j = 0 by omega, cnt_all OI2.out, ← HWW.out.len] at h1
            rw [h1]
            exact bne_self_eq_false _
          go_wp2
          go_roundg k1
          case measure => exact m2
          case rel => exact ⟨n, i + 1, c, A, xs, nt, st, rfl, rfl, M1, OI2, HWW, HXI, HXB, HSZ, HBB⟩
    · rw [hq] at hst hbox3 ⊢
      have hf5 : w5.frozen? ⟨g5, id.toNat, none⟩ = false := blk_frozen HX55.out _
      have OI2 := Aside0.mk (OI.out.stale hst2)
      have HXI := Aside0.mk (blk_far HX45.out (p := ⟨g5, id.toNat, none⟩) (show g4 ≠ g5 by have := HG.out; omega) (.bool true))
      have HXB := Aside0.mk (setB HX55.out id pa qa)
      have HSZ : Aside0 (B0 ≤ (w5.setCell ⟨g5, id.toNat, none⟩ (.bool true)).heap.size) := ⟨by simpa using HS5.out⟩
      have HBB := Aside0.mk (below_set (j := id.toNat) (v := .bool true) HB5.out (show w.heap.size ≤ g5 by have := HG.out; omega))
      have HWW := Aside0.mk (HW5.out.set HG.out.2.2 id.toNat (.bool true))
      obtain ⟨st, hst3⟩ : ∃ f, f = updB st id := ⟨_, rfl⟩
      rw [← hst3] at OI2 HXB
      go_wp2_with fail
      clear hcI hcB hbox3 hst hf5 hst2 hst3
      have HT := Aside0.mk (cnt_top OI2.out)
      go_loopg [10, 11, 12] 100 (fun kq v10 v11 v12 w' => ∃ (l m j : Int), v10 = .int .i64 l ∧ v11 = .int .i64 m ∧ v12 = .int .i64 j ∧ Aside0 (0 ≤ j ∧ j ≤ 99 ∧ (kq : Int) = j + 1 ∧ l = 12 - m ∧ m = (cnt xs j : Int)) ∧ Aside0 (Win w' B0 A n c xs) ∧ Aside0 (w'.heap[g4]? = some (.cells (arrI nt).toArray 25 (0, 0))) ∧ Aside0 (w'.heap[g5]? = some (.cells (arrB st).toArray 26 (0, 0))) ∧ Aside0 (B0 ≤ w'.heap.size) ∧ Aside0 (Below w.heap.size w w'))
      case atStart => exact ⟨12, 0, 99, rfl, rfl, rfl, ⟨⟨by decide, by decide, rfl, rfl, by rw [HT.out]; rfl⟩⟩, HWW, HXI, HXB, HSZ, HBB⟩
      case round =>
        clear HWW HXI HXB HSZ HBB HT
        obtain ⟨l, m, j, rfl, rfl, rfl, HJ, HWW, HXI, HXB, HSZ, HBB⟩ := hrel
        cases gk with
        | zero => exact absurd HJ.out.2.2.1 (by have := HJ.out.1; omega)
        | succ k2 =>
        have pj : 0 ≤ j := HJ.out.1
        have qj : j < 100 := by have := HJ.out.2.1; omega
        by_cases hj : 0 < j
        · have hjb : decide (0 < j) = true := decide_eq_true hj
          have hcI := cellI HXI.out j pj qj
          have hat := OI2.out.at_j j (by omega) HJ.out.2.1
          have hwj : wrap64 (j - 1) = j - 1 := w64 (by omega) (by omega)
          have m3 : k2 < k2 + 1 := Nat.lt_succ_self _
          by_cases hc : 0 < nt j ∧ cnt xs j < 12
          · obtain ⟨⟨a, ha⟩, hcn⟩ := hat.1 hc
            have hm := HJ.out
            have hd1 : decide (0 < nt j) = true := decide_eq_true hc.1
            have hd2 : decide (0 < l) = true := decide_eq_true (by omega)
            have hwl : wrap64 (l - 1) = l - 1 := w64 (by omega) (by omega)
            have hwm : wrap64 (m + 1) = m + 1 := w64 (by omega) (by omega)
            have HJ2 := Aside0.mk (show 0 ≤ j - 1 ∧ j - 1 ≤ 99 ∧ (k2 : Int) = j - 1 + 1 ∧ l - 1 = 12 - (m + 1) ∧ m + 1 = (cnt xs (j - 1) : Int) by omega)
            clear hat hm hcn
            go_wp2_with fail
            refine (ask_calls _ _ _ _ _ _ _ HWW.out).mono ?_
            rintro e w7 ⟨rfl, hb⟩
            rw [ha]
            have HB7 := Aside0.mk hb
            clear hb hcI
            go_wp2_with fail
            go_roundg k2
            case measure => exact m3
            case rel => exact ⟨l - 1, m + 1, j - 1, by first | rfl | rw [hwl], by first | rfl | rw [hwm], by first | rfl | rw [hwj], HJ2, ⟨HWW.out.below HB7.out⟩, ⟨blk_below HXI.out HB7.out⟩, ⟨blk_below HXB.out HB7.out⟩, ⟨Nat.le_trans HSZ.out HB7.out.size⟩, ⟨below_step HBB.out HB7.out⟩⟩
          · have hcn := hat.2 hc
            have hm := HJ.out
            have HJ2 := Aside0.mk (show 0 ≤ j - 1 ∧ j - 1 ≤ 99 ∧ (k2 : Int) = j - 1 + 1 ∧ l = 12 - m ∧ m = (cnt xs (j - 1) : Int) by omega)
            by_cases hn : 0 < nt j
            · have hd1 : decide (0 < nt j) = true := decide_eq_true hn
              have hd2 : decide (0 < l) = false := decide_eq_false (fun h9 => hc ⟨hn, by omega⟩)
              clear hat hm hcn
              go_wp2
              go_roundg k2
              case measure => exact m3
              case rel => exact ⟨l, m, j - 1, rfl, rfl, rfl, HJ2, HWW, HXI, HXB, HSZ, HBB⟩
            · have hd1 : decide (0 < nt j) = false := decide_eq_false hn
              clear hat hm hcn
              go_wp2
              go_roundg k2
              case measure => exact m3
              case rel => exact ⟨l, m, j - 1, rfl, rfl, rfl, HJ2, HWW, HXI, HXB, HSZ, HBB⟩
        · have hjb : decide (0 < j) = false := decide_eq_false hj
          have hnm : ((n : Int) != m) = false := by
            have h1 := HJ.out.2.2.2.2
            rw [show j = 0 by omega, cnt_all OI2.out, ← HWW.out.len] at h1
            rw [h1]
            exact bne_self_eq_false _
          go_wp2
          go_roundg k1
          case measure => exact m2
          case rel => exact ⟨n, i + 1, c, A, xs, nt, st, rfl, rfl, M1, OI2, HWW, HXI, HXB, HSZ, HBB⟩
    · obtain ⟨hnt, hs0⟩ := OI.out.fresh hi1 hi2 hn ho
      rw [hq] at hst hbox3 ⊢
      rw [hs0] at hcB
      have hd : decide (0 < nt id) = false := decide_eq_false hnt
      have hf4 : w5.frozen? ⟨g4, id.toNat, none⟩ = false := blk_frozen HX45.out _
      go_wp2_with fail
      refine (noteq_calls xs id (nO (i + 1)) _ _ _ _ _ (HW5.out.set (Nat.lt_trans HG.out.2.1 HG.out.2.2) _ _)).mono ?_
      rintro e w6 ⟨A, c, rfl, hq2, hb6⟩
      obtain ⟨oi2, hl2⟩ := OI.out.note hi1 hi2 hn ho (nO (i + 1)) (show 0 < i + 1 by omega)
      have hI := blk_below (setI HX45.out id (i + 1) pa qa) hb6
      have hB := blk_below (blk_far HX55.out (p := ⟨g4, id.toNat, none⟩) (show g5 ≠ g4 by have := HG.out; omega) (.int .i64 (i + 1))) hb6
      rw [show upd nt id (nO (i + 1)).f3 = upd nt id (i + 1) from rfl] at oi2
      obtain ⟨nt, hnt2⟩ : ∃ f, f = upd nt id (i + 1) := ⟨_, rfl⟩
      rw [← hnt2] at hI oi2
      obtain ⟨xs, hys⟩ : ∃ ys, ys = noteSpec xs id (nO (i + 1)) := ⟨_, rfl⟩
      rw [← hys] at hq2 hl2 oi2 ⊢
      obtain ⟨n, hn2⟩ : ∃ m, m = xs.length := ⟨_, rfl⟩
      rw [← hn2] at hq2 ⊢
      have OI2 := Aside0.mk oi2
      have HXI := Aside0.mk hI
      have HXB := Aside0.mk hB
      have hsz : B0 ≤ (w5.setCell ⟨g4, id.toNat, none⟩ (.int .i64 (i + 1))).heap.size := by simpa using HS5.out
      have HSZ := Aside0.mk (Nat.le_trans hsz hb6.size)
      have HBB := Aside0.mk (below_step (below_set HB5.out HG.out.1) hb6)
      have HWW := Aside0.mk (show Win w6 B0 A n c xs from ⟨Kd.Q_lower hq2 hsz, by omega⟩)
      clear oi2 hI hB hsz hb6 hq2 hl2 hys hnt2 hcI hcB hbox3 hst hf4 hd hnt hs0 hn ho hn2
      go_wp2_with fail
      have HT := Aside0.mk (cnt_top OI2.out)
      go_loopg [10, 11, 12] 100 (fun kq v10 v11 v12 w' => ∃ (l m j : Int), v10 = .int .i64 l ∧ v11 = .int .i64 m ∧ v12 = .int .i64 j ∧ Aside0 (0 ≤ j ∧ j ≤ 99 ∧ (kq : Int) = j + 1 ∧ l = 12 - m ∧ m = (cnt xs j : Int)) ∧ Aside0 (Win w' B0 A n c xs) ∧ Aside0 (w'.heap[g4]? = some (.cells (arrI nt).toArray 25 (0, 0))) ∧ Aside0 (w'.heap[g5]? = some (.cells (arrB st).toArray 26 (0, 0))) ∧ Aside0 (B0 ≤ w'.heap.size) ∧ Aside0 (Below w.heap.size w w'))
      case atStart => exact ⟨12, 0, 99, rfl, rfl, rfl, ⟨⟨by decide, by decide, rfl, rfl, by rw [HT.out]; rfl⟩⟩, HWW, HXI, HXB, HSZ, HBB⟩
      case round =>
        clear HWW HXI HXB HSZ HBB HT
        obtain ⟨l, m, j, rfl, rfl, rfl, HJ, HWW, HXI, HXB, HSZ, HBB⟩ := hrel
        cases gk with
        | zero => exact absurd HJ.out.2.2.1 (by have := HJ.out.1; omega)
        | succ k2 =>
        have pj : 0 ≤ j := HJ.out.1
        have qj : j < 100 := by have := HJ.out.2.1; omega
        by_cases hj : 0 < j
        · have hjb : decide (0 < j) = true := decide_eq_true hj
          have hcI := cellI HXI.out j pj qj
          have hat := OI2.out.at_j j (by omega) HJ.out.2.1
          have hwj : wrap64 (j - 1) = j - 1 := w64 (by omega) (by omega)
          have m3 : k2 < k2 + 1 := Nat.lt_succ_self _
          by_cases hc : 0 < nt j ∧ cnt xs j < 12
          · obtain ⟨⟨a, ha⟩, hcn⟩ := hat.1 hc
            have hm := HJ.out
            have hd1 : decide (0 < nt j) = true := decide_eq_true hc.1
            have hd2 : decide (0 < l) = true := decide_eq_true (by omega)
            have hwl : wrap64 (l - 1) = l - 1 := w64 (by omega) (by omega)
            have hwm : wrap64 (m + 1) = m + 1 := w64 (by omega) (by omega)
            have HJ2 := Aside0.mk (show 0 ≤ j - 1 ∧ j - 1 ≤ 99 ∧ (k2 : Int) = j - 1 + 1 ∧ l - 1 = 12 - (m + 1) ∧ m + 1 = (cnt xs (j - 1) : Int) by omega)
            clear hat hm hcn
            go_wp2_with fail
            refine (ask_calls _ _ _ _ _ _ _ HWW.out).mono ?_
            rintro e w7 ⟨rfl, hb⟩
            rw [ha]
            have HB7 := Aside0.mk hb
            clear hb hcI
            go_wp2_with fail
            go_roundg k2
            case measure => exact m3
            case rel => exact ⟨l - 1, m + 1, j - 1, by first | rfl | rw [hwl], by first | rfl | rw [hwm], by first | rfl | rw [hwj], HJ2, ⟨HWW.out.below HB7.out⟩, ⟨blk_below HXI.out HB7.out⟩, ⟨blk_below HXB.out HB7.out⟩, ⟨Nat.le_trans HSZ.out HB7.out.size⟩, ⟨below_step HBB.out HB7.out⟩⟩
          · have hcn := hat.2 hc
            have hm := HJ.out
            have HJ2 := Aside0.mk (show 0 ≤ j - 1 ∧ j - 1 ≤ 99 ∧ (k2 : Int) = j - 1 + 1 ∧ l = 12 - m ∧ m = (cnt xs (j - 1) : Int) by omega)
            by_cases hn : 0 < nt j
            · have hd1 : decide (0 < nt j) = true := decide_eq_true hn
              have hd2 : decide (0 < l) = false := decide_eq_false (fun h9 => hc ⟨hn, by omega⟩)
              clear hat hm hcn
              go_wp2
              go_roundg k2
              case measure => exact m3
              case rel => exact ⟨l, m, j - 1, rfl, rfl, rfl, HJ2, HWW, HXI, HXB, HSZ, HBB⟩
            · have hd1 : decide (0 < nt j) = false := decide_eq_false hn
              clear hat hm hcn
              go_wp2
              go_roundg k2
              case measure => exact m3
              case rel => exact ⟨l, m, j - 1, rfl, rfl, rfl, HJ2, HWW, HXI, HXB, HSZ, HBB⟩
        · have hjb : decide (0 < j) = false := decide_eq_false hj
          have hnm : ((n : Int) != m) = false := by
            have h1 := HJ.out.2.2.2.2
            rw [show j = 0 by omega, cnt_all OI2.out, ← HWW.out.len] at h1
            rw [h1]
            exact bne_self_eq_false _
          go_wp2
          go_roundg k1
          case measure => exact m2
          case rel => exact ⟨n, i + 1, c, A, xs, nt, st, rfl, rfl, M1, OI2, HWW, HXI, HXB, HSZ, HBB⟩
theorem once_walk (a0 : Option Addr) (len0 cap0 : Nat) (z0 : List Int) (w : World) (w0 : (a0 = none ∧ len0 = 0 ∧ cap0 = 0 ∧ z0 = []) ∨ ∃ x, a0 = some x ∧ len0 ≤ cap0 ∧ cap0 ≤ maxLen ∧ z0.length = cap0 ∧ (∀ i, i < z0.length → w.cell? (x.add i) = some (.int .i64 (z0.getD i 0))) ∧ ∀ n ∈ z0, (Lit.int .i64 n).wf = true) (y0 : len0 * 8 ≤ 140737488351232) :
    Calls Try.prog 3 #[.slice a0 len0 cap0] w fun e w' => e = .returned (.bool true) ∧ Below w.heap.size w w' := by
  obtain ⟨l0, rfl, hr0, hm0, hw0, hc0⟩ := ReadsInt.ofRowC w0
  exact once_calls a0 cap0 l0 w (Kd.C_of_reads (d := (0 : Int)) (h1 := fun _ => rfl) hr0) hc0
end Go.Proofs.Ytndgpncdnbbneaa.Lk
