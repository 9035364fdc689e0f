/- cmp.Compare, cmp.Or; the closure by which lots are ordered. -/
import Derived.Test.YtjoimapgmocoeaaJ1
import Derived.StillTailTactics
import Derived.Shelf.Abstract
set_option linter.unusedVariables false
set_option linter.unusedSimpArgs false
namespace Go.Proofs.Ytjoimapgmocoeaa.Lk
open Go.RowKit Go.Proofs.YtjoimapgmocoeaaW.PrintWords Go.Proofs.YtjoimapgmocoeaaW.PrintWords.Kd Go.Proofs.YtjoimapgmocoeaaW.PrintLast Go.Proofs.YtjoimapgmocoeaaW.PrintMore Go.Proofs.Ytjoimapgmocoeaa.Xa
def cmpI (a b : Int) : Int := if a < b then -1 else if b < a then 1 else 0
theorem nan_calls (a : Int) (w : World) : Calls Try.prog 40 #[.int .i64 a] w fun e w' => e = .returned (.bool false) ∧ w = w' := by
  have h : (a != a) = false := bne_self_eq_false _
  go_enter Try.func40, Try.ntmps40
  go_wp2
  go_ret
  exact ⟨rfl, rfl⟩
theorem compare_calls (a b : Int) (w : World) : Calls Try.prog 37 #[.int .i64 a, .int .i64 b] w fun e w' => e = .returned (.int .i64 (cmpI a b)) ∧ w' = w := by
  rcases Int.lt_trichotomy a b with h | h | h
  · have h1 : decide (a < b) = true := decide_eq_true h
    have HR : Aside0 (cmpI a b = -1) := ⟨by unfold cmpI; rw [if_pos h]⟩
    go_enter Try.func37, Try.ntmps37
    go_wp2_with (refine (nan_calls _ _).mono ?_; rintro e w' ⟨rfl, rfl⟩)
    go_ret
    exact ⟨by rw [HR.out]; rfl, rfl⟩
  · have h1 : decide (a < b) = false := decide_eq_false (by omega)
    have h2 : decide (b < a) = false := decide_eq_false (by omega)
    have HR : Aside0 (cmpI a b = 0) := ⟨by unfold cmpI; rw [if_neg (by omega), if_neg (by omega)]⟩
    clear h
    go_enter Try.func37, Try.ntmps37
    go_wp2_with (refine (nan_calls _ _).mono ?_; rintro e w' ⟨rfl, rfl⟩)
    go_ret
    exact ⟨by rw [HR.out]; rfl, rfl⟩
  · have h1 : decide (a < b) = false := decide_eq_false (by omega)
    have h2 : decide (b < a) = true := decide_eq_true h
    have HR : Aside0 (cmpI a b = 1) := ⟨by unfold cmpI; rw [if_neg (by omega), if_pos h]⟩
    go_enter Try.func37, Try.ntmps37
    go_wp2_with (refine (nan_calls _ _).mono ?_; rintro e w' ⟨rfl, rfl⟩)
    go_ret
    exact ⟨by rw [HR.out]; rfl, rfl⟩
def orI (a b : Int) : Int := if a = 0 then b else a
theorem or_calls (a b : Int) (g : Nat) (w : World) (h0 : w.cell? ⟨g, 0, none⟩ = some (.int .i64 a)) (h1 : w.cell? ⟨g, 1, none⟩ = some (.int .i64 b)) :
    Calls Try.prog 36 #[.slice (some ⟨g, 0, none⟩) 2 2] w fun e w' => e = .returned (.int .i64 (orI a b)) ∧ w = w' := by
  by_cases ha : a = 0
  · have hb0 : (a != 0) = false := by rw [ha]; rfl
    by_cases hb : b = 0
    · have hb1 : (b != 0) = false := by rw [hb]; rfl
      have HR : Aside0 (orI a b = 0) := ⟨by unfold orI; rw [if_pos ha, hb]⟩
      clear ha hb
      go_enter Try.func36, Try.ntmps36
      go_wp2_with fail
      go_loopg [8] 3 (fun kq v8 w' => ∃ i : Nat, v8 = .int .i64 i ∧ w = w' ∧ kq + i = 3)
      case atStart => exact ⟨0, rfl, rfl, rfl⟩
      case round =>
        obtain ⟨i, rfl, rfl, hi⟩ := hrel
        have hi2 : i = 0 ∨ i = 1 ∨ i = 2 ∨ i = 3 := by omega
        rcases hi2 with rfl | rfl | rfl | rfl
        · obtain rfl : gk = 3 := by omega
          go_wp2_with fail
          go_roundg 2
          case measure => omega
          case rel => exact ⟨1, rfl, rfl, rfl⟩
        · obtain rfl : gk = 2 := by omega
          go_wp2_with fail
          go_roundg 1
          case measure => omega
          case rel => exact ⟨2, rfl, rfl, rfl⟩
        · go_wp2
          go_ret
          exact ⟨by rw [HR.out]; rfl, rfl⟩
        · go_wp2
          go_ret
          exact ⟨by rw [HR.out]; rfl, rfl⟩
    · have hb1 : (b != 0) = true := by simpa using hb
      have HR : Aside0 (orI a b = b) := ⟨by unfold orI; rw [if_pos ha]⟩
      clear ha hb
      go_enter Try.func36, Try.ntmps36
      go_wp2_with fail
      go_loopg [8] 3 (fun kq v8 w' => ∃ i : Nat, v8 = .int .i64 i ∧ w = w' ∧ kq + i = 3 ∧ i ≤ 1)
      case atStart => exact ⟨0, rfl, rfl, rfl, Nat.zero_le _⟩
      case round =>
        obtain ⟨i, rfl, rfl, hi, hi1⟩ := hrel
        have hi2 : i = 0 ∨ i = 1 := by omega
        rcases hi2 with rfl | rfl
        · obtain rfl : gk = 3 := by omega
          go_wp2_with fail
          go_roundg 2
          case measure => omega
          case rel => exact ⟨1, rfl, rfl, rfl, Nat.le_refl _⟩
        · obtain rfl : gk = 2 := by omega
          go_wp2_with fail
          go_ret
          exact ⟨by rw [HR.out]; rfl, rfl⟩
  · have hb0 : (a != 0) = true := by simpa using ha
    have HR : Aside0 (orI a b = a) := ⟨by unfold orI; rw [if_neg ha]⟩
    clear ha
    go_enter Try.func36, Try.ntmps36
    go_wp2_with fail
    go_loopg [8] 3 (fun kq v8 w' => v8 = .int .i64 0 ∧ w = w')
    case atStart => exact ⟨rfl, rfl⟩
    case round =>
      obtain ⟨rfl, rfl⟩ := hrel
      go_wp2_with fail
      go_ret
      exact ⟨by rw [HR.out]; rfl, rfl⟩
/-- What the closure answers. -/
def cmpL (l : List SL) (a b : Int) : Int := orI (cmpI (l.getD a.toNat zL).f3 (l.getD b.toNat zL).f3) (cmpI (l.getD a.toNat zL).f0 (l.getD b.toNat zL).f0)
theorem cmpL_lt (l : List SL) (a b : Int) : decide (cmpL l a b < 0) = ltL l a b := by
  unfold cmpL ltL orI cmpI
  by_cases h1 : (l.getD a.toNat zL).f3 < (l.getD b.toNat zL).f3
  · rw [if_pos h1, if_pos h1, if_neg (by decide)]
    decide
  · rw [if_neg h1, if_neg h1]
    by_cases h2 : (l.getD b.toNat zL).f3 < (l.getD a.toNat zL).f3
    · rw [if_pos h2, if_pos h2, if_neg (by decide)]
      decide
    · rw [if_neg h2, if_neg h2, if_pos rfl]
      by_cases h3 : (l.getD a.toNat zL).f0 < (l.getD b.toNat zL).f0
      · rw [if_pos h3, decide_eq_true h3]
        decide
      · rw [if_neg h3, decide_eq_false h3]
        by_cases h4 : (l.getD b.toNat zL).f0 < (l.getD a.toNat zL).f0
        · rw [if_pos h4]
          decide
        · rw [if_neg h4]
          decide
abbrev kL := k33
set_option maxHeartbeats 4000000 in
theorem cmp_calls (A : Option Addr) (c : Nat) (l : List SL) (b2 : Nat) (i j : Int) (W : World) (hi0 : 0 ≤ i) (hi1 : i < (l.length : Int)) (hj0 : 0 ≤ j) (hj1 : j < (l.length : Int)) (hC : Kd.C kL W A l.length l) (hb : W.cell? ⟨b2, 0, none⟩ = some (.slice A l.length c)) :
    Calls Try.prog 35 #[.int .i64 i, .int .i64 j, .pointer (some ⟨b2, 0, none⟩)] W fun e w' => e = .returned (.int .i64 (cmpL l i j)) ∧ Below W.heap.size W w' := by
  obtain ⟨ad, rfl, hx0, _, _, hx3, _⟩ := at_T33 hC i hi0 hi1
  obtain ⟨ad', e, hy0, _, _, hy3, _⟩ := at_T33 hC j hj0 hj1
  cases e
  have HR : Aside0 (cmpL l i j = orI (cmpI (rd_T33 l i).f3 (rd_T33 l j).f3) (cmpI (rd_T33 l i).f0 (rd_T33 l j).f0)) := ⟨rfl⟩
  clear hC
  go_enter Try.func35, Try.ntmps35
  go_wp2_with fail
  refine wp_region_still_tail 22 (by kernel_rfl) (by kernel_rfl) ?_
  simp only [List.take_succ_cons, List.take_zero, List.drop_succ_cons, List.drop_zero]
  repeat (first | still_step | (still_call (compare_calls _ _ _)))
  refine wpStill_nil ?_
  change wpList _ _ _ _ _ W.drew
  obtain ⟨w2, hw2⟩ : ∃ w2, w2 = W.drew := ⟨_, rfl⟩
  rw [← hw2]
  have HB : Aside0 (Below W.heap.size W w2) := ⟨by rw [hw2]; exact pw_below_drewN (Below.refl _ _) 1⟩
  clear hw2 hx0 hx3 hy0 hy3
  go_wp2_with fail
  refine (or_calls _ _ w2.heap.size _ (by rw [cell_of_row _ _ _ _ _ (0, 0) (blk_new w2 _)]; rfl) (by rw [cell_of_row _ _ _ _ _ (0, 0) (blk_new w2 _)]; rfl)).mono ?_
  rintro e w3 ⟨rfl, rfl⟩
  go_wp2
  go_ret
  exact ⟨by rw [HR.out]; rfl, below_alloc HB.out _⟩
end Go.Proofs.Ytjoimapgmocoeaa.Lk
