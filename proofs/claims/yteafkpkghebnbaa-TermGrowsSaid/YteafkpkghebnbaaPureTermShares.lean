/- The plain statement of TermShares: a share is the document's; nothing of no part, all of all; of two parts that make the whole together one unit less at most. For every three whole numbers. -/
import Derived.Test.YteafkpkghebnbaaLaw8
import Derived.Test.YteafkpkghebnbaaXa4
set_option linter.unusedVariables false
set_option linter.unusedSimpArgs false
namespace Go.Proofs.Yteafkpkghebnbaa.Pure
open Go.RowKit Go.Proofs.Yteafkpkghebnbaa.Xa Go.Proofs.YteafkpkghebnbaaW.PrintWords Go.Proofs.YteafkpkghebnbaaW.PrintLast Go.Proofs.Yteafkpkghebnbaa.Cal Go.Proofs.Yteafkpkghebnbaa.Lk
theorem share_bd {n p w : Int} (h0 : 0 ≤ n) (h1 : n ≤ 1000000000) (h2 : 0 ≤ p) (h3 : p ≤ 401) : 0 ≤ n * p ∧ n * p ≤ 401000000000 := by
  have h4 : n * p ≤ 1000000000 * p := Int.mul_le_mul_of_nonneg_right h1 h2
  exact ⟨Int.mul_nonneg h0 h2, by omega⟩
theorem share_f {n p w : Int} (h0 : 0 ≤ n) (h1 : n ≤ 1000000000) (h2 : 0 ≤ p) (h3 : p ≤ 401) (h4 : 1 ≤ w) : term_Share.f n p w = some (n * p / w) := by
  have hb := share_bd (w := w) h0 h1 h2 h3
  unfold term_Share.f
  rw [if_neg (by omega)]
  by_cases hp : p < 1
  · rw [if_pos hp]
    have : p = 0 := by omega
    subst this
    simp
  · rw [if_neg hp, if_neg (by omega), w64 (x := n * p) (by omega) (by omega), td hb.1]
    have h5 : 0 ≤ n * p / w := Int.ediv_nonneg hb.1 (by omega)
    have h6 : n * p / w ≤ n * p := Int.ediv_le_self w hb.1
    rw [w64 (by omega) (by omega)]
theorem rshare_f {n p w : Int} (h0 : 0 ≤ n) (h1 : n ≤ 1000000000) (h2 : 0 ≤ p) (h3 : p ≤ 401) (h4 : 1 ≤ w) : tollref8_Share.f n p w = some (n * p / w) := by
  have hb := share_bd (w := w) h0 h1 h2 h3
  unfold tollref8_Share.f
  rw [if_neg (by omega), if_neg (by omega), w64 (x := n * p) (by omega) (by omega), td hb.1]
  have h5 : 0 ≤ n * p / w := Int.ediv_nonneg hb.1 (by omega)
  have h6 : n * p / w ≤ n * p := Int.ediv_le_self w hb.1
  rw [w64 (by omega) (by omega)]
/-- Two parts of the whole: one unit less at most. -/
theorem two_parts {n p w : Int} (h4 : 1 ≤ w) : n * p / w + n * (w - p) / w ≤ n ∧ n - 1 ≤ n * p / w + n * (w - p) / w := by
  have h1 := Int.mul_ediv_add_emod (n * p) w
  have h2 := Int.mul_ediv_add_emod (n * (w - p)) w
  have h3 := Int.emod_nonneg (n * p) (show w ≠ 0 by omega)
  have h5 := Int.emod_nonneg (n * (w - p)) (show w ≠ 0 by omega)
  have h6 := Int.emod_lt_of_pos (n * p) (show 0 < w by omega)
  have h7 := Int.emod_lt_of_pos (n * (w - p)) (show 0 < w by omega)
  have h8 : n * (w - p) = n * w - n * p := Int.mul_sub n w p
  generalize n * p / w = a at *
  generalize n * (w - p) / w = b at *
  have h9 : w * (n - (a + b)) = n * p % w + n * (w - p) % w := by
    rw [Int.mul_sub, Int.mul_add, Int.mul_comm w n]
    omega
  constructor
  · by_cases hc : a + b ≤ n
    · exact hc
    · have : w * (n - (a + b)) ≤ w * (-1) := Int.mul_le_mul_of_nonneg_left (by omega) (by omega)
      omega
  · by_cases hc : n - 1 ≤ a + b
    · exact hc
    · have : w * 2 ≤ w * (n - (a + b)) := Int.mul_le_mul_of_nonneg_left (by omega) (by omega)
      omega
theorem share_bds {n p w : Int} (h0 : 0 ≤ n) (h1 : n ≤ 1000000000) (h2 : 0 ≤ p) (h3 : p ≤ 401) (h4 : 1 ≤ w) : 0 ≤ n * p / w ∧ n * p / w ≤ 401000000000 := by
  have hb := share_bd (w := w) h0 h1 h2 h3
  have h5 : 0 ≤ n * p / w := Int.ediv_nonneg hb.1 (by omega)
  have h6 : n * p / w ≤ n * p := Int.ediv_le_self w hb.1
  omega
theorem TermShares : tolllaw8_TermShares.Pure := by
  intro a0 a1 a2 _ _ _
  obtain ⟨n, h1, h2, h3⟩ := within_f a0 1000000001 (by omega) (by omega)
  obtain ⟨w, h4, h5, h6⟩ := within_f a2 400 (by omega) (by omega)
  obtain ⟨p, h7, h8, h9⟩ := within_f a1 (1 + w + 1) (by omega) (by omega)
  refine Ev.rounds ?_
  unfold tolllaw8_TermShares.f
  refine Ev.bind known_f (Ev.ite_pos rfl ?_)
  refine Ev.bindc h1 (Ev.bindc h4 ?_)
  rw [w64 (x := 1 + w) (by omega) (by omega), w64 (x := 1 + w + 1) (by omega) (by omega)]
  refine Ev.bindc h7 ?_
  rw [w64 (x := 1 + w - p) (by omega) (by omega)]
  refine Ev.bindc (share_f (by omega) (by omega) (by omega) (by omega) (by omega)) ?_
  refine Ev.bindc (share_f (by omega) (by omega) (by omega) (by omega) (by omega)) ?_
  refine Ev.bindc (rshare_f (by omega) (by omega) (by omega) (by omega) (by omega)) ?_
  refine Ev.ite_pos rfl ?_
  refine Ev.bindc (share_f (p := 0) (by omega) (by omega) (by omega) (by omega) (by omega)) ?_
  refine Ev.ite_pos (by simp) ?_
  refine Ev.bindc (share_f (p := 1 + w) (by omega) (by omega) (by omega) (by omega) (by omega)) ?_
  refine Ev.ite_pos (Int.mul_ediv_cancel n (by omega)) ?_
  have ht := two_parts (n := n) (p := p) (w := 1 + w) (by omega)
  rw [w64 (x := n - 1) (by omega) (by omega), w64 (by omega) (by omega)]
  refine Ev.ite_pos ht.1 ?_
  exact Ev.const (by rw [decide_eq_true ht.2])
end Go.Proofs.Yteafkpkghebnbaa.Pure
