/- What the reference's chapter 7 computes, over the printed functions: Length, before, Of, Number. -/
import Derived.Test.YteafkpkghebnbaaCivil
import Derived.Test.YteafkpkghebnbaaXa2
import Derived.Test.YteafkpkghebnbaaXa3
import Derived.Test.YteafkpkghebnbaaXa4
set_option linter.unusedVariables false
set_option linter.unusedSimpArgs false
namespace Go.Proofs.Yteafkpkghebnbaa.Lk
open Go.RowKit Go.Proofs.Yteafkpkghebnbaa.Xa Go.Proofs.YteafkpkghebnbaaW.PrintWords Go.Proofs.YteafkpkghebnbaaW.PrintLast Go.Proofs.Yteafkpkghebnbaa.Cal
theorem rleap_f (y : Int) (h : 0 ≤ y) : tollref7_Leap.f y = some (decide (lp y = 1)) := by
  unfold tollref7_Leap.f lp
  simp only [tm h]
  by_cases h4 : y % 4 = 0
  · by_cases h100 : y % 100 = 0
    · by_cases h400 : y % 400 = 0 <;> simp [h4, h100, h400]
    · simp [h4, h100]
  · simp [h4]
theorem rlength_j0 (y m : Int) (h : 0 ≤ y) (h0 : 1 ≤ m) (h1 : m ≤ 12) (b : Bool) (hb : b = decide (m = 4 ∨ m = 6 ∨ m = 9 ∨ m = 11)) : Ev (fun k => tollref7_Length.j0 k y m m b) (dim y m) := by
  refine Ev.step (fun k => by simp only [tollref7_Length.j0]; rfl) ?_
  refine Ev.const ?_
  subst hb
  unfold dim
  rw [rleap_f y h]
  by_cases h2 : m = 2
  · subst h2
    have := lp_01 y
    by_cases hl : lp y = 1
    · simp [hl]
    · have : lp y = 0 := by omega
      simp [this]
  · rw [if_neg h2, if_neg h2]
    by_cases h3 : m = 4 ∨ m = 6 ∨ m = 9 ∨ m = 11
    · rw [if_pos (by simpa using h3), if_pos h3]
    · rw [if_neg (by simpa using h3), if_neg h3, if_neg (by omega), if_neg (by omega)]
theorem rlength_f (y m : Int) (h : 0 ≤ y) (h0 : 1 ≤ m) (h1 : m ≤ 12) : Ev (fun k => tollref7_Length.f k y m) (dim y m) := by
  unfold tollref7_Length.f
  by_cases h4 : m = 4
  · exact Ev.ite_pos h4 (rlength_j0 y m h h0 h1 _ (by subst h4; rfl))
  refine Ev.ite_neg h4 ?_
  by_cases h6 : m = 6
  · exact Ev.ite_pos h6 (rlength_j0 y m h h0 h1 _ (by subst h6; rfl))
  refine Ev.ite_neg h6 ?_
  by_cases h9 : m = 9
  · exact Ev.ite_pos h9 (rlength_j0 y m h h0 h1 _ (by subst h9; rfl))
  refine Ev.ite_neg h9 ?_
  exact rlength_j0 y m h h0 h1 _ (by by_cases h11 : m = 11 <;> simp [h4, h6, h9, h11])
theorem before_f (y : Int) (h0 : 1 ≤ y) (h1 : y ≤ 10001) : tollref7_before.f y = some (ah y) := by
  unfold tollref7_before.f ah
  rw [w64 (x := y - 1) (by omega) (by omega), td (y := 4) (by omega), td (y := 100) (by omega), td (y := 400) (by omega)]
  rw [w64 (x := 365 * (y - 1)) (by omega) (by omega), w64 (x := (y - 1) / 4) (by omega) (by omega), w64 (x := (y - 1) / 100) (by omega) (by omega), w64 (x := (y - 1) / 400) (by omega) (by omega)]
  rw [w64 (x := 365 * (y - 1) + (y - 1) / 4) (by omega) (by omega), w64 (x := 365 * (y - 1) + (y - 1) / 4 - (y - 1) / 100) (by omega) (by omega), w64 (by omega) (by omega)]
theorem rof_l1 (y M d : Int) (h : Date y M d) (j : Nat) : ∀ (m n : Int), 1 ≤ m → m + j = M → n = cum y M - cum y m + d - 1 → Ev (fun k => tollref7_Of.l1 k y n m) (y, M, d, 0) := by
  obtain ⟨a, b, c, e, f, g⟩ := h
  have hd := dim_bd y M
  induction j with
  | zero =>
    intro m n h0 hm hn
    obtain rfl : m = M := by omega
    refine Ev.step (fun k => by simp only [tollref7_Of.l1]; rfl) ?_
    refine Ev.bind (rlength_f y m (by omega) (by omega) (by omega)) ?_
    refine Ev.ite_neg (by omega) ?_
    rw [w64 (by omega) (by omega)]
    exact Ev.const (by rw [show n + 1 = d by omega])
  | succ j ih =>
    intro m n h0 hm hn
    have h1 := cum_succ y m (by omega) (by omega)
    have h2 := cum_mono y m M (by omega) (by omega) (by omega)
    have h3 := cum_bd y M (by omega) (by omega)
    have h4 := cum_bd y m (by omega) (by omega)
    have h5 := dim_bd y m
    refine Ev.step (fun k => by simp only [tollref7_Of.l1]; rfl) ?_
    refine Ev.bind (rlength_f y m (by omega) (by omega) (by omega)) ?_
    refine Ev.ite_pos (by omega) ?_
    refine Ev.bind (rlength_f y m (by omega) (by omega) (by omega)) ?_
    rw [w64 (x := n - dim y m) (by omega) (by omega), w64 (x := m + 1) (by omega) (by omega)]
    exact ih (m + 1) _ (by omega) (by omega) (by omega)
theorem rof_l0 (y m d n : Int) (h : Date y m d) (hn : n = num y m d + 719162) (j : Nat) : ∀ (t : Int), 1 ≤ t → t + j = y → Ev (fun k => tollref7_Of.l0 k n t) (y, m, d, 0) := by
  have hy := year_of h
  have hr := num_range h
  have h9 := h.y2
  have h1 := h.y1
  induction j with
  | zero =>
    intro t h0 ht
    obtain rfl : t = y := by omega
    have hb := ah_bd (y := t) (by omega) (by omega)
    refine Ev.step (fun k => by simp only [tollref7_Of.l0]; rfl) ?_
    rw [w64 (x := t + 1) (by omega) (by omega)]
    refine Ev.bindc (before_f _ (by omega) (by omega)) ?_
    refine Ev.ite_neg (by omega) ?_
    refine Ev.bindc (before_f _ (by omega) (by omega)) ?_
    rw [w64 (by omega) (by omega)]
    have hm := h.m1
    refine rof_l1 t m d h (m - 1).toNat 1 _ (by omega) (by omega) ?_
    rw [cum_one]
    unfold num at hn
    omega
  | succ j ih =>
    intro t h0 ht
    have hb := ah_mono (a := t + 1) (b := y) (by omega)
    refine Ev.step (fun k => by simp only [tollref7_Of.l0]; rfl) ?_
    rw [w64 (x := t + 1) (by omega) (by omega)]
    refine Ev.bindc (before_f _ (by omega) (by omega)) ?_
    refine Ev.ite_pos (by omega) ?_
    exact ih (t + 1) (by omega) (by omega)
theorem rof_out (n : Int) (h : n < -719162 ∨ 2932896 < n) : Ev (fun k => tollref7_Of.f k n) (0, 0, 0, 1) := by
  have hj : Ev (fun k => tollref7_Of.j0 k n true) (0, 0, 0, 1) := by
    refine Ev.step (fun k => by simp only [tollref7_Of.j0]; rfl) ?_
    exact Ev.ite_pos (by decide) (Ev.now _)
  unfold tollref7_Of.f
  by_cases h1 : n < -719162
  · exact Ev.ite_pos h1 hj
  · refine Ev.ite_neg h1 ?_
    refine Ev.bindc (before_f 10000 (by omega) (by omega)) ?_
    have h7 : ah 10000 = 3652059 := by decide
    rw [h7, decide_eq_true (show n ≥ wrap64 (3652059 - 719162) by rw [w64 (by omega) (by omega)]; omega)]
    exact hj
theorem rguess (n y : Int) (h0 : 0 ≤ n) (h : n < ah (y + 1)) : 1 ≤ n / 366 + 1 ∧ n / 366 + 1 ≤ y := by
  refine ⟨by omega, ?_⟩
  have h1 : ah (n / 366 + 1) ≤ n := by unfold ah; omega
  by_cases hl : n / 366 + 1 ≤ y
  · exact hl
  · have := ah_mono (a := y + 1) (b := n / 366 + 1) (by omega)
    omega
theorem rof_f (y m d : Int) (h : Date y m d) : Ev (fun k => tollref7_Of.f k (num y m d)) (y, m, d, 0) := by
  have hr := num_range h
  have hy := year_of h
  have hg := rguess (num y m d + 719162) y (by omega) (by omega)
  unfold tollref7_Of.f
  refine Ev.ite_neg (by omega) ?_
  refine Ev.bindc (before_f 10000 (by omega) (by omega)) ?_
  have h7 : ah 10000 = 3652059 := by decide
  rw [h7, decide_eq_false (show ¬ num y m d ≥ wrap64 (3652059 - 719162) by rw [w64 (by omega) (by omega)]; omega)]
  refine Ev.step (fun k => by simp only [tollref7_Of.j0]; rfl) ?_
  refine Ev.ite_neg (by decide) ?_
  rw [w64 (x := num y m d + 719162) (by omega) (by omega), td (by omega), w64 (x := (num y m d + 719162) / 366) (by omega) (by omega), w64 (by omega) (by omega)]
  exact rof_l0 y m d _ h rfl (y - ((num y m d + 719162) / 366 + 1)).toNat _ hg.1 (by omega)
theorem rnumber_l0 (y M d : Int) (h : Date y M d) (j : Nat) : ∀ (m n : Int), 1 ≤ m → m + j = M → n = -719162 + ah y + cum y m + d - 1 → Ev (fun k => tollref7_Number.l0 k n m y M d) (num y M d, 0) := by
  have hr := num_range h
  obtain ⟨a, b, c, e, f, g⟩ := h
  have hb := ah_bd a (by omega)
  have hd := dim_bd y M
  induction j with
  | zero =>
    intro m n h0 hm hn
    obtain rfl : m = M := by omega
    refine Ev.step (fun k => by simp only [tollref7_Number.l0]; rfl) ?_
    refine Ev.ite_neg (by omega) ?_
    exact Ev.const (by rw [show n = num y m d by unfold num; omega])
  | succ j ih =>
    intro m n h0 hm hn
    have h1 := cum_succ y m (by omega) (by omega)
    have h4 := cum_bd y m (by omega) (by omega)
    have h5 := dim_bd y m
    refine Ev.step (fun k => by simp only [tollref7_Number.l0]; rfl) ?_
    refine Ev.ite_pos (by omega) ?_
    refine Ev.bind (rlength_f y m (by omega) (by omega) (by omega)) ?_
    rw [w64 (x := n + dim y m) (by omega) (by omega), w64 (x := m + 1) (by omega) (by omega)]
    exact ih (m + 1) _ (by omega) (by omega) (by omega)
theorem rnumber_f (y m d : Int) (h : Date y m d) : Ev (fun k => tollref7_Number.f k y m d) (num y m d, 0) := by
  have hh := h
  obtain ⟨a, b, c, e, f, g⟩ := h
  have hd := dim_bd y m
  have hb := ah_bd a (by omega)
  unfold tollref7_Number.f
  refine Ev.ite_neg (by omega) (Ev.ite_neg (by omega) (Ev.ite_neg (by omega) (Ev.ite_neg (by omega) (Ev.ite_neg (by omega) ?_))))
  refine Ev.bind (rlength_f y m (by omega) c e) ?_
  rw [decide_eq_false (by omega : ¬ d > dim y m)]
  refine Ev.step (fun k => by simp only [tollref7_Number.j0]; rfl) ?_
  refine Ev.ite_neg (by decide) ?_
  refine Ev.bindc (before_f y a (by omega)) ?_
  rw [w64 (x := ah y - 719162) (by omega) (by omega), w64 (x := ah y - 719162 + d) (by omega) (by omega), w64 (by omega) (by omega)]
  exact rnumber_l0 y m d hh (m - 1).toNat 1 _ (by omega) (by omega) (by rw [cum_one]; omega)
theorem rnumber_out (y m d : Int) (h : y < 1 ∨ 9999 < y) : Ev (fun k => tollref7_Number.f k y m d) (0, 1) := by
  have hj : Ev (fun k => tollref7_Number.j0 k true y m d) (0, 1) := by
    refine Ev.step (fun k => by simp only [tollref7_Number.j0]; rfl) ?_
    exact Ev.ite_pos (by decide) (Ev.now _)
  unfold tollref7_Number.f
  by_cases h1 : y < 1
  · exact Ev.ite_pos h1 hj
  · exact Ev.ite_neg h1 (Ev.ite_pos (by omega) hj)
end Go.Proofs.Yteafkpkghebnbaa.Lk
