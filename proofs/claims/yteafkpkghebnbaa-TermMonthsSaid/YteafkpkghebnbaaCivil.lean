/- What the program's package civil computes, over the printed functions: Length, ahead, Of, Number. -/
import Derived.Test.YteafkpkghebnbaaCal
import Derived.Test.YteafkpkghebnbaaXa1
set_option linter.unusedVariables false
set_option linter.unusedSimpArgs false
namespace Go.Proofs.Yteafkpkghebnbaa.Lk
open Go.RowKit Go.Proofs.Yteafkpkghebnbaa.Xa Go.Proofs.YteafkpkghebnbaaW.PrintWords Go.Proofs.YteafkpkghebnbaaW.PrintLast Go.Proofs.Yteafkpkghebnbaa.Cal
theorem w64 {x : Int} (h0 : -9223372036854775808 ≤ x) (h1 : x ≤ 9223372036854775807) : wrap64 x = x := by unfold wrap64; omega
theorem td {x y : Int} (h0 : 0 ≤ x) : Int.tdiv x y = x / y := Int.tdiv_eq_ediv_of_nonneg h0
theorem tm {x y : Int} (h0 : 0 ≤ x) : Int.tmod x y = x % y := Int.tmod_eq_emod_of_nonneg h0
theorem Ev.eq {α : Type} {g : Nat → Option α} {r r' : α} (h : Ev g r) (e : r = r') : Ev g r' := e ▸ h
theorem Ev.const {α : Type} {o : Option α} {r : α} (h : o = some r) : Ev (fun _ => o) r := ⟨0, fun _ _ => h⟩
theorem Ev.ite_pos {α : Type} {c : Prop} [Decidable c] {f g : Nat → Option α} {r : α} (hc : c) (h : Ev f r) : Ev (fun k => if c then f k else g k) r := by
  obtain ⟨K, hK⟩ := h
  exact ⟨K, fun k hk => by show (if c then f k else g k) = _; rw [if_pos hc]; exact hK k hk⟩
theorem Ev.ite_neg {α : Type} {c : Prop} [Decidable c] {f g : Nat → Option α} {r : α} (hc : ¬ c) (h : Ev g r) : Ev (fun k => if c then f k else g k) r := by
  obtain ⟨K, hK⟩ := h
  exact ⟨K, fun k hk => by show (if c then f k else g k) = _; rw [if_neg hc]; exact hK k hk⟩
/-- A call that needs no rounds, ahead of one that does. -/
theorem Ev.bindc {α β : Type} {o : Option α} {f : Nat → α → Option β} {a : α} {r : β} (h : o = some a) (k : Ev (fun n => f n a) r) : Ev (fun n => o.bind (f n)) r := by
  subst h
  exact k
theorem leap_f (y : Int) (h : 0 ≤ y) : civil_Leap.f y = some (decide (lp y = 1)) := by
  unfold civil_Leap.f lp
  simp only [tm h]
  by_cases h4 : y % 4 = 0
  · by_cases h100 : y % 100 = 0
    · by_cases h400 : y % 400 = 0 <;> simp [h4, h100, h400]
    · simp [h4, h100]
  · have : ¬ y % 400 = 0 := by omega
    simp [h4, this]
theorem length_f (y m : Int) (h : 0 ≤ y) (h0 : 1 ≤ m) (h1 : m ≤ 12) : civil_Length.f y m = some (dim y m) := by
  unfold civil_Length.f dim
  rw [if_neg (by omega), if_neg (by omega), leap_f y h]
  by_cases h2 : m = 2
  · rw [if_pos h2, if_pos h2]
    have := lp_01 y
    by_cases hl : lp y = 1
    · simp [hl]
    · have : lp y = 0 := by omega
      simp [this]
  · rw [if_neg h2, if_neg h2]
    split <;> rfl
theorem length_out (y m : Int) (h0 : m < 1 ∨ 12 < m) : civil_Length.f y m = some 0 := by
  unfold civil_Length.f
  by_cases h1 : m < 1
  · rw [if_pos h1]
  · rw [if_neg h1, if_pos (by omega)]
theorem ahead_f (y : Int) (h0 : 1 ≤ y) (h1 : y ≤ 10001) : civil_ahead.f y = some (ah y) := by
  unfold civil_ahead.f ah
  rw [w64 (x := y - 1) (by omega) (by omega), td (y := 4) (by omega), td (y := 100) (by omega), td (y := 400) (by omega)]
  rw [w64 (x := 365 * (y - 1)) (by omega) (by omega), w64 (x := (y - 1) / 4) (by omega) (by omega), w64 (x := (y - 1) / 100) (by omega) (by omega), w64 (x := (y - 1) / 400) (by omega) (by omega)]
  rw [w64 (x := 365 * (y - 1) + (y - 1) / 4) (by omega) (by omega), w64 (x := 365 * (y - 1) + (y - 1) / 4 - (y - 1) / 100) (by omega) (by omega), w64 (by omega) (by omega)]
theorem of_l1 (y M d : Int) (h : Date y M d) (j : Nat) : ∀ (m n x : Int), 1 ≤ m → m + j = M → n = cum y M - cum y m + d - 1 → Ev (fun k => civil_Of.l1 k n y m x) (y, M, d, 0) := by
  obtain ⟨a, b, c, e, f, g⟩ := h
  have hd := dim_bd y M
  induction j with
  | zero =>
    intro m n x h0 hm hn
    obtain rfl : m = M := by omega
    refine Ev.step (fun k => by simp only [civil_Of.l1]; rfl) ?_
    refine Ev.bindc (length_f y m (by omega) (by omega) (by omega)) ?_
    refine Ev.ite_neg (by omega) ?_
    rw [w64 (by omega) (by omega)]
    exact Ev.const (by rw [show n + 1 = d by omega])
  | succ j ih =>
    intro m n x h0 hm hn
    have h1 := cum_succ y m (by omega) (by omega)
    have h2 := cum_mono y m M (by omega) (by omega) (by omega)
    have h3 := cum_bd y M (by omega) (by omega)
    have h4 := cum_bd y m (by omega) (by omega)
    have h5 := dim_bd y m
    refine Ev.step (fun k => by simp only [civil_Of.l1]; rfl) ?_
    refine Ev.bindc (length_f y m (by omega) (by omega) (by omega)) ?_
    refine Ev.ite_pos (by omega) ?_
    refine Ev.bindc (length_f y m (by omega) (by omega) (by omega)) ?_
    rw [w64 (x := n - dim y m) (by omega) (by omega), w64 (x := m + 1) (by omega) (by omega)]
    exact ih (m + 1) _ x (by omega) (by omega) (by omega)
theorem of_l0 (y m d n : Int) (h : Date y m d) (hn : n = num y m d + 719162) (j : Nat) : ∀ (t : Int), 1 ≤ t → t + j = y → Ev (fun k => civil_Of.l0 k n t 1 0) (y, m, d, 0) := by
  have hy := year_of h
  have hr := num_range h
  have h9 := h.y2
  have h1 := h.y1
  induction j with
  | zero =>
    intro t h0 ht
    obtain rfl : t = y := by omega
    have hb := ah_bd (y := t) (by omega) (by omega)
    refine Ev.step (fun k => by simp only [civil_Of.l0]; rfl) ?_
    rw [w64 (x := t + 1) (by omega) (by omega)]
    refine Ev.bindc (ahead_f _ (by omega) (by omega)) ?_
    refine Ev.ite_neg (by omega) ?_
    refine Ev.bindc (ahead_f _ (by omega) (by omega)) ?_
    rw [w64 (by omega) (by omega)]
    have hm := h.m1
    refine of_l1 t m d h (m - 1).toNat 1 _ 0 (by omega) (by omega) ?_
    rw [cum_one]
    unfold num at hn
    omega
  | succ j ih =>
    intro t h0 ht
    have hb := ah_mono (a := t + 1) (b := y) (by omega)
    refine Ev.step (fun k => by simp only [civil_Of.l0]; rfl) ?_
    rw [w64 (x := t + 1) (by omega) (by omega)]
    refine Ev.bindc (ahead_f _ (by omega) (by omega)) ?_
    refine Ev.ite_pos (by omega) ?_
    exact ih (t + 1) (by omega) (by omega)
theorem of_out (n : Int) (h : n < -719162 ∨ 2932896 < n) : Ev (fun k => civil_Of.f k n) (0, 0, 0, 1) := by
  have hj : Ev (fun k => civil_Of.j0 k n true) (0, 0, 0, 1) := by
    refine Ev.step (fun k => by simp only [civil_Of.j0]; rfl) ?_
    exact Ev.ite_pos (by decide) (Ev.now _)
  unfold civil_Of.f
  by_cases h1 : n < -719162
  · exact Ev.ite_pos h1 hj
  · refine Ev.ite_neg h1 ?_
    rw [decide_eq_true (by omega : n > 2932896)]
    exact hj
theorem guess (n y : Int) (h0 : 0 ≤ n) (h : n < ah (y + 1)) : 1 ≤ 400 * (n / 146097) + n % 146097 / 366 + 1 ∧ 400 * (n / 146097) + n % 146097 / 366 + 1 ≤ y := by
  refine ⟨by omega, ?_⟩
  have h1 : ah (400 * (n / 146097) + n % 146097 / 366 + 1) ≤ n := by unfold ah; omega
  by_cases hl : 400 * (n / 146097) + n % 146097 / 366 + 1 ≤ y
  · exact hl
  · have := ah_mono (a := y + 1) (b := 400 * (n / 146097) + n % 146097 / 366 + 1) (by omega)
    omega
theorem of_f (y m d : Int) (h : Date y m d) : Ev (fun k => civil_Of.f k (num y m d)) (y, m, d, 0) := by
  have hr := num_range h
  have hy := year_of h
  have hg := guess (num y m d + 719162) y (by omega) (by omega)
  unfold civil_Of.f
  refine Ev.ite_neg (by omega) ?_
  rw [decide_eq_false (by omega : ¬ num y m d > 2932896)]
  refine Ev.step (fun k => by simp only [civil_Of.j0]; rfl) ?_
  refine Ev.ite_neg (by decide) ?_
  rw [w64 (x := num y m d + 719162) (by omega) (by omega)]
  rw [td (x := num y m d + 719162) (by omega), tm (x := num y m d + 719162) (by omega), w64 (x := (num y m d + 719162) / 146097) (by omega) (by omega), td (x := (num y m d + 719162) % 146097) (by omega), w64 (x := 400 * ((num y m d + 719162) / 146097)) (by omega) (by omega), w64 (x := (num y m d + 719162) % 146097 / 366) (by omega) (by omega), w64 (x := 400 * ((num y m d + 719162) / 146097) + (num y m d + 719162) % 146097 / 366) (by omega) (by omega), w64 (by omega) (by omega)]
  exact of_l0 y m d _ h rfl (y - (400 * ((num y m d + 719162) / 146097) + (num y m d + 719162) % 146097 / 366 + 1)).toNat _ hg.1 (by omega)
theorem number_l0 (y M d : Int) (h : Date y M d) (j : Nat) : ∀ (m n : Int), 1 ≤ m → m + j = M → n = ah y + cum y m + d - 1 → Ev (fun k => civil_Number.l0 k n m y M d) (num y M d, 0) := by
  have hr := num_range h
  obtain ⟨a, b, c, e, f, g⟩ := h
  have hb := ah_bd a (by omega)
  have hd := dim_bd y M
  induction j with
  | zero =>
    intro m n h0 hm hn
    obtain rfl : m = M := by omega
    refine Ev.step (fun k => by simp only [civil_Number.l0]; rfl) ?_
    refine Ev.ite_neg (by omega) ?_
    have hc := cum_bd y m (by omega) (by omega)
    rw [w64 (by omega) (by omega)]
    exact Ev.const (by rw [show -719162 + n = num y m d by unfold num; omega])
  | succ j ih =>
    intro m n h0 hm hn
    have h1 := cum_succ y m (by omega) (by omega)
    have h4 := cum_bd y m (by omega) (by omega)
    have h5 := dim_bd y m
    refine Ev.step (fun k => by simp only [civil_Number.l0]; rfl) ?_
    refine Ev.ite_pos (by omega) ?_
    refine Ev.bindc (length_f y m (by omega) (by omega) (by omega)) ?_
    rw [w64 (x := n + dim y m) (by omega) (by omega), w64 (x := m + 1) (by omega) (by omega)]
    exact ih (m + 1) _ (by omega) (by omega) (by omega)
theorem number_f (y m d : Int) (h : Date y m d) : Ev (fun k => civil_Number.f k y m d) (num y m d, 0) := by
  have hh := h
  obtain ⟨a, b, c, e, f, g⟩ := h
  have hd := dim_bd y m
  have hb := ah_bd a (by omega)
  unfold civil_Number.f
  refine Ev.ite_neg (by omega) (Ev.ite_neg (by omega) (Ev.ite_neg (by omega) ?_))
  refine Ev.bindc (length_f y m (by omega) c e) ?_
  rw [decide_eq_false (by omega : ¬ d > dim y m)]
  refine Ev.step (fun k => by simp only [civil_Number.j0]; rfl) ?_
  refine Ev.ite_neg (by decide) ?_
  refine Ev.bindc (ahead_f y a (by omega)) ?_
  rw [w64 (x := ah y + d) (by omega) (by omega), w64 (by omega) (by omega)]
  exact number_l0 y m d hh (m - 1).toNat 1 _ (by omega) (by omega) (by rw [cum_one]; omega)
/-- No such year. -/
theorem number_out (y m d : Int) (h : y < 1 ∨ 9999 < y) : Ev (fun k => civil_Number.f k y m d) (0, 1) := by
  have hj : Ev (fun k => civil_Number.j0 k true y m d) (0, 1) := by
    refine Ev.step (fun k => by simp only [civil_Number.j0]; rfl) ?_
    exact Ev.ite_pos (by decide) (Ev.now _)
  unfold civil_Number.f
  by_cases h1 : y < 1
  · exact Ev.ite_pos h1 hj
  · exact Ev.ite_neg h1 (Ev.ite_pos (by omega) hj)
end Go.Proofs.Yteafkpkghebnbaa.Lk
