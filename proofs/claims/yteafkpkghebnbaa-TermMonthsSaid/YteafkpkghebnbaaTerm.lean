/- What the program's package term and the reference's chapter 8 compute, over the printed functions: the next and the last bound, each as the calendar has it; both alike. -/
import Derived.Test.YteafkpkghebnbaaRefcal
import Derived.Test.YteafkpkghebnbaaXa1
import Derived.Test.YteafkpkghebnbaaXa2
import Derived.Test.YteafkpkghebnbaaXa5
import Derived.Test.YteafkpkghebnbaaXa6
set_option linter.unusedVariables false
set_option linter.unusedSimpArgs false
namespace Go.Proofs.Yteafkpkghebnbaa.Lk
open Go.RowKit Go.Proofs.Yteafkpkghebnbaa.Xa Go.Proofs.YteafkpkghebnbaaW.PrintWords Go.Proofs.YteafkpkghebnbaaW.PrintLast Go.Proofs.Yteafkpkghebnbaa.Cal
theorem mn_min (a b : Int) : mn a b = min a b := by unfold mn; split <;> omega
theorem mx_max (a b : Int) : mx a b = max a b := by unfold mx; split <;> omega
theorem date_f (a y m d : Int) (h0 : 1 ≤ a) (h1 : a ≤ 31) (h : Date y m d) : Ev (fun k => term_date.f k a (num y m d)) (y, m, d, 0) := by
  unfold term_date.f
  refine Ev.ite_neg (by omega) (Ev.ite_neg (by omega) ?_)
  exact Ev.bind (of_f y m d h) (Ev.now _)
theorem date_anchor (a n : Int) (h : a < 1 ∨ 31 < a) : Ev (fun k => term_date.f k a n) (0, 0, 0, 1) := by
  unfold term_date.f
  by_cases h1 : a < 1
  · exact Ev.ite_pos h1 (Ev.now _)
  · exact Ev.ite_neg h1 (Ev.ite_pos (by omega) (Ev.now _))
theorem date_day (a n : Int) (h : n < -719162 ∨ 2932896 < n) : Ev (fun k => term_date.f k a n) (0, 0, 0, 1) := by
  unfold term_date.f
  by_cases h1 : a < 1
  · exact Ev.ite_pos h1 (Ev.now _)
  refine Ev.ite_neg h1 ?_
  by_cases h2 : a > 31
  · exact Ev.ite_pos h2 (Ev.now _)
  refine Ev.ite_neg h2 ?_
  exact Ev.bind (of_out n h) (Ev.now _)
/-- The bound of the month so many months behind a date's. -/
theorem bound_f (a y m d s : Int) (h0 : 1 ≤ a) (h1 : a ≤ 31) (h : Date y m d) (hs : -1 ≤ s ∧ s ≤ 1) (h2 : 12 ≤ 12 * y + m - 1 + s) (h3 : 12 * y + m - 1 + s ≤ 119999) :
    Ev (fun k => term_bound.f k a y m d s) (bnd a (12 * y + m - 1 + s), 0) := by
  obtain ⟨hy1, hy2, hm1, hm2, hd1, hd2⟩ := h
  have hb := mo_bd (12 * y + m - 1 + s)
  unfold term_bound.f
  rw [w64 (x := 12 * y) (by omega) (by omega), w64 (x := 12 * y + m) (by omega) (by omega), w64 (x := 12 * y + m - 1) (by omega) (by omega), w64 (x := 12 * y + m - 1 + s) (by omega) (by omega)]
  rw [td (by omega), tm (by omega), w64 (x := (12 * y + m - 1 + s) / 12) (by omega) (by omega), w64 (x := (12 * y + m - 1 + s) % 12 + 1) (by omega) (by omega)]
  refine Ev.bindc (length_f _ _ (by omega) (by omega) (by omega)) ?_
  rw [mn_min]
  refine Ev.bind (number_f _ _ _ (date_of_bnd (a := a) (i := 12 * y + m - 1 + s) h0 h2 h3)) ?_
  rw [bnd_num]
  exact Ev.now _
theorem bound_out (a y m d s : Int) (h0 : 1 ≤ a) (h1 : a ≤ 31) (h : Date y m d) (hs : -1 ≤ s ∧ s ≤ 1) (h2 : 12 * y + m - 1 + s < 12 ∨ 119999 < 12 * y + m - 1 + s) :
    Ev (fun k => term_bound.f k a y m d s) (0, 1) := by
  obtain ⟨hy1, hy2, hm1, hm2, hd1, hd2⟩ := h
  unfold term_bound.f
  rw [w64 (x := 12 * y) (by omega) (by omega), w64 (x := 12 * y + m) (by omega) (by omega), w64 (x := 12 * y + m - 1) (by omega) (by omega), w64 (x := 12 * y + m - 1 + s) (by omega) (by omega)]
  rw [td (by omega), tm (by omega), w64 (x := (12 * y + m - 1 + s) / 12) (by omega) (by omega), w64 (x := (12 * y + m - 1 + s) % 12 + 1) (by omega) (by omega)]
  refine Ev.bindc (length_f _ _ (by omega) (by omega) (by omega)) ?_
  refine Ev.bind (number_out _ _ _ (by omega)) ?_
  exact Ev.now _
/-- The answer of a next bound: the bound of a month, or none. -/
def bo (a i : Int) : Int × Int := if 12 ≤ i ∧ i ≤ 119999 then (bnd a i, 0) else (0, 1)
theorem bound_bo (a y m d s : Int) (h0 : 1 ≤ a) (h1 : a ≤ 31) (h : Date y m d) (hs : -1 ≤ s ∧ s ≤ 1) : Ev (fun k => term_bound.f k a y m d s) (bo a (12 * y + m - 1 + s)) := by
  unfold bo
  split
  · rename_i h2
    exact bound_f a y m d s h0 h1 h hs h2.1 h2.2
  · exact bound_out a y m d s h0 h1 h hs (by omega)
theorem next_month (a y m d n : Int) (h0 : 1 ≤ a) (h1 : a ≤ 31) (h : Date y m d) :
    Ev (fun k => term_Next.f k 0 a n (num y m d)) (if bnd a (12 * y + m - 1) ≤ num y m d then bo a (12 * y + m - 1 + 1) else (bnd a (12 * y + m - 1), 0)) := by
  have hy1 := h.y1; have hy2 := h.y2; have hm1 := h.m1; have hm2 := h.m2
  unfold term_Next.f
  refine Ev.ite_pos rfl ?_
  refine Ev.bind (date_f a y m d h0 h1 h) ?_
  refine Ev.ite_pos rfl ?_
  refine Ev.bind (bound_f a y m d 0 h0 h1 h (by omega) (by omega) (by omega)) ?_
  refine Ev.ite_pos rfl ?_
  rw [show 12 * y + m - 1 + 0 = 12 * y + m - 1 by omega]
  by_cases hc : bnd a (12 * y + m - 1) ≤ num y m d
  · rw [if_pos hc]
    refine Ev.ite_pos hc ?_
    exact Ev.bind (bound_bo a y m d 1 h0 h1 h (by omega)) (Ev.now _)
  · rw [if_neg hc]
    exact Ev.ite_neg hc (Ev.now _)
theorem next_month_bad (a n day : Int) (h : (a < 1 ∨ 31 < a) ∨ (day < -719162 ∨ 2932896 < day)) : Ev (fun k => term_Next.f k 0 a n day) (0, 1) := by
  unfold term_Next.f
  refine Ev.ite_pos rfl ?_
  refine Ev.bind (a := (0, 0, 0, 1)) (by rcases h with h | h; exact date_anchor a day h; exact date_day a day h) ?_
  exact Ev.ite_neg (by decide) (Ev.now _)
theorem last_month (a y m d : Int) (h0 : 1 ≤ a) (h1 : a ≤ 31) (h : Date y m d) :
    Ev (fun k => term_Last.f k a (num y m d)) (if bnd a (12 * y + m - 1) > num y m d then bo a (12 * y + m - 1 + -1) else (bnd a (12 * y + m - 1), 0)) := by
  have hy1 := h.y1; have hy2 := h.y2; have hm1 := h.m1; have hm2 := h.m2
  unfold term_Last.f
  refine Ev.bind (date_f a y m d h0 h1 h) ?_
  refine Ev.ite_pos rfl ?_
  refine Ev.bind (bound_f a y m d 0 h0 h1 h (by omega) (by omega) (by omega)) ?_
  refine Ev.ite_pos rfl ?_
  rw [show 12 * y + m - 1 + 0 = 12 * y + m - 1 by omega]
  by_cases hc : bnd a (12 * y + m - 1) > num y m d
  · rw [if_pos hc]
    refine Ev.ite_pos hc ?_
    exact Ev.bind (bound_bo a y m d (-1) h0 h1 h (by omega)) (Ev.now _)
  · rw [if_neg hc]
    exact Ev.ite_neg hc (Ev.now _)
theorem last_bad (a day : Int) (h : (a < 1 ∨ 31 < a) ∨ (day < -719162 ∨ 2932896 < day)) : Ev (fun k => term_Last.f k a day) (0, 1) := by
  unfold term_Last.f
  refine Ev.bind (a := (0, 0, 0, 1)) (by rcases h with h | h; exact date_anchor a day h; exact date_day a day h) ?_
  exact Ev.ite_neg (by decide) (Ev.now _)
/-- Does a day have a date? -/
def isDay (n : Int) : Bool := decide (-719162 ≤ n ∧ n ≤ 2932896)
theorem of_any (n : Int) : ∃ y m d, Ev (fun k => civil_Of.f k n) (y, m, d, if isDay n then 0 else 1) := by
  unfold isDay
  by_cases h : -719162 ≤ n ∧ n ≤ 2932896
  · obtain ⟨y, m, d, hd, rfl⟩ := date_ex n h.1 h.2
    exact ⟨y, m, d, by rw [decide_eq_true h]; exact of_f y m d hd⟩
  · exact ⟨0, 0, 0, by rw [decide_eq_false h]; exact of_out n (by omega)⟩
theorem rof_any (n : Int) : ∃ y m d, Ev (fun k => tollref7_Of.f k n) (y, m, d, if isDay n then 0 else 1) := by
  unfold isDay
  by_cases h : -719162 ≤ n ∧ n ≤ 2932896
  · obtain ⟨y, m, d, hd, rfl⟩ := date_ex n h.1 h.2
    exact ⟨y, m, d, by rw [decide_eq_true h]; exact rof_f y m d hd⟩
  · exact ⟨0, 0, 0, by rw [decide_eq_false h]; exact rof_out n (by omega)⟩
/-- The next bound by days. -/
def nd (n day : Int) : Int × Int := if isDay day = true ∧ 1 ≤ n ∧ n ≤ 366 ∧ isDay (day + n) = true then (day + n, 0) else (0, 1)
theorem day_sum {n day : Int} (hd : isDay day = true) (h1 : 1 ≤ n) (h2 : n ≤ 366) : wrap64 (day + n) = day + n := by
  have := of_decide_eq_true hd
  exact w64 (by omega) (by omega)
theorem next_days_j (n day : Int) (b : Bool) (hb : b = true ↔ ¬ (isDay day = true ∧ 1 ≤ n ∧ n ≤ 366)) : Ev (fun k => term_Next.j0 k n day b) (nd n day) := by
  refine Ev.step (fun k => by simp only [term_Next.j0]; rfl) ?_
  unfold nd
  by_cases hc : isDay day = true ∧ 1 ≤ n ∧ n ≤ 366
  · have hbf : ¬ b = true := fun h => hb.1 h hc
    refine Ev.ite_neg hbf ?_
    rw [day_sum hc.1 hc.2.1 hc.2.2]
    obtain ⟨y, m, d, ho⟩ := of_any (day + n)
    refine Ev.bind ho ?_
    by_cases h3 : isDay (day + n) = true
    · refine Ev.eq (r := (day + n, 0)) ?_ (by rw [if_pos ⟨hc.1, hc.2.1, hc.2.2, h3⟩])
      exact Ev.ite_pos (by simp [h3]) (Ev.now _)
    · refine Ev.eq (r := (0, 1)) ?_ (by rw [if_neg (fun h => h3 h.2.2.2)])
      refine Ev.eq (Ev.ite_neg (by simp [h3]) (Ev.now _)) (by simp [h3])
  · rw [if_neg (fun h => hc ⟨h.1, h.2.1, h.2.2.1⟩)]
    exact Ev.ite_pos (hb.2 hc) (Ev.now _)
theorem next_days (a n day : Int) : Ev (fun k => term_Next.f k 1 a n day) (nd n day) := by
  unfold term_Next.f
  refine Ev.ite_neg (by decide) (Ev.ite_pos rfl ?_)
  obtain ⟨y, m, d, ho⟩ := of_any day
  refine Ev.bind ho ?_
  by_cases hd : isDay day = true
  · rw [if_pos hd]
    refine Ev.ite_pos rfl ?_
    by_cases hn : n < 1
    · exact Ev.ite_pos hn (next_days_j n day true (by simp [hd]; omega))
    · exact Ev.ite_neg hn (next_days_j n day _ (by simp [hd]; omega))
  · rw [if_neg hd]
    exact Ev.ite_neg (by simp) (next_days_j n day true (by simp [hd]))
theorem next_kind (kind a n day : Int) (h0 : kind ≠ 0) (h1 : kind ≠ 1) : Ev (fun k => term_Next.f k kind a n day) (0, 3) := by
  unfold term_Next.f
  exact Ev.ite_neg h0 (Ev.ite_neg h1 (Ev.now _))
/-! ### The reference -/
theorem rbound_f (a i : Int) (h0 : 1 ≤ a) (h1 : a ≤ 31) (h2 : 12 ≤ i) (h3 : i ≤ 119999) : Ev (fun k => tollref8_bound.f k (yr i) (mo i) a) (bnd a i, 0) := by
  have hb := mo_bd i
  have hl := len_bd i
  unfold tollref8_bound.f
  refine Ev.bind (rlength_f _ _ (by unfold yr; omega) hb.1 hb.2) ?_
  rw [mx_max, mn_min, show max (dim (yr i) (mo i)) 1 = len i by unfold len at *; omega]
  refine Ev.bind (rnumber_f _ _ _ (date_of_bnd (a := a) (i := i) h0 h2 h3)) ?_
  rw [bnd_num]
  exact Ev.now _
theorem rbound_out (a i : Int) (h2 : i = 11 ∨ i = 120000) : Ev (fun k => tollref8_bound.f k (yr i) (mo i) a) (0, 1) := by
  have hb := mo_bd i
  unfold tollref8_bound.f
  refine Ev.bind (rlength_f _ _ (by unfold yr; omega) hb.1 hb.2) ?_
  refine Ev.bind (rnumber_out _ _ _ (by unfold yr; omega)) ?_
  exact Ev.now _
theorem rbound_bo (a i : Int) (h0 : 1 ≤ a) (h1 : a ≤ 31) (h2 : 11 ≤ i) (h3 : i ≤ 120000) : Ev (fun k => tollref8_bound.f k (yr i) (mo i) a) (bo a i) := by
  unfold bo
  split
  · rename_i h
    exact rbound_f a i h0 h1 h.1 h.2
  · exact rbound_out a i (by omega)
theorem bo_cases (a i : Int) : bo a i = (bnd a i, 0) ∨ bo a i = (0, 1) := by
  unfold bo
  split
  · exact .inl rfl
  · exact .inr rfl
theorem bo_two (a i : Int) {g : Nat → Option (Int × Int)} (h : Ev g (bo a i)) : Ev (fun k => (g k).bind fun bt => if bt.2 = 0 then some (bt.1, (0 : Int)) else some ((0 : Int), (1 : Int))) (bo a i) := by
  rcases bo_cases a i with e | e <;> rw [e] at h ⊢
  · exact Ev.bind h (Ev.ite_pos rfl (Ev.now _))
  · exact Ev.bind h (Ev.ite_neg (by decide) (Ev.now _))
theorem mon_up (y m : Int) (h0 : 1 ≤ m) (h1 : m ≤ 12) : (m = 12 ∧ yr (12 * y + m - 1 + 1) = y + 1 ∧ mo (12 * y + m - 1 + 1) = 1) ∨ (m < 12 ∧ yr (12 * y + m - 1 + 1) = y ∧ mo (12 * y + m - 1 + 1) = m + 1) := by
  unfold yr mo
  omega
theorem mon_down (y m : Int) (h0 : 1 ≤ m) (h1 : m ≤ 12) : (m = 1 ∧ yr (12 * y + m - 1 + -1) = y - 1 ∧ mo (12 * y + m - 1 + -1) = 12) ∨ (1 < m ∧ yr (12 * y + m - 1 + -1) = y ∧ mo (12 * y + m - 1 + -1) = m - 1) := by
  unfold yr mo
  omega
theorem rnext_j1 (a y m d x day : Int) (h0 : 1 ≤ a) (h1 : a ≤ 31) (h : Date y m d) (b : Bool) : Ev (fun k => tollref8_Next.j1 k a x b y m d) (if b = true then (x, 0) else bo a (12 * y + m - 1 + 1)) := by
  obtain ⟨hy1, hy2, hm1, hm2, hd1, hd2⟩ := h
  refine Ev.step (fun k => by simp only [tollref8_Next.j1]; rfl) ?_
  cases b with
  | true => exact Ev.ite_pos rfl (Ev.now _)
  | false =>
    refine Ev.ite_neg (by decide) ?_
    rw [if_neg (by decide)]
    rw [w64 (x := m + 1) (by omega) (by omega), w64 (x := y + 1) (by omega) (by omega)]
    have hr := rbound_bo a (12 * y + m - 1 + 1) h0 h1 (by omega) (by omega)
    rcases mon_up y m hm1 hm2 with ⟨e, e1, e2⟩ | ⟨e, e1, e2⟩
    · refine Ev.ite_pos (by omega) ?_
      rw [e1, e2] at hr
      exact bo_two _ _ hr
    · refine Ev.ite_neg (by omega) ?_
      rw [e1, e2] at hr
      exact bo_two _ _ hr
theorem rnext_j0 (a y m d day : Int) (h0 : 1 ≤ a) (h1 : a ≤ 31) (h : Date y m d) :
    Ev (fun k => tollref8_Next.j0 k a day false y m d) (if bnd a (12 * y + m - 1) ≤ day then bo a (12 * y + m - 1 + 1) else (bnd a (12 * y + m - 1), 0)) := by
  have hy1 := h.y1; have hy2 := h.y2; have hm1 := h.m1; have hm2 := h.m2
  refine Ev.step (fun k => by simp only [tollref8_Next.j0]; rfl) ?_
  refine Ev.ite_neg (by decide) ?_
  have hr := rbound_f a (12 * y + m - 1) h0 h1 (by omega) (by omega)
  rw [yr_of y m hm1 hm2, mo_of y m hm1 hm2] at hr
  refine Ev.bind hr ?_
  refine Ev.ite_pos rfl ?_
  refine Ev.eq (rnext_j1 a y m d _ day h0 h1 h _) ?_
  by_cases hc : bnd a (12 * y + m - 1) ≤ day
  · rw [if_pos hc, if_neg (by simpa using hc)]
  · rw [if_neg hc, if_pos (by simpa using hc)]
theorem rnext_bad_j0 (a day y m d : Int) : Ev (fun k => tollref8_Next.j0 k a day true y m d) (0, 1) := by
  refine Ev.step (fun k => by simp only [tollref8_Next.j0]; rfl) ?_
  exact Ev.ite_pos (by decide) (Ev.now _)
theorem rnext_month (a y m d n : Int) (h0 : 1 ≤ a) (h1 : a ≤ 31) (h : Date y m d) :
    Ev (fun k => tollref8_Next.f k 0 a n (num y m d)) (if bnd a (12 * y + m - 1) ≤ num y m d then bo a (12 * y + m - 1 + 1) else (bnd a (12 * y + m - 1), 0)) := by
  unfold tollref8_Next.f
  refine Ev.bind (rof_f y m d h) ?_
  refine Ev.ite_pos rfl (Ev.ite_neg (by omega) (Ev.ite_neg (by omega) ?_))
  exact rnext_j0 a y m d _ h0 h1 h
theorem rnext_month_bad (a n day : Int) (h : (a < 1 ∨ 31 < a) ∨ (day < -719162 ∨ 2932896 < day)) : Ev (fun k => tollref8_Next.f k 0 a n day) (0, 1) := by
  unfold tollref8_Next.f
  obtain ⟨y, m, d, ho⟩ := rof_any day
  refine Ev.bind ho ?_
  refine Ev.ite_pos rfl ?_
  by_cases h1 : a < 1
  · exact Ev.ite_pos h1 (rnext_bad_j0 _ _ _ _ _)
  refine Ev.ite_neg h1 ?_
  by_cases h2 : a > 31
  · exact Ev.ite_pos h2 (rnext_bad_j0 _ _ _ _ _)
  refine Ev.ite_neg h2 ?_
  have hd : isDay day = false := decide_eq_false (by omega)
  rw [hd]
  exact rnext_bad_j0 _ _ _ _ _
theorem rnext_days_j (n day : Int) (b : Bool) (hb : b = true ↔ ¬ (isDay day = true ∧ 1 ≤ n ∧ n ≤ 366)) : Ev (fun k => tollref8_Next.j2 k n day b) (nd n day) := by
  refine Ev.step (fun k => by simp only [tollref8_Next.j2]; rfl) ?_
  unfold nd
  by_cases hc : isDay day = true ∧ 1 ≤ n ∧ n ≤ 366
  · have hbf : ¬ b = true := fun h => hb.1 h hc
    refine Ev.ite_neg hbf ?_
    rw [day_sum hc.1 hc.2.1 hc.2.2]
    obtain ⟨y, m, d, ho⟩ := rof_any (day + n)
    refine Ev.bind ho ?_
    by_cases h3 : isDay (day + n) = true
    · refine Ev.eq (r := (day + n, 0)) ?_ (by rw [if_pos ⟨hc.1, hc.2.1, hc.2.2, h3⟩])
      exact Ev.ite_pos (by simp [h3]) (Ev.now _)
    · refine Ev.eq (r := (0, 1)) ?_ (by rw [if_neg (fun h => h3 h.2.2.2)])
      exact Ev.ite_neg (by simp [h3]) (Ev.now _)
  · rw [if_neg (fun h => hc ⟨h.1, h.2.1, h.2.2.1⟩)]
    exact Ev.ite_pos (hb.2 hc) (Ev.now _)
theorem rnext_days (a n day : Int) : Ev (fun k => tollref8_Next.f k 1 a n day) (nd n day) := by
  unfold tollref8_Next.f
  obtain ⟨y, m, d, ho⟩ := rof_any day
  refine Ev.bind ho ?_
  refine Ev.ite_neg (by decide) (Ev.ite_pos rfl ?_)
  by_cases hn : n < 1
  · exact Ev.ite_pos hn (rnext_days_j n day true (by simp; omega))
  refine Ev.ite_neg hn ?_
  by_cases hn2 : n > 366
  · exact Ev.ite_pos hn2 (rnext_days_j n day true (by simp; omega))
  refine Ev.ite_neg hn2 ?_
  refine rnext_days_j n day _ ?_
  by_cases hd : isDay day = true
  · simp [hd]; omega
  · simp [hd]
theorem rnext_kind (kind a n day : Int) (h0 : kind ≠ 0) (h1 : kind ≠ 1) : Ev (fun k => tollref8_Next.f k kind a n day) (0, 3) := by
  unfold tollref8_Next.f
  obtain ⟨y, m, d, ho⟩ := rof_any day
  refine Ev.bind ho ?_
  exact Ev.ite_neg h0 (Ev.ite_neg h1 (Ev.now _))
theorem rlast_bad_j (a day y m d : Int) : Ev (fun k => tollref8_Last.j0 k a day true y m d) (0, 1) := by
  refine Ev.step (fun k => by simp only [tollref8_Last.j0]; rfl) ?_
  exact Ev.ite_pos (by decide) (Ev.now _)
theorem rlast_month (a y m d : Int) (h0 : 1 ≤ a) (h1 : a ≤ 31) (h : Date y m d) :
    Ev (fun k => tollref8_Last.f k a (num y m d)) (if bnd a (12 * y + m - 1) > num y m d then bo a (12 * y + m - 1 + -1) else (bnd a (12 * y + m - 1), 0)) := by
  have hy1 := h.y1; have hy2 := h.y2; have hm1 := h.m1; have hm2 := h.m2
  unfold tollref8_Last.f
  refine Ev.bind (rof_f y m d h) ?_
  refine Ev.ite_neg (by omega) (Ev.ite_neg (by omega) ?_)
  refine Ev.step (fun k => by simp only [tollref8_Last.j0]; rfl) ?_
  refine Ev.ite_neg (by decide) ?_
  have hr := rbound_f a (12 * y + m - 1) h0 h1 (by omega) (by omega)
  rw [yr_of y m hm1 hm2, mo_of y m hm1 hm2] at hr
  refine Ev.bind hr ?_
  by_cases hc : bnd a (12 * y + m - 1) ≤ num y m d
  · rw [if_neg (by omega)]
    exact Ev.ite_pos hc (Ev.now _)
  · rw [if_pos (by omega)]
    refine Ev.ite_neg hc ?_
    rw [w64 (x := m - 1) (by omega) (by omega), w64 (x := y - 1) (by omega) (by omega)]
    have hr := rbound_bo a (12 * y + m - 1 + -1) h0 h1 (by omega) (by omega)
    rcases mon_down y m hm1 hm2 with ⟨e, e1, e2⟩ | ⟨e, e1, e2⟩
    · refine Ev.ite_pos (by omega) ?_
      rw [e1, e2] at hr
      exact bo_two _ _ hr
    · refine Ev.ite_neg (by omega) ?_
      rw [e1, e2] at hr
      exact bo_two _ _ hr
theorem rlast_bad (a day : Int) (h : (a < 1 ∨ 31 < a) ∨ (day < -719162 ∨ 2932896 < day)) : Ev (fun k => tollref8_Last.f k a day) (0, 1) := by
  unfold tollref8_Last.f
  obtain ⟨y, m, d, ho⟩ := rof_any day
  refine Ev.bind ho ?_
  by_cases h1 : a < 1
  · exact Ev.ite_pos h1 (rlast_bad_j _ _ _ _ _)
  refine Ev.ite_neg h1 ?_
  by_cases h2 : a > 31
  · exact Ev.ite_pos h2 (rlast_bad_j _ _ _ _ _)
  refine Ev.ite_neg h2 ?_
  have hd : isDay day = false := decide_eq_false (by omega)
  rw [hd]
  exact rlast_bad_j _ _ _ _ _
/-- Program and reference answer alike, whatever they are asked. -/
theorem next_both (kind a n day : Int) : ∃ r, Ev (fun k => term_Next.f k kind a n day) r ∧ Ev (fun k => tollref8_Next.f k kind a n day) r := by
  by_cases hk : kind = 0
  · subst hk
    by_cases h : (a < 1 ∨ 31 < a) ∨ (day < -719162 ∨ 2932896 < day)
    · exact ⟨_, next_month_bad a n day h, rnext_month_bad a n day h⟩
    · obtain ⟨y, m, d, hd, rfl⟩ := date_ex day (by omega) (by omega)
      exact ⟨_, next_month a y m d n (by omega) (by omega) hd, rnext_month a y m d n (by omega) (by omega) hd⟩
  by_cases hk1 : kind = 1
  · subst hk1
    exact ⟨_, next_days a n day, rnext_days a n day⟩
  exact ⟨_, next_kind kind a n day hk hk1, rnext_kind kind a n day hk hk1⟩
theorem last_both (a day : Int) : ∃ r, Ev (fun k => term_Last.f k a day) r ∧ Ev (fun k => tollref8_Last.f k a day) r := by
  by_cases h : (a < 1 ∨ 31 < a) ∨ (day < -719162 ∨ 2932896 < day)
  · exact ⟨_, last_bad a day h, rlast_bad a day h⟩
  · obtain ⟨y, m, d, hd, rfl⟩ := date_ex day (by omega) (by omega)
    exact ⟨_, last_month a y m d (by omega) (by omega) hd, rlast_month a y m d (by omega) (by omega) hd⟩
/-! ### Between two bounds -/
theorem next_btw (a i n day : Int) (h0 : 1 ≤ a) (h1 : a ≤ 31) (h : Btw a i day) (h2 : -719162 ≤ day) (h3 : day ≤ 2932896) (h4 : i + 1 ≤ 119999) :
    Ev (fun k => term_Next.f k 0 a n day) (bnd a (i + 1), 0) := by
  obtain ⟨y, m, d, hd, rfl⟩ := date_ex day h2 h3
  have hm := mon_of hd
  have hy1 := hd.y1; have hm1 := hd.m1
  refine Ev.eq (next_month a y m d n h0 h1 hd) ?_
  rcases btw_mon h0 h with ⟨k, hk⟩ | ⟨k, hk⟩
  · obtain rfl := mon_uniq k hm
    rw [if_pos hk]
    unfold bo
    rw [if_pos ⟨by omega, h4⟩]
  · have e := mon_uniq k hm
    rw [← e, if_neg (by omega)]
theorem last_btw (a i day : Int) (h0 : 1 ≤ a) (h1 : a ≤ 31) (h : Btw a i day) (h2 : -719162 ≤ day) (h3 : day ≤ 2932896) (h4 : 12 ≤ i) (h5 : i ≤ 119999) :
    Ev (fun k => term_Last.f k a day) (bnd a i, 0) := by
  obtain ⟨y, m, d, hd, rfl⟩ := date_ex day h2 h3
  have hm := mon_of hd
  refine Ev.eq (last_month a y m d h0 h1 hd) ?_
  rcases btw_mon h0 h with ⟨k, hk⟩ | ⟨k, hk⟩
  · obtain rfl := mon_uniq k hm
    rw [if_neg (by omega)]
  · have e := mon_uniq k hm
    rw [← e, if_pos (by omega), show i + 1 + -1 = i by omega]
    unfold bo
    rw [if_pos ⟨h4, h5⟩]
theorem nd_ok (n day : Int) (h0 : 0 ≤ day) (h1 : day + n ≤ 2932896) (h2 : 1 ≤ n) (h3 : n ≤ 366) : nd n day = (day + n, 0) := by
  unfold nd isDay
  rw [if_pos ⟨decide_eq_true (by omega), h2, h3, decide_eq_true (by omega)⟩]
end Go.Proofs.Yteafkpkghebnbaa.Lk
