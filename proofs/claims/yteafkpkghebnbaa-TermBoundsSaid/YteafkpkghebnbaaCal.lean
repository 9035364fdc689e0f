/- Plain calendar arithmetic: years, months, days as whole numbers; bounds of an anchor. No program in sight. -/
set_option linter.unusedVariables false
set_option linter.unusedSimpArgs false
namespace Go.Proofs.Yteafkpkghebnbaa.Cal
def lp (y : Int) : Int := if y % 4 = 0 ∧ (y % 100 ≠ 0 ∨ y % 400 = 0) then 1 else 0
def dim (y m : Int) : Int := if m = 2 then 28 + lp y else if m = 4 ∨ m = 6 ∨ m = 9 ∨ m = 11 then 30 else 31
def ah (y : Int) : Int := 365 * (y - 1) + (y - 1) / 4 - (y - 1) / 100 + (y - 1) / 400
def cum (y m : Int) : Int :=
  if m ≤ 1 then 0 else if m = 2 then 31 else if m = 3 then 59 + lp y else if m = 4 then 90 + lp y else if m = 5 then 120 + lp y
  else if m = 6 then 151 + lp y else if m = 7 then 181 + lp y else if m = 8 then 212 + lp y else if m = 9 then 243 + lp y
  else if m = 10 then 273 + lp y else if m = 11 then 304 + lp y else if m = 12 then 334 + lp y else 365 + lp y
def num (y m d : Int) : Int := -719162 + ah y + cum y m + d - 1
theorem lp_01 (y : Int) : 0 ≤ lp y ∧ lp y ≤ 1 := by unfold lp; split <;> omega
theorem dim_bd (y m : Int) : 28 ≤ dim y m ∧ dim y m ≤ 31 := by
  have := lp_01 y
  unfold dim
  split
  · omega
  · split <;> omega
theorem ah_succ (y : Int) : ah (y + 1) = ah y + 365 + lp y := by
  unfold ah lp
  rw [show y + 1 - 1 = y by omega]
  split <;> omega
theorem ah_mono {a b : Int} (h : a ≤ b) : ah a ≤ ah b := by
  unfold ah
  omega
theorem ah_lt {a b : Int} (h : a < b) : ah a + 365 ≤ ah b := by
  have h1 := ah_succ a
  have h2 := lp_01 a
  have h3 := ah_mono (a := a + 1) (b := b) (by omega)
  omega
theorem ah_bd {y : Int} (h0 : 1 ≤ y) (h1 : y ≤ 10001) : 0 ≤ ah y ∧ ah y ≤ 3652425 := by
  unfold ah
  omega
theorem months (m : Int) (h0 : 1 ≤ m) (h1 : m ≤ 12) : m = 1 ∨ m = 2 ∨ m = 3 ∨ m = 4 ∨ m = 5 ∨ m = 6 ∨ m = 7 ∨ m = 8 ∨ m = 9 ∨ m = 10 ∨ m = 11 ∨ m = 12 := by omega
theorem cum_succ (y m : Int) (h0 : 1 ≤ m) (h1 : m ≤ 12) : cum y (m + 1) = cum y m + dim y m := by
  rcases months m h0 h1 with rfl | rfl | rfl | rfl | rfl | rfl | rfl | rfl | rfl | rfl | rfl | rfl <;> simp [cum, dim] <;> omega
theorem cum_one (y : Int) : cum y 1 = 0 := by simp [cum]
theorem cum_13 (y : Int) : cum y 13 = 365 + lp y := by simp [cum]
theorem cum_bd (y m : Int) (h0 : 1 ≤ m) (h1 : m ≤ 13) : 0 ≤ cum y m ∧ cum y m ≤ 366 := by
  have := lp_01 y
  rcases (show m = 13 ∨ (1 ≤ m ∧ m ≤ 12) by omega) with rfl | ⟨h0, h1⟩
  · rw [cum_13]; omega
  rcases months m h0 h1 with rfl | rfl | rfl | rfl | rfl | rfl | rfl | rfl | rfl | rfl | rfl | rfl <;> simp [cum] <;> omega
/-- What is left of a year behind a month's first days. -/
theorem cum_rest (y m : Int) (h0 : 1 ≤ m) (h1 : m ≤ 12) : cum y m + dim y m ≤ 365 + lp y := by
  have := lp_01 y
  rcases months m h0 h1 with rfl | rfl | rfl | rfl | rfl | rfl | rfl | rfl | rfl | rfl | rfl | rfl <;> simp [cum, dim] <;> omega
theorem cum_mono (y a b : Int) (h0 : 1 ≤ a) (h1 : b ≤ 12) (h : a < b) : cum y a + dim y a ≤ cum y b := by
  have := lp_01 y
  rcases months a h0 (by omega) with rfl | rfl | rfl | rfl | rfl | rfl | rfl | rfl | rfl | rfl | rfl | rfl <;>
    rcases months b (by omega) h1 with rfl | rfl | rfl | rfl | rfl | rfl | rfl | rfl | rfl | rfl | rfl | rfl <;> first | omega | (simp [cum, dim] <;> omega)
structure Date (y m d : Int) : Prop where
  y1 : 1 ≤ y
  y2 : y ≤ 9999
  m1 : 1 ≤ m
  m2 : m ≤ 12
  d1 : 1 ≤ d
  d2 : d ≤ dim y m
theorem num_range {y m d : Int} (h : Date y m d) : -719162 ≤ num y m d ∧ num y m d ≤ 2932896 := by
  obtain ⟨a, b, c, e, f, g⟩ := h
  have h1 := cum_rest y m c e
  have h2 := cum_bd y m c (by omega)
  have h3 := ah_succ y
  have h4 := ah_mono (a := 1) (b := y) a
  have h5 := ah_mono (a := y + 1) (b := 10000) (by omega)
  have h6 : ah 1 = 0 := by decide
  have h7 : ah 10000 = 3652059 := by decide
  unfold num
  omega
/-- Every day of the calendar's has a date. -/
theorem date_ex (n : Int) (h0 : -719162 ≤ n) (h1 : n ≤ 2932896) : ∃ y m d, Date y m d ∧ num y m d = n := by
  have h7 : ah 10000 = 3652059 := by decide
  have h6 : ah 1 = 0 := by decide
  have hy : ∀ k : Nat, ∀ t : Int, 1 ≤ t → t + k = 10000 → ah t ≤ n + 719162 → ∃ y, 1 ≤ y ∧ y ≤ 9999 ∧ ah y ≤ n + 719162 ∧ n + 719162 < ah (y + 1) := by
    intro k
    induction k with
    | zero => intro t _ ht ha; have : t = 10000 := by omega
              subst this; omega
    | succ k ih =>
      intro t h1 ht ha
      by_cases h : ah (t + 1) ≤ n + 719162
      · exact ih (t + 1) (by omega) (by omega) h
      · exact ⟨t, h1, by omega, ha, by omega⟩
  obtain ⟨y, hy1, hy2, hy3, hy4⟩ := hy 9999 1 (by omega) (by omega) (by omega)
  have hs := ah_succ y
  have hm : ∀ k : Nat, ∀ t : Int, 1 ≤ t → t + k = 13 → cum y t ≤ n + 719162 - ah y → ∃ m, 1 ≤ m ∧ m ≤ 12 ∧ cum y m ≤ n + 719162 - ah y ∧ n + 719162 - ah y < cum y (m + 1) := by
    intro k
    induction k with
    | zero => intro t _ ht ha; have : t = 13 := by omega
              subst this; rw [cum_13] at ha; omega
    | succ k ih =>
      intro t h1 ht ha
      by_cases h : cum y (t + 1) ≤ n + 719162 - ah y
      · exact ih (t + 1) (by omega) (by omega) h
      · exact ⟨t, h1, by omega, ha, by omega⟩
  obtain ⟨m, hm1, hm2, hm3, hm4⟩ := hm 12 1 (by omega) (by omega) (by rw [cum_one]; omega)
  have hc := cum_succ y m hm1 hm2
  exact ⟨y, m, n + 719162 - ah y - cum y m + 1, ⟨hy1, hy2, hm1, hm2, by omega, by omega⟩, by unfold num; omega⟩
/-- A day's year. -/
theorem year_of {y m d : Int} (h : Date y m d) : ah y ≤ num y m d + 719162 ∧ num y m d + 719162 < ah (y + 1) := by
  obtain ⟨a, b, c, e, f, g⟩ := h
  have h1 := cum_rest y m c e
  have h2 := cum_bd y m c (by omega)
  have h3 := ah_succ y
  unfold num
  omega
/-! ### Months, numbered one behind the other -/
def yr (i : Int) : Int := i / 12
def mo (i : Int) : Int := i % 12 + 1
theorem yr_of (y m : Int) (h0 : 1 ≤ m) (h1 : m ≤ 12) : yr (12 * y + m - 1) = y := by unfold yr; omega
theorem mo_of (y m : Int) (h0 : 1 ≤ m) (h1 : m ≤ 12) : mo (12 * y + m - 1) = m := by unfold mo; omega
theorem mo_bd (i : Int) : 1 ≤ mo i ∧ mo i ≤ 12 := by unfold mo; omega
/-- A month's first day. -/
def fst (i : Int) : Int := num (yr i) (mo i) 1
def len (i : Int) : Int := dim (yr i) (mo i)
theorem fst_succ (i : Int) : fst (i + 1) = fst i + len i := by
  unfold fst len num
  have hb := mo_bd i
  rcases (show mo i = 12 ∨ mo i ≤ 11 by omega) with h | h
  · have h1 : yr (i + 1) = yr i + 1 := by unfold yr; unfold mo at h; omega
    have h2 : mo (i + 1) = 1 := by unfold mo at h ⊢; omega
    have h3 := ah_succ (yr i)
    have h4 := cum_succ (yr i) 12 (by omega) (by omega)
    rw [show (12 : Int) + 1 = 13 from rfl, cum_13] at h4
    rw [h1, h2, h, cum_one]
    omega
  · have h1 : yr (i + 1) = yr i := by unfold yr; unfold mo at h; omega
    have h2 : mo (i + 1) = mo i + 1 := by unfold mo at h ⊢; omega
    have h4 := cum_succ (yr i) (mo i) hb.1 hb.2
    rw [h1, h2, h4]
    omega
/-- The bound of an anchor in a month. -/
def bnd (a i : Int) : Int := fst i + min a (len i) - 1
theorem bnd_num (a i : Int) : bnd a i = num (yr i) (mo i) (min a (len i)) := by unfold bnd fst num; omega
theorem len_bd (i : Int) : 28 ≤ len i ∧ len i ≤ 31 := dim_bd _ _
theorem bnd_step (a i : Int) (h0 : 1 ≤ a) (h1 : a ≤ 31) : 28 ≤ bnd a (i + 1) - bnd a i ∧ bnd a (i + 1) - bnd a i ≤ 31 := by
  have h := fst_succ i
  have h2 := len_bd i
  have h3 := len_bd (i + 1)
  unfold bnd
  omega
theorem bnd_in (a i : Int) (h0 : 1 ≤ a) : fst i ≤ bnd a i ∧ bnd a i < fst (i + 1) := by
  have h := fst_succ i
  have h2 := len_bd i
  unfold bnd
  omega
theorem fst_mono {i j : Int} (h : i ≤ j) : fst i ≤ fst j := by
  obtain ⟨n, rfl⟩ : ∃ n : Nat, j = i + n := ⟨(j - i).toNat, by omega⟩
  clear h
  induction n with
  | zero => simp
  | succ n ih =>
    have h := fst_succ (i + n)
    have h2 := len_bd (i + n)
    rw [show i + ((n + 1 : Nat) : Int) = i + n + 1 by omega]
    omega
theorem bnd_mono {a i j : Int} (h0 : 1 ≤ a) (h1 : a ≤ 31) (h : i ≤ j) : bnd a i + 28 * (j - i) ≤ bnd a j := by
  obtain ⟨n, rfl⟩ : ∃ n : Nat, j = i + n := ⟨(j - i).toNat, by omega⟩
  clear h
  induction n with
  | zero => simp
  | succ n ih =>
    have h := bnd_step a (i + n) h0 h1
    rw [show i + ((n + 1 : Nat) : Int) = i + n + 1 by omega]
    omega
/-- A day's month, by its number. -/
def Mon (i n : Int) : Prop := fst i ≤ n ∧ n < fst (i + 1)
theorem mon_of {y m d : Int} (h : Date y m d) : Mon (12 * y + m - 1) (num y m d) := by
  obtain ⟨a, b, c, e, f, g⟩ := h
  have h1 := fst_succ (12 * y + m - 1)
  unfold Mon
  rw [h1]
  unfold fst len
  rw [yr_of y m c e, mo_of y m c e]
  unfold num
  omega
theorem mon_uniq {i j n : Int} (h : Mon i n) (k : Mon j n) : i = j := by
  rcases Int.lt_trichotomy i j with hl | rfl | hl
  · have := fst_mono (i := i + 1) (j := j) (by omega)
    unfold Mon at h k; omega
  · rfl
  · have := fst_mono (i := j + 1) (j := i) (by omega)
    unfold Mon at h k; omega
/-- Months of the calendar: from 12 on (year 1) to 119999 (year 9999). -/
theorem date_of_bnd {a i : Int} (h0 : 1 ≤ a) (h1 : 12 ≤ i) (h2 : i ≤ 119999) : Date (yr i) (mo i) (min a (len i)) := by
  have h := mo_bd i
  have h3 := len_bd i
  exact ⟨by unfold yr; omega, by unfold yr; omega, h.1, h.2, by omega, by unfold len at *; omega⟩
theorem mon_bnd {a i : Int} (h0 : 1 ≤ a) : Mon i (bnd a i) := bnd_in a i h0
theorem fst_12 : fst 12 = -719162 := by decide
theorem fst_120000 : fst 120000 = 2932897 := by decide
/-- The month of a day of the calendar's. -/
theorem mon_ex (n : Int) (h0 : -719162 ≤ n) (h1 : n ≤ 2932896) : ∃ i, 12 ≤ i ∧ i ≤ 119999 ∧ Mon i n := by
  obtain ⟨y, m, d, h, rfl⟩ := date_ex n h0 h1
  exact ⟨12 * y + m - 1, by have := h.y1; have := h.m1; omega, by have := h.y2; have := h.m2; omega, mon_of h⟩
theorem mon_range {i n : Int} (h : Mon i n) (h0 : -719162 ≤ n) (h1 : n ≤ 2932896) : 12 ≤ i ∧ i ≤ 119999 := by
  obtain ⟨j, hj1, hj2, hj⟩ := mon_ex n h0 h1
  have := mon_uniq h hj
  omega
end Go.Proofs.Yteafkpkghebnbaa.Cal
namespace Go.Proofs.Yteafkpkghebnbaa.Cal
/-- The bounds of an anchor around a day. -/
def Btw (a i n : Int) : Prop := bnd a i ≤ n ∧ n < bnd a (i + 1)
theorem btw_ex {a n : Int} (h0 : 1 ≤ a) (h1 : a ≤ 31) (h2 : -719162 ≤ n) (h3 : n ≤ 2932896) : ∃ i, 11 ≤ i ∧ i ≤ 119999 ∧ Btw a i n := by
  obtain ⟨i, hi1, hi2, hi⟩ := mon_ex n h2 h3
  by_cases h : bnd a i ≤ n
  · exact ⟨i, by omega, hi2, h, by have := (bnd_in a (i + 1) h0).1; unfold Mon at hi; omega⟩
  · have := (bnd_in a (i - 1) h0).2
    rw [show i - 1 + 1 = i by omega] at this
    exact ⟨i - 1, by omega, by omega, by unfold Mon at hi; omega, by rw [show i - 1 + 1 = i by omega]; omega⟩
theorem btw_mon {a i n : Int} (h0 : 1 ≤ a) (h : Btw a i n) : Mon i n ∧ bnd a i ≤ n ∨ Mon (i + 1) n ∧ n < bnd a (i + 1) := by
  have h1 := bnd_in a i h0
  have h2 := bnd_in a (i + 1) h0
  unfold Btw at h
  by_cases hc : n < fst (i + 1)
  · exact .inl ⟨⟨by omega, hc⟩, h.1⟩
  · exact .inr ⟨⟨by omega, by omega⟩, h.2⟩
theorem btw_uniq {a i j n : Int} (h0 : 1 ≤ a) (h1 : a ≤ 31) (h : Btw a i n) (k : Btw a j n) : i = j := by
  rcases Int.lt_trichotomy i j with hl | rfl | hl
  · have := bnd_mono (a := a) (i := i + 1) (j := j) h0 h1 (by omega)
    unfold Btw at h k; omega
  · rfl
  · have := bnd_mono (a := a) (i := j + 1) (j := i) h0 h1 (by omega)
    unfold Btw at h k; omega
/-- A date by its month. -/
theorem date_mon {y m d : Int} (h : Date y m d) : y = yr (12 * y + m - 1) ∧ m = mo (12 * y + m - 1) := ⟨(yr_of y m h.m1 h.m2).symm, (mo_of y m h.m1 h.m2).symm⟩
theorem fst_119960 : fst 119960 = 2931680 := by decide
theorem fst_119000 : fst 119000 = 2902460 := by decide
/-- Twelve months make a year. -/
theorem fst_year (i : Int) : 365 ≤ fst (i + 12) - fst i ∧ fst (i + 12) - fst i ≤ 366 := by
  have h1 : yr (i + 12) = yr i + 1 := by unfold yr; omega
  have h2 : mo (i + 12) = mo i := by unfold mo; omega
  have h3 := ah_succ (yr i)
  have h4 := lp_01 (yr i)
  have h5 := lp_01 (yr i + 1)
  unfold fst num
  rw [h1, h2]
  have hb := mo_bd i
  generalize mo i = m at *
  rcases months m hb.1 hb.2 with rfl | rfl | rfl | rfl | rfl | rfl | rfl | rfl | rfl | rfl | rfl | rfl <;> simp [cum] <;>
    (first | omega | (have h6 : lp (yr i) = 1 → lp (yr i + 1) = 0 := (by unfold lp; split <;> split <;> omega); omega))
theorem len_year (i : Int) : len i - 1 ≤ len (i + 12) ∧ len (i + 12) ≤ len i + 1 := by
  have h1 : yr (i + 12) = yr i + 1 := by unfold yr; omega
  have h2 : mo (i + 12) = mo i := by unfold mo; omega
  have h4 := lp_01 (yr i)
  have h5 := lp_01 (yr i + 1)
  unfold len dim
  rw [h1, h2]
  split
  · omega
  · split <;> omega
theorem bnd_year (a i : Int) : 364 ≤ bnd a (i + 12) - bnd a i ∧ bnd a (i + 12) - bnd a i ≤ 367 := by
  have h1 := fst_year i
  have h2 := len_year i
  unfold bnd
  omega
end Go.Proofs.Yteafkpkghebnbaa.Cal
