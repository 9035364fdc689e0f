/- The plain statement of TermErrors: kinds, anchors and days that may not be are refused, each as the document says. For every four whole numbers. -/
import Derived.Test.YteafkpkghebnbaaLaw8
import Derived.Test.YteafkpkghebnbaaXa8
set_option linter.unusedVariables false
set_option linter.unusedSimpArgs false
namespace Go.Proofs.Yteafkpkghebnbaa.Pure
open Go.RowKit Go.Proofs.Yteafkpkghebnbaa.Xa Go.Proofs.YteafkpkghebnbaaW.PrintWords Go.Proofs.YteafkpkghebnbaaW.PrintLast Go.Proofs.Yteafkpkghebnbaa.Cal Go.Proofs.Yteafkpkghebnbaa.Lk
theorem last_err (a day : Int) (h2 : 0 ≤ day) (h3 : day < 2900000) : ∃ n, Ev (fun k => term_Last.f k a day) (n, if 1 ≤ a ∧ a ≤ 31 then 0 else 1) := by
  by_cases h : 1 ≤ a ∧ a ≤ 31
  · obtain ⟨i, h4, h5, hb⟩ := btw_ex (n := day) h.1 h.2 (by omega) (by omega)
    have h12 : 12 ≤ i := by
      by_cases hc : 12 ≤ i
      · exact hc
      · have : i = 11 := by omega
        subst this
        have h6 := bnd_in a 12 h.1
        have h7 := fst_succ 12
        have h8 := len_bd 12
        have h9 := fst_12
        unfold Btw at hb
        rw [show (11 : Int) + 1 = 12 from rfl] at hb
        rw [show (12 : Int) + 1 = 13 from rfl] at h6 h7
        omega
    exact ⟨_, Ev.eq (last_btw a i day h.1 h.2 hb (by omega) (by omega) h12 h5) (by rw [if_pos h])⟩
  · exact ⟨_, Ev.eq (last_bad a day (.inl (by omega))) (by rw [if_neg h])⟩
theorem next_err (kind a n day : Int) (h2 : 0 ≤ day) (h3 : day < 2900000) : ∃ m, Ev (fun k => term_Next.f k kind a n day) (m, if kind ≠ 0 ∧ kind ≠ 1 then 3 else if (kind = 0 ∧ (a < 1 ∨ 31 < a)) ∨ (kind = 1 ∧ (n < 1 ∨ 366 < n)) then 1 else 0) := by
  by_cases hk : kind = 0
  · subst hk
    by_cases h : a < 1 ∨ 31 < a
    · exact ⟨0, Ev.eq (next_month_bad a n day (.inl h)) (by simp [h])⟩
    · obtain ⟨i, h4, h5, hb⟩ := btw_ex (a := a) (n := day) (by omega) (by omega) (by omega) (by omega)
      have h6 : i + 1 ≤ 119999 := by
        by_cases hc : i + 1 ≤ 119999
        · exact hc
        · have h7 := bnd_in a i (by omega)
          have h8 := fst_mono (i := 119960) (j := i) (by omega)
          rw [fst_119960] at h8
          unfold Btw at hb
          omega
      exact ⟨bnd a (i + 1), Ev.eq (next_btw a i n day (by omega) (by omega) hb (by omega) (by omega) h6) (by simp [h])⟩
  by_cases hk1 : kind = 1
  · subst hk1
    by_cases h : n < 1 ∨ 366 < n
    · refine ⟨0, Ev.eq (next_days a n day) ?_⟩
      unfold nd
      rw [if_neg (by omega)]
      simp [h]
    · exact ⟨day + n, Ev.eq (next_days a n day) (by rw [nd_ok n day (by omega) (by omega) (by omega) (by omega)]; simp [h])⟩
  · exact ⟨0, Ev.eq (next_kind kind a n day hk hk1) (by simp [hk, hk1])⟩
/-- The law's end: what was told of Last. -/
theorem err_tail (x1 e : Int) (h : e = if 1 ≤ x1 ∧ x1 ≤ 31 then 0 else 1) : (if x1 ≥ 1 then (some ((e == 0) == (decide (x1 ≤ 31)))) else (some ((e == 0) == false))) = some true := by
  subst h
  by_cases h1 : x1 ≥ 1
  · rw [if_pos h1]
    by_cases h2 : x1 ≤ 31
    · simp [h1, h2]
    · simp [h2]
  · rw [if_neg h1]
    have : ¬ (1 ≤ x1 ∧ x1 ≤ 31) := fun h => h1 h.1
    simp [this]
theorem TermErrors : tolllaw8_TermErrors.Pure := by
  intro kind a n a3 _ _ _ _
  obtain ⟨day, h1, h2, h3⟩ := within_f a3 2900000 (by omega) (by omega)
  obtain ⟨m, hn⟩ := next_err kind a n day h2 h3
  obtain ⟨l, hl⟩ := last_err a day h2 h3
  generalize hw : (if kind ≠ 0 ∧ kind ≠ 1 then (3 : Int) else if (kind = 0 ∧ (a < 1 ∨ 31 < a)) ∨ (kind = 1 ∧ (n < 1 ∨ 366 < n)) then 1 else 0) = we at hn
  generalize he : (if 1 ≤ a ∧ a ≤ 31 then (0 : Int) else 1) = le at hl
  have ht := err_tail a le he.symm
  refine Ev.rounds ?_
  unfold tolllaw8_TermErrors.f
  refine Ev.bind known_f (Ev.ite_pos rfl ?_)
  refine Ev.bindc h1 (Ev.bind hn (Ev.bind hl ?_))
  have j1 : ∀ b, b = decide (kind = 0 ∧ (a < 1 ∨ 31 < a)) → (kind = 0 ∨ kind = 1) → Ev (fun k => tolllaw8_TermErrors.j1 k kind a n we le 0 b) true := by
    intro b hb hk
    refine Ev.step (fun k => by simp only [tolllaw8_TermErrors.j1]; rfl) ?_
    refine Ev.const ?_
    by_cases h0 : kind = 0 ∧ (a < 1 ∨ 31 < a)
    · have hb1 : b = true := by rw [hb]; exact decide_eq_true h0
      have hw1 : we = 1 := by rw [← hw, if_neg (by omega), if_pos (.inl h0)]
      rw [if_pos hb1, if_pos hw1, ht]
    · have hb1 : ¬ b = true := by rw [hb]; simpa using h0
      rw [if_neg hb1]
      by_cases h4 : kind = 1
      · rw [if_pos h4]
        by_cases h5 : n < 1
        · have hw1 : we = 1 := by rw [← hw, if_neg (by omega), if_pos (by omega)]
          rw [if_pos h5, if_pos hw1, ht]
        · rw [if_neg h5]
          by_cases h6 : n > 366
          · have hw1 : we = 1 := by rw [← hw, if_neg (by omega), if_pos (by omega)]
            rw [if_pos h6, if_pos hw1, ht]
          · have hw1 : we = 0 := by rw [← hw, if_neg (by omega), if_neg (by omega)]
            rw [if_neg h6, if_pos hw1, ht]
      · have hw1 : we = 0 := by rw [← hw, if_neg (by omega), if_neg (by omega)]
        rw [if_neg h4, if_pos hw1, ht]
  have j0 : ∀ b, b = decide (kind ≠ 0 ∧ kind ≠ 1) → Ev (fun k => tolllaw8_TermErrors.j0 k kind a n we le 0 b) true := by
    intro b hb
    refine Ev.step (fun k => by simp only [tolllaw8_TermErrors.j0]; rfl) ?_
    by_cases h0 : kind ≠ 0 ∧ kind ≠ 1
    · have hb1 : b = true := by rw [hb]; exact decide_eq_true h0
      have hw1 : we = 3 := by rw [← hw, if_pos h0]
      refine Ev.ite_pos hb1 (Ev.ite_pos hw1 ?_)
      exact Ev.const ht
    · have hb1 : ¬ b = true := by rw [hb]; simpa using h0
      refine Ev.ite_neg hb1 ?_
      by_cases h4 : kind = 0
      · refine Ev.ite_pos h4 ?_
        by_cases h5 : a < 1
        · exact Ev.ite_pos h5 (j1 true (by simp [h4, h5]) (.inl h4))
        · exact Ev.ite_neg h5 (j1 _ (by simp [h4, h5]) (.inl h4))
      · exact Ev.ite_neg h4 (j1 false (by simp [h4]) (by omega))
  by_cases h0 : kind = 0
  · exact Ev.ite_pos h0 (j0 false (by simp [h0]))
  · exact Ev.ite_neg h0 (j0 _ (by by_cases h4 : kind = 1 <;> simp [h0, h4]))
end Go.Proofs.Yteafkpkghebnbaa.Pure
