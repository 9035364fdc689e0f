/- The plain statement of TermYears: twelve bounds make a year: 363 to 368 days; the last bound 365 days behind the first is not behind the twelfth. For every two whole numbers. -/
import Derived.Test.YteafkpkghebnbaaLaw8
import Derived.Test.YteafkpkghebnbaaXa8
set_option linter.unusedVariables false
set_option linter.unusedSimpArgs false
namespace Go.Proofs.Yteafkpkghebnbaa.Pure
open Go.RowKit Go.Proofs.Yteafkpkghebnbaa.Xa Go.Proofs.YteafkpkghebnbaaW.PrintWords Go.Proofs.YteafkpkghebnbaaW.PrintLast Go.Proofs.Yteafkpkghebnbaa.Cal Go.Proofs.Yteafkpkghebnbaa.Lk
/-- The last bound at a day of ours: its month. -/
theorem btw_mid {a day : Int} (h0 : 1 ≤ a) (h1 : a ≤ 31) (h2 : 0 ≤ day) (h3 : day < 2900000) : ∃ i, 12 ≤ i ∧ i ≤ 119000 ∧ Btw a i day ∧ -719162 ≤ bnd a i := by
  obtain ⟨i, h4, h5, hb⟩ := btw_ex (a := a) (n := day) h0 h1 (by omega) (by omega)
  have hb' := hb
  unfold Btw at hb'
  have h12 : 12 ≤ i := by
    by_cases hc : 12 ≤ i
    · exact hc
    · have : i = 11 := by omega
      subst this
      have h6 := bnd_in a 12 h0
      have h7 := fst_succ 12
      have h8 := len_bd 12
      have h9 := fst_12
      rw [show (11 : Int) + 1 = 12 from rfl] at hb'
      rw [show (12 : Int) + 1 = 13 from rfl] at h6 h7
      omega
  have h6 := (bnd_in a i h0).1
  have h7 := fst_mono (i := 12) (j := i) h12
  rw [fst_12] at h7
  refine ⟨i, h12, ?_, hb, by omega⟩
  by_cases hc : i ≤ 119000
  · exact hc
  · have h8 := fst_mono (i := 119000) (j := i) (by omega)
    rw [fst_119000] at h8
    omega
theorem btw_bnd {a i : Int} (h0 : 1 ≤ a) (h1 : a ≤ 31) : Btw a i (bnd a i) := by
  have := bnd_step a i h0 h1
  unfold Btw
  omega
theorem bnd_top {a i : Int} (h0 : 1 ≤ a) (h : i ≤ 119999) : bnd a i ≤ 2932896 := by
  have h1 := (bnd_in a i h0).2
  have h2 := fst_mono (i := i + 1) (j := 120000) (by omega)
  rw [fst_120000] at h2
  omega
theorem years_l0 (a n i : Int) (h0 : 1 ≤ a) (h1 : a ≤ 31) (h2 : 12 ≤ i) (h3 : i ≤ 119000) (h4 : -719162 ≤ bnd a i) (hn : n = bnd a i) (j : Nat) :
    ∀ q : Int, q + j = 12 → 0 ≤ q → Ev (fun k => tolllaw8_TermYears.l0 k a n (bnd a (i + q)) q) true := by
  have hy := bnd_year a i
  have htop := bnd_top (a := a) (i := i + 13) h0 (by omega)
  have hstep := bnd_step a (i + 12) h0 h1
  rw [show i + 12 + 1 = i + 13 by omega] at hstep
  induction j with
  | zero =>
    intro q hq hq0
    obtain rfl : q = 12 := by omega
    refine Ev.step (fun k => by simp only [tolllaw8_TermYears.l0]; rfl) ?_
    refine Ev.ite_neg (by decide) ?_
    rw [w64 (x := n + 365) (by omega) (by omega), w64 (x := bnd a (i + 12) - n) (by omega) (by omega)]
    obtain ⟨p, h5, h6, hb⟩ := btw_ex (a := a) (n := n + 365) h0 h1 (by omega) (by omega)
    have hb' := hb
    unfold Btw at hb'
    have hp : i ≤ p := by
      by_cases hc : i ≤ p
      · exact hc
      · have := bnd_mono (a := a) (i := p + 1) (j := i) h0 h1 (by omega)
        omega
    have hp2 : p ≤ i + 12 := by
      by_cases hc : p ≤ i + 12
      · exact hc
      · have := bnd_mono (a := a) (i := i + 13) (j := p) h0 h1 (by omega)
        omega
    have hp3 := bnd_mono (a := a) (i := p) (j := i + 12) h0 h1 hp2
    refine Ev.bind (last_btw a p (n + 365) h0 h1 hb (by omega) (by omega) (by omega) h6) ?_
    refine Ev.ite_pos rfl (Ev.ite_pos (by omega) (Ev.ite_pos (by omega) ?_))
    refine Ev.const ?_
    congr 1
    exact decide_eq_true (by show bnd a p ≤ bnd a (i + 12); omega)
  | succ j ih =>
    intro q hq hq0
    have hm1 := bnd_mono (a := a) (i := i) (j := i + q) h0 h1 (by omega)
    have ht := bnd_top (a := a) (i := i + q) h0 (by omega)
    refine Ev.step (fun k => by simp only [tolllaw8_TermYears.l0]; rfl) ?_
    refine Ev.ite_pos (by omega) ?_
    refine Ev.bind (next_btw a (i + q) 0 (bnd a (i + q)) h0 h1 (btw_bnd h0 h1) (by omega) (by omega) (by omega)) ?_
    refine Ev.ite_pos rfl ?_
    rw [w64 (x := q + 1) (by omega) (by omega)]
    have h := ih (q + 1) (by omega) (by omega)
    rw [show i + (q + 1) = i + q + 1 by omega] at h
    exact h
theorem TermYears : tolllaw8_TermYears.Pure := by
  intro a0 a1 _ _
  obtain ⟨a, h1, h2, h3⟩ := within_f a0 31 (by omega) (by omega)
  obtain ⟨day, h4, h5, h6⟩ := within_f a1 2800000 (by omega) (by omega)
  refine Ev.rounds ?_
  unfold tolllaw8_TermYears.f
  refine Ev.bind known_f (Ev.ite_pos rfl ?_)
  refine Ev.bindc h1 (Ev.bindc h4 ?_)
  rw [w64 (x := 1 + a) (by omega) (by omega), w64 (x := 31 + day) (by omega) (by omega)]
  obtain ⟨i, h7, h8, hb, h9⟩ := btw_mid (a := 1 + a) (day := 31 + day) (by omega) (by omega) (by omega) (by omega)
  refine Ev.bind (last_btw (1 + a) i (31 + day) (by omega) (by omega) hb (by omega) (by omega) h7 (by omega)) ?_
  refine Ev.ite_pos rfl ?_
  have h := years_l0 (1 + a) (bnd (1 + a) i) i (by omega) (by omega) h7 h8 h9 rfl 12 0 (by omega) (by omega)
  rw [show i + 0 = i by omega] at h
  exact h
end Go.Proofs.Yteafkpkghebnbaa.Pure
