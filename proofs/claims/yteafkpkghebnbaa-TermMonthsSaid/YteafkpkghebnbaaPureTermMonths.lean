/- The plain statement of TermMonths: bounds of an anchor are a month apart, each on the anchor's day or the month's last one; between two there is none. For every three whole numbers. -/
import Derived.Test.YteafkpkghebnbaaPureTermYears
import Derived.Test.YteafkpkghebnbaaXa7
set_option linter.unusedVariables false
set_option linter.unusedSimpArgs false
namespace Go.Proofs.Yteafkpkghebnbaa.Pure
open Go.RowKit Go.Proofs.Yteafkpkghebnbaa.Xa Go.Proofs.YteafkpkghebnbaaW.PrintWords Go.Proofs.YteafkpkghebnbaaW.PrintLast Go.Proofs.Yteafkpkghebnbaa.Cal Go.Proofs.Yteafkpkghebnbaa.Lk
/-- The date of a bound. -/
theorem rof_bnd (a i : Int) (h0 : 1 ≤ a) (h2 : 12 ≤ i) (h3 : i ≤ 119999) : Ev (fun k => tollref7_Of.f k (bnd a i)) (yr i, mo i, min a (len i), 0) := by
  rw [bnd_num]
  exact rof_f _ _ _ (date_of_bnd h0 h2 h3)
theorem months_l0 (a day steps s : Int) (h0 : 1 ≤ a) (h1 : a ≤ 31) (hs : tolllaw8_within.f steps 30 = some s) (hs0 : 0 ≤ s) (hs1 : s < 30) (hd0 : 0 ≤ day) (hd1 : day < 2900000) (j : Nat) :
    ∀ q i : Int, q + j = 1 + s → 0 ≤ q → 12 ≤ i → i + j ≤ 119100 → -719162 ≤ bnd a i → Ev (fun k => tolllaw8_TermMonths.l0 k a day steps (bnd a i) q) true := by
  induction j with
  | zero =>
    intro q i hq hq0 hi hj hb
    refine Ev.step (fun k => by simp only [tolllaw8_TermMonths.l0]; rfl) ?_
    refine Ev.bindc hs ?_
    rw [w64 (x := 1 + s) (by omega) (by omega)]
    exact Ev.ite_neg (by omega) (Ev.now _)
  | succ j ih =>
    intro q i hq hq0 hi hj hb
    have hst := bnd_step a i h0 h1
    have ht := bnd_top (a := a) (i := i + 1) h0 (by omega)
    have hl := len_bd (i + 1)
    have hmb := mo_bd (i + 1)
    refine Ev.step (fun k => by simp only [tolllaw8_TermMonths.l0]; rfl) ?_
    refine Ev.bindc hs ?_
    rw [w64 (x := 1 + s) (by omega) (by omega)]
    refine Ev.ite_pos (by omega) ?_
    refine Ev.bind (next_btw a i 0 (bnd a i) h0 h1 (btw_bnd h0 h1) (by omega) (by omega) (by omega)) ?_
    refine Ev.bind (last_btw a (i + 1) (bnd a (i + 1)) h0 h1 (btw_bnd h0 h1) (by omega) (by omega) (by omega) (by omega)) ?_
    simp only []
    rw [w64 (x := bnd a (i + 1) - 1) (by omega) (by omega)]
    refine Ev.bind (last_btw a i (bnd a (i + 1) - 1) h0 h1 (by unfold Btw; omega) (by omega) (by omega) (by omega) (by omega)) ?_
    refine Ev.bind (rof_bnd a (i + 1) h0 (by omega) (by omega)) ?_
    refine Ev.ite_pos (by simp) (Ev.ite_pos (by simp) (Ev.ite_pos (by simp) (Ev.ite_pos (by simp) ?_)))
    simp only []
    rw [w64 (x := bnd a (i + 1) - bnd a i) (by omega) (by omega)]
    refine Ev.ite_neg (by omega) (Ev.ite_neg (by omega) (Ev.ite_pos (by simp) (Ev.ite_pos (by simp) ?_)))
    refine Ev.bind (rlength_f (yr (i + 1)) (mo (i + 1)) (by unfold yr; omega) hmb.1 hmb.2) ?_
    rw [mn_min, show (min a (len (i + 1)) != min a (dim (yr (i + 1)) (mo (i + 1)))) = false from by simp [len]]
    refine Ev.step (fun k => by simp only [tolllaw8_TermMonths.j2]; rfl) ?_
    refine Ev.ite_neg (by decide) ?_
    obtain ⟨t, ht1, ht2, ht3⟩ := within_f (day + q) (bnd a (i + 1) - bnd a i) (by omega) (by omega)
    rw [w64 (x := day + q) (by omega) (by omega), w64 (x := bnd a (i + 1) - bnd a i) (by omega) (by omega)]
    refine Ev.bindc ht1 ?_
    rw [w64 (x := bnd a i + t) (by omega) (by omega)]
    refine Ev.bind (next_btw a i 0 (bnd a i + t) h0 h1 (by unfold Btw; omega) (by omega) (by omega) (by omega)) ?_
    refine Ev.ite_pos (by simp) (Ev.ite_pos (by simp) ?_)
    rw [w64 (x := q + 1) (by omega) (by omega)]
    exact ih (q + 1) (i + 1) (by omega) (by omega) (by omega) (by omega) (by omega)
theorem TermMonths : tolllaw8_TermMonths.Pure := by
  intro a0 a1 a2 _ _ _
  obtain ⟨a, h1, h2, h3⟩ := within_f a0 31 (by omega) (by omega)
  obtain ⟨day, h4, h5, h6⟩ := within_f a1 2900000 (by omega) (by omega)
  obtain ⟨s, h7, h8, h9⟩ := within_f a2 30 (by omega) (by omega)
  refine Ev.rounds ?_
  unfold tolllaw8_TermMonths.f
  refine Ev.bind known_f (Ev.ite_pos (by simp) ?_)
  refine Ev.bindc h1 (Ev.bindc h4 ?_)
  rw [w64 (x := 1 + a) (by omega) (by omega)]
  obtain ⟨i, h10, h11, hb, h12⟩ := btw_mid (a := 1 + a) (day := day) (by omega) (by omega) (by omega) (by omega)
  refine Ev.bind (last_btw (1 + a) i day (by omega) (by omega) hb (by omega) (by omega) h10 (by omega)) ?_
  refine Ev.ite_pos (by simp) ?_
  have hb' := hb.1
  simp only []
  rw [decide_eq_false (show ¬ bnd (1 + a) i > day by omega)]
  refine Ev.step (fun k => by simp only [tolllaw8_TermMonths.j0]; rfl) ?_
  refine Ev.ite_neg (by decide) ?_
  exact months_l0 (1 + a) day a2 s (by omega) (by omega) h7 h8 h9 (by omega) (by omega) (1 + s).toNat 0 i (by omega) (by omega) h10 (by omega) h12
end Go.Proofs.Yteafkpkghebnbaa.Pure
