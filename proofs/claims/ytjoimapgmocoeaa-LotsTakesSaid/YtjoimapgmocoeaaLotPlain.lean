/- Lots in plain lists: within, the chapter's example, Good, SameLots. -/
import Derived.Test.YtjoimapgmocoeaaJ1
import Derived.Test.YtjoimapgmocoeaaXa4
import Derived.Test.YtjoimapgmocoeaaXa5
import Derived.Test.YtjoimapgmocoeaaXa6
import Derived.Test.YtjoimapgmocoeaaXa7
set_option linter.unusedVariables false
set_option linter.unusedSimpArgs false
namespace Go.Proofs.Ytjoimapgmocoeaa.Lk
open Go.RowKit Go.Proofs.YtjoimapgmocoeaaW.PrintWords Go.Proofs.YtjoimapgmocoeaaW.PrintLast Go.Proofs.YtjoimapgmocoeaaW.PrintMore Go.Proofs.Ytjoimapgmocoeaa.Xa
theorem within_f (a n : Int) (h0 : 0 < n) (h1 : n ≤ 2147483648) : tolllaw10_within.f a n = some (a % n) := by
  unfold tolllaw10_within.f
  rw [if_neg (by omega)]
  have h2 := Int.tmod_lt_of_pos a h0
  have h3 : -n < Int.tmod a n := by have := Int.lt_tmod_of_pos a h0; omega
  have h4 := Int.emod_nonneg a (show n ≠ 0 by omega)
  have h5 := Int.emod_lt_of_pos a h0
  have h6 : Int.tmod a n = a % n ∨ Int.tmod a n = a % n - n := by
    rw [Int.tmod_eq_emod]
    split
    · left; omega
    · right; omega
  by_cases h : Int.tmod a n < 0
  · rw [if_pos h, w64 (by omega) (by omega)]
    congr 1
    omega
  · rw [if_neg h]
    congr 1
    omega
set_option maxRecDepth 100000 in
theorem known_f : tolllaw10_known.f = some true := by decide +kernel
/-- What Good makes of a lot behind an id. -/
def goodOne (now id : Int) (x : SL) : SL :=
  ⟨id + 1 + x.f0 % 3, x.f1 % 3, max 0 (now - 5 + x.f2 % 8), max 0 (now - 5 + x.f2 % 8) + 1 + x.f3 % 9, x.f5 % 1000 + x.f7 % 9 + x.f8 % 9 + x.f4 % 1000, x.f5 % 1000, 0, x.f7 % 9, x.f8 % 9⟩
def goodGo (now : Int) : Int → List SL → List SL
  | _, [] => []
  | id, x :: xs => goodOne now id x :: goodGo now (id + 1 + x.f0 % 3) xs
def goodL (l : List SL) (now : Int) : List SL := goodGo now 0 (l.take 14)
theorem goodGo_len (now : Int) : ∀ (id : Int) (l : List SL), (goodGo now id l).length = l.length
  | _, [] => rfl
  | id, x :: xs => by simp [goodGo, goodGo_len now _ xs]
theorem goodL_len (l : List SL) (now : Int) : (goodL l now).length ≤ 14 := by
  unfold goodL
  rw [goodGo_len, List.length_take]
  omega
theorem mx_eq (a b : Int) : mx a b = max a b := by unfold mx; split <;> omega
theorem good_l0 (l : List SL) (now : Int) (h0 : 0 ≤ now) (h1 : now < 100000) (d : Nat) : ∀ (i : Nat) (id : Int) (acc : List SL), i + d = (l.take 14).length → 0 ≤ id → id ≤ 3 * (i : Int) → acc.length = i → Ev (fun k => tolllaw10_Good.l0 k l now acc id (i : Int)) (acc ++ goodGo now id ((l.take 14).drop i)) := by
  induction d with
  | zero =>
    intro i id acc hi h2 h3 h4
    have hd : (l.take 14).drop i = [] := List.drop_of_length_le (by omega)
    rw [hd]
    rw [List.length_take] at hi
    refine Ev.step (fun k => by simp only [tolllaw10_Good.l0]; rfl) ?_
    by_cases h : (i : Int) < (l.length : Int)
    · refine Ev.ite_pos h ?_
      rw [decide_eq_false (by omega)]
      refine Ev.step (fun k => by simp only [tolllaw10_Good.j1]; rfl) ?_
      refine Ev.ite_neg (by decide) ?_
      exact Ev.eq (Ev.now _) (by simp [goodGo])
    · refine Ev.ite_neg h ?_
      refine Ev.step (fun k => by simp only [tolllaw10_Good.j1]; rfl) ?_
      refine Ev.ite_neg (by decide) ?_
      exact Ev.eq (Ev.now _) (by simp [goodGo])
  | succ d ih =>
    intro i id acc hi h2 h3 h4
    have hi' := hi
    rw [List.length_take] at hi
    have hil : i < l.length := by omega
    have e : rd_T33 l (i : Int) = l[i] := by simp [rd_T33, hil]
    have hdr : (l.take 14).drop i = l[i] :: (l.take 14).drop (i + 1) := by
      rw [List.drop_eq_getElem_cons (by omega)]
      simp
    rw [hdr]
    obtain ⟨x, hx⟩ : ∃ x, x = l[i] := ⟨_, rfl⟩
    rw [← hx] at e ⊢
    have b0 := Int.emod_nonneg x.f0 (show (3 : Int) ≠ 0 by decide)
    have c0 := Int.emod_lt_of_pos x.f0 (show (0 : Int) < 3 by decide)
    have b2 := Int.emod_nonneg x.f2 (show (8 : Int) ≠ 0 by decide)
    have c2 := Int.emod_lt_of_pos x.f2 (show (0 : Int) < 8 by decide)
    have b3 := Int.emod_nonneg x.f3 (show (9 : Int) ≠ 0 by decide)
    have c3 := Int.emod_lt_of_pos x.f3 (show (0 : Int) < 9 by decide)
    have b5 := Int.emod_nonneg x.f5 (show (1000 : Int) ≠ 0 by decide)
    have c5 := Int.emod_lt_of_pos x.f5 (show (0 : Int) < 1000 by decide)
    have b7 := Int.emod_nonneg x.f7 (show (9 : Int) ≠ 0 by decide)
    have c7 := Int.emod_lt_of_pos x.f7 (show (0 : Int) < 9 by decide)
    have b8 := Int.emod_nonneg x.f8 (show (9 : Int) ≠ 0 by decide)
    have c8 := Int.emod_lt_of_pos x.f8 (show (0 : Int) < 9 by decide)
    have b4 := Int.emod_nonneg x.f4 (show (1000 : Int) ≠ 0 by decide)
    have c4 := Int.emod_lt_of_pos x.f4 (show (0 : Int) < 1000 by decide)
    refine Ev.step (fun k => by simp only [tolllaw10_Good.l0]; rfl) ?_
    refine Ev.ite_pos (by omega) ?_
    rw [decide_eq_true (by omega)]
    refine Ev.step (fun k => by simp only [tolllaw10_Good.j1]; rfl) ?_
    refine Ev.ite_pos (by trivial) (Ev.ite_pos (by omega) (Ev.ite_pos (by omega) ?_))
    rw [e]
    refine Ev.bindc (within_f _ _ (by decide) (by decide)) (Ev.bindc (within_f _ _ (by decide) (by decide)) (Ev.bindc (within_f _ _ (by decide) (by decide)) (Ev.bindc (within_f _ _ (by decide) (by decide)) (Ev.bindc (within_f _ _ (by decide) (by decide)) (Ev.bindc (within_f _ _ (by decide) (by decide)) (Ev.bindc (within_f _ _ (by decide) (by decide)) (Ev.bindc (within_f _ _ (by decide) (by decide)) ?_)))))))
    refine Ev.ite_pos (by omega) ?_
    rw [mx_eq, w64 (x := now - 5) (by omega) (by omega), w64 (x := now - 5 + x.f2 % 8) (by omega) (by omega), w64 (x := id + 1) (by omega) (by omega), w64 (x := id + 1 + x.f0 % 3) (by omega) (by omega), w64 (x := max 0 (now - 5 + x.f2 % 8) + 1) (by omega) (by omega), w64 (x := max 0 (now - 5 + x.f2 % 8) + 1 + x.f3 % 9) (by omega) (by omega), w64 (x := x.f5 % 1000 + x.f7 % 9) (by omega) (by omega), w64 (x := x.f5 % 1000 + x.f7 % 9 + x.f8 % 9) (by omega) (by omega), w64 (x := x.f5 % 1000 + x.f7 % 9 + x.f8 % 9 + x.f4 % 1000) (by omega) (by omega), w64 (x := (i : Int) + 1) (by omega) (by omega)]
    have := ih (i + 1) (id + 1 + x.f0 % 3) (acc ++ [goodOne now id x]) (by omega) (by omega) (by omega) (by simp [h4])
    refine Ev.eq this ?_
    simp [goodGo]
theorem good_f (l : List SL) (now : Int) (h0 : 0 ≤ now) (h1 : now < 100000) : Ev (fun k => tolllaw10_Good.f k l now) (goodL l now) :=
  Ev.eq (good_l0 l now h0 h1 (l.take 14).length 0 0 [] (by omega) (by decide) (by decide) rfl) (by simp [goodL])
theorem same_l0 (l : List SL) (hl : l.length < 15) (d : Nat) : ∀ i : Nat, i + d = l.length → Ev (fun k => tollref6_SameLots.l0 k l l (i : Int)) true := by
  induction d with
  | zero =>
    intro i hi
    refine Ev.step (fun k => by simp only [tollref6_SameLots.l0]; rfl) ?_
    refine Ev.ite_neg (by omega) ?_
    exact Ev.now _
  | succ d ih =>
    intro i hi
    refine Ev.step (fun k => by simp only [tollref6_SameLots.l0]; rfl) ?_
    refine Ev.ite_pos (by omega) (Ev.ite_pos (by omega) (Ev.ite_pos (by omega) ?_))
    refine Ev.ite_neg (by simp) ?_
    rw [w64 (by omega) (by omega)]
    exact ih (i + 1) (by omega)
theorem same_f (l : List SL) (hl : l.length < 15) : Ev (fun k => tollref6_SameLots.f k l l) true := by
  unfold tollref6_SameLots.f
  exact Ev.ite_pos rfl (same_l0 l hl l.length 0 (by omega))
end Go.Proofs.Ytjoimapgmocoeaa.Lk
