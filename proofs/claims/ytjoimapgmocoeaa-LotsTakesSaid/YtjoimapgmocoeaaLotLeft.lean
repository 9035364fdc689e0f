/- Left and Check in plain lists. -/
import Derived.Test.YtjoimapgmocoeaaLotPlain
import Derived.Test.YtjoimapgmocoeaaXa10
import Derived.Test.YtjoimapgmocoeaaXa11
import Derived.Test.YtjoimapgmocoeaaXa12
import Derived.Test.YtjoimapgmocoeaaXa16
import Derived.Test.YtjoimapgmocoeaaXa17
import Derived.Test.YtjoimapgmocoeaaXa18
set_option linter.unusedVariables false
set_option linter.unusedSimpArgs false
namespace Go.Proofs.Ytjoimapgmocoeaa.Lk
open Go.RowKit Go.Proofs.YtjoimapgmocoeaaW.PrintWords Go.Proofs.YtjoimapgmocoeaaW.PrintLast Go.Proofs.YtjoimapgmocoeaaW.PrintMore Go.Proofs.Ytjoimapgmocoeaa.Xa
theorem valid_f (x : SL) (now : Int) : lots_valid.f x.f0 x.f1 x.f2 x.f3 x.f4 x.f5 x.f6 x.f7 x.f8 now = some (validB x now) := by
  unfold lots_valid.f validB
  split <;> simp [*]
theorem rest_f (x : SL) : lots_Rest.f x.f0 x.f1 x.f2 x.f3 x.f4 x.f5 x.f6 x.f7 x.f8 = some (restW x) := rfl
/-- What remains in valid lots, behind n. -/
def leftGo (now : Int) : Int → List SL → Int
  | n, [] => n
  | n, x :: xs => leftGo now (if validB x now = true then wrap64 (n + restW x) else n) xs
def leftW (l : List SL) (now : Int) : Int := leftGo now 0 l
theorem left_l0 (l : List SL) (now : Int) (hl : l.length < 15) (d : Nat) : ∀ (i : Nat) (n : Int), i + d = l.length → Ev (fun k => lots_Left.l0 k now n l (l.length : Int) (i : Int)) (leftGo now n (l.drop i)) := by
  induction d with
  | zero =>
    intro i n hi
    have hd : l.drop i = [] := List.drop_of_length_le (by omega)
    rw [hd]
    refine Ev.step (fun k => by simp only [lots_Left.l0]; rfl) ?_
    refine Ev.ite_neg (by omega) ?_
    exact Ev.now _
  | succ d ih =>
    intro i n hi
    have hil : i < l.length := by omega
    have e : rd_T33 l (i : Int) = l[i] := by simp [rd_T33, hil]
    refine Ev.step (fun k => by simp only [lots_Left.l0]; rfl) ?_
    refine Ev.ite_pos (by omega) (Ev.ite_pos (by omega) (Ev.ite_pos (by omega) ?_))
    rw [e, List.drop_eq_getElem_cons hil]
    refine Ev.bindc (valid_f _ _) ?_
    simp only [leftGo]
    by_cases h : validB l[i] now = true
    · refine Ev.ite_pos h (Ev.bindc (rest_f _) ?_)
      rw [if_pos h, w64 (x := (i : Int) + 1) (by omega) (by omega)]
      exact ih (i + 1) _ (by omega)
    · refine Ev.ite_neg h ?_
      rw [if_neg h, w64 (x := (i : Int) + 1) (by omega) (by omega)]
      exact ih (i + 1) _ (by omega)
theorem left_f (l : List SL) (now : Int) (hl : l.length < 15) : Ev (fun k => lots_Left.f k l now) (leftW l now) := left_l0 l now hl l.length 0 0 (by omega)
def numB (n : Int) : Bool := decide (0 ≤ n) && decide (n ≤ 1099511627776)
theorem number_f (n : Int) : lots_number.f n = some (numB n) := by
  unfold lots_number.f numB
  split
  · rename_i h
    simp [show (0 : Int) ≤ n from h]
  · rename_i h
    simp [show ¬ (0 : Int) ≤ n from h]
/-- What is wrong with a lot behind an id. -/
def wrongW (x : SL) (last : Int) : Int :=
  if x.f0 ≤ last ∨ 1099511627776 < x.f0 then 1 else if x.f1 < 0 ∨ 2 < x.f1 then 3 else if x.f2 < 0 ∨ x.f3 ≤ x.f2 ∨ 1099511627776 < x.f3 then 1
  else if (numB x.f4 && numB x.f5 && numB x.f6 && numB x.f7 && numB x.f8) = true ∧ ¬ restW x < 0 then 0 else 11
theorem wrong_j2 (x : SL) : Ev (fun k => lots_wrong.j2 k false x.f0 x.f1 x.f2 x.f3 x.f4 x.f5 x.f6 x.f7 x.f8) (if (numB x.f4 && numB x.f5 && numB x.f6 && numB x.f7 && numB x.f8) = true ∧ ¬ restW x < 0 then 0 else 11) := by
  refine Ev.step (fun k => by simp only [lots_wrong.j2]; rfl) ?_
  refine Ev.ite_neg (by decide) ?_
  refine Ev.bindc (number_f _) ?_
  by_cases h4 : numB x.f4 = true
  · refine Ev.ite_pos h4 (Ev.bindc (number_f _) ?_)
    by_cases h5 : numB x.f5 = true
    · refine Ev.ite_pos h5 (Ev.bindc (number_f _) ?_)
      by_cases h6 : numB x.f6 = true
      · refine Ev.ite_pos h6 (Ev.bindc (number_f _) ?_)
        by_cases h7 : numB x.f7 = true
        · refine Ev.ite_pos h7 (Ev.bindc (number_f _) ?_)
          by_cases h8 : numB x.f8 = true
          · refine Ev.ite_pos h8 (Ev.bindc (rest_f x) ?_)
            by_cases hr : restW x < 0
            · refine Ev.ite_pos hr ?_
              exact Ev.eq (Ev.now _) (by rw [if_neg (fun h => h.2 hr)])
            · refine Ev.ite_neg hr ?_
              exact Ev.eq (Ev.now _) (by rw [if_pos ⟨by rw [h4, h5, h6, h7, h8]; rfl, hr⟩])
          · refine Ev.ite_neg h8 ?_
            exact Ev.eq (Ev.now _) (by rw [if_neg (fun h => h8 (by simp only [Bool.and_eq_true] at h; exact h.1.2))])
        · refine Ev.ite_neg h7 ?_
          exact Ev.eq (Ev.now _) (by rw [if_neg (fun h => h7 (by simp only [Bool.and_eq_true] at h; exact h.1.1.2))])
      · refine Ev.ite_neg h6 ?_
        exact Ev.eq (Ev.now _) (by rw [if_neg (fun h => h6 (by simp only [Bool.and_eq_true] at h; exact h.1.1.1.2))])
    · refine Ev.ite_neg h5 ?_
      exact Ev.eq (Ev.now _) (by rw [if_neg (fun h => h5 (by simp only [Bool.and_eq_true] at h; exact h.1.1.1.1.2))])
  · refine Ev.ite_neg h4 ?_
    exact Ev.eq (Ev.now _) (by rw [if_neg (fun h => h4 (by simp only [Bool.and_eq_true] at h; exact h.1.1.1.1.1))])
theorem wrong_j2t (x : SL) : Ev (fun k => lots_wrong.j2 k true x.f0 x.f1 x.f2 x.f3 x.f4 x.f5 x.f6 x.f7 x.f8) 1 := by
  refine Ev.step (fun k => by simp only [lots_wrong.j2]; rfl) ?_
  refine Ev.ite_pos (by trivial) ?_
  exact Ev.now _
theorem wrong_j1 (x : SL) : Ev (fun k => lots_wrong.j1 k false x.f0 x.f1 x.f2 x.f3 x.f4 x.f5 x.f6 x.f7 x.f8) (if x.f2 < 0 ∨ x.f3 ≤ x.f2 ∨ 1099511627776 < x.f3 then 1 else if (numB x.f4 && numB x.f5 && numB x.f6 && numB x.f7 && numB x.f8) = true ∧ ¬ restW x < 0 then 0 else 11) := by
  refine Ev.step (fun k => by simp only [lots_wrong.j1]; rfl) ?_
  refine Ev.ite_neg (by decide) ?_
  by_cases h1 : x.f2 < 0
  · refine Ev.ite_pos h1 ?_
    rw [if_pos (.inl h1)]
    exact wrong_j2t x
  · refine Ev.ite_neg h1 ?_
    by_cases h2 : x.f3 ≤ x.f2
    · refine Ev.ite_pos h2 ?_
      rw [if_pos (.inr (.inl h2))]
      exact wrong_j2t x
    · refine Ev.ite_neg h2 ?_
      by_cases h3 : 1099511627776 < x.f3
      · rw [if_pos (.inr (.inr h3)), decide_eq_true h3]
        exact wrong_j2t x
      · rw [if_neg (by omega), decide_eq_false h3]
        exact wrong_j2 x
theorem wrong_j1t (x : SL) : Ev (fun k => lots_wrong.j1 k true x.f0 x.f1 x.f2 x.f3 x.f4 x.f5 x.f6 x.f7 x.f8) 3 := by
  refine Ev.step (fun k => by simp only [lots_wrong.j1]; rfl) ?_
  refine Ev.ite_pos (by trivial) ?_
  exact Ev.now _
theorem wrong_j0 (x : SL) : Ev (fun k => lots_wrong.j0 k false x.f0 x.f1 x.f2 x.f3 x.f4 x.f5 x.f6 x.f7 x.f8) (if x.f1 < 0 ∨ 2 < x.f1 then 3 else if x.f2 < 0 ∨ x.f3 ≤ x.f2 ∨ 1099511627776 < x.f3 then 1 else if (numB x.f4 && numB x.f5 && numB x.f6 && numB x.f7 && numB x.f8) = true ∧ ¬ restW x < 0 then 0 else 11) := by
  refine Ev.step (fun k => by simp only [lots_wrong.j0]; rfl) ?_
  refine Ev.ite_neg (by decide) ?_
  by_cases h1 : x.f1 < 0
  · refine Ev.ite_pos h1 ?_
    rw [if_pos (.inl h1)]
    exact wrong_j1t x
  · refine Ev.ite_neg h1 ?_
    by_cases h2 : 2 < x.f1
    · rw [if_pos (.inr h2), decide_eq_true h2]
      exact wrong_j1t x
    · rw [if_neg (by omega), decide_eq_false h2]
      exact wrong_j1 x
theorem wrong_j0t (x : SL) : Ev (fun k => lots_wrong.j0 k true x.f0 x.f1 x.f2 x.f3 x.f4 x.f5 x.f6 x.f7 x.f8) 1 := by
  refine Ev.step (fun k => by simp only [lots_wrong.j0]; rfl) ?_
  refine Ev.ite_pos (by trivial) ?_
  exact Ev.now _
theorem wrong_f (x : SL) (last : Int) : Ev (fun k => lots_wrong.f k x.f0 x.f1 x.f2 x.f3 x.f4 x.f5 x.f6 x.f7 x.f8 last) (wrongW x last) := by
  unfold lots_wrong.f wrongW
  by_cases h1 : x.f0 ≤ last
  · refine Ev.ite_pos h1 ?_
    rw [if_pos (.inl h1)]
    exact wrong_j0t x
  · refine Ev.ite_neg h1 ?_
    by_cases h2 : 1099511627776 < x.f0
    · rw [if_pos (.inr h2), decide_eq_true h2]
      exact wrong_j0t x
    · rw [if_neg (by omega), decide_eq_false h2]
      exact wrong_j0 x
def checkGo : Int → List SL → Int
  | _, [] => 0
  | last, x :: xs => if wrongW x last = 0 then checkGo x.f0 xs else wrongW x last
theorem check_l0 (l : List SL) (hl : l.length < 15) (d : Nat) : ∀ (i : Nat) (last : Int), i + d = l.length → Ev (fun k => lots_Check.l0 k last l (l.length : Int) (i : Int)) (checkGo last (l.drop i)) := by
  induction d with
  | zero =>
    intro i n hi
    have hd : l.drop i = [] := List.drop_of_length_le (by omega)
    rw [hd]
    refine Ev.step (fun k => by simp only [lots_Check.l0]; rfl) ?_
    refine Ev.ite_neg (by omega) ?_
    exact Ev.now _
  | succ d ih =>
    intro i last hi
    have hil : i < l.length := by omega
    have e : rd_T33 l (i : Int) = l[i] := by simp [rd_T33, hil]
    refine Ev.step (fun k => by simp only [lots_Check.l0]; rfl) ?_
    refine Ev.ite_pos (by omega) (Ev.ite_pos (by omega) (Ev.ite_pos (by omega) ?_))
    rw [e, List.drop_eq_getElem_cons hil]
    refine Ev.bind (wrong_f _ _) ?_
    simp only [checkGo]
    by_cases h : wrongW l[i] last = 0
    · refine Ev.ite_pos h ?_
      rw [if_pos h, w64 (x := (i : Int) + 1) (by omega) (by omega)]
      exact ih (i + 1) _ (by omega)
    · refine Ev.ite_neg h ?_
      rw [if_neg h]
      exact Ev.now _
theorem check_f (l : List SL) (hl : l.length < 15) : Ev (fun k => lots_Check.f k l) (checkGo 0 l) := by
  unfold lots_Check.f
  exact Ev.ite_neg (by omega) (check_l0 l hl l.length 0 0 (by omega))
end Go.Proofs.Ytjoimapgmocoeaa.Lk
