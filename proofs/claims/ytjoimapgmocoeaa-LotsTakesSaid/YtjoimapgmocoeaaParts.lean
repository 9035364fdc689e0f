/- The parts that Take gives, one by one. -/
import Derived.Test.YtjoimapgmocoeaaUseAll
set_option linter.unusedVariables false
set_option linter.unusedSimpArgs false
namespace Go.Proofs.Ytjoimapgmocoeaa.Lk
open Go.RowKit Go.Proofs.YtjoimapgmocoeaaW.PrintWords Go.Proofs.YtjoimapgmocoeaaW.PrintLast Go.Proofs.YtjoimapgmocoeaaW.PrintMore Go.Proofs.Ytjoimapgmocoeaa.Xa
abbrev zP : SP := ⟨0, 0⟩
/-- The k-th part: of the k-th place, all that it has but for the last. -/
theorem pts_get (l : List SL) (r : Nat → Int) : ∀ (is : List Nat) (n : Int) (k : Nat), is.Nodup → 0 ≤ n → (∀ i ∈ is, 0 < r i) → k < (pts l r n is).length → k < is.length ∧ ((pts l r n is).getD k zP).f0 = (l.getD (is.getD k 0) zL).f0 ∧ ((pts l r n is).getD k zP).f1 = am r n is (is.getD k 0) ∧ 0 < ((pts l r n is).getD k zP).f1 ∧ ((pts l r n is).getD k zP).f1 ≤ r (is.getD k 0) ∧ (k + 1 < (pts l r n is).length → ((pts l r n is).getD k zP).f1 = r (is.getD k 0))
  | [], n, k, _, _, _, h => absurd h (by simp [pts])
  | i :: is, n, k, hn, h0, hr, h => by
    obtain ⟨n1, n2⟩ := List.nodup_cons.1 hn
    have hi := hr i (List.mem_cons_self ..)
    by_cases e : min n (r i) ≤ 0
    · simp only [pts, if_pos e] at h
      exact absurd h (by simp)
    · have hp : pts l r n (i :: is) = ⟨(l.getD i zL).f0, min n (r i)⟩ :: pts l r (n - min n (r i)) is := by
        simp only [pts]
        rw [if_neg e]
      rw [hp] at h ⊢
      cases k with
      | zero =>
        simp only [List.getD_cons_zero]
        refine ⟨by simp, trivial, by rw [am_head], by omega, by omega, fun g => ?_⟩
        by_cases q : r i ≤ n
        · omega
        · exfalso
          have hz : n - min n (r i) = 0 := by omega
          rw [hz] at g
          cases is with
          | nil => simp [pts] at g
          | cons j js =>
            have := hr j (by simp)
            have hm : min 0 (r j) ≤ 0 := by omega
            simp [pts, hm] at g
      | succ k =>
        have hk : k < (pts l r (n - min n (r i)) is).length := by simpa using h
        obtain ⟨q1, q2, q3, q4, q5, q6⟩ := pts_get l r is (n - min n (r i)) k n2 (by omega) (fun j g => hr j (List.mem_cons_of_mem _ g)) hk
        simp only [List.getD_cons_succ]
        have hmem : is.getD k 0 ∈ is := by
          have : is.getD k 0 = is[k] := by simp [q1]
          rw [this]
          exact List.getElem_mem q1
        refine ⟨by simpa using q1, q2, by rw [am_tail _ _ _ _ _ (fun g => n1 (by rw [← g]; exact hmem))]; exact q3, q4, q5, fun g => q6 (by simpa using g)⟩
theorem pts_three (l : List SL) (r : Nat → Int) : ∀ (is : List Nat) (n : Int), 0 ≤ n → (∀ i ∈ is, r i = 3) → ((pts l r n is).length : Int) = min ((n + 2) / 3) (is.length : Int)
  | [], n, h0, _ => by
    simp only [pts, List.length_nil]
    omega
  | i :: is, n, h0, hr => by
    have hi := hr i (List.mem_cons_self ..)
    have ih := pts_three l r is (n - min n (r i)) (by omega) (fun j g => hr j (List.mem_cons_of_mem _ g))
    simp only [pts]
    by_cases e : min n (r i) ≤ 0
    · rw [if_pos e]
      simp only [List.length_nil, List.length_cons]
      omega
    · rw [if_neg e]
      simp only [List.length_cons]
      omega
end Go.Proofs.Ytjoimapgmocoeaa.Lk
