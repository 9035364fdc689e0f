/- The windows of WindowFull, as lists. -/
import Derived.Test.YtndgpncdnbbneaaWinPlain
set_option linter.unusedVariables false
set_option linter.unusedSimpArgs false
namespace Go.Proofs.Ytndgpncdnbbneaa.Lk
open Go.RowKit Go.Proofs.Ytndgpncdnbbneaa.Xa Go.Proofs.YtndgpncdnbbneaaW.PrintWords Go.Proofs.YtndgpncdnbbneaaW.PrintLast Go.Proofs.Ytndgpncdnbbneaa.Own
/-- An answer with this number. -/
def nA (n : Int) : SA := ⟨0, 0, 0, n, z30⟩
def eF (d : Int) (j : Nat) : SE := ⟨100 + ((j : Int) + 1) * d, nA ((j : Int) + 1)⟩
def winF (d : Int) (i : Nat) : List SE := (List.range i).map (eF d)
theorem winF_succ (d : Int) (i : Nat) : winF d (i + 1) = winF d i ++ [eF d i] := by simp [winF, List.range_succ]
theorem winF_len (d : Int) (i : Nat) : (winF d i).length = i := by simp [winF]
theorem winF_mem {d : Int} {i : Nat} {y : SE} (h : y ∈ winF d i) : ∃ j, j < i ∧ y = eF d j := by
  simp only [winF, List.mem_map, List.mem_range] at h
  obtain ⟨j, h1, h2⟩ := h
  exact ⟨j, h1, h2.symm⟩
theorem mul_mono {a b d : Int} (hd : 0 ≤ d) (h : a ≤ b) : a * d ≤ b * d := Int.mul_le_mul_of_nonneg_right h hd
theorem winF_note (d : Int) (i : Nat) (h0 : 2 ≤ d) (h : i < 12) : noteSpec (winF d i) (100 + ((i : Int) + 1) * d) (nA ((i : Int) + 1)) = winF d (i + 1) := by
  rw [note_end _ (fun y hy => by
    obtain ⟨j, hj, rfl⟩ := winF_mem hy
    show 100 + ((j : Int) + 1) * d < 100 + ((i : Int) + 1) * d
    have := mul_mono (a := (j : Int) + 1 + 1) (b := (i : Int) + 1) (d := d) (by omega) (by omega)
    rw [Int.add_mul ((j : Int) + 1)] at this
    omega), winF_len, show i + 1 - 12 = 0 by omega, List.drop_zero]
  exact (winF_succ d i).symm
theorem winF_twelve (d : Int) : winF d 12 = [eF d 0, eF d 1, eF d 2, eF d 3, eF d 4, eF d 5, eF d 6, eF d 7, eF d 8, eF d 9, eF d 10, eF d 11] := rfl
theorem askF_low (d : Int) (h0 : 2 ≤ d) : askSpec (winF d 12) (100 + d - 1) = (2, zA) := by
  have h : askIn (100 + d - 1) (winF d 12) = none := askIn_none (fun y hy => by
    obtain ⟨j, hj, rfl⟩ := winF_mem hy
    show 100 + ((j : Int) + 1) * d ≠ _
    have := mul_mono (a := 1) (b := (j : Int) + 1) (d := d) (by omega) (by omega)
    omega)
  unfold askSpec
  rw [h, winF_twelve]
  exact if_pos ⟨by simp, by simp [eF]; omega⟩
theorem askF_mid (d : Int) (h0 : 2 ≤ d) : askSpec (winF d 12) (100 + d + 1) = (0, zA) := by
  have h : askIn (100 + d + 1) (winF d 12) = none := askIn_none (fun y hy => by
    obtain ⟨j, hj, rfl⟩ := winF_mem hy
    show 100 + ((j : Int) + 1) * d ≠ _
    by_cases hj0 : j = 0
    · subst hj0
      simp
      omega
    · have := mul_mono (a := 2) (b := (j : Int) + 1) (d := d) (by omega) (by omega)
      omega)
  unfold askSpec
  rw [h, winF_twelve]
  exact if_neg (fun h => by have := h.2; simp [eF] at this; omega)
theorem askF_one (d : Int) (h0 : 2 ≤ d) : askSpec (winF d 12) (100 + d) = (1, nA 1) := by
  unfold askSpec
  rw [winF_twelve]
  have : askIn (100 + d) [eF d 0, eF d 1, eF d 2, eF d 3, eF d 4, eF d 5, eF d 6, eF d 7, eF d 8, eF d 9, eF d 10, eF d 11] = some (nA 1) := by simp [askIn, eF]
  rw [this]
/-- What the law knows of its windows then: full, all above the one that was let go. -/
def Above (d N : Int) (xs : List SE) : Prop := xs.length = 12 ∧ ∀ y ∈ xs, 100 + d < y.f0 ∧ y.f0 < N
theorem above_stale {d N : Int} {xs : List SE} (h : Above d N xs) : askSpec xs (100 + d) = (2, zA) := by
  unfold askSpec
  rw [askIn_none (fun y hy => by have := h.2 y hy; omega)]
  refine if_pos ⟨by have := h.1; omega, ?_⟩
  have hl := h.1
  match xs, hl with
  | x :: xs, _ => exact (h.2 x List.mem_cons_self).1
theorem note_mid (d : Int) (h0 : 2 ≤ d) (h1 : d ≤ 51) : Above d 200000 (noteSpec (winF d 12) (100 + d + 1) (nA 77)) ∧ askSpec (noteSpec (winF d 12) (100 + d + 1) (nA 77)) (100 + d + 1) = (1, nA 77) := by
  have hat : noteAt (100 + d + 1) (winF d 12) = 1 := by
    rw [winF_twelve]
    have e1 : (eF d 0).f0 < 100 + d + 1 := by simp [eF]; omega
    have e2 : ¬ (eF d 1).f0 < 100 + d + 1 := by simp [eF]; omega
    simp only [noteAt, if_pos e1, if_neg e2]
  have he : noteSpec (winF d 12) (100 + d + 1) (nA 77) = [(⟨100 + d + 1, nA 77⟩ : SE), eF d 1, eF d 2, eF d 3, eF d 4, eF d 5, eF d 6, eF d 7, eF d 8, eF d 9, eF d 10, eF d 11] := by
    unfold noteSpec
    rw [hat, winF_twelve]
    rfl
  rw [he]
  constructor
  · refine ⟨rfl, fun y hy => ?_⟩
    simp only [List.mem_cons, List.not_mem_nil, or_false] at hy
    rcases hy with rfl | rfl | rfl | rfl | rfl | rfl | rfl | rfl | rfl | rfl | rfl | rfl <;> simp [eF] <;> omega
  · unfold askSpec
    simp [askIn]
theorem above_note {d N id : Int} {xs : List SE} (a : SA) (h : Above d N xs) (h1 : N ≤ id) (h2 : 100 + d < id) : Above d (id + 1) (noteSpec xs id a) ∧ askSpec (noteSpec xs id a) id = (1, a) := by
  have he := note_end (xs := xs) (id := id) a (fun y hy => by have := h.2 y hy; omega)
  rw [h.1] at he
  have hl := h.1
  match xs, hl with
  | x :: xs, hl =>
    have h3 : noteSpec (x :: xs) id a = xs ++ [(⟨id, a⟩ : SE)] := by rw [he]; rfl
    rw [h3]
    have hn : ∀ y ∈ xs, 100 + d < y.f0 ∧ y.f0 < N := fun y hy => h.2 y (List.mem_cons_of_mem _ hy)
    constructor
    · refine ⟨by simpa using hl, fun y hy => ?_⟩
      rcases List.mem_append.1 hy with hy | hy
      · have := hn y hy
        omega
      · simp at hy
        subst hy
        show 100 + d < id ∧ id < id + 1
        omega
    · unfold askSpec
      rw [askIn_append, askIn_none (fun y hy => by have := hn y hy; omega)]
      simp [askIn]
end Go.Proofs.Ytndgpncdnbbneaa.Lk
