/- The words that all laws of chapter 8 share: the chapter's example holds; 'within' answers a number from 0 to n - 1. -/
import Derived.Test.YteafkpkghebnbaaTerm
import Derived.Test.YteafkpkghebnbaaXa4
set_option linter.unusedVariables false
set_option linter.unusedSimpArgs false
namespace Go.Proofs.Yteafkpkghebnbaa.Lk
open Go.RowKit Go.Proofs.Yteafkpkghebnbaa.Xa Go.Proofs.YteafkpkghebnbaaW.PrintWords Go.Proofs.YteafkpkghebnbaaW.PrintLast Go.Proofs.Yteafkpkghebnbaa.Cal
theorem known_f : Ev (fun k => tolllaw8_known.f k) true := Ev.of (k := 60) (fun k => tolllaw8_known.mono k) (by decide +kernel)
theorem within_f (a n : Int) (h : 0 < n) (h1 : n ≤ 4611686018427387904) : ∃ t, tolllaw8_within.f a n = some t ∧ 0 ≤ t ∧ t < n := by
  have h2 := Int.tmod_lt_of_pos a h
  have h3 := Int.lt_tmod_of_pos a h
  unfold tolllaw8_within.f
  rw [if_neg (by omega)]
  by_cases hc : Int.tmod a n < 0
  · rw [if_pos hc, w64 (by omega) (by omega)]
    exact ⟨_, rfl, by omega, by omega⟩
  · rw [if_neg hc]
    exact ⟨_, rfl, by omega, by omega⟩
end Go.Proofs.Yteafkpkghebnbaa.Lk
