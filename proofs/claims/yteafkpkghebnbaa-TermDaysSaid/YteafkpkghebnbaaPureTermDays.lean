/- The plain statement of TermDays: a term of so many days ends so many days later; terms of a and of b days, one behind the other, end as one of both. For every three whole numbers. -/
import Derived.Test.YteafkpkghebnbaaLaw8
import Derived.Test.YteafkpkghebnbaaXa4
set_option linter.unusedVariables false
set_option linter.unusedSimpArgs false
namespace Go.Proofs.Yteafkpkghebnbaa.Pure
open Go.RowKit Go.Proofs.Yteafkpkghebnbaa.Xa Go.Proofs.YteafkpkghebnbaaW.PrintWords Go.Proofs.YteafkpkghebnbaaW.PrintLast Go.Proofs.Yteafkpkghebnbaa.Cal Go.Proofs.Yteafkpkghebnbaa.Lk
theorem TermDays : tolllaw8_TermDays.Pure := by
  intro a0 a1 a2 _ _ _
  obtain ⟨day, h1, h2, h3⟩ := within_f a0 2900000 (by omega) (by omega)
  obtain ⟨a, h4, h5, h6⟩ := within_f a1 180 (by omega) (by omega)
  obtain ⟨b, h7, h8, h9⟩ := within_f a2 180 (by omega) (by omega)
  refine Ev.rounds ?_
  unfold tolllaw8_TermDays.f
  refine Ev.bind known_f (Ev.ite_pos rfl ?_)
  refine Ev.bindc h1 (Ev.bindc h4 (Ev.bindc h7 ?_))
  rw [w64 (x := 1 + a) (by omega) (by omega), w64 (x := 1 + b) (by omega) (by omega), w64 (x := 1 + a + (1 + b)) (by omega) (by omega), w64 (x := day + (1 + a)) (by omega) (by omega)]
  refine Ev.bind (next_days 0 (1 + a) day) ?_
  rw [nd_ok (1 + a) day (by omega) (by omega) (by omega) (by omega)]
  refine Ev.bind (next_days 31 (1 + b) (day + (1 + a))) ?_
  rw [nd_ok (1 + b) (day + (1 + a)) (by omega) (by omega) (by omega) (by omega)]
  refine Ev.bind (next_days (-5) (1 + a + (1 + b)) day) ?_
  rw [nd_ok (1 + a + (1 + b)) day (by omega) (by omega) (by omega) (by omega)]
  refine Ev.ite_pos rfl (Ev.ite_pos rfl (Ev.ite_pos rfl (Ev.ite_pos rfl ?_)))
  refine Ev.const ?_
  congr 1
  simp
  omega
end Go.Proofs.Yteafkpkghebnbaa.Pure
