/- The plain statement of TermBounds: of any kind, anchor, number of days and day the program's next and last bound are the reference's. For every four whole numbers. -/
import Derived.Test.YteafkpkghebnbaaLaw8
import Derived.Test.YteafkpkghebnbaaXa6
set_option linter.unusedVariables false
set_option linter.unusedSimpArgs false
namespace Go.Proofs.Yteafkpkghebnbaa.Pure
open Go.RowKit Go.Proofs.Yteafkpkghebnbaa.Xa Go.Proofs.YteafkpkghebnbaaW.PrintWords Go.Proofs.YteafkpkghebnbaaW.PrintLast Go.Proofs.Yteafkpkghebnbaa.Cal Go.Proofs.Yteafkpkghebnbaa.Lk
theorem TermBounds : tolllaw8_TermBounds.Pure := by
  intro kind a n day _ _ _ _
  obtain ⟨r, h1, h2⟩ := next_both kind a n day
  obtain ⟨q, h3, h4⟩ := last_both a day
  refine Ev.rounds ?_
  unfold tolllaw8_TermBounds.f
  refine Ev.bind known_f (Ev.ite_pos rfl ?_)
  refine Ev.bind h1 (Ev.bind h2 (Ev.bind h3 (Ev.bind h4 ?_)))
  refine Ev.ite_pos rfl (Ev.ite_pos rfl (Ev.ite_pos rfl ?_))
  exact Ev.const (by simp)
end Go.Proofs.Yteafkpkghebnbaa.Pure
