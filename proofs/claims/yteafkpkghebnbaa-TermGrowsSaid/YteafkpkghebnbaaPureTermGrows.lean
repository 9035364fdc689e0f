/- The plain statement of TermGrows: a greater part has no lesser share, of more units no less. For every four whole numbers. -/
import Derived.Test.YteafkpkghebnbaaPureTermShares
import Derived.Test.YteafkpkghebnbaaXa4
set_option linter.unusedVariables false
set_option linter.unusedSimpArgs false
namespace Go.Proofs.Yteafkpkghebnbaa.Pure
open Go.RowKit Go.Proofs.Yteafkpkghebnbaa.Xa Go.Proofs.YteafkpkghebnbaaW.PrintWords Go.Proofs.YteafkpkghebnbaaW.PrintLast Go.Proofs.Yteafkpkghebnbaa.Cal Go.Proofs.Yteafkpkghebnbaa.Lk
theorem TermGrows : tolllaw8_TermGrows.Pure := by
  intro a0 a1 a2 a3 _ _ _ _
  obtain ⟨n, h1, h2, h3⟩ := within_f a0 1000000000 (by omega) (by omega)
  obtain ⟨w, h4, h5, h6⟩ := within_f a2 400 (by omega) (by omega)
  obtain ⟨p, h7, h8, h9⟩ := within_f a1 (1 + w) (by omega) (by omega)
  obtain ⟨m, h10, h11, h12⟩ := within_f a3 (1000000000 - n + 1) (by omega) (by omega)
  refine Ev.rounds ?_
  unfold tolllaw8_TermGrows.f
  refine Ev.bind known_f (Ev.ite_pos rfl ?_)
  refine Ev.bindc h1 (Ev.bindc h4 ?_)
  rw [w64 (x := 1 + w) (by omega) (by omega), w64 (x := 1000000000 - n) (by omega) (by omega), w64 (x := 1000000000 - n + 1) (by omega) (by omega)]
  refine Ev.bindc h7 (Ev.bindc h10 ?_)
  rw [w64 (x := p + 1) (by omega) (by omega), w64 (x := n + m) (by omega) (by omega)]
  have e1 : term_Share.f n p (1 + w) = some (n * p / (1 + w)) := share_f (by omega) (by omega) (by omega) (by omega) (by omega)
  have hb := share_bds (n := n) (p := p) (w := 1 + w) (by omega) (by omega) (by omega) (by omega) (by omega)
  refine Ev.bindc e1 ?_
  refine Ev.bindc (share_f (n := n) (p := p + 1) (w := 1 + w) (by omega) (by omega) (by omega) (by omega) (by omega)) ?_
  refine Ev.ite_pos (Int.ediv_le_ediv (by omega) (Int.mul_le_mul_of_nonneg_left (by omega) (by omega))) ?_
  (try refine Ev.bindc e1 ?_)
  refine Ev.bindc (share_f (n := n + m) (p := p) (w := 1 + w) (by omega) (by omega) (by omega) (by omega) (by omega)) ?_
  refine Ev.ite_pos (Int.ediv_le_ediv (by omega) (Int.mul_le_mul_of_nonneg_right (by omega) (by omega))) ?_
  (try refine Ev.bindc e1 ?_)
  refine Ev.const ?_
  rw [decide_eq_true]
  refine Int.ediv_le_of_le_mul (by omega) ?_
  exact Int.mul_le_mul_of_nonneg_left (by omega) (by omega)
end Go.Proofs.Yteafkpkghebnbaa.Pure
