/- What Go functions of this seat compute, as plain Lean functions; the machine's calls do what these say, under the conditions that each theorem names. Written by a program of this session (xprint, over print.py of the kit). -/
import Derived.Test.YtjoimapgmocoeaaXa0
import Derived.Test.YtjoimapgmocoeaaLotUse
namespace Go.Proofs.Ytjoimapgmocoeaa.Xa
open Go.RowKit Go.Proofs.YtjoimapgmocoeaaW.PrintWords Go.Proofs.YtjoimapgmocoeaaW.PrintLast Go.Proofs.YtjoimapgmocoeaaW.PrintMore
attribute [local go_sem] max2_int min2_int max_two min_two max_three min_three max_four min_four   -- for this text's walks alone
set_option linter.unusedVariables false
set_option linter.unusedSimpArgs false

/-! ### lots_Use: function 19 (by hand) -/
-- needs YtjoimapgmocoeaaLotUse
def lots_Use.f (l0 : List (S33)) (l1 : List (S35)) (a2 : Int) (a3 : Int) : Option ((List (S33)) × Int) := if l0.length < 15 then (if l1.length < 1000000 then some (Lk.useW l0 a2 a3 l1) else none) else none
theorem lots_Use.calls (A0 : Option Addr) (c0 : Nat) (l0 : List (S33)) (A1 : Option Addr) (c1 : Nat) (l1 : List (S35)) (a2 : Int) (a3 : Int) (r1 : List (S33)) (r2 : Int) (w : World) (hr0 : Kd.C k33 w A0 l0.length l0) (hc0 : l0.length ≤ c0) (hr1 : Kd.C k35 w A1 l1.length l1) (hc1 : l1.length ≤ c1) (h : lots_Use.f l0 l1 a2 a3 = some (r1, r2)) :
    Calls Try.prog 19 #[.slice A0 l0.length c0, .slice A1 l1.length c1, .int .i64 a2, .int .i64 a3] w fun e w' => ∃ v0_ : Value, e = .returned (.tuple #[v0_, .int .i64 r2]) ∧ Kd.R k33 33 w' w.heap.size (fun _ => True) v0_ r1 ∧ Below w.heap.size w w' := by
  unfold lots_Use.f at h
  split at h
  · split at h
    · have h2 := Option.some.inj h
      have h3 := Lk.use_calls A0 c0 l0 A1 c1 l1 a2 a3 w hr0 hc0 hr1 hc1 (by assumption) (by assumption)
      rw [h2] at h3
      exact h3
    · cases h
  · cases h


end Go.Proofs.Ytjoimapgmocoeaa.Xa
