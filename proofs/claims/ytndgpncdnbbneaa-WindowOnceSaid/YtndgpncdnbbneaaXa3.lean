/- What Go functions of this seat compute, as plain Lean functions; the machine's calls do what these say, under the conditions that each theorem names. Written by a program of this session (xprint, over print.py of the kit). -/
import Derived.Test.YtndgpncdnbbneaaXa0
import Derived.Test.YtndgpncdnbbneaaNoteB
namespace Go.Proofs.Ytndgpncdnbbneaa.Xa
open Go.RowKit Go.Proofs.YtndgpncdnbbneaaW.PrintWords Go.Proofs.YtndgpncdnbbneaaW.PrintLast Go.Proofs.YtndgpncdnbbneaaW.PrintMore
attribute [local go_sem] max2_int min2_int max_two min_two max_three min_three max_four min_four   -- for this text's walks alone
set_option linter.unusedVariables false
set_option linter.unusedSimpArgs false

/-! ### window_Note: function 9 (by hand) -/
-- needs YtndgpncdnbbneaaNoteB
def window_Note.f (l0 : List (S40)) (a1 : Int) (a2_0 : Int) (a2_1 : Int) (a2_2 : Int) (a2_3 : Int) (a2_4 : ByteArray) (a2_5 : Int) (a2_6 : Int) (a2_7 : Int) (a2_8 : Int) (a2_9 : Int) (a2_10 : Int) (a2_11 : Int) (a2_12 : Int) : Option (List (S40)) := if l0.length < 1000000 then some (Own.noteSpec l0 a1 ⟨a2_0, a2_1, a2_2, a2_3, ⟨a2_4, a2_5, a2_6, a2_7, a2_8, a2_9, a2_10, a2_11, a2_12⟩⟩) else none
theorem window_Note.calls (A0 : Option Addr) (c0 : Nat) (l0 : List (S40)) (a1 : Int) (a2_0 : Int) (a2_1 : Int) (a2_2 : Int) (a2_3 : Int) (a2_4 : ByteArray) (a2_5 : Int) (a2_6 : Int) (a2_7 : Int) (a2_8 : Int) (a2_9 : Int) (a2_10 : Int) (a2_11 : Int) (a2_12 : Int) (r : List (S40)) (w : World) (hr0 : Kd.C k40 w A0 l0.length l0) (hc0 : l0.length ≤ c0) (h : window_Note.f l0 a1 a2_0 a2_1 a2_2 a2_3 a2_4 a2_5 a2_6 a2_7 a2_8 a2_9 a2_10 a2_11 a2_12 = some r) :
    Calls Try.prog 9 #[.slice A0 l0.length c0, .int .i64 a1, .agg #[.int .i64 a2_0, .int .i64 a2_1, .int .i64 a2_2, .int .i64 a2_3, .string a2_4, .int .i64 a2_5, .int .i64 a2_6, .int .i64 a2_7, .int .i64 a2_8, .int .i64 a2_9, .int .i64 a2_10, .int .i64 a2_11, .int .i64 a2_12]] w fun e w' => ∃ v0_ : Value, e = .returned (v0_) ∧ Kd.Q k40 40 w' w.heap.size (fun _ => True) v0_ r ∧ Below w.heap.size w w' := by
  unfold window_Note.f at h
  split at h
  · obtain rfl := Option.some.inj h
    exact Own.note_calls A0 c0 l0 a1 ⟨a2_0, a2_1, a2_2, a2_3, ⟨a2_4, a2_5, a2_6, a2_7, a2_8, a2_9, a2_10, a2_11, a2_12⟩⟩ w hr0 hc0 (by assumption)
  · cases h


end Go.Proofs.Ytndgpncdnbbneaa.Xa
