/- Windows: the calls of the chapter's functions, in the words of XWin. -/
import Derived.Test.YtndgpncdnbbneaaWin
import Derived.Test.YtndgpncdnbbneaaXa2
import Derived.Test.YtndgpncdnbbneaaXa3
import Derived.Test.YtndgpncdnbbneaaXa4
import Derived.Test.YtndgpncdnbbneaaXa5
set_option linter.unusedVariables false
set_option linter.unusedSimpArgs false
namespace Go.Proofs.Ytndgpncdnbbneaa.Lk
open Go.RowKit Go.Proofs.Ytndgpncdnbbneaa.Xa Go.Proofs.YtndgpncdnbbneaaW.PrintWords Go.Proofs.YtndgpncdnbbneaaW.PrintLast Go.Proofs.Ytndgpncdnbbneaa.Own
theorem known_calls (w : World) : Calls Try.prog 6 #[] w fun e w' => e = .returned (.bool true) ∧ Below w.heap.size w w' := by
  obtain ⟨k, h⟩ := Ev.rounds known_f
  exact tolllaw12_known.calls k true w h
theorem within_calls (a n : Int) (w : World) (h0 : 0 < n) (h1 : n ≤ 2147483648) : Calls Try.prog 7 #[.int .i64 a, .int .i64 n] w fun e w' => e = .returned (.int .i64 (a % n)) ∧ w = w' :=
  tolllaw12_within.calls a n _ w (within_f a n h0 h1)
/-- A window of one's own. -/
def Win (w : World) (base : Nat) (A : Option Addr) (n c : Nat) (xs : List SE) : Prop := kE.Q 40 w base (fun _ => True) (.slice A n c) xs ∧ xs.length < 1000000
theorem Win.len {w : World} {base : Nat} {A : Option Addr} {n c : Nat} {xs : List SE} (h : Win w base A n c xs) : n = xs.length := (Kd.Q_reads' h.1).1
theorem Win.below {w w' : World} {base : Nat} {A : Option Addr} {n c : Nat} {xs : List SE} (h : Win w base A n c xs) (hb : Below w.heap.size w w') : Win w' base A n c xs := ⟨Kd.Q_below h.1 hb, h.2⟩
theorem ask_calls (xs : List SE) (id : Int) (w : World) (base : Nat) (A : Option Addr) (n c : Nat) (h : Win w base A n c xs) : Calls Try.prog 8 #[.slice A n c, .int .i64 id] w fun e w' =>
    e = .returned (.tuple #[.int .i64 (askSpec xs id).1, .agg (cellsA (askSpec xs id).2)]) ∧ Below w.heap.size w w' := by
  obtain ⟨rfl, h2, h3⟩ := Kd.Q_reads' h.1
  obtain ⟨k, hk⟩ := Ev.rounds (ask_f xs id (by have := h.2; omega))
  exact window_Ask.calls k A c xs id _ _ _ _ _ _ _ _ _ _ _ _ _ _ w h3 h2 hk
theorem noteq_calls (xs : List SE) (id : Int) (a : SA) (w : World) (base : Nat) (A : Option Addr) (n c : Nat) (h : Win w base A n c xs) : Calls Try.prog 9 #[.slice A n c, .int .i64 id, .agg (cellsA a)] w fun e w' =>
    ∃ A1 c1, e = .returned (.slice A1 (noteSpec xs id a).length c1) ∧ kE.Q 40 w' w.heap.size (fun _ => True) (.slice A1 (noteSpec xs id a).length c1) (noteSpec xs id a) ∧ Below w.heap.size w w' := by
  obtain ⟨rfl, h2, h3⟩ := Kd.Q_reads' h.1
  refine (note_calls A c xs id a w h3 h2 h.2).mono ?_
  rintro e w' ⟨v0, rfl, h4, h5⟩
  obtain ⟨A1, c1, rfl, h6, h7⟩ := Kd.Q_reads h4
  exact ⟨A1, c1, rfl, h4, h5⟩
end Go.Proofs.Ytndgpncdnbbneaa.Lk
