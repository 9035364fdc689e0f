/- Windows as lists: what Ask and Note answer. -/
import Derived.Test.YtndgpncdnbbneaaEv
import Derived.Test.YtndgpncdnbbneaaNoteB
set_option linter.unusedVariables false
set_option linter.unusedSimpArgs false
namespace Go.Proofs.Ytndgpncdnbbneaa.Lk
open Go.RowKit Go.Proofs.Ytndgpncdnbbneaa.Xa Go.Proofs.YtndgpncdnbbneaaW.PrintWords Go.Proofs.YtndgpncdnbbneaaW.PrintLast Go.Proofs.Ytndgpncdnbbneaa.Own
abbrev zA : SA := z32
def askIn (id : Int) : List SE → Option SA
  | [] => none
  | x :: xs => if x.f0 = id then some x.f1 else askIn id xs
def askSpec (xs : List SE) (id : Int) : Int × SA :=
  match askIn id xs with
  | some a => (1, a)
  | none => if 12 ≤ xs.length ∧ id < (xs.getD 0 zE).f0 then (2, zA) else (0, zA)
/-- A greater id is laid behind all. -/
theorem noteAt_all {id : Int} : ∀ {xs : List SE}, (∀ y ∈ xs, y.f0 < id) → noteAt id xs = xs.length
  | [], _ => rfl
  | x :: xs, h => by
    have := noteAt_all (id := id) (xs := xs) (fun y hy => h y (List.mem_cons_of_mem _ hy))
    simp [noteAt, h x List.mem_cons_self, this]
theorem note_end {xs : List SE} {id : Int} (a : SA) (h : ∀ y ∈ xs, y.f0 < id) : noteSpec xs id a = (xs ++ [(⟨id, a⟩ : SE)]).drop (xs.length + 1 - 12) := by
  unfold noteSpec
  rw [noteAt_all h, List.take_length, List.drop_length, List.append_nil]
theorem askIn_append (id : Int) : ∀ (xs ys : List SE), askIn id (xs ++ ys) = (askIn id xs).or (askIn id ys)
  | [], ys => rfl
  | x :: xs, ys => by
    simp only [List.cons_append, askIn]
    split
    · rfl
    · exact askIn_append id xs ys
theorem askIn_none {id : Int} : ∀ {xs : List SE}, (∀ y ∈ xs, y.f0 ≠ id) → askIn id xs = none
  | [], _ => rfl
  | x :: xs, h => by
    simp only [askIn, if_neg (h x List.mem_cons_self)]
    exact askIn_none (fun y hy => h y (List.mem_cons_of_mem _ hy))
end Go.Proofs.Ytndgpncdnbbneaa.Lk
