/- Windows: what Ask and Note answer, as plain functions of lists; the chapter's example; within. -/
import Derived.Test.YtndgpncdnbbneaaWinPlain
import Derived.Test.YtndgpncdnbbneaaXa2
import Derived.Test.YtndgpncdnbbneaaXa3
import Derived.Test.YtndgpncdnbbneaaXa4
import Derived.Test.YtndgpncdnbbneaaXa5
set_option linter.unusedVariables false
set_option linter.unusedSimpArgs false
namespace Go.Proofs.Ytndgpncdnbbneaa.Lk
open Go.RowKit Go.Proofs.Ytndgpncdnbbneaa.Xa Go.Proofs.YtndgpncdnbbneaaW.PrintWords Go.Proofs.YtndgpncdnbbneaaW.PrintLast Go.Proofs.Ytndgpncdnbbneaa.Own
theorem within_f (a n : Int) (h0 : 0 < n) (h1 : n ≤ 2147483648) : tolllaw12_within.f a n = some (a % n) := by
  unfold tolllaw12_within.f
  rw [if_neg (by omega)]
  have h2 := Int.tmod_lt_of_pos a h0
  have h3 : -n < Int.tmod a n := by have := Int.lt_tmod_of_pos a h0; omega
  have h4 := Int.emod_nonneg a (show n ≠ 0 by omega)
  have h5 := Int.emod_lt_of_pos a h0
  have h6 : Int.tmod a n = a % n ∨ Int.tmod a n = a % n - n := by
    rw [Int.tmod_eq_emod]
    split
    · left; omega
    · right; omega
  by_cases h : Int.tmod a n < 0
  · rw [if_pos h, w64 (by omega) (by omega)]
    congr 1
    omega
  · rw [if_neg h]
    congr 1
    omega
def tup (x : Int × SA) : Int × Int × Int × Int × Int × ByteArray × Int × Int × Int × Int × Int × Int × Int × Int :=
  (x.1, x.2.f0, x.2.f1, x.2.f2, x.2.f3, x.2.f4.f0, x.2.f4.f1, x.2.f4.f2, x.2.f4.f3, x.2.f4.f4, x.2.f4.f5, x.2.f4.f6, x.2.f4.f7, x.2.f4.f8)
theorem ask_l0 (xs : List SE) (id : Int) (hl : xs.length < 4611686018427387904) (j : Nat) : ∀ i : Nat, i + j = xs.length → Ev (fun k => window_Ask.l0 k xs id (xs.length : Int) (i : Int)) (tup (match askIn id (xs.drop i) with | some a => (1, a) | none => if 12 ≤ xs.length ∧ id < (xs.getD 0 zE).f0 then (2, zA) else (0, zA))) := by
  induction j with
  | zero =>
    intro i hi
    refine Ev.step (fun k => by simp only [window_Ask.l0]; rfl) ?_
    refine Ev.ite_neg (by omega) ?_
    rw [List.drop_of_length_le (by omega)]
    refine Ev.const ?_
    show _ = some (tup (if 12 ≤ xs.length ∧ id < (xs.getD 0 zE).f0 then (2, zA) else (0, zA)))
    by_cases h1 : 12 ≤ xs.length
    · rw [if_pos (by omega), if_pos (by omega)]
      have e : rd_T40 xs 0 = xs.getD 0 zE := rfl
      rw [e]
      by_cases h2 : id < (xs.getD 0 zE).f0
      · rw [if_pos h2, if_pos ⟨h1, h2⟩]
        rfl
      · rw [if_neg h2, if_neg (fun h => h2 h.2)]
        rfl
    · rw [if_neg (by omega), if_neg (fun h => h1 h.1)]
      rfl
  | succ j ih =>
    intro i hi
    have hil : i < xs.length := by omega
    have e : rd_T40 xs (i : Int) = xs[i] := by simp [rd_T40, hil]
    refine Ev.step (fun k => by simp only [window_Ask.l0]; rfl) ?_
    refine Ev.ite_pos (by omega) (Ev.ite_pos (by omega) (Ev.ite_pos (by omega) ?_))
    rw [e, List.drop_eq_getElem_cons hil]
    simp only [askIn]
    by_cases h : xs[i].f0 = id
    · refine Ev.ite_pos h ?_
      rw [if_pos h]
      exact Ev.now _
    · refine Ev.ite_neg h ?_
      rw [if_neg h, w64 (by omega) (by omega)]
      exact ih (i + 1) (by omega)
theorem ask_f (xs : List SE) (id : Int) (hl : xs.length < 4611686018427387904) : Ev (fun k => window_Ask.f k xs id) (tup (askSpec xs id)) := ask_l0 xs id hl xs.length 0 (by omega)
theorem note_f (xs : List SE) (id : Int) (a : SA) (hl : xs.length < 1000000) : window_Note.f xs id a.f0 a.f1 a.f2 a.f3 a.f4.f0 a.f4.f1 a.f4.f2 a.f4.f3 a.f4.f4 a.f4.f5 a.f4.f6 a.f4.f7 a.f4.f8 = some (noteSpec xs id a) := by
  unfold window_Note.f
  rw [if_pos hl]
set_option maxRecDepth 100000 in
theorem known_f : Ev (fun k => tolllaw12_known.f k) true := Ev.of (fun k => tolllaw12_known.mono k) (k := 40) (by decide +kernel)
end Go.Proofs.Ytndgpncdnbbneaa.Lk
