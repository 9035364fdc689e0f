/- Lots as plain lists: the order in which they are taken, Take and Use, as the program computes them (whole numbers of 64 bits). -/
import Derived.Test.YtjoimapgmocoeaaXa0
set_option linter.unusedVariables false
set_option linter.unusedSimpArgs false
namespace Go.Proofs.Ytjoimapgmocoeaa.Lk
open Go.RowKit Go.Proofs.Ytjoimapgmocoeaa.Xa
abbrev SL := S33
abbrev SP := S35
abbrev zL := z33
/-- What remains of a lot. -/
def restW (x : SL) : Int := wrap64 ((wrap64 ((wrap64 ((wrap64 (x.f4 - x.f5)) - x.f6)) - x.f7)) - x.f8)
def validB (x : SL) (now : Int) : Bool := decide (x.f2 ≤ now) && decide (now < x.f3)
/-- Of two lots' places: the first one's lot ends sooner, or as soon, and its id is less. -/
def ltL (l : List SL) (a b : Int) : Bool :=
  if (l.getD a.toNat zL).f3 < (l.getD b.toNat zL).f3 then true else if (l.getD b.toNat zL).f3 < (l.getD a.toNat zL).f3 then false else decide ((l.getD a.toNat zL).f0 < (l.getD b.toNat zL).f0)
/-- x laid into a row, from place j on towards the front, as an insertion sort does it. -/
def insAt (lt : Int → Int → Bool) (x : Int) (acc : List Int) : Nat → List Int
  | 0 => x :: acc
  | j + 1 => if lt x (acc.getD j 0) = true then insAt lt x acc j else acc.take (j + 1) ++ x :: acc.drop (j + 1)
def sortL (lt : Int → Int → Bool) (l : List Int) : List Int := l.foldl (fun acc x => insAt lt x acc acc.length) []
/-- The places of lots that may be taken of, from place i on. -/
def candL (now : Int) : Nat → List SL → List Int
  | _, [] => []
  | i, x :: xs => if validB x now && decide (0 < restW x) then (i : Int) :: candL now (i + 1) xs else candL now (i + 1) xs
def orderL (l : List SL) (now : Int) : List Int := sortL (ltL l) (candL now 0 l)
def takeGo (l : List SL) (ps : List SP) (n : Int) : List Int → List SL × List SP × Int
  | [] => (l, ps, n)
  | i :: is =>
    if min n (restW (l.getD i.toNat zL)) ≤ 0 then (l, ps, n)
    else takeGo (l.set i.toNat { (l.getD i.toNat zL) with f6 := wrap64 ((l.getD i.toNat zL).f6 + min n (restW (l.getD i.toNat zL))) }) (ps ++ [⟨(l.getD i.toNat zL).f0, min n (restW (l.getD i.toNat zL))⟩]) (wrap64 (n - min n (restW (l.getD i.toNat zL)))) is
def takeW (l : List SL) (n now : Int) : List SL × List SP × Int := takeGo l [] n (orderL l now)
def atL (id : Int) : List SL → Option Nat
  | [] => none
  | x :: xs => if x.f0 = id then some 0 else (atL id xs).map (· + 1)
def useOne (x : SL) (N k now : Int) : SL :=
  { x with f6 := wrap64 (x.f6 - N), f5 := wrap64 (x.f5 + k), f7 := if x.f3 ≤ now then wrap64 (x.f7 + wrap64 (N - k)) else x.f7 }
def useW (l : List SL) (n now : Int) : List SP → List SL × Int
  | [] => (l, n)
  | p :: ps => match atL p.f0 l with
    | none => useW l n now ps
    | some i => useW (l.set i (useOne (l.getD i zL) p.f1 (min n p.f1) now)) (wrap64 (n - min n p.f1)) now ps
end Go.Proofs.Ytjoimapgmocoeaa.Lk
/- Words over functions that count rounds: each arm of what a loop's round may be. -/
set_option linter.unusedVariables false
set_option linter.unusedSimpArgs false
namespace Go.Proofs.Ytjoimapgmocoeaa.Lk
open Go.RowKit Go.Proofs.YtjoimapgmocoeaaW.PrintWords Go.Proofs.YtjoimapgmocoeaaW.PrintLast
theorem w64 {x : Int} (h0 : -9223372036854775808 ≤ x) (h1 : x ≤ 9223372036854775807) : wrap64 x = x := by unfold wrap64; omega
theorem td {x y : Int} (h0 : 0 ≤ x) : Int.tdiv x y = x / y := Int.tdiv_eq_ediv_of_nonneg h0
theorem tm {x y : Int} (h0 : 0 ≤ x) : Int.tmod x y = x % y := Int.tmod_eq_emod_of_nonneg h0
theorem Ev.eq {α : Type} {g : Nat → Option α} {r r' : α} (h : Ev g r) (e : r = r') : Ev g r' := e ▸ h
theorem Ev.const {α : Type} {o : Option α} {r : α} (h : o = some r) : Ev (fun _ => o) r := ⟨0, fun _ _ => h⟩
theorem Ev.ite_pos {α : Type} {c : Prop} [Decidable c] {f g : Nat → Option α} {r : α} (hc : c) (h : Ev f r) : Ev (fun k => if c then f k else g k) r := by
  obtain ⟨K, hK⟩ := h
  exact ⟨K, fun k hk => by show (if c then f k else g k) = _; rw [if_pos hc]; exact hK k hk⟩
theorem Ev.ite_neg {α : Type} {c : Prop} [Decidable c] {f g : Nat → Option α} {r : α} (hc : ¬ c) (h : Ev g r) : Ev (fun k => if c then f k else g k) r := by
  obtain ⟨K, hK⟩ := h
  exact ⟨K, fun k hk => by show (if c then f k else g k) = _; rw [if_neg hc]; exact hK k hk⟩
/-- A call that needs no rounds, ahead of one that does. -/
theorem Ev.bindc {α β : Type} {o : Option α} {f : Nat → α → Option β} {a : α} {r : β} (h : o = some a) (k : Ev (fun n => f n a) r) : Ev (fun n => o.bind (f n)) r := by
  subst h
  exact k
end Go.Proofs.Ytjoimapgmocoeaa.Lk
/- What Go functions of this seat compute, as plain Lean functions; the machine's calls do what these say, under the conditions that each theorem names. Written by a program of this session (xprint, over print.py of the kit). -/
namespace Go.Proofs.Ytjoimapgmocoeaa.Xa
open Go.RowKit Go.Proofs.YtjoimapgmocoeaaW.PrintWords Go.Proofs.YtjoimapgmocoeaaW.PrintLast Go.Proofs.YtjoimapgmocoeaaW.PrintMore
attribute [local go_sem] max2_int min2_int max_two min_two max_three min_three max_four min_four   -- for this text's walks alone
set_option linter.unusedVariables false
set_option linter.unusedSimpArgs false

theorem eqA35 (d : Nat) (w : World) (x0 y0 : Int) (x1 y1 : Int) :
    (Op.equalIn (d + 2) 35 (.agg #[.int .i64 x0, .int .i64 x1]) (.agg #[.int .i64 y0, .int .i64 y1])).run Try.prog w = .ok (x0 == y0 && (x1 == y1)) w := by
  refine eqA_of Try.underlying35 (by kernel_rfl) ?_
  refine eqf_cons (by rfl) (by go_simp; rfl) (by go_simp; rfl) (by go_simp) ?_
  exact eqf_last (by rfl) (by go_simp; rfl) (by go_simp; rfl) (by go_simp)
end Go.Proofs.Ytjoimapgmocoeaa.Xa
