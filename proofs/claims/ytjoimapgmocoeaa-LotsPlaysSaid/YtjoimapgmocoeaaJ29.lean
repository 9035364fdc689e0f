/- What Go functions of this seat compute, as plain Lean functions; the machine's calls do what these say, under the conditions that each theorem names. Written by a program of this session (xprint, over print.py of the kit). -/
import Derived.Test.YtjoimapgmocoeaaXa0
import Derived.Test.YtjoimapgmocoeaaLotUse
import Derived.Test.YtjoimapgmocoeaaXa12
import Derived.Test.YtjoimapgmocoeaaXa14
import Derived.Test.YtjoimapgmocoeaaXa23
import Derived.Test.YtjoimapgmocoeaaXa24
import Derived.Test.YtjoimapgmocoeaaXa26
import Derived.Test.YtjoimapgmocoeaaXa3
import Derived.Test.YtjoimapgmocoeaaXa4
import Derived.Test.YtjoimapgmocoeaaXa5
import Derived.Test.YtjoimapgmocoeaaXa6
import Derived.Test.YtjoimapgmocoeaaXa7
namespace Go.Proofs.Ytjoimapgmocoeaa.Xa
open Go.RowKit Go.Proofs.YtjoimapgmocoeaaW.PrintWords Go.Proofs.YtjoimapgmocoeaaW.PrintLast Go.Proofs.YtjoimapgmocoeaaW.PrintMore
attribute [local go_sem] max2_int min2_int max_two min_two max_three min_three max_four min_four   -- for this text's walks alone
set_option linter.unusedVariables false
set_option linter.unusedSimpArgs false

/-! ### tollref10_Use: function 23 (by hand) -/
-- needs YtjoimapgmocoeaaLotUse
def tollref10_Use.f (l0 : List (S33)) (l1 : List (S35)) (a2 : Int) (a3 : Int) : Option ((List (S33)) × Int) := if l0.length < 15 then (if l1.length < 1000000 then some (Lk.useW l0 a2 a3 l1) else none) else none
theorem tollref10_Use.calls (A0 : Option Addr) (c0 : Nat) (l0 : List (S33)) (A1 : Option Addr) (c1 : Nat) (l1 : List (S35)) (a2 : Int) (a3 : Int) (r1 : List (S33)) (r2 : Int) (w : World) (hr0 : Kd.C k33 w A0 l0.length l0) (hc0 : l0.length ≤ c0) (hr1 : Kd.C k35 w A1 l1.length l1) (hc1 : l1.length ≤ c1) (h : tollref10_Use.f l0 l1 a2 a3 = some (r1, r2)) :
    Calls Try.prog 23 #[.slice A0 l0.length c0, .slice A1 l1.length c1, .int .i64 a2, .int .i64 a3] w fun e w' => ∃ v0_ : Value, e = .returned (.tuple #[v0_, .int .i64 r2]) ∧ Kd.R k33 33 w' w.heap.size (fun _ => True) v0_ r1 ∧ Below w.heap.size w w' := by
  unfold tollref10_Use.f at h
  split at h
  · split at h
    · have h2 := Option.some.inj h
      have h3 := Lk.refuse_calls A0 c0 l0 A1 c1 l1 a2 a3 w hr0 hc0 hr1 hc1 (by assumption) (by assumption)
      rw [h2] at h3
      exact h3
    · cases h
  · cases h


end Go.Proofs.Ytjoimapgmocoeaa.Xa
/- What LotsPlays computes, as a plain Lean function (printed by xprint over the kit's print). -/
namespace Go.Proofs.Ytjoimapgmocoeaa.Xa
open Go.RowKit Go.Proofs.YtjoimapgmocoeaaW.PrintWords Go.Proofs.YtjoimapgmocoeaaW.PrintLast Go.Proofs.YtjoimapgmocoeaaW.PrintMore
set_option linter.unusedVariables false
set_option linter.unusedSimpArgs false
/-! ### LPl: function 8 -/
mutual
def LPl.l0 : Nat → List (S33) → Int → List (S49) → List (List (S35)) → Int → Option (Bool)
 | 0, _, _, _, _, _ => none
 | k + 1, x0, x1, x2, x7, x8 => if x8 < (x2.length : Int) then (LPl.j1 k x0 x1 x2 x7 x8 (decide (x8 < 20))) else (LPl.j1 k x0 x1 x2 x7 x8 false)
def LPl.j1 : Nat → List (S33) → Int → List (S49) → List (List (S35)) → Int → Bool → Option (Bool)
 | 0, _, _, _, _, _, _ => none
 | k + 1, x0, x1, x2, x7, x8, x37 => if x37 = true then (if 0 ≤ x8 then (if x8 < (x2.length : Int) then ((tolllaw10_within.f ((rd_T49 x2 x8).f3) 4).bind fun t170 => ((some (([] : List (S33)) : List (S33))).bind fun y171 => (if y171.length + x0.length < 1954687338268 then ((some (y171 ++ x0 : List (S33))).bind fun y174 => ((tolllaw10_within.f ((rd_T49 x2 x8).f1) 3000).bind fun t177 => (if ((rd_T49 x2 x8).f0 = true) then (if (x7.length : Int) = 0 then (LPl.l0 k x0 (wrap64 (x1 + t170)) x2 x7 (wrap64 (x8 + 1))) else ((tolllaw10_within.f ((rd_T49 x2 x8).f2) (x7.length : Int)).bind fun t198 => (if 0 ≤ t198 then (if t198 < (x7.length : Int) then ((lots_Use.f x0 (rd_L4 x7 t198) t177 (wrap64 (x1 + t170))).bind fun bt200 => ((tollref10_Use.f y174 (rd_L4 x7 t198) t177 (wrap64 (x1 + t170))).bind fun bt205 => ((tollref6_SameLots.f k bt200.1 bt205.1).bind fun t209 => (if t209 = true then (if bt200.2 = bt205.2 then ((tollref6_SameLots.f k x0 y174).bind fun t210 => (LPl.j2 k (wrap64 (x1 + t170)) x2 x7 x8 t198 bt200.1 (!t210))) else (LPl.j2 k (wrap64 (x1 + t170)) x2 x7 x8 t198 bt200.1 true)) else (LPl.j2 k (wrap64 (x1 + t170)) x2 x7 x8 t198 bt200.1 true))))) else (none)) else (none)))) else ((lots_Take.f x0 t177 (wrap64 (x1 + t170))).bind fun bt178 => ((tollref10_Take.f k y174 t177 (wrap64 (x1 + t170))).bind fun bt185 => ((tollref6_SameLots.f k bt178.1 bt185.1).bind fun t192 => (if t192 = true then ((tollref6_SameParts.f k bt178.2.1 bt185.2.1).bind fun t193 => (if t193 = true then (if bt178.2.2 = bt185.2.2 then ((tollref6_SameLots.f k x0 y174).bind fun t194 => (if t194 = true then (if x7.length < 5864062014805 then (LPl.l0 k bt178.1 (wrap64 (x1 + t170)) x2 (x7 ++ [bt178.2.1]) (wrap64 (x8 + 1))) else (none)) else (some false))) else (some false)) else (some false))) else (some false)))))))) else (none)))) else (none)) else (none)) else (some true)
def LPl.j2 : Nat → Int → List (S49) → List (List (S35)) → Int → Int → List (S33) → Bool → Option (Bool)
 | 0, _, _, _, _, _, _, _ => none
 | k + 1, x1, x2, x7, x8, x18, x19, x144 => if x144 = true then (some false) else ((some (([] : List (List (S35))) : List (List (S35)))).bind fun y211 => (if 0 ≤ x18 then (if x18 ≤ (x7.length : Int) then ((some (x7.take (x18 : Int).toNat : List (List (S35)))).bind fun y214 => (if y211.length + y214.length < 5864062014805 then ((some (y211 ++ y214 : List (List (S35)))).bind fun y219 => (if 0 ≤ (wrap64 (x18 + 1)) then (if (wrap64 (x18 + 1)) ≤ (x7.length : Int) then ((some (x7.drop ((wrap64 (x18 + 1)) : Int).toNat : List (List (S35)))).bind fun y222 => (if y219.length + y222.length < 5864062014805 then ((lots_Left.f k x19 x1).bind fun t230 => ((tollref10_Left.f k x19 x1).bind fun t231 => (if t230 = t231 then (LPl.l0 k x19 x1 x2 (y219 ++ y222) (wrap64 (x8 + 1))) else (some false)))) else (none))) else (none)) else (none))) else (none))) else (none)) else (none)))
end
def LPl.f (k : Nat) (l0 : List (S33)) (a1 : Int) (l2 : List (S49)) : Option (Bool) := (tolllaw10_known.f).bind fun t163 => (if t163 = true then ((tolllaw10_within.f a1 100000).bind fun t164 => ((tolllaw10_Good.f k l0 t164).bind fun t165 => (LPl.l0 k t165 t164 l2 ([] : List (List (S35))) 0))) else (some false))
theorem LPl.mono_l : ∀ k, (∀ y0 y1 y2 y3 y4, LeO (LPl.l0 k y0 y1 y2 y3 y4) (LPl.l0 (k + 1) y0 y1 y2 y3 y4)) ∧ (∀ y0 y1 y2 y3 y4 y5, LeO (LPl.j1 k y0 y1 y2 y3 y4 y5) (LPl.j1 (k + 1) y0 y1 y2 y3 y4 y5)) ∧ (∀ y0 y1 y2 y3 y4 y5 y6, LeO (LPl.j2 k y0 y1 y2 y3 y4 y5 y6) (LPl.j2 (k + 1) y0 y1 y2 y3 y4 y5 y6))
 | 0 => ⟨fun _ _ _ _ _ r h => by simp [LPl.l0] at h, fun _ _ _ _ _ _ r h => by simp [LPl.j1] at h, fun _ _ _ _ _ _ _ r h => by simp [LPl.j2] at h⟩
 | k + 1 => by
  obtain ⟨ih0, ih1, ih2⟩ := LPl.mono_l k
  refine ⟨?_, ?_, ?_⟩
  · intro y0 y1 y2 y3 y4
    unfold LPl.l0
    repeat' first
    | (with_reducible exact ih0 _ _ _ _ _)
    | (with_reducible exact ih1 _ _ _ _ _ _)
    | (with_reducible exact ih2 _ _ _ _ _ _ _)
    | (with_reducible exact lots_Left.mono _ _ _)
    | (with_reducible exact tolllaw10_Good.mono _ _ _)
    | (with_reducible exact tollref10_Left.mono _ _ _)
    | (with_reducible exact tollref10_Take.mono _ _ _ _)
    | (with_reducible exact tollref6_SameLots.mono _ _ _)
    | (with_reducible exact tollref6_SameParts.mono _ _ _)
    | (with_reducible exact LeO.refl _)
    | (with_reducible exact LeO.none _)
    | (with_reducible refine LeO.ite ?_ ?_)
    | (with_reducible refine LeO.bind ?_ (fun _ => ?_))
    | exact ih0 _ _ _ _ _
    | exact ih1 _ _ _ _ _ _
    | exact ih2 _ _ _ _ _ _ _
    | exact lots_Left.mono _ _ _
    | exact tolllaw10_Good.mono _ _ _
    | exact tollref10_Left.mono _ _ _
    | exact tollref10_Take.mono _ _ _ _
    | exact tollref6_SameLots.mono _ _ _
    | exact tollref6_SameParts.mono _ _ _
    | exact LeO.none _
    | refine LeO.ite ?_ ?_
    | refine LeO.bind ?_ (fun _ => ?_)
  · intro y0 y1 y2 y3 y4 y5
    unfold LPl.j1
    repeat' first
    | (with_reducible exact ih0 _ _ _ _ _)
    | (with_reducible exact ih1 _ _ _ _ _ _)
    | (with_reducible exact ih2 _ _ _ _ _ _ _)
    | (with_reducible exact lots_Left.mono _ _ _)
    | (with_reducible exact tolllaw10_Good.mono _ _ _)
    | (with_reducible exact tollref10_Left.mono _ _ _)
    | (with_reducible exact tollref10_Take.mono _ _ _ _)
    | (with_reducible exact tollref6_SameLots.mono _ _ _)
    | (with_reducible exact tollref6_SameParts.mono _ _ _)
    | (with_reducible exact LeO.refl _)
    | (with_reducible exact LeO.none _)
    | (with_reducible refine LeO.ite ?_ ?_)
    | (with_reducible refine LeO.bind ?_ (fun _ => ?_))
    | exact ih0 _ _ _ _ _
    | exact ih1 _ _ _ _ _ _
    | exact ih2 _ _ _ _ _ _ _
    | exact lots_Left.mono _ _ _
    | exact tolllaw10_Good.mono _ _ _
    | exact tollref10_Left.mono _ _ _
    | exact tollref10_Take.mono _ _ _ _
    | exact tollref6_SameLots.mono _ _ _
    | exact tollref6_SameParts.mono _ _ _
    | exact LeO.none _
    | refine LeO.ite ?_ ?_
    | refine LeO.bind ?_ (fun _ => ?_)
  · intro y0 y1 y2 y3 y4 y5 y6
    unfold LPl.j2
    repeat' first
    | (with_reducible exact ih0 _ _ _ _ _)
    | (with_reducible exact ih1 _ _ _ _ _ _)
    | (with_reducible exact ih2 _ _ _ _ _ _ _)
    | (with_reducible exact lots_Left.mono _ _ _)
    | (with_reducible exact tolllaw10_Good.mono _ _ _)
    | (with_reducible exact tollref10_Left.mono _ _ _)
    | (with_reducible exact tollref10_Take.mono _ _ _ _)
    | (with_reducible exact tollref6_SameLots.mono _ _ _)
    | (with_reducible exact tollref6_SameParts.mono _ _ _)
    | (with_reducible exact LeO.refl _)
    | (with_reducible exact LeO.none _)
    | (with_reducible refine LeO.ite ?_ ?_)
    | (with_reducible refine LeO.bind ?_ (fun _ => ?_))
    | exact ih0 _ _ _ _ _
    | exact ih1 _ _ _ _ _ _
    | exact ih2 _ _ _ _ _ _ _
    | exact lots_Left.mono _ _ _
    | exact tolllaw10_Good.mono _ _ _
    | exact tollref10_Left.mono _ _ _
    | exact tollref10_Take.mono _ _ _ _
    | exact tollref6_SameLots.mono _ _ _
    | exact tollref6_SameParts.mono _ _ _
    | exact LeO.none _
    | refine LeO.ite ?_ ?_
    | refine LeO.bind ?_ (fun _ => ?_)
theorem LPl.mono : ∀ a0 a1 a2 k, LeO (LPl.f k a0 a1 a2) (LPl.f (k + 1) a0 a1 a2) := by
 intro a0 a1 a2 k
 obtain ⟨ih0, ih1, ih2⟩ := LPl.mono_l k
 unfold LPl.f
 repeat' first
  | (with_reducible exact ih0 _ _ _ _ _)
  | (with_reducible exact ih1 _ _ _ _ _ _)
  | (with_reducible exact ih2 _ _ _ _ _ _ _)
  | (with_reducible exact lots_Left.mono _ _ _)
  | (with_reducible exact tolllaw10_Good.mono _ _ _)
  | (with_reducible exact tollref10_Left.mono _ _ _)
  | (with_reducible exact tollref10_Take.mono _ _ _ _)
  | (with_reducible exact tollref6_SameLots.mono _ _ _)
  | (with_reducible exact tollref6_SameParts.mono _ _ _)
  | (with_reducible exact LeO.refl _)
  | (with_reducible exact LeO.none _)
  | (with_reducible refine LeO.ite ?_ ?_)
  | (with_reducible refine LeO.bind ?_ (fun _ => ?_))
  | exact ih0 _ _ _ _ _
  | exact ih1 _ _ _ _ _ _
  | exact ih2 _ _ _ _ _ _ _
  | exact lots_Left.mono _ _ _
  | exact tolllaw10_Good.mono _ _ _
  | exact tollref10_Left.mono _ _ _
  | exact tollref10_Take.mono _ _ _ _
  | exact tollref6_SameLots.mono _ _ _
  | exact tollref6_SameParts.mono _ _ _
  | exact LeO.none _
  | refine LeO.ite ?_ ?_
  | refine LeO.bind ?_ (fun _ => ?_)
def LPl.T27 : Bool × List (List Nat × List Nat) := (true, [([], []), ([], []), ([], []), ([1, 2], [1, 2]), ([0, 3], [0, 3]), ([], []), ([], []), ([6], [6]), ([5, 7], [5, 7]), ([4, 8, 4], [4, 8]), ([9, 9, 0, 1, 2, 3, 4, 5, 6, 7, 8, 9], [1, 5, 9])])
def LPl.B27 : List Nat := [0, 0, 0, 6, 15, 0, 0, 64, 224, 511, 1023]
theorem LPl.tab27 : rtab .any (opsOf Try.f8 27) = LPl.T27 := by kernel_rfl
theorem LPl.bits27 : waitsOk LPl.T27.2 LPl.B27 = true := by kernel_rfl
end Go.Proofs.Ytjoimapgmocoeaa.Xa
