/- What Go functions of this seat compute, as plain Lean functions; the machine's calls do what these say, under the conditions that each theorem names. Written by a program of this session (xprint, over print.py of the kit). -/
import Derived.Test.YtjoimapgmocoeaaXa0
import Derived.Test.YtjoimapgmocoeaaXa3
import Derived.Test.YtjoimapgmocoeaaXa4
import Derived.Test.YtjoimapgmocoeaaXa5
import Derived.Test.YtjoimapgmocoeaaXa6
import Derived.Test.YtjoimapgmocoeaaXa7
import Derived.Test.YtjoimapgmocoeaaXa14
import Derived.Test.YtjoimapgmocoeaaXa18
namespace Go.Proofs.Ytjoimapgmocoeaa.Xa
open Go.RowKit Go.Proofs.YtjoimapgmocoeaaW.PrintWords Go.Proofs.YtjoimapgmocoeaaW.PrintLast Go.Proofs.YtjoimapgmocoeaaW.PrintMore
attribute [local go_sem] max2_int min2_int max_two min_two max_three min_three max_four min_four   -- for this text's walks alone
set_option linter.unusedVariables false
set_option linter.unusedSimpArgs false

/-! ### tolllaw10_LotsUses: function 11 -/
mutual
def tolllaw10_LotsUses.j0 : Nat → List (S33) → Int → Int → Int → Int → List (S33) → List (S35) → Int → List (S33) → Int → Bool → Option (Bool)
 | 0, _, _, _, _, _, _, _, _, _, _, _ => none
 | k + 1, x0, x1, x2, x3, x4, x11, x12, x13, x14, x15, x60 => if x60 = true then (some false) else ((tolllaw10_within.f x1 5000).bind fun t457 => (tolllaw10_LotsUses.l0 k x0 x2 x3 x4 x11 x12 x14 x15 (wrap64 (t457 - x13)) 0 0 0))
def tolllaw10_LotsUses.l0 : Nat → List (S33) → Int → Int → Int → List (S33) → List (S35) → List (S33) → Int → Int → Int → Int → Int → Option (Bool)
 | 0, _, _, _, _, _, _, _, _, _, _, _, _ => none
 | k + 1, x0, x2, x3, x4, x11, x12, x14, x15, x16, x17, x18, x19 => if x19 < (x14.length : Int) then (if 0 ≤ x19 then (if x19 < (x0.length : Int) then (if ((rd_T33 x14 x19).f4) = ((rd_T33 x0 x19).f4) then (if ((rd_T33 x14 x19).f6) = ((rd_T33 x0 x19).f6) then (tolllaw10_LotsUses.j2 k x0 x2 x3 x4 x11 x12 x14 x15 x16 x17 x18 x19 (((rd_T33 x14 x19).f8) != ((rd_T33 x0 x19).f8))) else (tolllaw10_LotsUses.j2 k x0 x2 x3 x4 x11 x12 x14 x15 x16 x17 x18 x19 true)) else (tolllaw10_LotsUses.j2 k x0 x2 x3 x4 x11 x12 x14 x15 x16 x17 x18 x19 true)) else (none)) else (none)) else ((tolllaw10_within.f x2 6000).bind fun t471 => (if x17 = (mn x16 t471) then ((tolllaw10_within.f x2 6000).bind fun t472 => (if x15 = (wrap64 (t472 - x17)) then (tolllaw10_LotsUses.j3 k x0 x3 x11 x12 (decide (x18 > (wrap64 (x16 - x17))))) else (tolllaw10_LotsUses.j3 k x0 x3 x11 x12 true))) else (tolllaw10_LotsUses.j3 k x0 x3 x11 x12 true)))
def tolllaw10_LotsUses.j2 : Nat → List (S33) → Int → Int → Int → List (S33) → List (S35) → List (S33) → Int → Int → Int → Int → Int → Bool → Option (Bool)
 | 0, _, _, _, _, _, _, _, _, _, _, _, _, _ => none
 | k + 1, x0, x2, x3, x4, x11, x12, x14, x15, x16, x17, x18, x19, x107 => if x107 = true then (some false) else (if 0 ≤ x19 then (if x19 < (x14.length : Int) then (if x19 < (x0.length : Int) then (if ((rd_T33 x14 x19).f7) = ((rd_T33 x0 x19).f7) then (tolllaw10_LotsUses.l0 k x0 x2 x3 x4 x11 x12 x14 x15 x16 (wrap64 ((wrap64 (x17 + ((rd_T33 x14 x19).f5))) - ((rd_T33 x0 x19).f5))) (wrap64 ((wrap64 (x18 + ((rd_T33 x14 x19).f7))) - ((rd_T33 x0 x19).f7))) (wrap64 (x19 + 1))) else (if (wrap64 (x3 + x4)) < ((rd_T33 x0 x19).f3) then (some false) else (tolllaw10_LotsUses.l0 k x0 x2 x3 x4 x11 x12 x14 x15 x16 (wrap64 ((wrap64 (x17 + ((rd_T33 x14 x19).f5))) - ((rd_T33 x0 x19).f5))) (wrap64 ((wrap64 (x18 + ((rd_T33 x14 x19).f7))) - ((rd_T33 x0 x19).f7))) (wrap64 (x19 + 1))))) else (none)) else (none)) else (none))
def tolllaw10_LotsUses.j3 : Nat → List (S33) → Int → List (S33) → List (S35) → Bool → Option (Bool)
 | 0, _, _, _, _, _ => none
 | k + 1, x0, x3, x11, x12, x176 => if x176 = true then (some false) else ((lots_Use.f x11 x12 0 x3).bind fun bt473 => ((tollref6_SameLots.f k bt473.1 x0).bind fun t477 => (some t477)))
end
def tolllaw10_LotsUses.f (k : Nat) (l0 : List (S33)) (a1 : Int) (a2 : Int) (a3 : Int) (a4 : Int) : Option (Bool) := (tolllaw10_known.f).bind fun t437 => (if t437 = true then ((tolllaw10_within.f a3 100000).bind fun t438 => ((tolllaw10_within.f a4 12).bind fun t439 => ((tolllaw10_Good.f k l0 t438).bind fun t440 => ((tolllaw10_within.f a1 5000).bind fun t443 => ((lots_Take.f t440 t443 t438).bind fun bt444 => ((tolllaw10_within.f a2 6000).bind fun t451 => ((lots_Use.f bt444.1 bt444.2.1 t451 (wrap64 (t438 + t439))).bind fun bt452 => ((lots_Check.f k bt452.1).bind fun t456 => (if t456 = 0 then (tolllaw10_LotsUses.j0 k t440 a1 a2 t438 t439 bt444.1 bt444.2.1 bt444.2.2 bt452.1 bt452.2 ((bt452.1.length : Int) != (t440.length : Int))) else (tolllaw10_LotsUses.j0 k t440 a1 a2 t438 t439 bt444.1 bt444.2.1 bt444.2.2 bt452.1 bt452.2 true)))))))))) else (some false))
theorem tolllaw10_LotsUses.mono_l : ∀ k, (∀ y0 y1 y2 y3 y4 y5 y6 y7 y8 y9 y10, LeO (tolllaw10_LotsUses.j0 k y0 y1 y2 y3 y4 y5 y6 y7 y8 y9 y10) (tolllaw10_LotsUses.j0 (k + 1) y0 y1 y2 y3 y4 y5 y6 y7 y8 y9 y10)) ∧ (∀ y0 y1 y2 y3 y4 y5 y6 y7 y8 y9 y10 y11, LeO (tolllaw10_LotsUses.l0 k y0 y1 y2 y3 y4 y5 y6 y7 y8 y9 y10 y11) (tolllaw10_LotsUses.l0 (k + 1) y0 y1 y2 y3 y4 y5 y6 y7 y8 y9 y10 y11)) ∧ (∀ y0 y1 y2 y3 y4 y5 y6 y7 y8 y9 y10 y11 y12, LeO (tolllaw10_LotsUses.j2 k y0 y1 y2 y3 y4 y5 y6 y7 y8 y9 y10 y11 y12) (tolllaw10_LotsUses.j2 (k + 1) y0 y1 y2 y3 y4 y5 y6 y7 y8 y9 y10 y11 y12)) ∧ (∀ y0 y1 y2 y3 y4, LeO (tolllaw10_LotsUses.j3 k y0 y1 y2 y3 y4) (tolllaw10_LotsUses.j3 (k + 1) y0 y1 y2 y3 y4))
 | 0 => ⟨fun _ _ _ _ _ _ _ _ _ _ _ r h => by simp [tolllaw10_LotsUses.j0] at h, fun _ _ _ _ _ _ _ _ _ _ _ _ r h => by simp [tolllaw10_LotsUses.l0] at h, fun _ _ _ _ _ _ _ _ _ _ _ _ _ r h => by simp [tolllaw10_LotsUses.j2] at h, fun _ _ _ _ _ r h => by simp [tolllaw10_LotsUses.j3] at h⟩
 | k + 1 => by
  obtain ⟨ih0, ih1, ih2, ih3⟩ := tolllaw10_LotsUses.mono_l k
  refine ⟨?_, ?_, ?_, ?_⟩
  · intro y0 y1 y2 y3 y4 y5 y6 y7 y8 y9 y10
    unfold tolllaw10_LotsUses.j0
    repeat' first
    | (with_reducible exact ih0 _ _ _ _ _ _ _ _ _ _ _)
    | (with_reducible exact ih1 _ _ _ _ _ _ _ _ _ _ _ _)
    | (with_reducible exact ih2 _ _ _ _ _ _ _ _ _ _ _ _ _)
    | (with_reducible exact ih3 _ _ _ _ _)
    | (with_reducible exact lots_Check.mono _ _)
    | (with_reducible exact tolllaw10_Good.mono _ _ _)
    | (with_reducible exact tollref6_SameLots.mono _ _ _)
    | (with_reducible exact LeO.refl _)
    | (with_reducible exact LeO.none _)
    | (with_reducible refine LeO.ite ?_ ?_)
    | (with_reducible refine LeO.bind ?_ (fun _ => ?_))
    | exact ih0 _ _ _ _ _ _ _ _ _ _ _
    | exact ih1 _ _ _ _ _ _ _ _ _ _ _ _
    | exact ih2 _ _ _ _ _ _ _ _ _ _ _ _ _
    | exact ih3 _ _ _ _ _
    | exact lots_Check.mono _ _
    | exact tolllaw10_Good.mono _ _ _
    | exact tollref6_SameLots.mono _ _ _
    | exact LeO.none _
    | refine LeO.ite ?_ ?_
    | refine LeO.bind ?_ (fun _ => ?_)
  · intro y0 y1 y2 y3 y4 y5 y6 y7 y8 y9 y10 y11
    unfold tolllaw10_LotsUses.l0
    repeat' first
    | (with_reducible exact ih0 _ _ _ _ _ _ _ _ _ _ _)
    | (with_reducible exact ih1 _ _ _ _ _ _ _ _ _ _ _ _)
    | (with_reducible exact ih2 _ _ _ _ _ _ _ _ _ _ _ _ _)
    | (with_reducible exact ih3 _ _ _ _ _)
    | (with_reducible exact lots_Check.mono _ _)
    | (with_reducible exact tolllaw10_Good.mono _ _ _)
    | (with_reducible exact tollref6_SameLots.mono _ _ _)
    | (with_reducible exact LeO.refl _)
    | (with_reducible exact LeO.none _)
    | (with_reducible refine LeO.ite ?_ ?_)
    | (with_reducible refine LeO.bind ?_ (fun _ => ?_))
    | exact ih0 _ _ _ _ _ _ _ _ _ _ _
    | exact ih1 _ _ _ _ _ _ _ _ _ _ _ _
    | exact ih2 _ _ _ _ _ _ _ _ _ _ _ _ _
    | exact ih3 _ _ _ _ _
    | exact lots_Check.mono _ _
    | exact tolllaw10_Good.mono _ _ _
    | exact tollref6_SameLots.mono _ _ _
    | exact LeO.none _
    | refine LeO.ite ?_ ?_
    | refine LeO.bind ?_ (fun _ => ?_)
  · intro y0 y1 y2 y3 y4 y5 y6 y7 y8 y9 y10 y11 y12
    unfold tolllaw10_LotsUses.j2
    repeat' first
    | (with_reducible exact ih0 _ _ _ _ _ _ _ _ _ _ _)
    | (with_reducible exact ih1 _ _ _ _ _ _ _ _ _ _ _ _)
    | (with_reducible exact ih2 _ _ _ _ _ _ _ _ _ _ _ _ _)
    | (with_reducible exact ih3 _ _ _ _ _)
    | (with_reducible exact lots_Check.mono _ _)
    | (with_reducible exact tolllaw10_Good.mono _ _ _)
    | (with_reducible exact tollref6_SameLots.mono _ _ _)
    | (with_reducible exact LeO.refl _)
    | (with_reducible exact LeO.none _)
    | (with_reducible refine LeO.ite ?_ ?_)
    | (with_reducible refine LeO.bind ?_ (fun _ => ?_))
    | exact ih0 _ _ _ _ _ _ _ _ _ _ _
    | exact ih1 _ _ _ _ _ _ _ _ _ _ _ _
    | exact ih2 _ _ _ _ _ _ _ _ _ _ _ _ _
    | exact ih3 _ _ _ _ _
    | exact lots_Check.mono _ _
    | exact tolllaw10_Good.mono _ _ _
    | exact tollref6_SameLots.mono _ _ _
    | exact LeO.none _
    | refine LeO.ite ?_ ?_
    | refine LeO.bind ?_ (fun _ => ?_)
  · intro y0 y1 y2 y3 y4
    unfold tolllaw10_LotsUses.j3
    repeat' first
    | (with_reducible exact ih0 _ _ _ _ _ _ _ _ _ _ _)
    | (with_reducible exact ih1 _ _ _ _ _ _ _ _ _ _ _ _)
    | (with_reducible exact ih2 _ _ _ _ _ _ _ _ _ _ _ _ _)
    | (with_reducible exact ih3 _ _ _ _ _)
    | (with_reducible exact lots_Check.mono _ _)
    | (with_reducible exact tolllaw10_Good.mono _ _ _)
    | (with_reducible exact tollref6_SameLots.mono _ _ _)
    | (with_reducible exact LeO.refl _)
    | (with_reducible exact LeO.none _)
    | (with_reducible refine LeO.ite ?_ ?_)
    | (with_reducible refine LeO.bind ?_ (fun _ => ?_))
    | exact ih0 _ _ _ _ _ _ _ _ _ _ _
    | exact ih1 _ _ _ _ _ _ _ _ _ _ _ _
    | exact ih2 _ _ _ _ _ _ _ _ _ _ _ _ _
    | exact ih3 _ _ _ _ _
    | exact lots_Check.mono _ _
    | exact tolllaw10_Good.mono _ _ _
    | exact tollref6_SameLots.mono _ _ _
    | exact LeO.none _
    | refine LeO.ite ?_ ?_
    | refine LeO.bind ?_ (fun _ => ?_)
theorem tolllaw10_LotsUses.mono : ∀ a0 a1 a2 a3 a4 k, LeO (tolllaw10_LotsUses.f k a0 a1 a2 a3 a4) (tolllaw10_LotsUses.f (k + 1) a0 a1 a2 a3 a4) := by
 intro a0 a1 a2 a3 a4 k
 obtain ⟨ih0, ih1, ih2, ih3⟩ := tolllaw10_LotsUses.mono_l k
 unfold tolllaw10_LotsUses.f
 repeat' first
  | (with_reducible exact ih0 _ _ _ _ _ _ _ _ _ _ _)
  | (with_reducible exact ih1 _ _ _ _ _ _ _ _ _ _ _ _)
  | (with_reducible exact ih2 _ _ _ _ _ _ _ _ _ _ _ _ _)
  | (with_reducible exact ih3 _ _ _ _ _)
  | (with_reducible exact lots_Check.mono _ _)
  | (with_reducible exact tolllaw10_Good.mono _ _ _)
  | (with_reducible exact tollref6_SameLots.mono _ _ _)
  | (with_reducible exact LeO.refl _)
  | (with_reducible exact LeO.none _)
  | (with_reducible refine LeO.ite ?_ ?_)
  | (with_reducible refine LeO.bind ?_ (fun _ => ?_))
  | exact ih0 _ _ _ _ _ _ _ _ _ _ _
  | exact ih1 _ _ _ _ _ _ _ _ _ _ _ _
  | exact ih2 _ _ _ _ _ _ _ _ _ _ _ _ _
  | exact ih3 _ _ _ _ _
  | exact lots_Check.mono _ _
  | exact tolllaw10_Good.mono _ _ _
  | exact tollref6_SameLots.mono _ _ _
  | exact LeO.none _
  | refine LeO.ite ?_ ?_
  | refine LeO.bind ?_ (fun _ => ?_)
set_option maxHeartbeats 8000000 in
set_option maxRecDepth 100000 in
theorem tolllaw10_LotsUses.calls (k : Nat) (A0 : Option Addr) (c0 : Nat) (l0 : List (S33)) (a1 : Int) (a2 : Int) (a3 : Int) (a4 : Int) (r : Bool) (w : World) (hr0 : Kd.C k33 w A0 l0.length l0) (hc0 : l0.length ≤ c0) (h : tolllaw10_LotsUses.f k l0 a1 a2 a3 a4 = some r) :
 Calls Try.prog 11 #[.slice A0 l0.length c0, .int .i64 a1, .int .i64 a2, .int .i64 a3, .int .i64 a4] w fun e w' => e = .returned (.bool r) ∧ Below w.heap.size w w' := by
 have HR0 := Aside0.mk hr0
 have HC0 := Aside0.mk hc0
 clear hr0 hc0
 have HB := Aside0.mk (Below.refl w.heap.size w)
 have H : ((tolllaw10_known.f).bind fun t437 => (if t437 = true then ((tolllaw10_within.f a3 100000).bind fun t438 => ((tolllaw10_within.f a4 12).bind fun t439 => ((tolllaw10_Good.f k l0 t438).bind fun t440 => ((tolllaw10_within.f a1 5000).bind fun t443 => ((lots_Take.f t440 t443 t438).bind fun bt444 => ((tolllaw10_within.f a2 6000).bind fun t451 => ((lots_Use.f bt444.1 bt444.2.1 t451 (wrap64 (t438 + t439))).bind fun bt452 => ((lots_Check.f k bt452.1).bind fun t456 => (if t456 = 0 then (tolllaw10_LotsUses.j0 k t440 a1 a2 t438 t439 bt444.1 bt444.2.1 bt444.2.2 bt452.1 bt452.2 ((bt452.1.length : Int) != (t440.length : Int))) else (tolllaw10_LotsUses.j0 k t440 a1 a2 t438 t439 bt444.1 bt444.2.1 bt444.2.2 bt452.1 bt452.2 true)))))))))) else (some false))) = some r := h
 clear h
 replace H := Option.bind_eq_some_iff.mp H
 obtain ⟨t437, A60, H⟩ := H
 replace H : (if t437 = true then ((tolllaw10_within.f a3 100000).bind fun t438 => ((tolllaw10_within.f a4 12).bind fun t439 => ((tolllaw10_Good.f k l0 t438).bind fun t440 => ((tolllaw10_within.f a1 5000).bind fun t443 => ((lots_Take.f t440 t443 t438).bind fun bt444 => ((tolllaw10_within.f a2 6000).bind fun t451 => ((lots_Use.f bt444.1 bt444.2.1 t451 (wrap64 (t438 + t439))).bind fun bt452 => ((lots_Check.f k bt452.1).bind fun t456 => (if t456 = 0 then (tolllaw10_LotsUses.j0 k t440 a1 a2 t438 t439 bt444.1 bt444.2.1 bt444.2.2 bt452.1 bt452.2 ((bt452.1.length : Int) != (t440.length : Int))) else (tolllaw10_LotsUses.j0 k t440 a1 a2 t438 t439 bt444.1 bt444.2.1 bt444.2.2 bt452.1 bt452.2 true)))))))))) else (some false)) = some r := H
 have A6 := Aside0.mk A60
 clear A60
 by_cases c7 : t437 = true
 · subst c7
   have H1 : ((tolllaw10_within.f a3 100000).bind fun t438 => ((tolllaw10_within.f a4 12).bind fun t439 => ((tolllaw10_Good.f k l0 t438).bind fun t440 => ((tolllaw10_within.f a1 5000).bind fun t443 => ((lots_Take.f t440 t443 t438).bind fun bt444 => ((tolllaw10_within.f a2 6000).bind fun t451 => ((lots_Use.f bt444.1 bt444.2.1 t451 (wrap64 (t438 + t439))).bind fun bt452 => ((lots_Check.f k bt452.1).bind fun t456 => (if t456 = 0 then (tolllaw10_LotsUses.j0 k t440 a1 a2 t438 t439 bt444.1 bt444.2.1 bt444.2.2 bt452.1 bt452.2 ((bt452.1.length : Int) != (t440.length : Int))) else (tolllaw10_LotsUses.j0 k t440 a1 a2 t438 t439 bt444.1 bt444.2.1 bt444.2.2 bt452.1 bt452.2 true)))))))))) = some r := by rw [if_pos rfl] at H; exact H
   clear H
   have H := H1
   clear H1
   replace H := Option.bind_eq_some_iff.mp H
   obtain ⟨t438, A80, H⟩ := H
   replace H : ((tolllaw10_within.f a4 12).bind fun t439 => ((tolllaw10_Good.f k l0 t438).bind fun t440 => ((tolllaw10_within.f a1 5000).bind fun t443 => ((lots_Take.f t440 t443 t438).bind fun bt444 => ((tolllaw10_within.f a2 6000).bind fun t451 => ((lots_Use.f bt444.1 bt444.2.1 t451 (wrap64 (t438 + t439))).bind fun bt452 => ((lots_Check.f k bt452.1).bind fun t456 => (if t456 = 0 then (tolllaw10_LotsUses.j0 k t440 a1 a2 t438 t439 bt444.1 bt444.2.1 bt444.2.2 bt452.1 bt452.2 ((bt452.1.length : Int) != (t440.length : Int))) else (tolllaw10_LotsUses.j0 k t440 a1 a2 t438 t439 bt444.1 bt444.2.1 bt444.2.2 bt452.1 bt452.2 true))))))))) = some r := H
   have A8 := Aside0.mk A80
   clear A80
   replace H := Option.bind_eq_some_iff.mp H
   obtain ⟨t439, A90, H⟩ := H
   replace H : ((tolllaw10_Good.f k l0 t438).bind fun t440 => ((tolllaw10_within.f a1 5000).bind fun t443 => ((lots_Take.f t440 t443 t438).bind fun bt444 => ((tolllaw10_within.f a2 6000).bind fun t451 => ((lots_Use.f bt444.1 bt444.2.1 t451 (wrap64 (t438 + t439))).bind fun bt452 => ((lots_Check.f k bt452.1).bind fun t456 => (if t456 = 0 then (tolllaw10_LotsUses.j0 k t440 a1 a2 t438 t439 bt444.1 bt444.2.1 bt444.2.2 bt452.1 bt452.2 ((bt452.1.length : Int) != (t440.length : Int))) else (tolllaw10_LotsUses.j0 k t440 a1 a2 t438 t439 bt444.1 bt444.2.1 bt444.2.2 bt452.1 bt452.2 true)))))))) = some r := H
   have A9 := Aside0.mk A90
   clear A90
   replace H := Option.bind_eq_some_iff.mp H
   obtain ⟨t440, A100, H⟩ := H
   replace H : ((tolllaw10_within.f a1 5000).bind fun t443 => ((lots_Take.f t440 t443 t438).bind fun bt444 => ((tolllaw10_within.f a2 6000).bind fun t451 => ((lots_Use.f bt444.1 bt444.2.1 t451 (wrap64 (t438 + t439))).bind fun bt452 => ((lots_Check.f k bt452.1).bind fun t456 => (if t456 = 0 then (tolllaw10_LotsUses.j0 k t440 a1 a2 t438 t439 bt444.1 bt444.2.1 bt444.2.2 bt452.1 bt452.2 ((bt452.1.length : Int) != (t440.length : Int))) else (tolllaw10_LotsUses.j0 k t440 a1 a2 t438 t439 bt444.1 bt444.2.1 bt444.2.2 bt452.1 bt452.2 true))))))) = some r := H
   have A10 := Aside0.mk A100
   clear A100
   replace H := Option.bind_eq_some_iff.mp H
   obtain ⟨t443, A110, H⟩ := H
   replace H : ((lots_Take.f t440 t443 t438).bind fun bt444 => ((tolllaw10_within.f a2 6000).bind fun t451 => ((lots_Use.f bt444.1 bt444.2.1 t451 (wrap64 (t438 + t439))).bind fun bt452 => ((lots_Check.f k bt452.1).bind fun t456 => (if t456 = 0 then (tolllaw10_LotsUses.j0 k t440 a1 a2 t438 t439 bt444.1 bt444.2.1 bt444.2.2 bt452.1 bt452.2 ((bt452.1.length : Int) != (t440.length : Int))) else (tolllaw10_LotsUses.j0 k t440 a1 a2 t438 t439 bt444.1 bt444.2.1 bt444.2.2 bt452.1 bt452.2 true)))))) = some r := H
   have A11 := Aside0.mk A110
   clear A110
   replace H := Option.bind_eq_some_iff.mp H
   obtain ⟨⟨t444, t445, t446⟩, A120, H⟩ := H
   replace H : ((tolllaw10_within.f a2 6000).bind fun t451 => ((lots_Use.f t444 t445 t451 (wrap64 (t438 + t439))).bind fun bt452 => ((lots_Check.f k bt452.1).bind fun t456 => (if t456 = 0 then (tolllaw10_LotsUses.j0 k t440 a1 a2 t438 t439 t444 t445 t446 bt452.1 bt452.2 ((bt452.1.length : Int) != (t440.length : Int))) else (tolllaw10_LotsUses.j0 k t440 a1 a2 t438 t439 t444 t445 t446 bt452.1 bt452.2 true))))) = some r := H
   have A12 := Aside0.mk A120
   clear A120
   replace H := Option.bind_eq_some_iff.mp H
   obtain ⟨t451, A130, H⟩ := H
   replace H : ((lots_Use.f t444 t445 t451 (wrap64 (t438 + t439))).bind fun bt452 => ((lots_Check.f k bt452.1).bind fun t456 => (if t456 = 0 then (tolllaw10_LotsUses.j0 k t440 a1 a2 t438 t439 t444 t445 t446 bt452.1 bt452.2 ((bt452.1.length : Int) != (t440.length : Int))) else (tolllaw10_LotsUses.j0 k t440 a1 a2 t438 t439 t444 t445 t446 bt452.1 bt452.2 true)))) = some r := H
   have A13 := Aside0.mk A130
   clear A130
   replace H := Option.bind_eq_some_iff.mp H
   obtain ⟨⟨t452, t453⟩, A140, H⟩ := H
   replace H : ((lots_Check.f k t452).bind fun t456 => (if t456 = 0 then (tolllaw10_LotsUses.j0 k t440 a1 a2 t438 t439 t444 t445 t446 t452 t453 ((t452.length : Int) != (t440.length : Int))) else (tolllaw10_LotsUses.j0 k t440 a1 a2 t438 t439 t444 t445 t446 t452 t453 true))) = some r := H
   have A14 := Aside0.mk A140
   clear A140
   have HC15 := Aside0.mk H
   clear H
   go_enter Try.func11, Try.ntmps11
   go_upto_region 7 with (first | (go_at_call 12; (with_reducible refine (tolllaw10_known.calls  true _ A6.out).mono ?_); rintro e w16 ⟨rfl, hb⟩; have n0_ := Aside0.mk (below_step (by repeat (first | (with_reducible first | exact HB.out | apply below_alloc | apply pw_below_drewN | apply below_drew1) | exact HB.out)) hb); clear HB; have HB := n0_; clear n0_; (try clear hb); (try clear hb2); (try clear hk); (try clear hi)) | (go_at_call 13; (with_reducible refine (tolllaw10_within.calls a3 100000 t438 _ A8.out).mono ?_); rintro e w' ⟨rfl, rfl⟩; (try first | exact ⟨rfl, _, rfl⟩ | exact ⟨rfl, _, World.drewN_drewN _ _ _⟩ | exact ⟨rfl, _, Eq.trans (World.drewN_drewN _ _ _) (congrArg (World.drewN _) (Nat.add_assoc _ _ _))⟩)) | (go_at_call 13; (with_reducible refine (tolllaw10_within.calls a4 12 t439 _ A9.out).mono ?_); rintro e w' ⟨rfl, rfl⟩; (try first | exact ⟨rfl, _, rfl⟩ | exact ⟨rfl, _, World.drewN_drewN _ _ _⟩ | exact ⟨rfl, _, Eq.trans (World.drewN_drewN _ _ _) (congrArg (World.drewN _) (Nat.add_assoc _ _ _))⟩)) | (go_at_call 14; (with_reducible refine (tolllaw10_Good.calls k _ _ l0 t438 t440 _ ?side1 ?side2 A10.out).mono ?_); (case side1 => repeat (first | exact (Kd.C_below HR0.out HB.out) | (with_reducible refine Kd.C_alloc ?_ _) | (with_reducible refine Kd.C_drewN ?_ _) | (with_reducible refine Kd.C_drew ?_))); (case side2 => exact HC0.out); rintro e w17 ⟨v441, rfl, ho0, hb⟩; have n0_ := Aside0.mk (Kd.R_lower ho0 (below_size (by repeat (first | (with_reducible first | exact HB.out | apply below_alloc | apply pw_below_drewN | apply below_drew1) | exact HB.out)))); have n1_ := Aside0.mk (below_step (by repeat (first | (with_reducible first | exact HB.out | apply below_alloc | apply pw_below_drewN | apply below_drew1) | exact HB.out)) hb); clear HB; have HO442 := n0_; have HB := n1_; clear n0_ n1_; (try clear hb); (try clear hb2); (try clear hk); (try clear hi); (try clear ho0)) | (go_at_call 13; (with_reducible refine (tolllaw10_within.calls a1 5000 t443 _ A11.out).mono ?_); rintro e w' ⟨rfl, rfl⟩; (try first | exact ⟨rfl, _, rfl⟩ | exact ⟨rfl, _, World.drewN_drewN _ _ _⟩ | exact ⟨rfl, _, Eq.trans (World.drewN_drewN _ _ _) (congrArg (World.drewN _) (Nat.add_assoc _ _ _))⟩); obtain ⟨Ao18, co18, eo18⟩ := Kd.R_slice HO442.out; subst eo18) | (go_at_call 15; (with_reducible refine (lots_Take.calls _ _ t440 t443 t438 t444 t445 t446 _ ?side1 ?side2 A12.out).mono ?_); (case side1 => repeat (first | exact (Kd.R_reads' HO442.out).2.2 | (with_reducible refine Kd.C_alloc ?_ _) | (with_reducible refine Kd.C_drewN ?_ _) | (with_reducible refine Kd.C_drew ?_))); (case side2 => exact (Kd.R_reads' HO442.out).2.1); rintro e w19 ⟨v447, v449, rfl, ho0, ho1, hb⟩; have n0_ := Aside0.mk (Kd.R_elder' (by (with_reducible repeat (first | apply Kd.R_alloc | apply Kd.R_drewN | apply Kd.R_drew)); exact HO442.out) (Kd.R_base ho0) hb); have n1_ := Aside0.mk (Kd.R_lower (Kd.R_new' ho0 (Kd.R_lt (by (with_reducible repeat (first | apply Kd.R_alloc | apply Kd.R_drewN | apply Kd.R_drew)); exact HO442.out))) (below_size (by repeat (first | (with_reducible first | exact HB.out | apply below_alloc | apply pw_below_drewN | apply below_drew1) | exact HB.out)))); have n2_ := Aside0.mk (Kd.R_lower ho1 (below_size (by repeat (first | (with_reducible first | exact HB.out | apply below_alloc | apply pw_below_drewN | apply below_drew1) | exact HB.out)))); have n3_ := Aside0.mk (below_step (by repeat (first | (with_reducible first | exact HB.out | apply below_alloc | apply pw_below_drewN | apply below_drew1) | exact HB.out)) hb); clear HO442; clear HB; have HO442 := n0_; have HO448 := n1_; have HO450 := n2_; have HB := n3_; clear n0_ n1_ n2_ n3_; (try clear hb); (try clear hb2); (try clear hk); (try clear hi); (try clear ho0); (try clear ho1)) | (go_at_call 13; (with_reducible refine (tolllaw10_within.calls a2 6000 t451 _ A13.out).mono ?_); rintro e w' ⟨rfl, rfl⟩; (try first | exact ⟨rfl, _, rfl⟩ | exact ⟨rfl, _, World.drewN_drewN _ _ _⟩ | exact ⟨rfl, _, Eq.trans (World.drewN_drewN _ _ _) (congrArg (World.drewN _) (Nat.add_assoc _ _ _))⟩); obtain ⟨Ao20, co20, eo20⟩ := Kd.R_slice HO448.out; subst eo20; obtain ⟨Ao21, co21, eo21⟩ := Kd.R_slice HO450.out; subst eo21) | (go_at_call 19; (with_reducible refine (lots_Use.calls _ _ t444 _ _ t445 t451 (wrap64 (t438 + t439)) t452 t453 _ ?side1 ?side2 ?side3 ?side4 A14.out).mono ?_); (case side1 => repeat (first | exact (Kd.R_reads' HO448.out).2.2 | (with_reducible refine Kd.C_alloc ?_ _) | (with_reducible refine Kd.C_drewN ?_ _) | (with_reducible refine Kd.C_drew ?_))); (case side2 => exact (Kd.R_reads' HO448.out).2.1); (case side3 => repeat (first | exact (Kd.R_reads' HO450.out).2.2 | (with_reducible refine Kd.C_alloc ?_ _) | (with_reducible refine Kd.C_drewN ?_ _) | (with_reducible refine Kd.C_drew ?_))); (case side4 => exact (Kd.R_reads' HO450.out).2.1); rintro e w22 ⟨v454, rfl, ho0, hb⟩; have n0_ := Aside0.mk (Kd.R_elder' (by (with_reducible repeat (first | apply Kd.R_alloc | apply Kd.R_drewN | apply Kd.R_drew)); exact HO442.out) (Kd.R_base ho0) hb); have n1_ := Aside0.mk (Kd.R_elder' (by (with_reducible repeat (first | apply Kd.R_alloc | apply Kd.R_drewN | apply Kd.R_drew)); exact HO448.out) (Kd.R_base ho0) hb); have n2_ := Aside0.mk (Kd.R_below (by (with_reducible repeat (first | apply Kd.R_alloc | apply Kd.R_drewN | apply Kd.R_drew)); exact HO450.out) hb); have n3_ := Aside0.mk (Kd.R_lower (Kd.R_new' (Kd.R_new' ho0 (Kd.R_lt (by (with_reducible repeat (first | apply Kd.R_alloc | apply Kd.R_drewN | apply Kd.R_drew)); exact HO442.out))) (Kd.R_lt (by (with_reducible repeat (first | apply Kd.R_alloc | apply Kd.R_drewN | apply Kd.R_drew)); exact HO448.out))) (below_size (by repeat (first | (with_reducible first | exact HB.out | apply below_alloc | apply pw_below_drewN | apply below_drew1) | exact HB.out)))); have n4_ := Aside0.mk (below_step (by repeat (first | (with_reducible first | exact HB.out | apply below_alloc | apply pw_below_drewN | apply below_drew1) | exact HB.out)) hb); clear HO442; clear HO448; clear HO450; clear HB; have HO442 := n0_; have HO448 := n1_; have HO450 := n2_; have HO455 := n3_; have HB := n4_; clear n0_ n1_ n2_ n3_ n4_; (try clear hb); (try clear hb2); (try clear hk); (try clear hi); (try clear ho0)))
   repeat (go_quiet (first | (go_at_call 12; (with_reducible refine (tolllaw10_known.calls  true _ A6.out).mono ?_); rintro e w16 ⟨rfl, hb⟩; have n0_ := Aside0.mk (below_step (by repeat (first | (with_reducible first | exact HB.out | apply below_alloc | apply pw_below_drewN | apply below_drew1) | exact HB.out)) hb); clear HB; have HB := n0_; clear n0_; (try clear hb); (try clear hb2); (try clear hk); (try clear hi)) | (go_at_call 13; (with_reducible refine (tolllaw10_within.calls a3 100000 t438 _ A8.out).mono ?_); rintro e w' ⟨rfl, rfl⟩; (try first | exact ⟨rfl, _, rfl⟩ | exact ⟨rfl, _, World.drewN_drewN _ _ _⟩ | exact ⟨rfl, _, Eq.trans (World.drewN_drewN _ _ _) (congrArg (World.drewN _) (Nat.add_assoc _ _ _))⟩)) | (go_at_call 13; (with_reducible refine (tolllaw10_within.calls a4 12 t439 _ A9.out).mono ?_); rintro e w' ⟨rfl, rfl⟩; (try first | exact ⟨rfl, _, rfl⟩ | exact ⟨rfl, _, World.drewN_drewN _ _ _⟩ | exact ⟨rfl, _, Eq.trans (World.drewN_drewN _ _ _) (congrArg (World.drewN _) (Nat.add_assoc _ _ _))⟩)) | (go_at_call 14; (with_reducible refine (tolllaw10_Good.calls k _ _ l0 t438 t440 _ ?side1 ?side2 A10.out).mono ?_); (case side1 => repeat (first | exact (Kd.C_below HR0.out HB.out) | (with_reducible refine Kd.C_alloc ?_ _) | (with_reducible refine Kd.C_drewN ?_ _) | (with_reducible refine Kd.C_drew ?_))); (case side2 => exact HC0.out); rintro e w17 ⟨v441, rfl, ho0, hb⟩; have n0_ := Aside0.mk (Kd.R_lower ho0 (below_size (by repeat (first | (with_reducible first | exact HB.out | apply below_alloc | apply pw_below_drewN | apply below_drew1) | exact HB.out)))); have n1_ := Aside0.mk (below_step (by repeat (first | (with_reducible first | exact HB.out | apply below_alloc | apply pw_below_drewN | apply below_drew1) | exact HB.out)) hb); clear HB; have HO442 := n0_; have HB := n1_; clear n0_ n1_; (try clear hb); (try clear hb2); (try clear hk); (try clear hi); (try clear ho0)) | (go_at_call 13; (with_reducible refine (tolllaw10_within.calls a1 5000 t443 _ A11.out).mono ?_); rintro e w' ⟨rfl, rfl⟩; (try first | exact ⟨rfl, _, rfl⟩ | exact ⟨rfl, _, World.drewN_drewN _ _ _⟩ | exact ⟨rfl, _, Eq.trans (World.drewN_drewN _ _ _) (congrArg (World.drewN _) (Nat.add_assoc _ _ _))⟩); obtain ⟨Ao18, co18, eo18⟩ := Kd.R_slice HO442.out; subst eo18) | (go_at_call 15; (with_reducible refine (lots_Take.calls _ _ t440 t443 t438 t444 t445 t446 _ ?side1 ?side2 A12.out).mono ?_); (case side1 => repeat (first | exact (Kd.R_reads' HO442.out).2.2 | (with_reducible refine Kd.C_alloc ?_ _) | (with_reducible refine Kd.C_drewN ?_ _) | (with_reducible refine Kd.C_drew ?_))); (case side2 => exact (Kd.R_reads' HO442.out).2.1); rintro e w19 ⟨v447, v449, rfl, ho0, ho1, hb⟩; have n0_ := Aside0.mk (Kd.R_elder' (by (with_reducible repeat (first | apply Kd.R_alloc | apply Kd.R_drewN | apply Kd.R_drew)); exact HO442.out) (Kd.R_base ho0) hb); have n1_ := Aside0.mk (Kd.R_lower (Kd.R_new' ho0 (Kd.R_lt (by (with_reducible repeat (first | apply Kd.R_alloc | apply Kd.R_drewN | apply Kd.R_drew)); exact HO442.out))) (below_size (by repeat (first | (with_reducible first | exact HB.out | apply below_alloc | apply pw_below_drewN | apply below_drew1) | exact HB.out)))); have n2_ := Aside0.mk (Kd.R_lower ho1 (below_size (by repeat (first | (with_reducible first | exact HB.out | apply below_alloc | apply pw_below_drewN | apply below_drew1) | exact HB.out)))); have n3_ := Aside0.mk (below_step (by repeat (first | (with_reducible first | exact HB.out | apply below_alloc | apply pw_below_drewN | apply below_drew1) | exact HB.out)) hb); clear HO442; clear HB; have HO442 := n0_; have HO448 := n1_; have HO450 := n2_; have HB := n3_; clear n0_ n1_ n2_ n3_; (try clear hb); (try clear hb2); (try clear hk); (try clear hi); (try clear ho0); (try clear ho1)) | (go_at_call 13; (with_reducible refine (tolllaw10_within.calls a2 6000 t451 _ A13.out).mono ?_); rintro e w' ⟨rfl, rfl⟩; (try first | exact ⟨rfl, _, rfl⟩ | exact ⟨rfl, _, World.drewN_drewN _ _ _⟩ | exact ⟨rfl, _, Eq.trans (World.drewN_drewN _ _ _) (congrArg (World.drewN _) (Nat.add_assoc _ _ _))⟩); obtain ⟨Ao20, co20, eo20⟩ := Kd.R_slice HO448.out; subst eo20; obtain ⟨Ao21, co21, eo21⟩ := Kd.R_slice HO450.out; subst eo21) | (go_at_call 19; (with_reducible refine (lots_Use.calls _ _ t444 _ _ t445 t451 (wrap64 (t438 + t439)) t452 t453 _ ?side1 ?side2 ?side3 ?side4 A14.out).mono ?_); (case side1 => repeat (first | exact (Kd.R_reads' HO448.out).2.2 | (with_reducible refine Kd.C_alloc ?_ _) | (with_reducible refine Kd.C_drewN ?_ _) | (with_reducible refine Kd.C_drew ?_))); (case side2 => exact (Kd.R_reads' HO448.out).2.1); (case side3 => repeat (first | exact (Kd.R_reads' HO450.out).2.2 | (with_reducible refine Kd.C_alloc ?_ _) | (with_reducible refine Kd.C_drewN ?_ _) | (with_reducible refine Kd.C_drew ?_))); (case side4 => exact (Kd.R_reads' HO450.out).2.1); rintro e w22 ⟨v454, rfl, ho0, hb⟩; have n0_ := Aside0.mk (Kd.R_elder' (by (with_reducible repeat (first | apply Kd.R_alloc | apply Kd.R_drewN | apply Kd.R_drew)); exact HO442.out) (Kd.R_base ho0) hb); have n1_ := Aside0.mk (Kd.R_elder' (by (with_reducible repeat (first | apply Kd.R_alloc | apply Kd.R_drewN | apply Kd.R_drew)); exact HO448.out) (Kd.R_base ho0) hb); have n2_ := Aside0.mk (Kd.R_below (by (with_reducible repeat (first | apply Kd.R_alloc | apply Kd.R_drewN | apply Kd.R_drew)); exact HO450.out) hb); have n3_ := Aside0.mk (Kd.R_lower (Kd.R_new' (Kd.R_new' ho0 (Kd.R_lt (by (with_reducible repeat (first | apply Kd.R_alloc | apply Kd.R_drewN | apply Kd.R_drew)); exact HO442.out))) (Kd.R_lt (by (with_reducible repeat (first | apply Kd.R_alloc | apply Kd.R_drewN | apply Kd.R_drew)); exact HO448.out))) (below_size (by repeat (first | (with_reducible first | exact HB.out | apply below_alloc | apply pw_below_drewN | apply below_drew1) | exact HB.out)))); have n4_ := Aside0.mk (below_step (by repeat (first | (with_reducible first | exact HB.out | apply below_alloc | apply pw_below_drewN | apply below_drew1) | exact HB.out)) hb); clear HO442; clear HO448; clear HO450; clear HB; have HO442 := n0_; have HO448 := n1_; have HO450 := n2_; have HO455 := n3_; have HB := n4_; clear n0_ n1_ n2_ n3_ n4_; (try clear hb); (try clear hb2); (try clear hk); (try clear hi); (try clear ho0))); go_upto_region 7 with (first | (go_at_call 12; (with_reducible refine (tolllaw10_known.calls  true _ A6.out).mono ?_); rintro e w16 ⟨rfl, hb⟩; have n0_ := Aside0.mk (below_step (by repeat (first | (with_reducible first | exact HB.out | apply below_alloc | apply pw_below_drewN | apply below_drew1) | exact HB.out)) hb); clear HB; have HB := n0_; clear n0_; (try clear hb); (try clear hb2); (try clear hk); (try clear hi)) | (go_at_call 13; (with_reducible refine (tolllaw10_within.calls a3 100000 t438 _ A8.out).mono ?_); rintro e w' ⟨rfl, rfl⟩; (try first | exact ⟨rfl, _, rfl⟩ | exact ⟨rfl, _, World.drewN_drewN _ _ _⟩ | exact ⟨rfl, _, Eq.trans (World.drewN_drewN _ _ _) (congrArg (World.drewN _) (Nat.add_assoc _ _ _))⟩)) | (go_at_call 13; (with_reducible refine (tolllaw10_within.calls a4 12 t439 _ A9.out).mono ?_); rintro e w' ⟨rfl, rfl⟩; (try first | exact ⟨rfl, _, rfl⟩ | exact ⟨rfl, _, World.drewN_drewN _ _ _⟩ | exact ⟨rfl, _, Eq.trans (World.drewN_drewN _ _ _) (congrArg (World.drewN _) (Nat.add_assoc _ _ _))⟩)) | (go_at_call 14; (with_reducible refine (tolllaw10_Good.calls k _ _ l0 t438 t440 _ ?side1 ?side2 A10.out).mono ?_); (case side1 => repeat (first | exact (Kd.C_below HR0.out HB.out) | (with_reducible refine Kd.C_alloc ?_ _) | (with_reducible refine Kd.C_drewN ?_ _) | (with_reducible refine Kd.C_drew ?_))); (case side2 => exact HC0.out); rintro e w17 ⟨v441, rfl, ho0, hb⟩; have n0_ := Aside0.mk (Kd.R_lower ho0 (below_size (by repeat (first | (with_reducible first | exact HB.out | apply below_alloc | apply pw_below_drewN | apply below_drew1) | exact HB.out)))); have n1_ := Aside0.mk (below_step (by repeat (first | (with_reducible first | exact HB.out | apply below_alloc | apply pw_below_drewN | apply below_drew1) | exact HB.out)) hb); clear HB; have HO442 := n0_; have HB := n1_; clear n0_ n1_; (try clear hb); (try clear hb2); (try clear hk); (try clear hi); (try clear ho0)) | (go_at_call 13; (with_reducible refine (tolllaw10_within.calls a1 5000 t443 _ A11.out).mono ?_); rintro e w' ⟨rfl, rfl⟩; (try first | exact ⟨rfl, _, rfl⟩ | exact ⟨rfl, _, World.drewN_drewN _ _ _⟩ | exact ⟨rfl, _, Eq.trans (World.drewN_drewN _ _ _) (congrArg (World.drewN _) (Nat.add_assoc _ _ _))⟩); obtain ⟨Ao18, co18, eo18⟩ := Kd.R_slice HO442.out; subst eo18) | (go_at_call 15; (with_reducible refine (lots_Take.calls _ _ t440 t443 t438 t444 t445 t446 _ ?side1 ?side2 A12.out).mono ?_); (case side1 => repeat (first | exact (Kd.R_reads' HO442.out).2.2 | (with_reducible refine Kd.C_alloc ?_ _) | (with_reducible refine Kd.C_drewN ?_ _) | (with_reducible refine Kd.C_drew ?_))); (case side2 => exact (Kd.R_reads' HO442.out).2.1); rintro e w19 ⟨v447, v449, rfl, ho0, ho1, hb⟩; have n0_ := Aside0.mk (Kd.R_elder' (by (with_reducible repeat (first | apply Kd.R_alloc | apply Kd.R_drewN | apply Kd.R_drew)); exact HO442.out) (Kd.R_base ho0) hb); have n1_ := Aside0.mk (Kd.R_lower (Kd.R_new' ho0 (Kd.R_lt (by (with_reducible repeat (first | apply Kd.R_alloc | apply Kd.R_drewN | apply Kd.R_drew)); exact HO442.out))) (below_size (by repeat (first | (with_reducible first | exact HB.out | apply below_alloc | apply pw_below_drewN | apply below_drew1) | exact HB.out)))); have n2_ := Aside0.mk (Kd.R_lower ho1 (below_size (by repeat (first | (with_reducible first | exact HB.out | apply below_alloc | apply pw_below_drewN | apply below_drew1) | exact HB.out)))); have n3_ := Aside0.mk (below_step (by repeat (first | (with_reducible first | exact HB.out | apply below_alloc | apply pw_below_drewN | apply below_drew1) | exact HB.out)) hb); clear HO442; clear HB; have HO442 := n0_; have HO448 := n1_; have HO450 := n2_; have HB := n3_; clear n0_ n1_ n2_ n3_; (try clear hb); (try clear hb2); (try clear hk); (try clear hi); (try clear ho0); (try clear ho1)) | (go_at_call 13; (with_reducible refine (tolllaw10_within.calls a2 6000 t451 _ A13.out).mono ?_); rintro e w' ⟨rfl, rfl⟩; (try first | exact ⟨rfl, _, rfl⟩ | exact ⟨rfl, _, World.drewN_drewN _ _ _⟩ | exact ⟨rfl, _, Eq.trans (World.drewN_drewN _ _ _) (congrArg (World.drewN _) (Nat.add_assoc _ _ _))⟩); obtain ⟨Ao20, co20, eo20⟩ := Kd.R_slice HO448.out; subst eo20; obtain ⟨Ao21, co21, eo21⟩ := Kd.R_slice HO450.out; subst eo21) | (go_at_call 19; (with_reducible refine (lots_Use.calls _ _ t444 _ _ t445 t451 (wrap64 (t438 + t439)) t452 t453 _ ?side1 ?side2 ?side3 ?side4 A14.out).mono ?_); (case side1 => repeat (first | exact (Kd.R_reads' HO448.out).2.2 | (with_reducible refine Kd.C_alloc ?_ _) | (with_reducible refine Kd.C_drewN ?_ _) | (with_reducible refine Kd.C_drew ?_))); (case side2 => exact (Kd.R_reads' HO448.out).2.1); (case side3 => repeat (first | exact (Kd.R_reads' HO450.out).2.2 | (with_reducible refine Kd.C_alloc ?_ _) | (with_reducible refine Kd.C_drewN ?_ _) | (with_reducible refine Kd.C_drew ?_))); (case side4 => exact (Kd.R_reads' HO450.out).2.1); rintro e w22 ⟨v454, rfl, ho0, hb⟩; have n0_ := Aside0.mk (Kd.R_elder' (by (with_reducible repeat (first | apply Kd.R_alloc | apply Kd.R_drewN | apply Kd.R_drew)); exact HO442.out) (Kd.R_base ho0) hb); have n1_ := Aside0.mk (Kd.R_elder' (by (with_reducible repeat (first | apply Kd.R_alloc | apply Kd.R_drewN | apply Kd.R_drew)); exact HO448.out) (Kd.R_base ho0) hb); have n2_ := Aside0.mk (Kd.R_below (by (with_reducible repeat (first | apply Kd.R_alloc | apply Kd.R_drewN | apply Kd.R_drew)); exact HO450.out) hb); have n3_ := Aside0.mk (Kd.R_lower (Kd.R_new' (Kd.R_new' ho0 (Kd.R_lt (by (with_reducible repeat (first | apply Kd.R_alloc | apply Kd.R_drewN | apply Kd.R_drew)); exact HO442.out))) (Kd.R_lt (by (with_reducible repeat (first | apply Kd.R_alloc | apply Kd.R_drewN | apply Kd.R_drew)); exact HO448.out))) (below_size (by repeat (first | (with_reducible first | exact HB.out | apply below_alloc | apply pw_below_drewN | apply below_drew1) | exact HB.out)))); have n4_ := Aside0.mk (below_step (by repeat (first | (with_reducible first | exact HB.out | apply below_alloc | apply pw_below_drewN | apply below_drew1) | exact HB.out)) hb); clear HO442; clear HO448; clear HO450; clear HB; have HO442 := n0_; have HO448 := n1_; have HO450 := n2_; have HO455 := n3_; have HB := n4_; clear n0_ n1_ n2_ n3_ n4_; (try clear hb); (try clear hb2); (try clear hk); (try clear hi); (try clear ho0))))
   (try simp only [Act.put, List.setIfInBounds_toArray, List.set_cons_zero, List.set_cons_succ])
   go_cut [60] (fun v60 wc => ∃ (kq : Nat) (x60_14 : Bool), v60 = .bool x60_14 ∧ Aside0 (tolllaw10_LotsUses.j0 kq t440 a1 a2 t438 t439 t444 t445 t446 t452 t453 x60_14 = some r) ∧ Aside0 (kq ≤ k) ∧ Aside0 (Kd.R k33 33 wc w.heap.size (fun k_ => some k_ ≠ ((.slice Ao20 t444.length co20) : Value).ownBlock ∧ some k_ ≠ (v454 : Value).ownBlock) (.slice Ao18 t440.length co18) t440) ∧ Aside0 (Kd.R k33 33 wc w.heap.size (fun k_ => some k_ ≠ ((.slice Ao18 t440.length co18) : Value).ownBlock ∧ some k_ ≠ (v454 : Value).ownBlock) (.slice Ao20 t444.length co20) t444) ∧ Aside0 (Kd.R k35 35 wc w.heap.size (fun _ => True) (.slice Ao21 t445.length co21) t445) ∧ Aside0 (Kd.R k33 33 wc w.heap.size (fun k_ => some k_ ≠ ((.slice Ao18 t440.length co18) : Value).ownBlock ∧ some k_ ≠ ((.slice Ao20 t444.length co20) : Value).ownBlock) v454 t452) ∧ Aside0 (Below w.heap.size w wc))
   case first =>
    have H := HC15.out
    clear HC15
    replace H := Option.bind_eq_some_iff.mp H
    obtain ⟨t456, A230, H⟩ := H
    replace H : (if t456 = 0 then (tolllaw10_LotsUses.j0 k t440 a1 a2 t438 t439 t444 t445 t446 t452 t453 ((t452.length : Int) != (t440.length : Int))) else (tolllaw10_LotsUses.j0 k t440 a1 a2 t438 t439 t444 t445 t446 t452 t453 true)) = some r := H
    have A23 := Aside0.mk A230
    clear A230
    by_cases c24 : t456 = 0
    · rw [if_pos c24] at H
      have c24b0 : (t456 == 0) = true := beq_iff_eq.mpr c24
      have c24b1 : (t456 != 0) = false := bne_eq_false_iff_eq.mpr c24
      clear c24
      (first | rw [c24b0] | (simp only [i64_w, i32_w]; rw [c24b0]) | skip)
      have H' := Aside0.mk H
      clear H
      obtain ⟨Ao25, co25, eo25⟩ := Kd.R_slice HO455.out
      subst eo25
      go_wp2_with (first | (go_at_call 20; (with_reducible refine (lots_Check.calls k _ _ t452 t456 _ ?side1 ?side2 A23.out).mono ?_); (case side1 => repeat (first | exact (Kd.R_reads' HO455.out).2.2 | (with_reducible refine Kd.C_alloc ?_ _) | (with_reducible refine Kd.C_drewN ?_ _) | (with_reducible refine Kd.C_drew ?_))); (case side2 => exact (Kd.R_reads' HO455.out).2.1); rintro e w26 ⟨rfl, hb⟩; have n0_ := Aside0.mk (Kd.R_below (by (with_reducible repeat (first | apply Kd.R_alloc | apply Kd.R_drewN | apply Kd.R_drew)); exact HO442.out) hb); have n1_ := Aside0.mk (Kd.R_below (by (with_reducible repeat (first | apply Kd.R_alloc | apply Kd.R_drewN | apply Kd.R_drew)); exact HO448.out) hb); have n2_ := Aside0.mk (Kd.R_below (by (with_reducible repeat (first | apply Kd.R_alloc | apply Kd.R_drewN | apply Kd.R_drew)); exact HO450.out) hb); have n3_ := Aside0.mk (Kd.R_below (by (with_reducible repeat (first | apply Kd.R_alloc | apply Kd.R_drewN | apply Kd.R_drew)); exact HO455.out) hb); have n4_ := Aside0.mk (below_step (by repeat (first | (with_reducible first | exact HB.out | apply below_alloc | apply pw_below_drewN | apply below_drew1) | exact HB.out)) hb); clear HO442; clear HO448; clear HO450; clear HO455; clear HB; have HO442 := n0_; have HO448 := n1_; have HO450 := n2_; have HO455 := n3_; have HB := n4_; clear n0_ n1_ n2_ n3_ n4_; (try clear hb); (try clear hb2); (try clear hk); (try clear hi)))
      repeat (go_quiet (first | (go_at_call 20; (with_reducible refine (lots_Check.calls k _ _ t452 t456 _ ?side1 ?side2 A23.out).mono ?_); (case side1 => repeat (first | exact (Kd.R_reads' HO455.out).2.2 | (with_reducible refine Kd.C_alloc ?_ _) | (with_reducible refine Kd.C_drewN ?_ _) | (with_reducible refine Kd.C_drew ?_))); (case side2 => exact (Kd.R_reads' HO455.out).2.1); rintro e w26 ⟨rfl, hb⟩; have n0_ := Aside0.mk (Kd.R_below (by (with_reducible repeat (first | apply Kd.R_alloc | apply Kd.R_drewN | apply Kd.R_drew)); exact HO442.out) hb); have n1_ := Aside0.mk (Kd.R_below (by (with_reducible repeat (first | apply Kd.R_alloc | apply Kd.R_drewN | apply Kd.R_drew)); exact HO448.out) hb); have n2_ := Aside0.mk (Kd.R_below (by (with_reducible repeat (first | apply Kd.R_alloc | apply Kd.R_drewN | apply Kd.R_drew)); exact HO450.out) hb); have n3_ := Aside0.mk (Kd.R_below (by (with_reducible repeat (first | apply Kd.R_alloc | apply Kd.R_drewN | apply Kd.R_drew)); exact HO455.out) hb); have n4_ := Aside0.mk (below_step (by repeat (first | (with_reducible first | exact HB.out | apply below_alloc | apply pw_below_drewN | apply below_drew1) | exact HB.out)) hb); clear HO442; clear HO448; clear HO450; clear HO455; clear HB; have HO442 := n0_; have HO448 := n1_; have HO450 := n2_; have HO455 := n3_; have HB := n4_; clear n0_ n1_ n2_ n3_ n4_; (try clear hb); (try clear hb2); (try clear hk); (try clear hi))); try go_wp2_with (first | (go_at_call 20; (with_reducible refine (lots_Check.calls k _ _ t452 t456 _ ?side1 ?side2 A23.out).mono ?_); (case side1 => repeat (first | exact (Kd.R_reads' HO455.out).2.2 | (with_reducible refine Kd.C_alloc ?_ _) | (with_reducible refine Kd.C_drewN ?_ _) | (with_reducible refine Kd.C_drew ?_))); (case side2 => exact (Kd.R_reads' HO455.out).2.1); rintro e w26 ⟨rfl, hb⟩; have n0_ := Aside0.mk (Kd.R_below (by (with_reducible repeat (first | apply Kd.R_alloc | apply Kd.R_drewN | apply Kd.R_drew)); exact HO442.out) hb); have n1_ := Aside0.mk (Kd.R_below (by (with_reducible repeat (first | apply Kd.R_alloc | apply Kd.R_drewN | apply Kd.R_drew)); exact HO448.out) hb); have n2_ := Aside0.mk (Kd.R_below (by (with_reducible repeat (first | apply Kd.R_alloc | apply Kd.R_drewN | apply Kd.R_drew)); exact HO450.out) hb); have n3_ := Aside0.mk (Kd.R_below (by (with_reducible repeat (first | apply Kd.R_alloc | apply Kd.R_drewN | apply Kd.R_drew)); exact HO455.out) hb); have n4_ := Aside0.mk (below_step (by repeat (first | (with_reducible first | exact HB.out | apply below_alloc | apply pw_below_drewN | apply below_drew1) | exact HB.out)) hb); clear HO442; clear HO448; clear HO450; clear HO455; clear HB; have HO442 := n0_; have HO448 := n1_; have HO450 := n2_; have HO455 := n3_; have HB := n4_; clear n0_ n1_ n2_ n3_ n4_; (try clear hb); (try clear hb2); (try clear hk); (try clear hi))))
      go_meet
      case rel => exact ⟨_, (((t452.length : Int) != (t440.length : Int))), (by first | rfl | (simp; done) | (simp [*]; done)), H', ⟨by first | omega | exact Nat.le_refl _⟩, ⟨by (with_reducible repeat (first | apply Kd.R_alloc | apply Kd.R_drewN | apply Kd.R_drew)); exact Kd.R_mono HO442.out (fun _ hk => ⟨hk.1.2, hk.2⟩)⟩, ⟨by (with_reducible repeat (first | apply Kd.R_alloc | apply Kd.R_drewN | apply Kd.R_drew)); exact Kd.R_mono HO448.out (fun _ hk => ⟨hk.1.2, hk.2⟩)⟩, ⟨by (with_reducible repeat (first | apply Kd.R_alloc | apply Kd.R_drewN | apply Kd.R_drew)); exact HO450.out⟩, ⟨by (with_reducible repeat (first | apply Kd.R_alloc | apply Kd.R_drewN | apply Kd.R_drew)); exact Kd.R_mono HO455.out (fun _ hk => ⟨hk.1.2, hk.2⟩)⟩, ⟨by repeat (first | (with_reducible first | exact HB.out | apply below_alloc | apply pw_below_drewN | apply below_drew1) | exact HB.out)⟩⟩
    · rw [if_neg c24] at H
      have c24b0 : (t456 == 0) = false := beq_eq_false_iff_ne.mpr c24
      have c24b1 : (t456 != 0) = true := bne_iff_ne.mpr c24
      (first | rw [c24b0] | (simp only [i64_w, i32_w]; rw [c24b0]) | skip)
      have H' := Aside0.mk H
      clear H
      obtain ⟨Ao27, co27, eo27⟩ := Kd.R_slice HO455.out
      subst eo27
      go_wp2_with (first | (go_at_call 20; (with_reducible refine (lots_Check.calls k _ _ t452 t456 _ ?side1 ?side2 A23.out).mono ?_); (case side1 => repeat (first | exact (Kd.R_reads' HO455.out).2.2 | (with_reducible refine Kd.C_alloc ?_ _) | (with_reducible refine Kd.C_drewN ?_ _) | (with_reducible refine Kd.C_drew ?_))); (case side2 => exact (Kd.R_reads' HO455.out).2.1); rintro e w28 ⟨rfl, hb⟩; have n0_ := Aside0.mk (Kd.R_below (by (with_reducible repeat (first | apply Kd.R_alloc | apply Kd.R_drewN | apply Kd.R_drew)); exact HO442.out) hb); have n1_ := Aside0.mk (Kd.R_below (by (with_reducible repeat (first | apply Kd.R_alloc | apply Kd.R_drewN | apply Kd.R_drew)); exact HO448.out) hb); have n2_ := Aside0.mk (Kd.R_below (by (with_reducible repeat (first | apply Kd.R_alloc | apply Kd.R_drewN | apply Kd.R_drew)); exact HO450.out) hb); have n3_ := Aside0.mk (Kd.R_below (by (with_reducible repeat (first | apply Kd.R_alloc | apply Kd.R_drewN | apply Kd.R_drew)); exact HO455.out) hb); have n4_ := Aside0.mk (below_step (by repeat (first | (with_reducible first | exact HB.out | apply below_alloc | apply pw_below_drewN | apply below_drew1) | exact HB.out)) hb); clear HO442; clear HO448; clear HO450; clear HO455; clear HB; have HO442 := n0_; have HO448 := n1_; have HO450 := n2_; have HO455 := n3_; have HB := n4_; clear n0_ n1_ n2_ n3_ n4_; (try clear hb); (try clear hb2); (try clear hk); (try clear hi)))
      repeat (go_quiet (first | (go_at_call 20; (with_reducible refine (lots_Check.calls k _ _ t452 t456 _ ?side1 ?side2 A23.out).mono ?_); (case side1 => repeat (first | exact (Kd.R_reads' HO455.out).2.2 | (with_reducible refine Kd.C_alloc ?_ _) | (with_reducible refine Kd.C_drewN ?_ _) | (with_reducible refine Kd.C_drew ?_))); (case side2 => exact (Kd.R_reads' HO455.out).2.1); rintro e w28 ⟨rfl, hb⟩; have n0_ := Aside0.mk (Kd.R_below (by (with_reducible repeat (first | apply Kd.R_alloc | apply Kd.R_drewN | apply Kd.R_drew)); exact HO442.out) hb); have n1_ := Aside0.mk (Kd.R_below (by (with_reducible repeat (first | apply Kd.R_alloc | apply Kd.R_drewN | apply Kd.R_drew)); exact HO448.out) hb); have n2_ := Aside0.mk (Kd.R_below (by (with_reducible repeat (first | apply Kd.R_alloc | apply Kd.R_drewN | apply Kd.R_drew)); exact HO450.out) hb); have n3_ := Aside0.mk (Kd.R_below (by (with_reducible repeat (first | apply Kd.R_alloc | apply Kd.R_drewN | apply Kd.R_drew)); exact HO455.out) hb); have n4_ := Aside0.mk (below_step (by repeat (first | (with_reducible first | exact HB.out | apply below_alloc | apply pw_below_drewN | apply below_drew1) | exact HB.out)) hb); clear HO442; clear HO448; clear HO450; clear HO455; clear HB; have HO442 := n0_; have HO448 := n1_; have HO450 := n2_; have HO455 := n3_; have HB := n4_; clear n0_ n1_ n2_ n3_ n4_; (try clear hb); (try clear hb2); (try clear hk); (try clear hi))); try go_wp2_with (first | (go_at_call 20; (with_reducible refine (lots_Check.calls k _ _ t452 t456 _ ?side1 ?side2 A23.out).mono ?_); (case side1 => repeat (first | exact (Kd.R_reads' HO455.out).2.2 | (with_reducible refine Kd.C_alloc ?_ _) | (with_reducible refine Kd.C_drewN ?_ _) | (with_reducible refine Kd.C_drew ?_))); (case side2 => exact (Kd.R_reads' HO455.out).2.1); rintro e w28 ⟨rfl, hb⟩; have n0_ := Aside0.mk (Kd.R_below (by (with_reducible repeat (first | apply Kd.R_alloc | apply Kd.R_drewN | apply Kd.R_drew)); exact HO442.out) hb); have n1_ := Aside0.mk (Kd.R_below (by (with_reducible repeat (first | apply Kd.R_alloc | apply Kd.R_drewN | apply Kd.R_drew)); exact HO448.out) hb); have n2_ := Aside0.mk (Kd.R_below (by (with_reducible repeat (first | apply Kd.R_alloc | apply Kd.R_drewN | apply Kd.R_drew)); exact HO450.out) hb); have n3_ := Aside0.mk (Kd.R_below (by (with_reducible repeat (first | apply Kd.R_alloc | apply Kd.R_drewN | apply Kd.R_drew)); exact HO455.out) hb); have n4_ := Aside0.mk (below_step (by repeat (first | (with_reducible first | exact HB.out | apply below_alloc | apply pw_below_drewN | apply below_drew1) | exact HB.out)) hb); clear HO442; clear HO448; clear HO450; clear HO455; clear HB; have HO442 := n0_; have HO448 := n1_; have HO450 := n2_; have HO455 := n3_; have HB := n4_; clear n0_ n1_ n2_ n3_ n4_; (try clear hb); (try clear hb2); (try clear hk); (try clear hi))))
      go_meet
      case rel => exact ⟨_, (true), (by first | rfl | (simp; done) | (simp [*]; done)), H', ⟨by first | omega | exact Nat.le_refl _⟩, ⟨by (with_reducible repeat (first | apply Kd.R_alloc | apply Kd.R_drewN | apply Kd.R_drew)); exact Kd.R_mono HO442.out (fun _ hk => ⟨hk.1.2, hk.2⟩)⟩, ⟨by (with_reducible repeat (first | apply Kd.R_alloc | apply Kd.R_drewN | apply Kd.R_drew)); exact Kd.R_mono HO448.out (fun _ hk => ⟨hk.1.2, hk.2⟩)⟩, ⟨by (with_reducible repeat (first | apply Kd.R_alloc | apply Kd.R_drewN | apply Kd.R_drew)); exact HO450.out⟩, ⟨by (with_reducible repeat (first | apply Kd.R_alloc | apply Kd.R_drewN | apply Kd.R_drew)); exact Kd.R_mono HO455.out (fun _ hk => ⟨hk.1.2, hk.2⟩)⟩, ⟨by repeat (first | (with_reducible first | exact HB.out | apply below_alloc | apply pw_below_drewN | apply below_drew1) | exact HB.out)⟩⟩
   case rest =>
    clear HC15
    try clear c1
    try clear c2
    try clear p2
    try clear p6
    try clear c7
    try clear c11
    try clear c24
    try clear c24b0
    try clear c24b1
    obtain ⟨kq, x60_14, rfl, HA, HJ14, HO_0, HO_11, HO_12, HO_14, HB⟩ := hcut
    cases kq with
    | zero => exact absurd HA.out (by simp [tolllaw10_LotsUses.j0])
    | succ kj14 =>
     have H := HA.out
     clear HA
     simp only [tolllaw10_LotsUses.j0] at H
     by_cases c29 : x60_14 = true
     · subst c29
       have H1 : (some false) = some r := by rw [if_pos rfl] at H; exact H
       clear H
       have H := H1
       clear H1
       obtain rfl := Option.some.inj H
       go_wp2
       repeat (go_quiet (fail); try go_wp2)
       go_ret
       exact ⟨by first | rfl | (simp [errW_none, errW_some] <;> rfl) | (simp [*, errW_none, errW_some] <;> rfl), by repeat (first | (with_reducible first | exact HB.out | apply below_alloc | apply pw_below_drewN | apply below_drew1) | exact HB.out)⟩
     · replace c29 := Bool.eq_false_iff.mpr c29
       subst c29
       have H1 : ((tolllaw10_within.f a1 5000).bind fun t457 => (tolllaw10_LotsUses.l0 kj14 t440 a2 t438 t439 t444 t445 t452 t453 (wrap64 (t457 - t446)) 0 0 0)) = some r := by rw [if_neg (show ¬ (false = true) by decide)] at H; exact H
       clear H
       have H := H1
       clear H1
       replace H := Option.bind_eq_some_iff.mp H
       obtain ⟨t457, A300, H⟩ := H
       replace H : (tolllaw10_LotsUses.l0 kj14 t440 a2 t438 t439 t444 t445 t452 t453 (wrap64 (t457 - t446)) 0 0 0) = some r := H
       have A30 := Aside0.mk A300
       clear A300
       have H' := Aside0.mk H
       clear H
       go_wp2_with (first | (go_at_call 13; (with_reducible refine (tolllaw10_within.calls a1 5000 t457 _ A30.out).mono ?_); rintro e w' ⟨rfl, rfl⟩; (try first | exact ⟨rfl, _, rfl⟩ | exact ⟨rfl, _, World.drewN_drewN _ _ _⟩ | exact ⟨rfl, _, Eq.trans (World.drewN_drewN _ _ _) (congrArg (World.drewN _) (Nat.add_assoc _ _ _))⟩)))
       repeat (go_quiet (first | (go_at_call 13; (with_reducible refine (tolllaw10_within.calls a1 5000 t457 _ A30.out).mono ?_); rintro e w' ⟨rfl, rfl⟩; (try first | exact ⟨rfl, _, rfl⟩ | exact ⟨rfl, _, World.drewN_drewN _ _ _⟩ | exact ⟨rfl, _, Eq.trans (World.drewN_drewN _ _ _) (congrArg (World.drewN _) (Nat.add_assoc _ _ _))⟩))); try go_wp2_with (first | (go_at_call 13; (with_reducible refine (tolllaw10_within.calls a1 5000 t457 _ A30.out).mono ?_); rintro e w' ⟨rfl, rfl⟩; (try first | exact ⟨rfl, _, rfl⟩ | exact ⟨rfl, _, World.drewN_drewN _ _ _⟩ | exact ⟨rfl, _, Eq.trans (World.drewN_drewN _ _ _) (congrArg (World.drewN _) (Nat.add_assoc _ _ _))⟩))))
       go_loopg [17, 18, 19] kj14 (fun kq v17 v18 v19 w' => ∃ (x17_2 : Int) (x18_2 : Int) (x19_2 : Int), v17 = .int .i64 x17_2 ∧ v18 = .int .i64 x18_2 ∧ v19 = .int .i64 x19_2 ∧ Aside0 (tolllaw10_LotsUses.l0 kq t440 a2 t438 t439 t444 t445 t452 t453 (wrap64 (t457 - t446)) x17_2 x18_2 x19_2 = some r) ∧ Aside0 (kq ≤ kj14) ∧ Aside0 (Kd.R k33 33 w' w.heap.size (fun k_ => some k_ ≠ ((.slice Ao20 t444.length co20) : Value).ownBlock ∧ some k_ ≠ (v454 : Value).ownBlock) (.slice Ao18 t440.length co18) t440) ∧ Aside0 (Kd.R k33 33 w' w.heap.size (fun k_ => some k_ ≠ ((.slice Ao18 t440.length co18) : Value).ownBlock ∧ some k_ ≠ (v454 : Value).ownBlock) (.slice Ao20 t444.length co20) t444) ∧ Aside0 (Kd.R k35 35 w' w.heap.size (fun _ => True) (.slice Ao21 t445.length co21) t445) ∧ Aside0 (Kd.R k33 33 w' w.heap.size (fun k_ => some k_ ≠ ((.slice Ao18 t440.length co18) : Value).ownBlock ∧ some k_ ≠ ((.slice Ao20 t444.length co20) : Value).ownBlock) v454 t452) ∧ Aside0 (Below w.heap.size w w'))
       case atStart => exact ⟨(0), (0), (0), (by first | rfl | (simp; done) | (simp [*]; done)), (by first | rfl | (simp; done) | (simp [*]; done)), (by first | rfl | (simp; done) | (simp [*]; done)), H', ⟨Nat.le_refl _⟩, ⟨by (with_reducible repeat (first | apply Kd.R_alloc | apply Kd.R_drewN | apply Kd.R_drew)); exact HO_0.out⟩, ⟨by (with_reducible repeat (first | apply Kd.R_alloc | apply Kd.R_drewN | apply Kd.R_drew)); exact HO_11.out⟩, ⟨by (with_reducible repeat (first | apply Kd.R_alloc | apply Kd.R_drewN | apply Kd.R_drew)); exact HO_12.out⟩, ⟨by (with_reducible repeat (first | apply Kd.R_alloc | apply Kd.R_drewN | apply Kd.R_drew)); exact HO_14.out⟩, ⟨by repeat (first | (with_reducible first | exact HB.out | apply below_alloc | apply pw_below_drewN | apply below_drew1) | exact HB.out)⟩⟩
       case round =>
        clear H'
        try clear c1
        try clear c2
        try clear p2
        try clear p6
        try clear c7
        try clear c11
        try clear c24
        try clear c24b0
        try clear c24b1
        try clear c29
        try clear p2
        try clear p6
        obtain ⟨x17_2, x18_2, x19_2, rfl, rfl, rfl, HA, HK2, HO_0, HO_11, HO_12, HO_14, HB⟩ := hrel
        cases gk with
        | zero => exact absurd HA.out (by simp [tolllaw10_LotsUses.l0])
        | succ k2 =>
         have H := HA.out
         clear HA
         simp only [tolllaw10_LotsUses.l0] at H
         by_cases c31 : x19_2 < (t452.length : Int)
         · rw [if_pos c31] at H
           have c31b0 : decide (x19_2 < (t452.length : Int)) = true := decide_eq_true c31
           clear c31
           have HC32 := Aside0.mk H
           clear H
           obtain ⟨Ao33, co33, eo33⟩ := Kd.R_slice HO_14.out
           subst eo33
           go_upto_region 14 with (fail)
           repeat (go_quiet (fail); go_upto_region 14 with (fail))
           go_cut [107] (fun v107 wc => ∃ (kq : Nat) (x107_31 : Bool), v107 = .bool x107_31 ∧ Aside0 (tolllaw10_LotsUses.j2 kq t440 a2 t438 t439 t444 t445 t452 t453 (wrap64 (t457 - t446)) x17_2 x18_2 x19_2 x107_31 = some r) ∧ Aside0 (kq ≤ k2) ∧ Aside0 (Kd.R k33 33 wc w.heap.size (fun k_ => some k_ ≠ ((.slice Ao20 t444.length co20) : Value).ownBlock ∧ some k_ ≠ ((.slice Ao33 t452.length co33) : Value).ownBlock) (.slice Ao18 t440.length co18) t440) ∧ Aside0 (Kd.R k33 33 wc w.heap.size (fun k_ => some k_ ≠ ((.slice Ao18 t440.length co18) : Value).ownBlock ∧ some k_ ≠ ((.slice Ao33 t452.length co33) : Value).ownBlock) (.slice Ao20 t444.length co20) t444) ∧ Aside0 (Kd.R k35 35 wc w.heap.size (fun _ => True) (.slice Ao21 t445.length co21) t445) ∧ Aside0 (Kd.R k33 33 wc w.heap.size (fun k_ => some k_ ≠ ((.slice Ao18 t440.length co18) : Value).ownBlock ∧ some k_ ≠ ((.slice Ao20 t444.length co20) : Value).ownBlock) (.slice Ao33 t452.length co33) t452) ∧ Aside0 (Below w.heap.size w wc))
           case first =>
            have H := HC32.out
            clear HC32
            by_cases c34 : 0 ≤ x19_2
            · rw [if_pos c34] at H
              have c34b0 : decide (0 ≤ x19_2) = true := decide_eq_true c34
              clear c34
              (first | rw [c34b0] | (simp only [i64_w, i32_w]; rw [c34b0]) | skip)
              by_cases c35 : x19_2 < (t440.length : Int)
              · rw [if_pos c35] at H
                have c35b0 : decide (x19_2 < (t440.length : Int)) = true := decide_eq_true c35
                clear c35
                by_cases c36 : ((rd_T33 t452 x19_2).f4) = ((rd_T33 t440 x19_2).f4)
                · rw [if_pos c36] at H
                  have c36b0 : (((rd_T33 t452 x19_2).f4) == ((rd_T33 t440 x19_2).f4)) = true := beq_iff_eq.mpr c36
                  have c36b1 : (((rd_T33 t452 x19_2).f4) != ((rd_T33 t440 x19_2).f4)) = false := bne_eq_false_iff_eq.mpr c36
                  clear c36
                  by_cases c37 : ((rd_T33 t452 x19_2).f6) = ((rd_T33 t440 x19_2).f6)
                  · rw [if_pos c37] at H
                    have c37b0 : (((rd_T33 t452 x19_2).f6) == ((rd_T33 t440 x19_2).f6)) = true := beq_iff_eq.mpr c37
                    have c37b1 : (((rd_T33 t452 x19_2).f6) != ((rd_T33 t440 x19_2).f6)) = false := bne_eq_false_iff_eq.mpr c37
                    clear c37
                    have H' := Aside0.mk H
                    clear H
                    have p458 : 0 ≤ (x19_2 : Int) := of_decide_eq_true (by first | (with_reducible assumption) | assumption)
                    have q458 : x19_2 < (t452.length : Int) := of_decide_eq_true (by first | (with_reducible assumption) | assumption)
                    obtain ⟨ad458, e458, hx458_0, hx458_1, hx458_2, hx458_3, hx458_4, hx458_5, hx458_6, hx458_7, hx458_8⟩ := at_T33 (Kd.R_reads' HO_14.out).2.2 x19_2 p458 q458
                    cases e458
                    replace p458 := eq_true p458
                    replace q458 := eq_true q458
                    have p459 : 0 ≤ (x19_2 : Int) := of_decide_eq_true (by first | (with_reducible assumption) | assumption)
                    have q459 : x19_2 < (t440.length : Int) := of_decide_eq_true (by first | (with_reducible assumption) | assumption)
                    obtain ⟨ad459, e459, hx459_0, hx459_1, hx459_2, hx459_3, hx459_4, hx459_5, hx459_6, hx459_7, hx459_8⟩ := at_T33 (Kd.R_reads' HO_0.out).2.2 x19_2 p459 q459
                    cases e459
                    replace p459 := eq_true p459
                    replace q459 := eq_true q459
                    have p460 : 0 ≤ (x19_2 : Int) := of_decide_eq_true (by first | (with_reducible assumption) | assumption)
                    have q460 : x19_2 < (t452.length : Int) := of_decide_eq_true (by first | (with_reducible assumption) | assumption)
                    obtain ⟨ad460, e460, hx460_0, hx460_1, hx460_2, hx460_3, hx460_4, hx460_5, hx460_6, hx460_7, hx460_8⟩ := at_T33 (Kd.R_reads' HO_14.out).2.2 x19_2 p460 q460
                    obtain rfl : ad458 = ad460 := (by injection e460)
                    replace p460 := eq_true p460
                    replace q460 := eq_true q460
                    have p461 : 0 ≤ (x19_2 : Int) := of_decide_eq_true (by first | (with_reducible assumption) | assumption)
                    have q461 : x19_2 < (t440.length : Int) := of_decide_eq_true (by first | (with_reducible assumption) | assumption)
                    obtain ⟨ad461, e461, hx461_0, hx461_1, hx461_2, hx461_3, hx461_4, hx461_5, hx461_6, hx461_7, hx461_8⟩ := at_T33 (Kd.R_reads' HO_0.out).2.2 x19_2 p461 q461
                    obtain rfl : ad459 = ad461 := (by injection e461)
                    replace p461 := eq_true p461
                    replace q461 := eq_true q461
                    have p462 : 0 ≤ (x19_2 : Int) := of_decide_eq_true (by first | (with_reducible assumption) | assumption)
                    have q462 : x19_2 < (t452.length : Int) := of_decide_eq_true (by first | (with_reducible assumption) | assumption)
                    obtain ⟨ad462, e462, hx462_0, hx462_1, hx462_2, hx462_3, hx462_4, hx462_5, hx462_6, hx462_7, hx462_8⟩ := at_T33 (Kd.R_reads' HO_14.out).2.2 x19_2 p462 q462
                    obtain rfl : ad458 = ad462 := (by injection e462)
                    replace p462 := eq_true p462
                    replace q462 := eq_true q462
                    have p463 : 0 ≤ (x19_2 : Int) := of_decide_eq_true (by first | (with_reducible assumption) | assumption)
                    have q463 : x19_2 < (t440.length : Int) := of_decide_eq_true (by first | (with_reducible assumption) | assumption)
                    obtain ⟨ad463, e463, hx463_0, hx463_1, hx463_2, hx463_3, hx463_4, hx463_5, hx463_6, hx463_7, hx463_8⟩ := at_T33 (Kd.R_reads' HO_0.out).2.2 x19_2 p463 q463
                    obtain rfl : ad459 = ad463 := (by injection e463)
                    replace p463 := eq_true p463
                    replace q463 := eq_true q463
                    go_wp2
                    repeat (go_quiet (fail); try go_wp2)
                    go_meet
                    case rel => exact ⟨_, ((((rd_T33 t452 x19_2).f8) != ((rd_T33 t440 x19_2).f8))), (by first | rfl | (simp; done) | (simp [*]; done)), H', ⟨by have := HJ14.out; have := HK2.out; first | omega | exact Nat.le_refl _⟩, ⟨by (with_reducible repeat (first | apply Kd.R_alloc | apply Kd.R_drewN | apply Kd.R_drew)); exact HO_0.out⟩, ⟨by (with_reducible repeat (first | apply Kd.R_alloc | apply Kd.R_drewN | apply Kd.R_drew)); exact HO_11.out⟩, ⟨by (with_reducible repeat (first | apply Kd.R_alloc | apply Kd.R_drewN | apply Kd.R_drew)); exact HO_12.out⟩, ⟨by (with_reducible repeat (first | apply Kd.R_alloc | apply Kd.R_drewN | apply Kd.R_drew)); exact HO_14.out⟩, ⟨by repeat (first | (with_reducible first | exact HB.out | apply below_alloc | apply pw_below_drewN | apply below_drew1) | exact HB.out)⟩⟩
                  · rw [if_neg c37] at H
                    have c37b0 : (((rd_T33 t452 x19_2).f6) == ((rd_T33 t440 x19_2).f6)) = false := beq_eq_false_iff_ne.mpr c37
                    have c37b1 : (((rd_T33 t452 x19_2).f6) != ((rd_T33 t440 x19_2).f6)) = true := bne_iff_ne.mpr c37
                    have H' := Aside0.mk H
                    clear H
                    have p458 : 0 ≤ (x19_2 : Int) := of_decide_eq_true (by first | (with_reducible assumption) | assumption)
                    have q458 : x19_2 < (t452.length : Int) := of_decide_eq_true (by first | (with_reducible assumption) | assumption)
                    obtain ⟨ad458, e458, hx458_0, hx458_1, hx458_2, hx458_3, hx458_4, hx458_5, hx458_6, hx458_7, hx458_8⟩ := at_T33 (Kd.R_reads' HO_14.out).2.2 x19_2 p458 q458
                    cases e458
                    replace p458 := eq_true p458
                    replace q458 := eq_true q458
                    have p459 : 0 ≤ (x19_2 : Int) := of_decide_eq_true (by first | (with_reducible assumption) | assumption)
                    have q459 : x19_2 < (t440.length : Int) := of_decide_eq_true (by first | (with_reducible assumption) | assumption)
                    obtain ⟨ad459, e459, hx459_0, hx459_1, hx459_2, hx459_3, hx459_4, hx459_5, hx459_6, hx459_7, hx459_8⟩ := at_T33 (Kd.R_reads' HO_0.out).2.2 x19_2 p459 q459
                    cases e459
                    replace p459 := eq_true p459
                    replace q459 := eq_true q459
                    have p460 : 0 ≤ (x19_2 : Int) := of_decide_eq_true (by first | (with_reducible assumption) | assumption)
                    have q460 : x19_2 < (t452.length : Int) := of_decide_eq_true (by first | (with_reducible assumption) | assumption)
                    obtain ⟨ad460, e460, hx460_0, hx460_1, hx460_2, hx460_3, hx460_4, hx460_5, hx460_6, hx460_7, hx460_8⟩ := at_T33 (Kd.R_reads' HO_14.out).2.2 x19_2 p460 q460
                    obtain rfl : ad458 = ad460 := (by injection e460)
                    replace p460 := eq_true p460
                    replace q460 := eq_true q460
                    have p461 : 0 ≤ (x19_2 : Int) := of_decide_eq_true (by first | (with_reducible assumption) | assumption)
                    have q461 : x19_2 < (t440.length : Int) := of_decide_eq_true (by first | (with_reducible assumption) | assumption)
                    obtain ⟨ad461, e461, hx461_0, hx461_1, hx461_2, hx461_3, hx461_4, hx461_5, hx461_6, hx461_7, hx461_8⟩ := at_T33 (Kd.R_reads' HO_0.out).2.2 x19_2 p461 q461
                    obtain rfl : ad459 = ad461 := (by injection e461)
                    replace p461 := eq_true p461
                    replace q461 := eq_true q461
                    go_wp2
                    repeat (go_quiet (fail); try go_wp2)
                    go_meet
                    case rel => exact ⟨_, (true), (by first | rfl | (simp; done) | (simp [*]; done)), H', ⟨by have := HJ14.out; have := HK2.out; first | omega | exact Nat.le_refl _⟩, ⟨by (with_reducible repeat (first | apply Kd.R_alloc | apply Kd.R_drewN | apply Kd.R_drew)); exact HO_0.out⟩, ⟨by (with_reducible repeat (first | apply Kd.R_alloc | apply Kd.R_drewN | apply Kd.R_drew)); exact HO_11.out⟩, ⟨by (with_reducible repeat (first | apply Kd.R_alloc | apply Kd.R_drewN | apply Kd.R_drew)); exact HO_12.out⟩, ⟨by (with_reducible repeat (first | apply Kd.R_alloc | apply Kd.R_drewN | apply Kd.R_drew)); exact HO_14.out⟩, ⟨by repeat (first | (with_reducible first | exact HB.out | apply below_alloc | apply pw_below_drewN | apply below_drew1) | exact HB.out)⟩⟩
                · rw [if_neg c36] at H
                  have c36b0 : (((rd_T33 t452 x19_2).f4) == ((rd_T33 t440 x19_2).f4)) = false := beq_eq_false_iff_ne.mpr c36
                  have c36b1 : (((rd_T33 t452 x19_2).f4) != ((rd_T33 t440 x19_2).f4)) = true := bne_iff_ne.mpr c36
                  have H' := Aside0.mk H
                  clear H
                  have p458 : 0 ≤ (x19_2 : Int) := of_decide_eq_true (by first | (with_reducible assumption) | assumption)
                  have q458 : x19_2 < (t452.length : Int) := of_decide_eq_true (by first | (with_reducible assumption) | assumption)
                  obtain ⟨ad458, e458, hx458_0, hx458_1, hx458_2, hx458_3, hx458_4, hx458_5, hx458_6, hx458_7, hx458_8⟩ := at_T33 (Kd.R_reads' HO_14.out).2.2 x19_2 p458 q458
                  cases e458
                  replace p458 := eq_true p458
                  replace q458 := eq_true q458
                  have p459 : 0 ≤ (x19_2 : Int) := of_decide_eq_true (by first | (with_reducible assumption) | assumption)
                  have q459 : x19_2 < (t440.length : Int) := of_decide_eq_true (by first | (with_reducible assumption) | assumption)
                  obtain ⟨ad459, e459, hx459_0, hx459_1, hx459_2, hx459_3, hx459_4, hx459_5, hx459_6, hx459_7, hx459_8⟩ := at_T33 (Kd.R_reads' HO_0.out).2.2 x19_2 p459 q459
                  cases e459
                  replace p459 := eq_true p459
                  replace q459 := eq_true q459
                  go_wp2
                  repeat (go_quiet (fail); try go_wp2)
                  go_meet
                  case rel => exact ⟨_, (true), (by first | rfl | (simp; done) | (simp [*]; done)), H', ⟨by have := HJ14.out; have := HK2.out; first | omega | exact Nat.le_refl _⟩, ⟨by (with_reducible repeat (first | apply Kd.R_alloc | apply Kd.R_drewN | apply Kd.R_drew)); exact HO_0.out⟩, ⟨by (with_reducible repeat (first | apply Kd.R_alloc | apply Kd.R_drewN | apply Kd.R_drew)); exact HO_11.out⟩, ⟨by (with_reducible repeat (first | apply Kd.R_alloc | apply Kd.R_drewN | apply Kd.R_drew)); exact HO_12.out⟩, ⟨by (with_reducible repeat (first | apply Kd.R_alloc | apply Kd.R_drewN | apply Kd.R_drew)); exact HO_14.out⟩, ⟨by repeat (first | (with_reducible first | exact HB.out | apply below_alloc | apply pw_below_drewN | apply below_drew1) | exact HB.out)⟩⟩
              · rw [if_neg c35] at H
                exact absurd H (by simp)
            · rw [if_neg c34] at H
              exact absurd H (by simp)
           case rest =>
            clear HC32
            try clear c1
            try clear c2
            try clear p2
            try clear c3
            try clear p4
            try clear q4
            try clear hx4
            try clear p6
            try clear c7
            try clear c11
            try clear c24
            try clear c24b0
            try clear c24b1
            try clear c29
            try clear c31
            try clear c31b0
            try clear c34
            try clear c34b0
            try clear c35
            try clear c35b0
            try clear c36
            try clear c36b0
            try clear c36b1
            try clear c37
            try clear c37b0
            try clear c37b1
            try clear hx458_0
            try clear hx458_1
            try clear hx458_2
            try clear hx458_3
            try clear hx458_4
            try clear hx458_5
            try clear hx458_6
            try clear hx458_7
            try clear hx458_8
            try clear hx459_0
            try clear hx459_1
            try clear hx459_2
            try clear hx459_3
            try clear hx459_4
            try clear hx459_5
            try clear hx459_6
            try clear hx459_7
            try clear hx459_8
            try clear hx460_0
            try clear hx460_1
            try clear hx460_2
            try clear hx460_3
            try clear hx460_4
            try clear hx460_5
            try clear hx460_6
            try clear hx460_7
            try clear hx460_8
            try clear hx461_0
            try clear hx461_1
            try clear hx461_2
            try clear hx461_3
            try clear hx461_4
            try clear hx461_5
            try clear hx461_6
            try clear hx461_7
            try clear hx461_8
            try clear hx462_0
            try clear hx462_1
            try clear hx462_2
            try clear hx462_3
            try clear hx462_4
            try clear hx462_5
            try clear hx462_6
            try clear hx462_7
            try clear hx462_8
            try clear hx463_0
            try clear hx463_1
            try clear hx463_2
            try clear hx463_3
            try clear hx463_4
            try clear hx463_5
            try clear hx463_6
            try clear hx463_7
            try clear hx463_8
            try clear p2
            try clear p458
            try clear p459
            try clear p460
            try clear p461
            try clear p462
            try clear p463
            try clear p6
            try clear q458
            try clear q459
            try clear q460
            try clear q461
            try clear q462
            try clear q463
            obtain ⟨kq, x107_31, rfl, HA, HJ31, HO_0, HO_11, HO_12, HO_14, HB⟩ := hcut
            cases kq with
            | zero => exact absurd HA.out (by simp [tolllaw10_LotsUses.j2])
            | succ kj31 =>
             have H := HA.out
             clear HA
             simp only [tolllaw10_LotsUses.j2] at H
             by_cases c38 : x107_31 = true
             · subst c38
               have H1 : (some false) = some r := by rw [if_pos rfl] at H; exact H
               clear H
               have H := H1
               clear H1
               obtain rfl := Option.some.inj H
               go_wp2
               repeat (go_quiet (fail); try go_wp2)
               go_ret
               exact ⟨by first | rfl | (simp [errW_none, errW_some] <;> rfl) | (simp [*, errW_none, errW_some] <;> rfl), by repeat (first | (with_reducible first | exact HB.out | apply below_alloc | apply pw_below_drewN | apply below_drew1) | exact HB.out)⟩
             · replace c38 := Bool.eq_false_iff.mpr c38
               subst c38
               have H1 : (if 0 ≤ x19_2 then (if x19_2 < (t452.length : Int) then (if x19_2 < (t440.length : Int) then (if ((rd_T33 t452 x19_2).f7) = ((rd_T33 t440 x19_2).f7) then (tolllaw10_LotsUses.l0 kj31 t440 a2 t438 t439 t444 t445 t452 t453 (wrap64 (t457 - t446)) (wrap64 ((wrap64 (x17_2 + ((rd_T33 t452 x19_2).f5))) - ((rd_T33 t440 x19_2).f5))) (wrap64 ((wrap64 (x18_2 + ((rd_T33 t452 x19_2).f7))) - ((rd_T33 t440 x19_2).f7))) (wrap64 (x19_2 + 1))) else (if (wrap64 (t438 + t439)) < ((rd_T33 t440 x19_2).f3) then (some false) else (tolllaw10_LotsUses.l0 kj31 t440 a2 t438 t439 t444 t445 t452 t453 (wrap64 (t457 - t446)) (wrap64 ((wrap64 (x17_2 + ((rd_T33 t452 x19_2).f5))) - ((rd_T33 t440 x19_2).f5))) (wrap64 ((wrap64 (x18_2 + ((rd_T33 t452 x19_2).f7))) - ((rd_T33 t440 x19_2).f7))) (wrap64 (x19_2 + 1))))) else (none)) else (none)) else (none)) = some r := by rw [if_neg (show ¬ (false = true) by decide)] at H; exact H
               clear H
               have H := H1
               clear H1
               by_cases c39 : 0 ≤ x19_2
               · rw [if_pos c39] at H
                 have c39b0 : decide (0 ≤ x19_2) = true := decide_eq_true c39
                 clear c39
                 by_cases c40 : x19_2 < (t452.length : Int)
                 · rw [if_pos c40] at H
                   have c40b0 : decide (x19_2 < (t452.length : Int)) = true := decide_eq_true c40
                   clear c40
                   by_cases c41 : x19_2 < (t440.length : Int)
                   · rw [if_pos c41] at H
                     have c41b0 : decide (x19_2 < (t440.length : Int)) = true := decide_eq_true c41
                     clear c41
                     by_cases c42 : ((rd_T33 t452 x19_2).f7) = ((rd_T33 t440 x19_2).f7)
                     · rw [if_pos c42] at H
                       have c42b0 : (((rd_T33 t452 x19_2).f7) == ((rd_T33 t440 x19_2).f7)) = true := beq_iff_eq.mpr c42
                       have c42b1 : (((rd_T33 t452 x19_2).f7) != ((rd_T33 t440 x19_2).f7)) = false := bne_eq_false_iff_eq.mpr c42
                       clear c42
                       have H' := Aside0.mk H
                       clear H
                       have p464 : 0 ≤ (x19_2 : Int) := of_decide_eq_true (by first | (with_reducible assumption) | assumption)
                       have q464 : x19_2 < (t452.length : Int) := of_decide_eq_true (by first | (with_reducible assumption) | assumption)
                       obtain ⟨ad464, e464, hx464_0, hx464_1, hx464_2, hx464_3, hx464_4, hx464_5, hx464_6, hx464_7, hx464_8⟩ := at_T33 (Kd.R_reads' HO_14.out).2.2 x19_2 p464 q464
                       cases e464
                       replace p464 := eq_true p464
                       replace q464 := eq_true q464
                       have p465 : 0 ≤ (x19_2 : Int) := of_decide_eq_true (by first | (with_reducible assumption) | assumption)
                       have q465 : x19_2 < (t440.length : Int) := of_decide_eq_true (by first | (with_reducible assumption) | assumption)
                       obtain ⟨ad465, e465, hx465_0, hx465_1, hx465_2, hx465_3, hx465_4, hx465_5, hx465_6, hx465_7, hx465_8⟩ := at_T33 (Kd.R_reads' HO_0.out).2.2 x19_2 p465 q465
                       cases e465
                       replace p465 := eq_true p465
                       replace q465 := eq_true q465
                       have p466 : 0 ≤ (x19_2 : Int) := of_decide_eq_true (by first | (with_reducible assumption) | assumption)
                       have q466 : x19_2 < (t452.length : Int) := of_decide_eq_true (by first | (with_reducible assumption) | assumption)
                       obtain ⟨ad466, e466, hx466_0, hx466_1, hx466_2, hx466_3, hx466_4, hx466_5, hx466_6, hx466_7, hx466_8⟩ := at_T33 (Kd.R_reads' HO_14.out).2.2 x19_2 p466 q466
                       obtain rfl : ad464 = ad466 := (by injection e466)
                       replace p466 := eq_true p466
                       replace q466 := eq_true q466
                       have p467 : 0 ≤ (x19_2 : Int) := of_decide_eq_true (by first | (with_reducible assumption) | assumption)
                       have q467 : x19_2 < (t440.length : Int) := of_decide_eq_true (by first | (with_reducible assumption) | assumption)
                       obtain ⟨ad467, e467, hx467_0, hx467_1, hx467_2, hx467_3, hx467_4, hx467_5, hx467_6, hx467_7, hx467_8⟩ := at_T33 (Kd.R_reads' HO_0.out).2.2 x19_2 p467 q467
                       obtain rfl : ad465 = ad467 := (by injection e467)
                       replace p467 := eq_true p467
                       replace q467 := eq_true q467
                       have p468 : 0 ≤ (x19_2 : Int) := of_decide_eq_true (by first | (with_reducible assumption) | assumption)
                       have q468 : x19_2 < (t452.length : Int) := of_decide_eq_true (by first | (with_reducible assumption) | assumption)
                       obtain ⟨ad468, e468, hx468_0, hx468_1, hx468_2, hx468_3, hx468_4, hx468_5, hx468_6, hx468_7, hx468_8⟩ := at_T33 (Kd.R_reads' HO_14.out).2.2 x19_2 p468 q468
                       obtain rfl : ad464 = ad468 := (by injection e468)
                       replace p468 := eq_true p468
                       replace q468 := eq_true q468
                       have p469 : 0 ≤ (x19_2 : Int) := of_decide_eq_true (by first | (with_reducible assumption) | assumption)
                       have q469 : x19_2 < (t440.length : Int) := of_decide_eq_true (by first | (with_reducible assumption) | assumption)
                       obtain ⟨ad469, e469, hx469_0, hx469_1, hx469_2, hx469_3, hx469_4, hx469_5, hx469_6, hx469_7, hx469_8⟩ := at_T33 (Kd.R_reads' HO_0.out).2.2 x19_2 p469 q469
                       obtain rfl : ad465 = ad469 := (by injection e469)
                       replace p469 := eq_true p469
                       replace q469 := eq_true q469
                       go_wp2
                       repeat (go_quiet (fail); try go_wp2)
                       go_roundg kj31
                       case measure => have := HJ14.out; have := HK2.out; have := HJ31.out; omega
                       case rel => exact ⟨(wrap64 ((wrap64 (x17_2 + ((rd_T33 t452 x19_2).f5))) - ((rd_T33 t440 x19_2).f5))), (wrap64 ((wrap64 (x18_2 + ((rd_T33 t452 x19_2).f7))) - ((rd_T33 t440 x19_2).f7))), (wrap64 (x19_2 + 1)), (by first | rfl | (simp; done) | (simp [*]; done)), (by first | rfl | (simp; done) | (simp [*]; done)), (by first | rfl | (simp; done) | (simp [*]; done)), H', ⟨by have := HJ14.out; have := HK2.out; have := HJ31.out; omega⟩, ⟨by (with_reducible repeat (first | apply Kd.R_alloc | apply Kd.R_drewN | apply Kd.R_drew)); exact HO_0.out⟩, ⟨by (with_reducible repeat (first | apply Kd.R_alloc | apply Kd.R_drewN | apply Kd.R_drew)); exact HO_11.out⟩, ⟨by (with_reducible repeat (first | apply Kd.R_alloc | apply Kd.R_drewN | apply Kd.R_drew)); exact HO_12.out⟩, ⟨by (with_reducible repeat (first | apply Kd.R_alloc | apply Kd.R_drewN | apply Kd.R_drew)); exact HO_14.out⟩, ⟨by repeat (first | (with_reducible first | exact HB.out | apply below_alloc | apply pw_below_drewN | apply below_drew1) | exact HB.out)⟩⟩
                     · rw [if_neg c42] at H
                       have c42b0 : (((rd_T33 t452 x19_2).f7) == ((rd_T33 t440 x19_2).f7)) = false := beq_eq_false_iff_ne.mpr c42
                       have c42b1 : (((rd_T33 t452 x19_2).f7) != ((rd_T33 t440 x19_2).f7)) = true := bne_iff_ne.mpr c42
                       by_cases c43 : (wrap64 (t438 + t439)) < ((rd_T33 t440 x19_2).f3)
                       · rw [if_pos c43] at H
                         have c43b0 : decide ((wrap64 (t438 + t439)) < ((rd_T33 t440 x19_2).f3)) = true := decide_eq_true c43
                         clear c43
                         obtain rfl := Option.some.inj H
                         have p464 : 0 ≤ (x19_2 : Int) := of_decide_eq_true (by first | (with_reducible assumption) | assumption)
                         have q464 : x19_2 < (t452.length : Int) := of_decide_eq_true (by first | (with_reducible assumption) | assumption)
                         obtain ⟨ad464, e464, hx464_0, hx464_1, hx464_2, hx464_3, hx464_4, hx464_5, hx464_6, hx464_7, hx464_8⟩ := at_T33 (Kd.R_reads' HO_14.out).2.2 x19_2 p464 q464
                         cases e464
                         replace p464 := eq_true p464
                         replace q464 := eq_true q464
                         have p465 : 0 ≤ (x19_2 : Int) := of_decide_eq_true (by first | (with_reducible assumption) | assumption)
                         have q465 : x19_2 < (t440.length : Int) := of_decide_eq_true (by first | (with_reducible assumption) | assumption)
                         obtain ⟨ad465, e465, hx465_0, hx465_1, hx465_2, hx465_3, hx465_4, hx465_5, hx465_6, hx465_7, hx465_8⟩ := at_T33 (Kd.R_reads' HO_0.out).2.2 x19_2 p465 q465
                         cases e465
                         replace p465 := eq_true p465
                         replace q465 := eq_true q465
                         have p466 : 0 ≤ (x19_2 : Int) := of_decide_eq_true (by first | (with_reducible assumption) | assumption)
                         have q466 : x19_2 < (t452.length : Int) := of_decide_eq_true (by first | (with_reducible assumption) | assumption)
                         obtain ⟨ad466, e466, hx466_0, hx466_1, hx466_2, hx466_3, hx466_4, hx466_5, hx466_6, hx466_7, hx466_8⟩ := at_T33 (Kd.R_reads' HO_14.out).2.2 x19_2 p466 q466
                         obtain rfl : ad464 = ad466 := (by injection e466)
                         replace p466 := eq_true p466
                         replace q466 := eq_true q466
                         have p467 : 0 ≤ (x19_2 : Int) := of_decide_eq_true (by first | (with_reducible assumption) | assumption)
                         have q467 : x19_2 < (t440.length : Int) := of_decide_eq_true (by first | (with_reducible assumption) | assumption)
                         obtain ⟨ad467, e467, hx467_0, hx467_1, hx467_2, hx467_3, hx467_4, hx467_5, hx467_6, hx467_7, hx467_8⟩ := at_T33 (Kd.R_reads' HO_0.out).2.2 x19_2 p467 q467
                         obtain rfl : ad465 = ad467 := (by injection e467)
                         replace p467 := eq_true p467
                         replace q467 := eq_true q467
                         have p468 : 0 ≤ (x19_2 : Int) := of_decide_eq_true (by first | (with_reducible assumption) | assumption)
                         have q468 : x19_2 < (t452.length : Int) := of_decide_eq_true (by first | (with_reducible assumption) | assumption)
                         obtain ⟨ad468, e468, hx468_0, hx468_1, hx468_2, hx468_3, hx468_4, hx468_5, hx468_6, hx468_7, hx468_8⟩ := at_T33 (Kd.R_reads' HO_14.out).2.2 x19_2 p468 q468
                         obtain rfl : ad464 = ad468 := (by injection e468)
                         replace p468 := eq_true p468
                         replace q468 := eq_true q468
                         have p469 : 0 ≤ (x19_2 : Int) := of_decide_eq_true (by first | (with_reducible assumption) | assumption)
                         have q469 : x19_2 < (t440.length : Int) := of_decide_eq_true (by first | (with_reducible assumption) | assumption)
                         obtain ⟨ad469, e469, hx469_0, hx469_1, hx469_2, hx469_3, hx469_4, hx469_5, hx469_6, hx469_7, hx469_8⟩ := at_T33 (Kd.R_reads' HO_0.out).2.2 x19_2 p469 q469
                         obtain rfl : ad465 = ad469 := (by injection e469)
                         replace p469 := eq_true p469
                         replace q469 := eq_true q469
                         have p470 : 0 ≤ (x19_2 : Int) := of_decide_eq_true (by first | (with_reducible assumption) | assumption)
                         have q470 : x19_2 < (t440.length : Int) := of_decide_eq_true (by first | (with_reducible assumption) | assumption)
                         obtain ⟨ad470, e470, hx470_0, hx470_1, hx470_2, hx470_3, hx470_4, hx470_5, hx470_6, hx470_7, hx470_8⟩ := at_T33 (Kd.R_reads' HO_0.out).2.2 x19_2 p470 q470
                         obtain rfl : ad465 = ad470 := (by injection e470)
                         replace p470 := eq_true p470
                         replace q470 := eq_true q470
                         go_wp2
                         repeat (go_quiet (fail); try go_wp2)
                         go_ret
                         exact ⟨by first | rfl | (simp [errW_none, errW_some] <;> rfl) | (simp [*, errW_none, errW_some] <;> rfl), by repeat (first | (with_reducible first | exact HB.out | apply below_alloc | apply pw_below_drewN | apply below_drew1) | exact HB.out)⟩
                       · rw [if_neg c43] at H
                         have c43b0 : decide ((wrap64 (t438 + t439)) < ((rd_T33 t440 x19_2).f3)) = false := decide_eq_false c43
                         clear c43
                         have H' := Aside0.mk H
                         clear H
                         have p464 : 0 ≤ (x19_2 : Int) := of_decide_eq_true (by first | (with_reducible assumption) | assumption)
                         have q464 : x19_2 < (t452.length : Int) := of_decide_eq_true (by first | (with_reducible assumption) | assumption)
                         obtain ⟨ad464, e464, hx464_0, hx464_1, hx464_2, hx464_3, hx464_4, hx464_5, hx464_6, hx464_7, hx464_8⟩ := at_T33 (Kd.R_reads' HO_14.out).2.2 x19_2 p464 q464
                         cases e464
                         replace p464 := eq_true p464
                         replace q464 := eq_true q464
                         have p465 : 0 ≤ (x19_2 : Int) := of_decide_eq_true (by first | (with_reducible assumption) | assumption)
                         have q465 : x19_2 < (t440.length : Int) := of_decide_eq_true (by first | (with_reducible assumption) | assumption)
                         obtain ⟨ad465, e465, hx465_0, hx465_1, hx465_2, hx465_3, hx465_4, hx465_5, hx465_6, hx465_7, hx465_8⟩ := at_T33 (Kd.R_reads' HO_0.out).2.2 x19_2 p465 q465
                         cases e465
                         replace p465 := eq_true p465
                         replace q465 := eq_true q465
                         have p466 : 0 ≤ (x19_2 : Int) := of_decide_eq_true (by first | (with_reducible assumption) | assumption)
                         have q466 : x19_2 < (t452.length : Int) := of_decide_eq_true (by first | (with_reducible assumption) | assumption)
                         obtain ⟨ad466, e466, hx466_0, hx466_1, hx466_2, hx466_3, hx466_4, hx466_5, hx466_6, hx466_7, hx466_8⟩ := at_T33 (Kd.R_reads' HO_14.out).2.2 x19_2 p466 q466
                         obtain rfl : ad464 = ad466 := (by injection e466)
                         replace p466 := eq_true p466
                         replace q466 := eq_true q466
                         have p467 : 0 ≤ (x19_2 : Int) := of_decide_eq_true (by first | (with_reducible assumption) | assumption)
                         have q467 : x19_2 < (t440.length : Int) := of_decide_eq_true (by first | (with_reducible assumption) | assumption)
                         obtain ⟨ad467, e467, hx467_0, hx467_1, hx467_2, hx467_3, hx467_4, hx467_5, hx467_6, hx467_7, hx467_8⟩ := at_T33 (Kd.R_reads' HO_0.out).2.2 x19_2 p467 q467
                         obtain rfl : ad465 = ad467 := (by injection e467)
                         replace p467 := eq_true p467
                         replace q467 := eq_true q467
                         have p468 : 0 ≤ (x19_2 : Int) := of_decide_eq_true (by first | (with_reducible assumption) | assumption)
                         have q468 : x19_2 < (t452.length : Int) := of_decide_eq_true (by first | (with_reducible assumption) | assumption)
                         obtain ⟨ad468, e468, hx468_0, hx468_1, hx468_2, hx468_3, hx468_4, hx468_5, hx468_6, hx468_7, hx468_8⟩ := at_T33 (Kd.R_reads' HO_14.out).2.2 x19_2 p468 q468
                         obtain rfl : ad464 = ad468 := (by injection e468)
                         replace p468 := eq_true p468
                         replace q468 := eq_true q468
                         have p469 : 0 ≤ (x19_2 : Int) := of_decide_eq_true (by first | (with_reducible assumption) | assumption)
                         have q469 : x19_2 < (t440.length : Int) := of_decide_eq_true (by first | (with_reducible assumption) | assumption)
                         obtain ⟨ad469, e469, hx469_0, hx469_1, hx469_2, hx469_3, hx469_4, hx469_5, hx469_6, hx469_7, hx469_8⟩ := at_T33 (Kd.R_reads' HO_0.out).2.2 x19_2 p469 q469
                         obtain rfl : ad465 = ad469 := (by injection e469)
                         replace p469 := eq_true p469
                         replace q469 := eq_true q469
                         have p470 : 0 ≤ (x19_2 : Int) := of_decide_eq_true (by first | (with_reducible assumption) | assumption)
                         have q470 : x19_2 < (t440.length : Int) := of_decide_eq_true (by first | (with_reducible assumption) | assumption)
                         obtain ⟨ad470, e470, hx470_0, hx470_1, hx470_2, hx470_3, hx470_4, hx470_5, hx470_6, hx470_7, hx470_8⟩ := at_T33 (Kd.R_reads' HO_0.out).2.2 x19_2 p470 q470
                         obtain rfl : ad465 = ad470 := (by injection e470)
                         replace p470 := eq_true p470
                         replace q470 := eq_true q470
                         go_wp2
                         repeat (go_quiet (fail); try go_wp2)
                         go_roundg kj31
                         case measure => have := HJ14.out; have := HK2.out; have := HJ31.out; omega
                         case rel => exact ⟨(wrap64 ((wrap64 (x17_2 + ((rd_T33 t452 x19_2).f5))) - ((rd_T33 t440 x19_2).f5))), (wrap64 ((wrap64 (x18_2 + ((rd_T33 t452 x19_2).f7))) - ((rd_T33 t440 x19_2).f7))), (wrap64 (x19_2 + 1)), (by first | rfl | (simp; done) | (simp [*]; done)), (by first | rfl | (simp; done) | (simp [*]; done)), (by first | rfl | (simp; done) | (simp [*]; done)), H', ⟨by have := HJ14.out; have := HK2.out; have := HJ31.out; omega⟩, ⟨by (with_reducible repeat (first | apply Kd.R_alloc | apply Kd.R_drewN | apply Kd.R_drew)); exact HO_0.out⟩, ⟨by (with_reducible repeat (first | apply Kd.R_alloc | apply Kd.R_drewN | apply Kd.R_drew)); exact HO_11.out⟩, ⟨by (with_reducible repeat (first | apply Kd.R_alloc | apply Kd.R_drewN | apply Kd.R_drew)); exact HO_12.out⟩, ⟨by (with_reducible repeat (first | apply Kd.R_alloc | apply Kd.R_drewN | apply Kd.R_drew)); exact HO_14.out⟩, ⟨by repeat (first | (with_reducible first | exact HB.out | apply below_alloc | apply pw_below_drewN | apply below_drew1) | exact HB.out)⟩⟩
                   · rw [if_neg c41] at H
                     exact absurd H (by simp)
                 · rw [if_neg c40] at H
                   exact absurd H (by simp)
               · rw [if_neg c39] at H
                 exact absurd H (by simp)
         · rw [if_neg c31] at H
           have c31b0 : decide (x19_2 < (t452.length : Int)) = false := decide_eq_false c31
           clear c31
           have HC44 := Aside0.mk H
           clear H
           obtain ⟨Ao45, co45, eo45⟩ := Kd.R_slice HO_14.out
           subst eo45
           go_upto_region 20 with (fail)
           repeat (go_quiet (fail); go_upto_region 20 with (fail))
           go_cut [176] (fun v176 wc => ∃ (kq : Nat) (x176_43 : Bool), v176 = .bool x176_43 ∧ Aside0 (tolllaw10_LotsUses.j3 kq t440 t438 t444 t445 x176_43 = some r) ∧ Aside0 (kq ≤ k2) ∧ Aside0 (Kd.R k33 33 wc w.heap.size (fun k_ => some k_ ≠ ((.slice Ao20 t444.length co20) : Value).ownBlock) (.slice Ao18 t440.length co18) t440) ∧ Aside0 (Kd.R k33 33 wc w.heap.size (fun k_ => some k_ ≠ ((.slice Ao18 t440.length co18) : Value).ownBlock) (.slice Ao20 t444.length co20) t444) ∧ Aside0 (Kd.R k35 35 wc w.heap.size (fun _ => True) (.slice Ao21 t445.length co21) t445) ∧ Aside0 (Below w.heap.size w wc))
           case first =>
            have H := HC44.out
            clear HC44
            replace H := Option.bind_eq_some_iff.mp H
            obtain ⟨t471, A460, H⟩ := H
            replace H : (if x17_2 = (mn (wrap64 (t457 - t446)) t471) then ((tolllaw10_within.f a2 6000).bind fun t472 => (if t453 = (wrap64 (t472 - x17_2)) then (tolllaw10_LotsUses.j3 k2 t440 t438 t444 t445 (decide (x18_2 > (wrap64 ((wrap64 (t457 - t446)) - x17_2))))) else (tolllaw10_LotsUses.j3 k2 t440 t438 t444 t445 true))) else (tolllaw10_LotsUses.j3 k2 t440 t438 t444 t445 true)) = some r := H
            have A46 := Aside0.mk A460
            clear A460
            obtain ⟨ji47, hji47⟩ : ∃ j_ : Int, (mn (wrap64 (t457 - t446)) t471) = j_ := ⟨_, rfl⟩
            replace H : (if x17_2 = (ji47) then ((tolllaw10_within.f a2 6000).bind fun t472 => (if t453 = (wrap64 (t472 - x17_2)) then (tolllaw10_LotsUses.j3 k2 t440 t438 t444 t445 (decide (x18_2 > (wrap64 ((wrap64 (t457 - t446)) - x17_2))))) else (tolllaw10_LotsUses.j3 k2 t440 t438 t444 t445 true))) else (tolllaw10_LotsUses.j3 k2 t440 t438 t444 t445 true)) = some r := by first | (rw [hji47] at H; exact H) | (simp only [hji47] at H ⊢; exact H)
            (try rw [hji47] at A46)
            have hji47_ : (if t471 < (wrap64 (t457 - t446)) then t471 else (wrap64 (t457 - t446))) = ji47 := hji47
            by_cases c48 : x17_2 = (ji47)
            · rw [if_pos c48] at H
              have c48b0 : (x17_2 == (ji47)) = true := beq_iff_eq.mpr c48
              have c48b1 : (x17_2 != (ji47)) = false := bne_eq_false_iff_eq.mpr c48
              clear c48
              (first | rw [c48b0] | (simp only [i64_w, i32_w]; rw [c48b0]) | skip)
              replace H := Option.bind_eq_some_iff.mp H
              obtain ⟨t472_, A490, H⟩ := H
              obtain rfl := Option.some.inj (A46.out.symm.trans A490)
              replace H : (if t453 = (wrap64 (t471 - x17_2)) then (tolllaw10_LotsUses.j3 k2 t440 t438 t444 t445 (decide (x18_2 > (wrap64 ((wrap64 (t457 - t446)) - x17_2))))) else (tolllaw10_LotsUses.j3 k2 t440 t438 t444 t445 true)) = some r := H
              have A49 := Aside0.mk A490
              clear A490
              by_cases c50 : t453 = (wrap64 (t471 - x17_2))
              · rw [if_pos c50] at H
                have c50b0 : (t453 == (wrap64 (t471 - x17_2))) = true := beq_iff_eq.mpr c50
                have c50b1 : (t453 != (wrap64 (t471 - x17_2))) = false := bne_eq_false_iff_eq.mpr c50
                clear c50
                have H' := Aside0.mk H
                clear H
                go_wp2_with (first | (go_at_call 13; (with_reducible refine (tolllaw10_within.calls a2 6000 t471 _ A46.out).mono ?_); rintro e w' ⟨rfl, rfl⟩; (try first | exact ⟨rfl, _, rfl⟩ | exact ⟨rfl, _, World.drewN_drewN _ _ _⟩ | exact ⟨rfl, _, Eq.trans (World.drewN_drewN _ _ _) (congrArg (World.drewN _) (Nat.add_assoc _ _ _))⟩)) | (go_at_call 13; (with_reducible refine (tolllaw10_within.calls a2 6000 t471 _ A49.out).mono ?_); rintro e w' ⟨rfl, rfl⟩; (try first | exact ⟨rfl, _, rfl⟩ | exact ⟨rfl, _, World.drewN_drewN _ _ _⟩ | exact ⟨rfl, _, Eq.trans (World.drewN_drewN _ _ _) (congrArg (World.drewN _) (Nat.add_assoc _ _ _))⟩)))
                repeat (go_quiet (first | (go_at_call 13; (with_reducible refine (tolllaw10_within.calls a2 6000 t471 _ A46.out).mono ?_); rintro e w' ⟨rfl, rfl⟩; (try first | exact ⟨rfl, _, rfl⟩ | exact ⟨rfl, _, World.drewN_drewN _ _ _⟩ | exact ⟨rfl, _, Eq.trans (World.drewN_drewN _ _ _) (congrArg (World.drewN _) (Nat.add_assoc _ _ _))⟩)) | (go_at_call 13; (with_reducible refine (tolllaw10_within.calls a2 6000 t471 _ A49.out).mono ?_); rintro e w' ⟨rfl, rfl⟩; (try first | exact ⟨rfl, _, rfl⟩ | exact ⟨rfl, _, World.drewN_drewN _ _ _⟩ | exact ⟨rfl, _, Eq.trans (World.drewN_drewN _ _ _) (congrArg (World.drewN _) (Nat.add_assoc _ _ _))⟩))); try go_wp2_with (first | (go_at_call 13; (with_reducible refine (tolllaw10_within.calls a2 6000 t471 _ A46.out).mono ?_); rintro e w' ⟨rfl, rfl⟩; (try first | exact ⟨rfl, _, rfl⟩ | exact ⟨rfl, _, World.drewN_drewN _ _ _⟩ | exact ⟨rfl, _, Eq.trans (World.drewN_drewN _ _ _) (congrArg (World.drewN _) (Nat.add_assoc _ _ _))⟩)) | (go_at_call 13; (with_reducible refine (tolllaw10_within.calls a2 6000 t471 _ A49.out).mono ?_); rintro e w' ⟨rfl, rfl⟩; (try first | exact ⟨rfl, _, rfl⟩ | exact ⟨rfl, _, World.drewN_drewN _ _ _⟩ | exact ⟨rfl, _, Eq.trans (World.drewN_drewN _ _ _) (congrArg (World.drewN _) (Nat.add_assoc _ _ _))⟩))))
                go_meet
                case rel => exact ⟨_, (decide (x18_2 > (wrap64 ((wrap64 (t457 - t446)) - x17_2)))), (by first | rfl | (simp; done) | (simp [*]; done)), H', ⟨by have := HJ14.out; have := HK2.out; first | omega | exact Nat.le_refl _⟩, ⟨by (with_reducible repeat (first | apply Kd.R_alloc | apply Kd.R_drewN | apply Kd.R_drew)); exact Kd.R_mono HO_0.out (fun _ hk => hk.1)⟩, ⟨by (with_reducible repeat (first | apply Kd.R_alloc | apply Kd.R_drewN | apply Kd.R_drew)); exact Kd.R_mono HO_11.out (fun _ hk => hk.1)⟩, ⟨by (with_reducible repeat (first | apply Kd.R_alloc | apply Kd.R_drewN | apply Kd.R_drew)); exact HO_12.out⟩, ⟨by repeat (first | (with_reducible first | exact HB.out | apply below_alloc | apply pw_below_drewN | apply below_drew1) | exact HB.out)⟩⟩
              · rw [if_neg c50] at H
                have c50b0 : (t453 == (wrap64 (t471 - x17_2))) = false := beq_eq_false_iff_ne.mpr c50
                have c50b1 : (t453 != (wrap64 (t471 - x17_2))) = true := bne_iff_ne.mpr c50
                have H' := Aside0.mk H
                clear H
                go_wp2_with (first | (go_at_call 13; (with_reducible refine (tolllaw10_within.calls a2 6000 t471 _ A46.out).mono ?_); rintro e w' ⟨rfl, rfl⟩; (try first | exact ⟨rfl, _, rfl⟩ | exact ⟨rfl, _, World.drewN_drewN _ _ _⟩ | exact ⟨rfl, _, Eq.trans (World.drewN_drewN _ _ _) (congrArg (World.drewN _) (Nat.add_assoc _ _ _))⟩)) | (go_at_call 13; (with_reducible refine (tolllaw10_within.calls a2 6000 t471 _ A49.out).mono ?_); rintro e w' ⟨rfl, rfl⟩; (try first | exact ⟨rfl, _, rfl⟩ | exact ⟨rfl, _, World.drewN_drewN _ _ _⟩ | exact ⟨rfl, _, Eq.trans (World.drewN_drewN _ _ _) (congrArg (World.drewN _) (Nat.add_assoc _ _ _))⟩)))
                repeat (go_quiet (first | (go_at_call 13; (with_reducible refine (tolllaw10_within.calls a2 6000 t471 _ A46.out).mono ?_); rintro e w' ⟨rfl, rfl⟩; (try first | exact ⟨rfl, _, rfl⟩ | exact ⟨rfl, _, World.drewN_drewN _ _ _⟩ | exact ⟨rfl, _, Eq.trans (World.drewN_drewN _ _ _) (congrArg (World.drewN _) (Nat.add_assoc _ _ _))⟩)) | (go_at_call 13; (with_reducible refine (tolllaw10_within.calls a2 6000 t471 _ A49.out).mono ?_); rintro e w' ⟨rfl, rfl⟩; (try first | exact ⟨rfl, _, rfl⟩ | exact ⟨rfl, _, World.drewN_drewN _ _ _⟩ | exact ⟨rfl, _, Eq.trans (World.drewN_drewN _ _ _) (congrArg (World.drewN _) (Nat.add_assoc _ _ _))⟩))); try go_wp2_with (first | (go_at_call 13; (with_reducible refine (tolllaw10_within.calls a2 6000 t471 _ A46.out).mono ?_); rintro e w' ⟨rfl, rfl⟩; (try first | exact ⟨rfl, _, rfl⟩ | exact ⟨rfl, _, World.drewN_drewN _ _ _⟩ | exact ⟨rfl, _, Eq.trans (World.drewN_drewN _ _ _) (congrArg (World.drewN _) (Nat.add_assoc _ _ _))⟩)) | (go_at_call 13; (with_reducible refine (tolllaw10_within.calls a2 6000 t471 _ A49.out).mono ?_); rintro e w' ⟨rfl, rfl⟩; (try first | exact ⟨rfl, _, rfl⟩ | exact ⟨rfl, _, World.drewN_drewN _ _ _⟩ | exact ⟨rfl, _, Eq.trans (World.drewN_drewN _ _ _) (congrArg (World.drewN _) (Nat.add_assoc _ _ _))⟩))))
                go_meet
                case rel => exact ⟨_, (true), (by first | rfl | (simp; done) | (simp [*]; done)), H', ⟨by have := HJ14.out; have := HK2.out; first | omega | exact Nat.le_refl _⟩, ⟨by (with_reducible repeat (first | apply Kd.R_alloc | apply Kd.R_drewN | apply Kd.R_drew)); exact Kd.R_mono HO_0.out (fun _ hk => hk.1)⟩, ⟨by (with_reducible repeat (first | apply Kd.R_alloc | apply Kd.R_drewN | apply Kd.R_drew)); exact Kd.R_mono HO_11.out (fun _ hk => hk.1)⟩, ⟨by (with_reducible repeat (first | apply Kd.R_alloc | apply Kd.R_drewN | apply Kd.R_drew)); exact HO_12.out⟩, ⟨by repeat (first | (with_reducible first | exact HB.out | apply below_alloc | apply pw_below_drewN | apply below_drew1) | exact HB.out)⟩⟩
            · rw [if_neg c48] at H
              have c48b0 : (x17_2 == (ji47)) = false := beq_eq_false_iff_ne.mpr c48
              have c48b1 : (x17_2 != (ji47)) = true := bne_iff_ne.mpr c48
              (first | rw [c48b0] | (simp only [i64_w, i32_w]; rw [c48b0]) | skip)
              have H' := Aside0.mk H
              clear H
              go_wp2_with (first | (go_at_call 13; (with_reducible refine (tolllaw10_within.calls a2 6000 t471 _ A46.out).mono ?_); rintro e w' ⟨rfl, rfl⟩; (try first | exact ⟨rfl, _, rfl⟩ | exact ⟨rfl, _, World.drewN_drewN _ _ _⟩ | exact ⟨rfl, _, Eq.trans (World.drewN_drewN _ _ _) (congrArg (World.drewN _) (Nat.add_assoc _ _ _))⟩)))
              repeat (go_quiet (first | (go_at_call 13; (with_reducible refine (tolllaw10_within.calls a2 6000 t471 _ A46.out).mono ?_); rintro e w' ⟨rfl, rfl⟩; (try first | exact ⟨rfl, _, rfl⟩ | exact ⟨rfl, _, World.drewN_drewN _ _ _⟩ | exact ⟨rfl, _, Eq.trans (World.drewN_drewN _ _ _) (congrArg (World.drewN _) (Nat.add_assoc _ _ _))⟩))); try go_wp2_with (first | (go_at_call 13; (with_reducible refine (tolllaw10_within.calls a2 6000 t471 _ A46.out).mono ?_); rintro e w' ⟨rfl, rfl⟩; (try first | exact ⟨rfl, _, rfl⟩ | exact ⟨rfl, _, World.drewN_drewN _ _ _⟩ | exact ⟨rfl, _, Eq.trans (World.drewN_drewN _ _ _) (congrArg (World.drewN _) (Nat.add_assoc _ _ _))⟩))))
              go_meet
              case rel => exact ⟨_, (true), (by first | rfl | (simp; done) | (simp [*]; done)), H', ⟨by have := HJ14.out; have := HK2.out; first | omega | exact Nat.le_refl _⟩, ⟨by (with_reducible repeat (first | apply Kd.R_alloc | apply Kd.R_drewN | apply Kd.R_drew)); exact Kd.R_mono HO_0.out (fun _ hk => hk.1)⟩, ⟨by (with_reducible repeat (first | apply Kd.R_alloc | apply Kd.R_drewN | apply Kd.R_drew)); exact Kd.R_mono HO_11.out (fun _ hk => hk.1)⟩, ⟨by (with_reducible repeat (first | apply Kd.R_alloc | apply Kd.R_drewN | apply Kd.R_drew)); exact HO_12.out⟩, ⟨by repeat (first | (with_reducible first | exact HB.out | apply below_alloc | apply pw_below_drewN | apply below_drew1) | exact HB.out)⟩⟩
           case rest =>
            clear HC44
            try clear c1
            try clear c2
            try clear p2
            try clear c3
            try clear c4
            try clear p4
            try clear q4
            try clear hx4
            try clear c5
            try clear p6
            try clear c7
            try clear c11
            try clear c24
            try clear c24b0
            try clear c24b1
            try clear c29
            try clear c31
            try clear c31b0
            try clear c34
            try clear c34b0
            try clear c35
            try clear c35b0
            try clear c36
            try clear c36b0
            try clear c36b1
            try clear c37
            try clear c37b0
            try clear c37b1
            try clear c38
            try clear c39
            try clear c39b0
            try clear c40
            try clear c40b0
            try clear c41
            try clear c41b0
            try clear c42
            try clear c42b0
            try clear c42b1
            try clear c43
            try clear c43b0
            try clear p45
            try clear q45
            try clear hx45
            try clear p46
            try clear q46
            try clear hx46
            try clear p47
            try clear q47
            try clear hx47
            try clear c48
            try clear c48b0
            try clear c48b1
            try clear c50
            try clear c50b0
            try clear c50b1
            try clear hx458_0
            try clear hx458_1
            try clear hx458_2
            try clear hx458_3
            try clear hx458_4
            try clear hx458_5
            try clear hx458_6
            try clear hx458_7
            try clear hx458_8
            try clear hx459_0
            try clear hx459_1
            try clear hx459_2
            try clear hx459_3
            try clear hx459_4
            try clear hx459_5
            try clear hx459_6
            try clear hx459_7
            try clear hx459_8
            try clear hx460_0
            try clear hx460_1
            try clear hx460_2
            try clear hx460_3
            try clear hx460_4
            try clear hx460_5
            try clear hx460_6
            try clear hx460_7
            try clear hx460_8
            try clear hx461_0
            try clear hx461_1
            try clear hx461_2
            try clear hx461_3
            try clear hx461_4
            try clear hx461_5
            try clear hx461_6
            try clear hx461_7
            try clear hx461_8
            try clear hx462_0
            try clear hx462_1
            try clear hx462_2
            try clear hx462_3
            try clear hx462_4
            try clear hx462_5
            try clear hx462_6
            try clear hx462_7
            try clear hx462_8
            try clear hx463_0
            try clear hx463_1
            try clear hx463_2
            try clear hx463_3
            try clear hx463_4
            try clear hx463_5
            try clear hx463_6
            try clear hx463_7
            try clear hx463_8
            try clear hx464_0
            try clear hx464_1
            try clear hx464_2
            try clear hx464_3
            try clear hx464_4
            try clear hx464_5
            try clear hx464_6
            try clear hx464_7
            try clear hx464_8
            try clear hx465_0
            try clear hx465_1
            try clear hx465_2
            try clear hx465_3
            try clear hx465_4
            try clear hx465_5
            try clear hx465_6
            try clear hx465_7
            try clear hx465_8
            try clear hx466_0
            try clear hx466_1
            try clear hx466_2
            try clear hx466_3
            try clear hx466_4
            try clear hx466_5
            try clear hx466_6
            try clear hx466_7
            try clear hx466_8
            try clear hx467_0
            try clear hx467_1
            try clear hx467_2
            try clear hx467_3
            try clear hx467_4
            try clear hx467_5
            try clear hx467_6
            try clear hx467_7
            try clear hx467_8
            try clear hx468_0
            try clear hx468_1
            try clear hx468_2
            try clear hx468_3
            try clear hx468_4
            try clear hx468_5
            try clear hx468_6
            try clear hx468_7
            try clear hx468_8
            try clear hx469_0
            try clear hx469_1
            try clear hx469_2
            try clear hx469_3
            try clear hx469_4
            try clear hx469_5
            try clear hx469_6
            try clear hx469_7
            try clear hx469_8
            try clear hx470_0
            try clear hx470_1
            try clear hx470_2
            try clear hx470_3
            try clear hx470_4
            try clear hx470_5
            try clear hx470_6
            try clear hx470_7
            try clear hx470_8
            try clear p2
            try clear p4
            try clear p458
            try clear p459
            try clear p460
            try clear p461
            try clear p462
            try clear p463
            try clear p464
            try clear p465
            try clear p466
            try clear p467
            try clear p468
            try clear p469
            try clear p470
            try clear p6
            try clear q4
            try clear q458
            try clear q459
            try clear q460
            try clear q461
            try clear q462
            try clear q463
            try clear q464
            try clear q465
            try clear q466
            try clear q467
            try clear q468
            try clear q469
            try clear q470
            obtain ⟨kq, x176_43, rfl, HA, HJ43, HO_0, HO_11, HO_12, HB⟩ := hcut
            cases kq with
            | zero => exact absurd HA.out (by simp [tolllaw10_LotsUses.j3])
            | succ kj43 =>
             have H := HA.out
             clear HA
             simp only [tolllaw10_LotsUses.j3] at H
             by_cases c51 : x176_43 = true
             · subst c51
               have H1 : (some false) = some r := by rw [if_pos rfl] at H; exact H
               clear H
               have H := H1
               clear H1
               obtain rfl := Option.some.inj H
               go_wp2
               repeat (go_quiet (fail); try go_wp2)
               go_ret
               exact ⟨by first | rfl | (simp [errW_none, errW_some] <;> rfl) | (simp [*, errW_none, errW_some] <;> rfl), by repeat (first | (with_reducible first | exact HB.out | apply below_alloc | apply pw_below_drewN | apply below_drew1) | exact HB.out)⟩
             · replace c51 := Bool.eq_false_iff.mpr c51
               subst c51
               have H1 : ((lots_Use.f t444 t445 0 t438).bind fun bt473 => ((tollref6_SameLots.f kj43 bt473.1 t440).bind fun t477 => (some t477))) = some r := by rw [if_neg (show ¬ (false = true) by decide)] at H; exact H
               clear H
               have H := H1
               clear H1
               replace H := Option.bind_eq_some_iff.mp H
               obtain ⟨⟨t473, t474⟩, A520, H⟩ := H
               replace H : ((tollref6_SameLots.f kj43 t473 t440).bind fun t477 => (some t477)) = some r := H
               have A52 := Aside0.mk A520
               clear A520
               replace H := Option.bind_eq_some_iff.mp H
               obtain ⟨t477, A530, H⟩ := H
               replace H : (some t477) = some r := H
               have A53 := Aside0.mk A530
               clear A530
               obtain rfl := Option.some.inj H
               go_wp2_with (first | (go_at_call 19; (with_reducible refine (lots_Use.calls _ _ t444 _ _ t445 0 t438 t473 t474 _ ?side1 ?side2 ?side3 ?side4 A52.out).mono ?_); (case side1 => repeat (first | exact (Kd.R_reads' HO_11.out).2.2 | (with_reducible refine Kd.C_alloc ?_ _) | (with_reducible refine Kd.C_drewN ?_ _) | (with_reducible refine Kd.C_drew ?_))); (case side2 => exact (Kd.R_reads' HO_11.out).2.1); (case side3 => repeat (first | exact (Kd.R_reads' HO_12.out).2.2 | (with_reducible refine Kd.C_alloc ?_ _) | (with_reducible refine Kd.C_drewN ?_ _) | (with_reducible refine Kd.C_drew ?_))); (case side4 => exact (Kd.R_reads' HO_12.out).2.1); rintro e w54 ⟨v475, rfl, ho0, hb⟩; have n0_ := Aside0.mk (Kd.R_elder' (by (with_reducible repeat (first | apply Kd.R_alloc | apply Kd.R_drewN | apply Kd.R_drew)); exact HO_0.out) (Kd.R_base ho0) hb); have n1_ := Aside0.mk (Kd.R_elder' (by (with_reducible repeat (first | apply Kd.R_alloc | apply Kd.R_drewN | apply Kd.R_drew)); exact HO_11.out) (Kd.R_base ho0) hb); have n2_ := Aside0.mk (Kd.R_below (by (with_reducible repeat (first | apply Kd.R_alloc | apply Kd.R_drewN | apply Kd.R_drew)); exact HO_12.out) hb); have n3_ := Aside0.mk (Kd.R_lower (Kd.R_new' (Kd.R_new' ho0 (Kd.R_lt (by (with_reducible repeat (first | apply Kd.R_alloc | apply Kd.R_drewN | apply Kd.R_drew)); exact HO_0.out))) (Kd.R_lt (by (with_reducible repeat (first | apply Kd.R_alloc | apply Kd.R_drewN | apply Kd.R_drew)); exact HO_11.out))) (below_size (by repeat (first | (with_reducible first | exact HB.out | apply below_alloc | apply pw_below_drewN | apply below_drew1) | exact HB.out)))); have n4_ := Aside0.mk (below_step (by repeat (first | (with_reducible first | exact HB.out | apply below_alloc | apply pw_below_drewN | apply below_drew1) | exact HB.out)) hb); clear HO_0; clear HO_11; clear HO_12; clear HB; have HO_0 := n0_; have HO_11 := n1_; have HO_12 := n2_; have HO476 := n3_; have HB := n4_; clear n0_ n1_ n2_ n3_ n4_; (try clear hb); (try clear hb2); (try clear hk); (try clear hi); (try clear ho0); obtain ⟨Ao55, co55, eo55⟩ := Kd.R_slice HO476.out; subst eo55) | (go_at_call 16; (with_reducible refine (tollref6_SameLots.calls kj43 _ _ t473 _ _ t440 t477 _ ?side1 ?side2 ?side3 ?side4 A53.out).mono ?_); (case side1 => repeat (first | exact (Kd.R_reads' HO476.out).2.2 | (with_reducible refine Kd.C_alloc ?_ _) | (with_reducible refine Kd.C_drewN ?_ _) | (with_reducible refine Kd.C_drew ?_))); (case side2 => exact (Kd.R_reads' HO476.out).2.1); (case side3 => repeat (first | exact (Kd.R_reads' HO_0.out).2.2 | (with_reducible refine Kd.C_alloc ?_ _) | (with_reducible refine Kd.C_drewN ?_ _) | (with_reducible refine Kd.C_drew ?_))); (case side4 => exact (Kd.R_reads' HO_0.out).2.1); rintro e w' ⟨rfl, ⟨nd, rfl⟩⟩; (try first | exact ⟨rfl, _, World.drewN_drewN _ _ _⟩ | exact ⟨rfl, _, Eq.trans (World.drewN_drewN _ _ _) (congrArg (World.drewN _) (Nat.add_assoc _ _ _))⟩)))
               repeat (go_quiet (first | (go_at_call 19; (with_reducible refine (lots_Use.calls _ _ t444 _ _ t445 0 t438 t473 t474 _ ?side1 ?side2 ?side3 ?side4 A52.out).mono ?_); (case side1 => repeat (first | exact (Kd.R_reads' HO_11.out).2.2 | (with_reducible refine Kd.C_alloc ?_ _) | (with_reducible refine Kd.C_drewN ?_ _) | (with_reducible refine Kd.C_drew ?_))); (case side2 => exact (Kd.R_reads' HO_11.out).2.1); (case side3 => repeat (first | exact (Kd.R_reads' HO_12.out).2.2 | (with_reducible refine Kd.C_alloc ?_ _) | (with_reducible refine Kd.C_drewN ?_ _) | (with_reducible refine Kd.C_drew ?_))); (case side4 => exact (Kd.R_reads' HO_12.out).2.1); rintro e w54 ⟨v475, rfl, ho0, hb⟩; have n0_ := Aside0.mk (Kd.R_elder' (by (with_reducible repeat (first | apply Kd.R_alloc | apply Kd.R_drewN | apply Kd.R_drew)); exact HO_0.out) (Kd.R_base ho0) hb); have n1_ := Aside0.mk (Kd.R_elder' (by (with_reducible repeat (first | apply Kd.R_alloc | apply Kd.R_drewN | apply Kd.R_drew)); exact HO_11.out) (Kd.R_base ho0) hb); have n2_ := Aside0.mk (Kd.R_below (by (with_reducible repeat (first | apply Kd.R_alloc | apply Kd.R_drewN | apply Kd.R_drew)); exact HO_12.out) hb); have n3_ := Aside0.mk (Kd.R_lower (Kd.R_new' (Kd.R_new' ho0 (Kd.R_lt (by (with_reducible repeat (first | apply Kd.R_alloc | apply Kd.R_drewN | apply Kd.R_drew)); exact HO_0.out))) (Kd.R_lt (by (with_reducible repeat (first | apply Kd.R_alloc | apply Kd.R_drewN | apply Kd.R_drew)); exact HO_11.out))) (below_size (by repeat (first | (with_reducible first | exact HB.out | apply below_alloc | apply pw_below_drewN | apply below_drew1) | exact HB.out)))); have n4_ := Aside0.mk (below_step (by repeat (first | (with_reducible first | exact HB.out | apply below_alloc | apply pw_below_drewN | apply below_drew1) | exact HB.out)) hb); clear HO_0; clear HO_11; clear HO_12; clear HB; have HO_0 := n0_; have HO_11 := n1_; have HO_12 := n2_; have HO476 := n3_; have HB := n4_; clear n0_ n1_ n2_ n3_ n4_; (try clear hb); (try clear hb2); (try clear hk); (try clear hi); (try clear ho0); obtain ⟨Ao55, co55, eo55⟩ := Kd.R_slice HO476.out; subst eo55) | (go_at_call 16; (with_reducible refine (tollref6_SameLots.calls kj43 _ _ t473 _ _ t440 t477 _ ?side1 ?side2 ?side3 ?side4 A53.out).mono ?_); (case side1 => repeat (first | exact (Kd.R_reads' HO476.out).2.2 | (with_reducible refine Kd.C_alloc ?_ _) | (with_reducible refine Kd.C_drewN ?_ _) | (with_reducible refine Kd.C_drew ?_))); (case side2 => exact (Kd.R_reads' HO476.out).2.1); (case side3 => repeat (first | exact (Kd.R_reads' HO_0.out).2.2 | (with_reducible refine Kd.C_alloc ?_ _) | (with_reducible refine Kd.C_drewN ?_ _) | (with_reducible refine Kd.C_drew ?_))); (case side4 => exact (Kd.R_reads' HO_0.out).2.1); rintro e w' ⟨rfl, ⟨nd, rfl⟩⟩; (try first | exact ⟨rfl, _, World.drewN_drewN _ _ _⟩ | exact ⟨rfl, _, Eq.trans (World.drewN_drewN _ _ _) (congrArg (World.drewN _) (Nat.add_assoc _ _ _))⟩))); try go_wp2_with (first | (go_at_call 19; (with_reducible refine (lots_Use.calls _ _ t444 _ _ t445 0 t438 t473 t474 _ ?side1 ?side2 ?side3 ?side4 A52.out).mono ?_); (case side1 => repeat (first | exact (Kd.R_reads' HO_11.out).2.2 | (with_reducible refine Kd.C_alloc ?_ _) | (with_reducible refine Kd.C_drewN ?_ _) | (with_reducible refine Kd.C_drew ?_))); (case side2 => exact (Kd.R_reads' HO_11.out).2.1); (case side3 => repeat (first | exact (Kd.R_reads' HO_12.out).2.2 | (with_reducible refine Kd.C_alloc ?_ _) | (with_reducible refine Kd.C_drewN ?_ _) | (with_reducible refine Kd.C_drew ?_))); (case side4 => exact (Kd.R_reads' HO_12.out).2.1); rintro e w54 ⟨v475, rfl, ho0, hb⟩; have n0_ := Aside0.mk (Kd.R_elder' (by (with_reducible repeat (first | apply Kd.R_alloc | apply Kd.R_drewN | apply Kd.R_drew)); exact HO_0.out) (Kd.R_base ho0) hb); have n1_ := Aside0.mk (Kd.R_elder' (by (with_reducible repeat (first | apply Kd.R_alloc | apply Kd.R_drewN | apply Kd.R_drew)); exact HO_11.out) (Kd.R_base ho0) hb); have n2_ := Aside0.mk (Kd.R_below (by (with_reducible repeat (first | apply Kd.R_alloc | apply Kd.R_drewN | apply Kd.R_drew)); exact HO_12.out) hb); have n3_ := Aside0.mk (Kd.R_lower (Kd.R_new' (Kd.R_new' ho0 (Kd.R_lt (by (with_reducible repeat (first | apply Kd.R_alloc | apply Kd.R_drewN | apply Kd.R_drew)); exact HO_0.out))) (Kd.R_lt (by (with_reducible repeat (first | apply Kd.R_alloc | apply Kd.R_drewN | apply Kd.R_drew)); exact HO_11.out))) (below_size (by repeat (first | (with_reducible first | exact HB.out | apply below_alloc | apply pw_below_drewN | apply below_drew1) | exact HB.out)))); have n4_ := Aside0.mk (below_step (by repeat (first | (with_reducible first | exact HB.out | apply below_alloc | apply pw_below_drewN | apply below_drew1) | exact HB.out)) hb); clear HO_0; clear HO_11; clear HO_12; clear HB; have HO_0 := n0_; have HO_11 := n1_; have HO_12 := n2_; have HO476 := n3_; have HB := n4_; clear n0_ n1_ n2_ n3_ n4_; (try clear hb); (try clear hb2); (try clear hk); (try clear hi); (try clear ho0); obtain ⟨Ao55, co55, eo55⟩ := Kd.R_slice HO476.out; subst eo55) | (go_at_call 16; (with_reducible refine (tollref6_SameLots.calls kj43 _ _ t473 _ _ t440 t477 _ ?side1 ?side2 ?side3 ?side4 A53.out).mono ?_); (case side1 => repeat (first | exact (Kd.R_reads' HO476.out).2.2 | (with_reducible refine Kd.C_alloc ?_ _) | (with_reducible refine Kd.C_drewN ?_ _) | (with_reducible refine Kd.C_drew ?_))); (case side2 => exact (Kd.R_reads' HO476.out).2.1); (case side3 => repeat (first | exact (Kd.R_reads' HO_0.out).2.2 | (with_reducible refine Kd.C_alloc ?_ _) | (with_reducible refine Kd.C_drewN ?_ _) | (with_reducible refine Kd.C_drew ?_))); (case side4 => exact (Kd.R_reads' HO_0.out).2.1); rintro e w' ⟨rfl, ⟨nd, rfl⟩⟩; (try first | exact ⟨rfl, _, World.drewN_drewN _ _ _⟩ | exact ⟨rfl, _, Eq.trans (World.drewN_drewN _ _ _) (congrArg (World.drewN _) (Nat.add_assoc _ _ _))⟩))))
               go_ret
               exact ⟨by first | rfl | (simp [errW_none, errW_some] <;> rfl) | (simp [*, errW_none, errW_some] <;> rfl), by repeat (first | (with_reducible first | exact HB.out | apply below_alloc | apply pw_below_drewN | apply below_drew1) | exact HB.out)⟩
 · replace c7 := Bool.eq_false_iff.mpr c7
   subst c7
   have H1 : (some false) = some r := by rw [if_neg (show ¬ (false = true) by decide)] at H; exact H
   clear H
   have H := H1
   clear H1
   obtain rfl := Option.some.inj H
   go_enter Try.func11, Try.ntmps11
   go_wp2_with (first | (go_at_call 12; (with_reducible refine (tolllaw10_known.calls  false _ A6.out).mono ?_); rintro e w56 ⟨rfl, hb⟩; have n0_ := Aside0.mk (below_step (by repeat (first | (with_reducible first | exact HB.out | apply below_alloc | apply pw_below_drewN | apply below_drew1) | exact HB.out)) hb); clear HB; have HB := n0_; clear n0_; (try clear hb); (try clear hb2); (try clear hk); (try clear hi)))
   repeat (go_quiet (first | (go_at_call 12; (with_reducible refine (tolllaw10_known.calls  false _ A6.out).mono ?_); rintro e w56 ⟨rfl, hb⟩; have n0_ := Aside0.mk (below_step (by repeat (first | (with_reducible first | exact HB.out | apply below_alloc | apply pw_below_drewN | apply below_drew1) | exact HB.out)) hb); clear HB; have HB := n0_; clear n0_; (try clear hb); (try clear hb2); (try clear hk); (try clear hi))); try go_wp2_with (first | (go_at_call 12; (with_reducible refine (tolllaw10_known.calls  false _ A6.out).mono ?_); rintro e w56 ⟨rfl, hb⟩; have n0_ := Aside0.mk (below_step (by repeat (first | (with_reducible first | exact HB.out | apply below_alloc | apply pw_below_drewN | apply below_drew1) | exact HB.out)) hb); clear HB; have HB := n0_; clear n0_; (try clear hb); (try clear hb2); (try clear hk); (try clear hi))))
   go_ret
   exact ⟨by first | rfl | (simp [errW_none, errW_some] <;> rfl) | (simp [*, errW_none, errW_some] <;> rfl), by repeat (first | (with_reducible first | exact HB.out | apply below_alloc | apply pw_below_drewN | apply below_drew1) | exact HB.out)⟩

end Go.Proofs.Ytjoimapgmocoeaa.Xa
