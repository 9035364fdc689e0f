/- What Go functions of this seat compute, as plain Lean functions; the machine's calls do what these say, under the conditions that each theorem names. Written by a program of this session (xprint, over print.py of the kit). -/
import Derived.Test.YtjoimapgmocoeaaXa0
import Derived.Test.YtjoimapgmocoeaaXa4
import Derived.Test.YtjoimapgmocoeaaXa5
import Derived.Test.YtjoimapgmocoeaaXa6
import Derived.Test.YtjoimapgmocoeaaXa18
namespace Go.Proofs.Ytjoimapgmocoeaa.Xa
open Go.RowKit Go.Proofs.YtjoimapgmocoeaaW.PrintWords Go.Proofs.YtjoimapgmocoeaaW.PrintLast Go.Proofs.YtjoimapgmocoeaaW.PrintMore
attribute [local go_sem] max2_int min2_int max_two min_two max_three min_three max_four min_four   -- for this text's walks alone
set_option linter.unusedVariables false
set_option linter.unusedSimpArgs false

/-! ### tolllaw10_LotsFields: function 7 -/
def tolllaw10_LotsFields.j0 : Nat → List (S33) → Int → Int → Int → Int → Option (Bool)
 | 0, _, _, _, _, _ => none
 | k + 1, x0, x3, x4, x11, x12 => if (x0.length : Int) > 1 then ((tolllaw10_within.f x3 8).bind fun t266 => (if t266 = 1 then (if x11 > 0 then (if 0 ≤ x11 then (if x11 < (x0.length : Int) then ((lots_Check.f k (x0.set (x11 : Int).toNat (⟨(rd_T33 x0 x11).f0, wrap64 (-x4), (rd_T33 x0 x11).f2, (rd_T33 x0 x11).f3, (rd_T33 x0 x11).f4, (rd_T33 x0 x11).f5, (rd_T33 x0 x11).f6, (rd_T33 x0 x11).f7, (rd_T33 x0 x11).f8⟩ : S33))).bind fun t268 => (some (t268 == x12))) else (none)) else (none)) else ((lots_Check.f k x0).bind fun t269 => (some (t269 == x12)))) else ((lots_Check.f k x0).bind fun t270 => (some (t270 == x12))))) else ((lots_Check.f k x0).bind fun t271 => (some (t271 == x12)))
def tolllaw10_LotsFields.f (k : Nat) (l0 : List (S33)) (a1 : Int) (a2 : Int) (a3 : Int) (a4 : Int) : Option (Bool) := (tolllaw10_known.f).bind fun t246 => (if t246 = true then ((tolllaw10_within.f a1 100000).bind fun t247 => ((tolllaw10_Good.f k l0 t247).bind fun t248 => (if (t248.length : Int) = 0 then (some true) else ((tolllaw10_within.f a2 (t248.length : Int)).bind fun t251 => ((tolllaw10_within.f a4 100).bind fun t252 => ((tolllaw10_within.f a3 8).bind fun t253 => (if t253 = 0 then (if 0 ≤ t251 then (if t251 < (t248.length : Int) then (tolllaw10_LotsFields.j0 k (t248.set (t251 : Int).toNat (⟨wrap64 (-(wrap64 (1 + t252))), (rd_T33 t248 t251).f1, (rd_T33 t248 t251).f2, (rd_T33 t248 t251).f3, (rd_T33 t248 t251).f4, (rd_T33 t248 t251).f5, (rd_T33 t248 t251).f6, (rd_T33 t248 t251).f7, (rd_T33 t248 t251).f8⟩ : S33)) a3 (wrap64 (1 + t252)) t251 1) else (none)) else (none)) else (if t253 = 1 then (if 0 ≤ t251 then (if t251 < (t248.length : Int) then (tolllaw10_LotsFields.j0 k (t248.set (t251 : Int).toNat (⟨(rd_T33 t248 t251).f0, wrap64 (2 + (wrap64 (1 + t252))), (rd_T33 t248 t251).f2, (rd_T33 t248 t251).f3, (rd_T33 t248 t251).f4, (rd_T33 t248 t251).f5, (rd_T33 t248 t251).f6, (rd_T33 t248 t251).f7, (rd_T33 t248 t251).f8⟩ : S33)) a3 (wrap64 (1 + t252)) t251 3) else (none)) else (none)) else (if t253 = 2 then (if 0 ≤ t251 then (if t251 < (t248.length : Int) then (tolllaw10_LotsFields.j0 k (t248.set (t251 : Int).toNat (⟨(rd_T33 t248 t251).f0, (rd_T33 t248 t251).f1, wrap64 (-(wrap64 (1 + t252))), (rd_T33 t248 t251).f3, (rd_T33 t248 t251).f4, (rd_T33 t248 t251).f5, (rd_T33 t248 t251).f6, (rd_T33 t248 t251).f7, (rd_T33 t248 t251).f8⟩ : S33)) a3 (wrap64 (1 + t252)) t251 1) else (none)) else (none)) else (if t253 = 3 then (if 0 ≤ t251 then (if t251 < (t248.length : Int) then (tolllaw10_LotsFields.j0 k (t248.set (t251 : Int).toNat (⟨(rd_T33 t248 t251).f0, (rd_T33 t248 t251).f1, (rd_T33 t248 t251).f2, (rd_T33 t248 t251).f2, (rd_T33 t248 t251).f4, (rd_T33 t248 t251).f5, (rd_T33 t248 t251).f6, (rd_T33 t248 t251).f7, (rd_T33 t248 t251).f8⟩ : S33)) a3 (wrap64 (1 + t252)) t251 1) else (none)) else (none)) else (if t253 = 4 then (if 0 ≤ t251 then (if t251 < (t248.length : Int) then (tolllaw10_LotsFields.j0 k (t248.set (t251 : Int).toNat (⟨(rd_T33 t248 t251).f0, (rd_T33 t248 t251).f1, (rd_T33 t248 t251).f2, (rd_T33 t248 t251).f3, (rd_T33 t248 t251).f4, (rd_T33 t248 t251).f5, wrap64 (-(wrap64 (1 + t252))), (rd_T33 t248 t251).f7, (rd_T33 t248 t251).f8⟩ : S33)) a3 (wrap64 (1 + t252)) t251 11) else (none)) else (none)) else (if t253 = 5 then (if 0 ≤ t251 then (if t251 < (t248.length : Int) then (tolllaw10_LotsFields.j0 k (t248.set (t251 : Int).toNat (⟨(rd_T33 t248 t251).f0, (rd_T33 t248 t251).f1, (rd_T33 t248 t251).f2, (rd_T33 t248 t251).f3, wrap64 ((wrap64 ((wrap64 (((rd_T33 t248 t251).f5) + ((rd_T33 t248 t251).f7))) + ((rd_T33 t248 t251).f8))) - (wrap64 (1 + t252))), (rd_T33 t248 t251).f5, (rd_T33 t248 t251).f6, (rd_T33 t248 t251).f7, (rd_T33 t248 t251).f8⟩ : S33)) a3 (wrap64 (1 + t252)) t251 11) else (none)) else (none)) else (if t253 = 6 then (if 0 ≤ t251 then (if t251 < (t248.length : Int) then (tolllaw10_LotsFields.j0 k (t248.set (t251 : Int).toNat (⟨(rd_T33 t248 t251).f0, (rd_T33 t248 t251).f1, (rd_T33 t248 t251).f2, (rd_T33 t248 t251).f3, (rd_T33 t248 t251).f4, (rd_T33 t248 t251).f5, (rd_T33 t248 t251).f6, wrap64 (1099511627776 + (wrap64 (1 + t252))), (rd_T33 t248 t251).f8⟩ : S33)) a3 (wrap64 (1 + t252)) t251 11) else (none)) else (none)) else (if t253 = 7 then (if 0 ≤ t251 then (if t251 < (t248.length : Int) then (tolllaw10_LotsFields.j0 k (t248.set (t251 : Int).toNat (⟨(rd_T33 t248 t251).f0, (rd_T33 t248 t251).f1, (rd_T33 t248 t251).f2, wrap64 (1099511627776 + (wrap64 (1 + t252))), (rd_T33 t248 t251).f4, (rd_T33 t248 t251).f5, (rd_T33 t248 t251).f6, (rd_T33 t248 t251).f7, (rd_T33 t248 t251).f8⟩ : S33)) a3 (wrap64 (1 + t252)) t251 1) else (none)) else (none)) else (tolllaw10_LotsFields.j0 k t248 a3 (wrap64 (1 + t252)) t251 11))))))))))))))) else (some false))
theorem tolllaw10_LotsFields.mono_l : ∀ k, (∀ y0 y1 y2 y3 y4, LeO (tolllaw10_LotsFields.j0 k y0 y1 y2 y3 y4) (tolllaw10_LotsFields.j0 (k + 1) y0 y1 y2 y3 y4))
 | 0 => fun _ _ _ _ _ r h => by simp [tolllaw10_LotsFields.j0] at h
 | k + 1 => by
  have ih0 := tolllaw10_LotsFields.mono_l k
  · intro y0 y1 y2 y3 y4
    unfold tolllaw10_LotsFields.j0
    repeat' first
    | (with_reducible exact ih0 _ _ _ _ _)
    | (with_reducible exact lots_Check.mono _ _)
    | (with_reducible exact tolllaw10_Good.mono _ _ _)
    | (with_reducible exact LeO.refl _)
    | (with_reducible exact LeO.none _)
    | (with_reducible refine LeO.ite ?_ ?_)
    | (with_reducible refine LeO.bind ?_ (fun _ => ?_))
    | exact ih0 _ _ _ _ _
    | exact lots_Check.mono _ _
    | exact tolllaw10_Good.mono _ _ _
    | exact LeO.none _
    | refine LeO.ite ?_ ?_
    | refine LeO.bind ?_ (fun _ => ?_)
theorem tolllaw10_LotsFields.mono : ∀ a0 a1 a2 a3 a4 k, LeO (tolllaw10_LotsFields.f k a0 a1 a2 a3 a4) (tolllaw10_LotsFields.f (k + 1) a0 a1 a2 a3 a4) := by
 intro a0 a1 a2 a3 a4 k
 have ih0 := tolllaw10_LotsFields.mono_l k
 unfold tolllaw10_LotsFields.f
 repeat' first
  | (with_reducible exact ih0 _ _ _ _ _)
  | (with_reducible exact lots_Check.mono _ _)
  | (with_reducible exact tolllaw10_Good.mono _ _ _)
  | (with_reducible exact LeO.refl _)
  | (with_reducible exact LeO.none _)
  | (with_reducible refine LeO.ite ?_ ?_)
  | (with_reducible refine LeO.bind ?_ (fun _ => ?_))
  | exact ih0 _ _ _ _ _
  | exact lots_Check.mono _ _
  | exact tolllaw10_Good.mono _ _ _
  | exact LeO.none _
  | refine LeO.ite ?_ ?_
  | refine LeO.bind ?_ (fun _ => ?_)
def tolllaw10_LotsFields.T22 : Bool × List (List Nat × List Nat) := (true, [([], []), ([], []), ([], []), ([], []), ([2, 3], [2, 3]), ([4], [4]), ([5], [5]), ([], []), ([], []), ([7, 8], [7, 8]), ([9], [9]), ([10], [10]), ([6, 11], [6, 11]), ([], []), ([], []), ([13, 14], [13, 14]), ([15], [15]), ([16], [16]), ([12, 17], [12, 17]), ([], []), ([18, 19], [18, 19]), ([0, 1, 0, 1, 2, 3, 4, 5, 6, 7, 8, 9, 10, 11, 12, 13, 14, 15, 16, 17, 18, 19, 20], [0, 1]), ([21, 0, 1, 2, 3, 4, 5, 6, 7, 8, 9, 10, 11, 12, 13, 14, 15, 16, 17, 18, 19, 20], [21]), ([22, 20, 0, 1, 2, 3, 4, 5, 6, 7, 8, 9, 10, 11, 12, 13, 14, 15, 16, 17, 18, 19, 20], [20, 22])])
def tolllaw10_LotsFields.B22 : List Nat := [0, 0, 0, 0, 12, 28, 60, 0, 0, 384, 896, 1920, 4092, 0, 0, 24576, 57344, 122880, 262140, 0, 1048572, 2097151, 4194303, 8388607]
theorem tolllaw10_LotsFields.tab22 : rtab .any (opsOf Try.f7 22) = tolllaw10_LotsFields.T22 := by kernel_rfl
theorem tolllaw10_LotsFields.bits22 : waitsOk tolllaw10_LotsFields.T22.2 tolllaw10_LotsFields.B22 = true := by kernel_rfl
set_option maxHeartbeats 8000000 in
set_option maxRecDepth 100000 in
theorem tolllaw10_LotsFields.calls (k : Nat) (A0 : Option Addr) (c0 : Nat) (l0 : List (S33)) (a1 : Int) (a2 : Int) (a3 : Int) (a4 : Int) (r : Bool) (w : World) (hr0 : Kd.C k33 w A0 l0.length l0) (hc0 : l0.length ≤ c0) (h : tolllaw10_LotsFields.f k l0 a1 a2 a3 a4 = some r) :
 Calls Try.prog 7 #[.slice A0 l0.length c0, .int .i64 a1, .int .i64 a2, .int .i64 a3, .int .i64 a4] w fun e w' => e = .returned (.bool r) ∧ Below w.heap.size w w' := by
 have HR0 := Aside0.mk hr0
 have HC0 := Aside0.mk hc0
 clear hr0 hc0
 have HB := Aside0.mk (Below.refl w.heap.size w)
 have H : ((tolllaw10_known.f).bind fun t246 => (if t246 = true then ((tolllaw10_within.f a1 100000).bind fun t247 => ((tolllaw10_Good.f k l0 t247).bind fun t248 => (if (t248.length : Int) = 0 then (some true) else ((tolllaw10_within.f a2 (t248.length : Int)).bind fun t251 => ((tolllaw10_within.f a4 100).bind fun t252 => ((tolllaw10_within.f a3 8).bind fun t253 => (if t253 = 0 then (if 0 ≤ t251 then (if t251 < (t248.length : Int) then (tolllaw10_LotsFields.j0 k (t248.set (t251 : Int).toNat (⟨wrap64 (-(wrap64 (1 + t252))), (rd_T33 t248 t251).f1, (rd_T33 t248 t251).f2, (rd_T33 t248 t251).f3, (rd_T33 t248 t251).f4, (rd_T33 t248 t251).f5, (rd_T33 t248 t251).f6, (rd_T33 t248 t251).f7, (rd_T33 t248 t251).f8⟩ : S33)) a3 (wrap64 (1 + t252)) t251 1) else (none)) else (none)) else (if t253 = 1 then (if 0 ≤ t251 then (if t251 < (t248.length : Int) then (tolllaw10_LotsFields.j0 k (t248.set (t251 : Int).toNat (⟨(rd_T33 t248 t251).f0, wrap64 (2 + (wrap64 (1 + t252))), (rd_T33 t248 t251).f2, (rd_T33 t248 t251).f3, (rd_T33 t248 t251).f4, (rd_T33 t248 t251).f5, (rd_T33 t248 t251).f6, (rd_T33 t248 t251).f7, (rd_T33 t248 t251).f8⟩ : S33)) a3 (wrap64 (1 + t252)) t251 3) else (none)) else (none)) else (if t253 = 2 then (if 0 ≤ t251 then (if t251 < (t248.length : Int) then (tolllaw10_LotsFields.j0 k (t248.set (t251 : Int).toNat (⟨(rd_T33 t248 t251).f0, (rd_T33 t248 t251).f1, wrap64 (-(wrap64 (1 + t252))), (rd_T33 t248 t251).f3, (rd_T33 t248 t251).f4, (rd_T33 t248 t251).f5, (rd_T33 t248 t251).f6, (rd_T33 t248 t251).f7, (rd_T33 t248 t251).f8⟩ : S33)) a3 (wrap64 (1 + t252)) t251 1) else (none)) else (none)) else (if t253 = 3 then (if 0 ≤ t251 then (if t251 < (t248.length : Int) then (tolllaw10_LotsFields.j0 k (t248.set (t251 : Int).toNat (⟨(rd_T33 t248 t251).f0, (rd_T33 t248 t251).f1, (rd_T33 t248 t251).f2, (rd_T33 t248 t251).f2, (rd_T33 t248 t251).f4, (rd_T33 t248 t251).f5, (rd_T33 t248 t251).f6, (rd_T33 t248 t251).f7, (rd_T33 t248 t251).f8⟩ : S33)) a3 (wrap64 (1 + t252)) t251 1) else (none)) else (none)) else (if t253 = 4 then (if 0 ≤ t251 then (if t251 < (t248.length : Int) then (tolllaw10_LotsFields.j0 k (t248.set (t251 : Int).toNat (⟨(rd_T33 t248 t251).f0, (rd_T33 t248 t251).f1, (rd_T33 t248 t251).f2, (rd_T33 t248 t251).f3, (rd_T33 t248 t251).f4, (rd_T33 t248 t251).f5, wrap64 (-(wrap64 (1 + t252))), (rd_T33 t248 t251).f7, (rd_T33 t248 t251).f8⟩ : S33)) a3 (wrap64 (1 + t252)) t251 11) else (none)) else (none)) else (if t253 = 5 then (if 0 ≤ t251 then (if t251 < (t248.length : Int) then (tolllaw10_LotsFields.j0 k (t248.set (t251 : Int).toNat (⟨(rd_T33 t248 t251).f0, (rd_T33 t248 t251).f1, (rd_T33 t248 t251).f2, (rd_T33 t248 t251).f3, wrap64 ((wrap64 ((wrap64 (((rd_T33 t248 t251).f5) + ((rd_T33 t248 t251).f7))) + ((rd_T33 t248 t251).f8))) - (wrap64 (1 + t252))), (rd_T33 t248 t251).f5, (rd_T33 t248 t251).f6, (rd_T33 t248 t251).f7, (rd_T33 t248 t251).f8⟩ : S33)) a3 (wrap64 (1 + t252)) t251 11) else (none)) else (none)) else (if t253 = 6 then (if 0 ≤ t251 then (if t251 < (t248.length : Int) then (tolllaw10_LotsFields.j0 k (t248.set (t251 : Int).toNat (⟨(rd_T33 t248 t251).f0, (rd_T33 t248 t251).f1, (rd_T33 t248 t251).f2, (rd_T33 t248 t251).f3, (rd_T33 t248 t251).f4, (rd_T33 t248 t251).f5, (rd_T33 t248 t251).f6, wrap64 (1099511627776 + (wrap64 (1 + t252))), (rd_T33 t248 t251).f8⟩ : S33)) a3 (wrap64 (1 + t252)) t251 11) else (none)) else (none)) else (if t253 = 7 then (if 0 ≤ t251 then (if t251 < (t248.length : Int) then (tolllaw10_LotsFields.j0 k (t248.set (t251 : Int).toNat (⟨(rd_T33 t248 t251).f0, (rd_T33 t248 t251).f1, (rd_T33 t248 t251).f2, wrap64 (1099511627776 + (wrap64 (1 + t252))), (rd_T33 t248 t251).f4, (rd_T33 t248 t251).f5, (rd_T33 t248 t251).f6, (rd_T33 t248 t251).f7, (rd_T33 t248 t251).f8⟩ : S33)) a3 (wrap64 (1 + t252)) t251 1) else (none)) else (none)) else (tolllaw10_LotsFields.j0 k t248 a3 (wrap64 (1 + t252)) t251 11))))))))))))))) else (some false))) = some r := h
 clear h
 replace H := Option.bind_eq_some_iff.mp H
 obtain ⟨t246, A60, H⟩ := H
 replace H : (if t246 = true then ((tolllaw10_within.f a1 100000).bind fun t247 => ((tolllaw10_Good.f k l0 t247).bind fun t248 => (if (t248.length : Int) = 0 then (some true) else ((tolllaw10_within.f a2 (t248.length : Int)).bind fun t251 => ((tolllaw10_within.f a4 100).bind fun t252 => ((tolllaw10_within.f a3 8).bind fun t253 => (if t253 = 0 then (if 0 ≤ t251 then (if t251 < (t248.length : Int) then (tolllaw10_LotsFields.j0 k (t248.set (t251 : Int).toNat (⟨wrap64 (-(wrap64 (1 + t252))), (rd_T33 t248 t251).f1, (rd_T33 t248 t251).f2, (rd_T33 t248 t251).f3, (rd_T33 t248 t251).f4, (rd_T33 t248 t251).f5, (rd_T33 t248 t251).f6, (rd_T33 t248 t251).f7, (rd_T33 t248 t251).f8⟩ : S33)) a3 (wrap64 (1 + t252)) t251 1) else (none)) else (none)) else (if t253 = 1 then (if 0 ≤ t251 then (if t251 < (t248.length : Int) then (tolllaw10_LotsFields.j0 k (t248.set (t251 : Int).toNat (⟨(rd_T33 t248 t251).f0, wrap64 (2 + (wrap64 (1 + t252))), (rd_T33 t248 t251).f2, (rd_T33 t248 t251).f3, (rd_T33 t248 t251).f4, (rd_T33 t248 t251).f5, (rd_T33 t248 t251).f6, (rd_T33 t248 t251).f7, (rd_T33 t248 t251).f8⟩ : S33)) a3 (wrap64 (1 + t252)) t251 3) else (none)) else (none)) else (if t253 = 2 then (if 0 ≤ t251 then (if t251 < (t248.length : Int) then (tolllaw10_LotsFields.j0 k (t248.set (t251 : Int).toNat (⟨(rd_T33 t248 t251).f0, (rd_T33 t248 t251).f1, wrap64 (-(wrap64 (1 + t252))), (rd_T33 t248 t251).f3, (rd_T33 t248 t251).f4, (rd_T33 t248 t251).f5, (rd_T33 t248 t251).f6, (rd_T33 t248 t251).f7, (rd_T33 t248 t251).f8⟩ : S33)) a3 (wrap64 (1 + t252)) t251 1) else (none)) else (none)) else (if t253 = 3 then (if 0 ≤ t251 then (if t251 < (t248.length : Int) then (tolllaw10_LotsFields.j0 k (t248.set (t251 : Int).toNat (⟨(rd_T33 t248 t251).f0, (rd_T33 t248 t251).f1, (rd_T33 t248 t251).f2, (rd_T33 t248 t251).f2, (rd_T33 t248 t251).f4, (rd_T33 t248 t251).f5, (rd_T33 t248 t251).f6, (rd_T33 t248 t251).f7, (rd_T33 t248 t251).f8⟩ : S33)) a3 (wrap64 (1 + t252)) t251 1) else (none)) else (none)) else (if t253 = 4 then (if 0 ≤ t251 then (if t251 < (t248.length : Int) then (tolllaw10_LotsFields.j0 k (t248.set (t251 : Int).toNat (⟨(rd_T33 t248 t251).f0, (rd_T33 t248 t251).f1, (rd_T33 t248 t251).f2, (rd_T33 t248 t251).f3, (rd_T33 t248 t251).f4, (rd_T33 t248 t251).f5, wrap64 (-(wrap64 (1 + t252))), (rd_T33 t248 t251).f7, (rd_T33 t248 t251).f8⟩ : S33)) a3 (wrap64 (1 + t252)) t251 11) else (none)) else (none)) else (if t253 = 5 then (if 0 ≤ t251 then (if t251 < (t248.length : Int) then (tolllaw10_LotsFields.j0 k (t248.set (t251 : Int).toNat (⟨(rd_T33 t248 t251).f0, (rd_T33 t248 t251).f1, (rd_T33 t248 t251).f2, (rd_T33 t248 t251).f3, wrap64 ((wrap64 ((wrap64 (((rd_T33 t248 t251).f5) + ((rd_T33 t248 t251).f7))) + ((rd_T33 t248 t251).f8))) - (wrap64 (1 + t252))), (rd_T33 t248 t251).f5, (rd_T33 t248 t251).f6, (rd_T33 t248 t251).f7, (rd_T33 t248 t251).f8⟩ : S33)) a3 (wrap64 (1 + t252)) t251 11) else (none)) else (none)) else (if t253 = 6 then (if 0 ≤ t251 then (if t251 < (t248.length : Int) then (tolllaw10_LotsFields.j0 k (t248.set (t251 : Int).toNat (⟨(rd_T33 t248 t251).f0, (rd_T33 t248 t251).f1, (rd_T33 t248 t251).f2, (rd_T33 t248 t251).f3, (rd_T33 t248 t251).f4, (rd_T33 t248 t251).f5, (rd_T33 t248 t251).f6, wrap64 (1099511627776 + (wrap64 (1 + t252))), (rd_T33 t248 t251).f8⟩ : S33)) a3 (wrap64 (1 + t252)) t251 11) else (none)) else (none)) else (if t253 = 7 then (if 0 ≤ t251 then (if t251 < (t248.length : Int) then (tolllaw10_LotsFields.j0 k (t248.set (t251 : Int).toNat (⟨(rd_T33 t248 t251).f0, (rd_T33 t248 t251).f1, (rd_T33 t248 t251).f2, wrap64 (1099511627776 + (wrap64 (1 + t252))), (rd_T33 t248 t251).f4, (rd_T33 t248 t251).f5, (rd_T33 t248 t251).f6, (rd_T33 t248 t251).f7, (rd_T33 t248 t251).f8⟩ : S33)) a3 (wrap64 (1 + t252)) t251 1) else (none)) else (none)) else (tolllaw10_LotsFields.j0 k t248 a3 (wrap64 (1 + t252)) t251 11))))))))))))))) else (some false)) = some r := H
 have A6 := Aside0.mk A60
 clear A60
 by_cases c7 : t246 = true
 · subst c7
   have H1 : ((tolllaw10_within.f a1 100000).bind fun t247 => ((tolllaw10_Good.f k l0 t247).bind fun t248 => (if (t248.length : Int) = 0 then (some true) else ((tolllaw10_within.f a2 (t248.length : Int)).bind fun t251 => ((tolllaw10_within.f a4 100).bind fun t252 => ((tolllaw10_within.f a3 8).bind fun t253 => (if t253 = 0 then (if 0 ≤ t251 then (if t251 < (t248.length : Int) then (tolllaw10_LotsFields.j0 k (t248.set (t251 : Int).toNat (⟨wrap64 (-(wrap64 (1 + t252))), (rd_T33 t248 t251).f1, (rd_T33 t248 t251).f2, (rd_T33 t248 t251).f3, (rd_T33 t248 t251).f4, (rd_T33 t248 t251).f5, (rd_T33 t248 t251).f6, (rd_T33 t248 t251).f7, (rd_T33 t248 t251).f8⟩ : S33)) a3 (wrap64 (1 + t252)) t251 1) else (none)) else (none)) else (if t253 = 1 then (if 0 ≤ t251 then (if t251 < (t248.length : Int) then (tolllaw10_LotsFields.j0 k (t248.set (t251 : Int).toNat (⟨(rd_T33 t248 t251).f0, wrap64 (2 + (wrap64 (1 + t252))), (rd_T33 t248 t251).f2, (rd_T33 t248 t251).f3, (rd_T33 t248 t251).f4, (rd_T33 t248 t251).f5, (rd_T33 t248 t251).f6, (rd_T33 t248 t251).f7, (rd_T33 t248 t251).f8⟩ : S33)) a3 (wrap64 (1 + t252)) t251 3) else (none)) else (none)) else (if t253 = 2 then (if 0 ≤ t251 then (if t251 < (t248.length : Int) then (tolllaw10_LotsFields.j0 k (t248.set (t251 : Int).toNat (⟨(rd_T33 t248 t251).f0, (rd_T33 t248 t251).f1, wrap64 (-(wrap64 (1 + t252))), (rd_T33 t248 t251).f3, (rd_T33 t248 t251).f4, (rd_T33 t248 t251).f5, (rd_T33 t248 t251).f6, (rd_T33 t248 t251).f7, (rd_T33 t248 t251).f8⟩ : S33)) a3 (wrap64 (1 + t252)) t251 1) else (none)) else (none)) else (if t253 = 3 then (if 0 ≤ t251 then (if t251 < (t248.length : Int) then (tolllaw10_LotsFields.j0 k (t248.set (t251 : Int).toNat (⟨(rd_T33 t248 t251).f0, (rd_T33 t248 t251).f1, (rd_T33 t248 t251).f2, (rd_T33 t248 t251).f2, (rd_T33 t248 t251).f4, (rd_T33 t248 t251).f5, (rd_T33 t248 t251).f6, (rd_T33 t248 t251).f7, (rd_T33 t248 t251).f8⟩ : S33)) a3 (wrap64 (1 + t252)) t251 1) else (none)) else (none)) else (if t253 = 4 then (if 0 ≤ t251 then (if t251 < (t248.length : Int) then (tolllaw10_LotsFields.j0 k (t248.set (t251 : Int).toNat (⟨(rd_T33 t248 t251).f0, (rd_T33 t248 t251).f1, (rd_T33 t248 t251).f2, (rd_T33 t248 t251).f3, (rd_T33 t248 t251).f4, (rd_T33 t248 t251).f5, wrap64 (-(wrap64 (1 + t252))), (rd_T33 t248 t251).f7, (rd_T33 t248 t251).f8⟩ : S33)) a3 (wrap64 (1 + t252)) t251 11) else (none)) else (none)) else (if t253 = 5 then (if 0 ≤ t251 then (if t251 < (t248.length : Int) then (tolllaw10_LotsFields.j0 k (t248.set (t251 : Int).toNat (⟨(rd_T33 t248 t251).f0, (rd_T33 t248 t251).f1, (rd_T33 t248 t251).f2, (rd_T33 t248 t251).f3, wrap64 ((wrap64 ((wrap64 (((rd_T33 t248 t251).f5) + ((rd_T33 t248 t251).f7))) + ((rd_T33 t248 t251).f8))) - (wrap64 (1 + t252))), (rd_T33 t248 t251).f5, (rd_T33 t248 t251).f6, (rd_T33 t248 t251).f7, (rd_T33 t248 t251).f8⟩ : S33)) a3 (wrap64 (1 + t252)) t251 11) else (none)) else (none)) else (if t253 = 6 then (if 0 ≤ t251 then (if t251 < (t248.length : Int) then (tolllaw10_LotsFields.j0 k (t248.set (t251 : Int).toNat (⟨(rd_T33 t248 t251).f0, (rd_T33 t248 t251).f1, (rd_T33 t248 t251).f2, (rd_T33 t248 t251).f3, (rd_T33 t248 t251).f4, (rd_T33 t248 t251).f5, (rd_T33 t248 t251).f6, wrap64 (1099511627776 + (wrap64 (1 + t252))), (rd_T33 t248 t251).f8⟩ : S33)) a3 (wrap64 (1 + t252)) t251 11) else (none)) else (none)) else (if t253 = 7 then (if 0 ≤ t251 then (if t251 < (t248.length : Int) then (tolllaw10_LotsFields.j0 k (t248.set (t251 : Int).toNat (⟨(rd_T33 t248 t251).f0, (rd_T33 t248 t251).f1, (rd_T33 t248 t251).f2, wrap64 (1099511627776 + (wrap64 (1 + t252))), (rd_T33 t248 t251).f4, (rd_T33 t248 t251).f5, (rd_T33 t248 t251).f6, (rd_T33 t248 t251).f7, (rd_T33 t248 t251).f8⟩ : S33)) a3 (wrap64 (1 + t252)) t251 1) else (none)) else (none)) else (tolllaw10_LotsFields.j0 k t248 a3 (wrap64 (1 + t252)) t251 11))))))))))))))) = some r := by rw [if_pos rfl] at H; exact H
   clear H
   have H := H1
   clear H1
   replace H := Option.bind_eq_some_iff.mp H
   obtain ⟨t247, A80, H⟩ := H
   replace H : ((tolllaw10_Good.f k l0 t247).bind fun t248 => (if (t248.length : Int) = 0 then (some true) else ((tolllaw10_within.f a2 (t248.length : Int)).bind fun t251 => ((tolllaw10_within.f a4 100).bind fun t252 => ((tolllaw10_within.f a3 8).bind fun t253 => (if t253 = 0 then (if 0 ≤ t251 then (if t251 < (t248.length : Int) then (tolllaw10_LotsFields.j0 k (t248.set (t251 : Int).toNat (⟨wrap64 (-(wrap64 (1 + t252))), (rd_T33 t248 t251).f1, (rd_T33 t248 t251).f2, (rd_T33 t248 t251).f3, (rd_T33 t248 t251).f4, (rd_T33 t248 t251).f5, (rd_T33 t248 t251).f6, (rd_T33 t248 t251).f7, (rd_T33 t248 t251).f8⟩ : S33)) a3 (wrap64 (1 + t252)) t251 1) else (none)) else (none)) else (if t253 = 1 then (if 0 ≤ t251 then (if t251 < (t248.length : Int) then (tolllaw10_LotsFields.j0 k (t248.set (t251 : Int).toNat (⟨(rd_T33 t248 t251).f0, wrap64 (2 + (wrap64 (1 + t252))), (rd_T33 t248 t251).f2, (rd_T33 t248 t251).f3, (rd_T33 t248 t251).f4, (rd_T33 t248 t251).f5, (rd_T33 t248 t251).f6, (rd_T33 t248 t251).f7, (rd_T33 t248 t251).f8⟩ : S33)) a3 (wrap64 (1 + t252)) t251 3) else (none)) else (none)) else (if t253 = 2 then (if 0 ≤ t251 then (if t251 < (t248.length : Int) then (tolllaw10_LotsFields.j0 k (t248.set (t251 : Int).toNat (⟨(rd_T33 t248 t251).f0, (rd_T33 t248 t251).f1, wrap64 (-(wrap64 (1 + t252))), (rd_T33 t248 t251).f3, (rd_T33 t248 t251).f4, (rd_T33 t248 t251).f5, (rd_T33 t248 t251).f6, (rd_T33 t248 t251).f7, (rd_T33 t248 t251).f8⟩ : S33)) a3 (wrap64 (1 + t252)) t251 1) else (none)) else (none)) else (if t253 = 3 then (if 0 ≤ t251 then (if t251 < (t248.length : Int) then (tolllaw10_LotsFields.j0 k (t248.set (t251 : Int).toNat (⟨(rd_T33 t248 t251).f0, (rd_T33 t248 t251).f1, (rd_T33 t248 t251).f2, (rd_T33 t248 t251).f2, (rd_T33 t248 t251).f4, (rd_T33 t248 t251).f5, (rd_T33 t248 t251).f6, (rd_T33 t248 t251).f7, (rd_T33 t248 t251).f8⟩ : S33)) a3 (wrap64 (1 + t252)) t251 1) else (none)) else (none)) else (if t253 = 4 then (if 0 ≤ t251 then (if t251 < (t248.length : Int) then (tolllaw10_LotsFields.j0 k (t248.set (t251 : Int).toNat (⟨(rd_T33 t248 t251).f0, (rd_T33 t248 t251).f1, (rd_T33 t248 t251).f2, (rd_T33 t248 t251).f3, (rd_T33 t248 t251).f4, (rd_T33 t248 t251).f5, wrap64 (-(wrap64 (1 + t252))), (rd_T33 t248 t251).f7, (rd_T33 t248 t251).f8⟩ : S33)) a3 (wrap64 (1 + t252)) t251 11) else (none)) else (none)) else (if t253 = 5 then (if 0 ≤ t251 then (if t251 < (t248.length : Int) then (tolllaw10_LotsFields.j0 k (t248.set (t251 : Int).toNat (⟨(rd_T33 t248 t251).f0, (rd_T33 t248 t251).f1, (rd_T33 t248 t251).f2, (rd_T33 t248 t251).f3, wrap64 ((wrap64 ((wrap64 (((rd_T33 t248 t251).f5) + ((rd_T33 t248 t251).f7))) + ((rd_T33 t248 t251).f8))) - (wrap64 (1 + t252))), (rd_T33 t248 t251).f5, (rd_T33 t248 t251).f6, (rd_T33 t248 t251).f7, (rd_T33 t248 t251).f8⟩ : S33)) a3 (wrap64 (1 + t252)) t251 11) else (none)) else (none)) else (if t253 = 6 then (if 0 ≤ t251 then (if t251 < (t248.length : Int) then (tolllaw10_LotsFields.j0 k (t248.set (t251 : Int).toNat (⟨(rd_T33 t248 t251).f0, (rd_T33 t248 t251).f1, (rd_T33 t248 t251).f2, (rd_T33 t248 t251).f3, (rd_T33 t248 t251).f4, (rd_T33 t248 t251).f5, (rd_T33 t248 t251).f6, wrap64 (1099511627776 + (wrap64 (1 + t252))), (rd_T33 t248 t251).f8⟩ : S33)) a3 (wrap64 (1 + t252)) t251 11) else (none)) else (none)) else (if t253 = 7 then (if 0 ≤ t251 then (if t251 < (t248.length : Int) then (tolllaw10_LotsFields.j0 k (t248.set (t251 : Int).toNat (⟨(rd_T33 t248 t251).f0, (rd_T33 t248 t251).f1, (rd_T33 t248 t251).f2, wrap64 (1099511627776 + (wrap64 (1 + t252))), (rd_T33 t248 t251).f4, (rd_T33 t248 t251).f5, (rd_T33 t248 t251).f6, (rd_T33 t248 t251).f7, (rd_T33 t248 t251).f8⟩ : S33)) a3 (wrap64 (1 + t252)) t251 1) else (none)) else (none)) else (tolllaw10_LotsFields.j0 k t248 a3 (wrap64 (1 + t252)) t251 11)))))))))))))) = some r := H
   have A8 := Aside0.mk A80
   clear A80
   replace H := Option.bind_eq_some_iff.mp H
   obtain ⟨t248, A90, H⟩ := H
   replace H : (if (t248.length : Int) = 0 then (some true) else ((tolllaw10_within.f a2 (t248.length : Int)).bind fun t251 => ((tolllaw10_within.f a4 100).bind fun t252 => ((tolllaw10_within.f a3 8).bind fun t253 => (if t253 = 0 then (if 0 ≤ t251 then (if t251 < (t248.length : Int) then (tolllaw10_LotsFields.j0 k (t248.set (t251 : Int).toNat (⟨wrap64 (-(wrap64 (1 + t252))), (rd_T33 t248 t251).f1, (rd_T33 t248 t251).f2, (rd_T33 t248 t251).f3, (rd_T33 t248 t251).f4, (rd_T33 t248 t251).f5, (rd_T33 t248 t251).f6, (rd_T33 t248 t251).f7, (rd_T33 t248 t251).f8⟩ : S33)) a3 (wrap64 (1 + t252)) t251 1) else (none)) else (none)) else (if t253 = 1 then (if 0 ≤ t251 then (if t251 < (t248.length : Int) then (tolllaw10_LotsFields.j0 k (t248.set (t251 : Int).toNat (⟨(rd_T33 t248 t251).f0, wrap64 (2 + (wrap64 (1 + t252))), (rd_T33 t248 t251).f2, (rd_T33 t248 t251).f3, (rd_T33 t248 t251).f4, (rd_T33 t248 t251).f5, (rd_T33 t248 t251).f6, (rd_T33 t248 t251).f7, (rd_T33 t248 t251).f8⟩ : S33)) a3 (wrap64 (1 + t252)) t251 3) else (none)) else (none)) else (if t253 = 2 then (if 0 ≤ t251 then (if t251 < (t248.length : Int) then (tolllaw10_LotsFields.j0 k (t248.set (t251 : Int).toNat (⟨(rd_T33 t248 t251).f0, (rd_T33 t248 t251).f1, wrap64 (-(wrap64 (1 + t252))), (rd_T33 t248 t251).f3, (rd_T33 t248 t251).f4, (rd_T33 t248 t251).f5, (rd_T33 t248 t251).f6, (rd_T33 t248 t251).f7, (rd_T33 t248 t251).f8⟩ : S33)) a3 (wrap64 (1 + t252)) t251 1) else (none)) else (none)) else (if t253 = 3 then (if 0 ≤ t251 then (if t251 < (t248.length : Int) then (tolllaw10_LotsFields.j0 k (t248.set (t251 : Int).toNat (⟨(rd_T33 t248 t251).f0, (rd_T33 t248 t251).f1, (rd_T33 t248 t251).f2, (rd_T33 t248 t251).f2, (rd_T33 t248 t251).f4, (rd_T33 t248 t251).f5, (rd_T33 t248 t251).f6, (rd_T33 t248 t251).f7, (rd_T33 t248 t251).f8⟩ : S33)) a3 (wrap64 (1 + t252)) t251 1) else (none)) else (none)) else (if t253 = 4 then (if 0 ≤ t251 then (if t251 < (t248.length : Int) then (tolllaw10_LotsFields.j0 k (t248.set (t251 : Int).toNat (⟨(rd_T33 t248 t251).f0, (rd_T33 t248 t251).f1, (rd_T33 t248 t251).f2, (rd_T33 t248 t251).f3, (rd_T33 t248 t251).f4, (rd_T33 t248 t251).f5, wrap64 (-(wrap64 (1 + t252))), (rd_T33 t248 t251).f7, (rd_T33 t248 t251).f8⟩ : S33)) a3 (wrap64 (1 + t252)) t251 11) else (none)) else (none)) else (if t253 = 5 then (if 0 ≤ t251 then (if t251 < (t248.length : Int) then (tolllaw10_LotsFields.j0 k (t248.set (t251 : Int).toNat (⟨(rd_T33 t248 t251).f0, (rd_T33 t248 t251).f1, (rd_T33 t248 t251).f2, (rd_T33 t248 t251).f3, wrap64 ((wrap64 ((wrap64 (((rd_T33 t248 t251).f5) + ((rd_T33 t248 t251).f7))) + ((rd_T33 t248 t251).f8))) - (wrap64 (1 + t252))), (rd_T33 t248 t251).f5, (rd_T33 t248 t251).f6, (rd_T33 t248 t251).f7, (rd_T33 t248 t251).f8⟩ : S33)) a3 (wrap64 (1 + t252)) t251 11) else (none)) else (none)) else (if t253 = 6 then (if 0 ≤ t251 then (if t251 < (t248.length : Int) then (tolllaw10_LotsFields.j0 k (t248.set (t251 : Int).toNat (⟨(rd_T33 t248 t251).f0, (rd_T33 t248 t251).f1, (rd_T33 t248 t251).f2, (rd_T33 t248 t251).f3, (rd_T33 t248 t251).f4, (rd_T33 t248 t251).f5, (rd_T33 t248 t251).f6, wrap64 (1099511627776 + (wrap64 (1 + t252))), (rd_T33 t248 t251).f8⟩ : S33)) a3 (wrap64 (1 + t252)) t251 11) else (none)) else (none)) else (if t253 = 7 then (if 0 ≤ t251 then (if t251 < (t248.length : Int) then (tolllaw10_LotsFields.j0 k (t248.set (t251 : Int).toNat (⟨(rd_T33 t248 t251).f0, (rd_T33 t248 t251).f1, (rd_T33 t248 t251).f2, wrap64 (1099511627776 + (wrap64 (1 + t252))), (rd_T33 t248 t251).f4, (rd_T33 t248 t251).f5, (rd_T33 t248 t251).f6, (rd_T33 t248 t251).f7, (rd_T33 t248 t251).f8⟩ : S33)) a3 (wrap64 (1 + t252)) t251 1) else (none)) else (none)) else (tolllaw10_LotsFields.j0 k t248 a3 (wrap64 (1 + t252)) t251 11))))))))))))) = some r := H
   have A9 := Aside0.mk A90
   clear A90
   by_cases c10 : (t248.length : Int) = 0
   · rw [if_pos c10] at H
     have c10b0 : ((t248.length : Int) == 0) = true := beq_iff_eq.mpr c10
     have c10b1 : ((t248.length : Int) != 0) = false := bne_eq_false_iff_eq.mpr c10
     clear c10
     obtain rfl := Option.some.inj H
     go_enter Try.func7, Try.ntmps7
     go_wp2_with (first | ((with_reducible refine gate_callee (f := 12) rfl ?_); refine goesL_ (some 13) rfl rfl Try.func12 (by kernel_rfl) rfl #[] rfl (by (try simp only [List.map_toArray, List.map_cons, List.map_nil]); first | done | rfl | (simp only [List.length_drop, List.length_take]; rfl)) ?_; (with_reducible refine (tolllaw10_known.calls  true _ A6.out).mono ?_); rintro e w11 ⟨rfl, hb⟩; refine ⟨_, rfl, ?_⟩; have n0_ := Aside0.mk (below_step (by repeat (first | (with_reducible first | exact HB.out | apply below_alloc | apply pw_below_drewN | apply below_drew1) | exact HB.out)) hb); clear HB; have HB := n0_; clear n0_; (try clear hb); (try clear hb2); (try clear hk); (try clear hi)) | ((with_reducible refine gate_callee (f := 13) rfl ?_); refine goesL_ (some 16) rfl rfl Try.func13 (by kernel_rfl) rfl #[.int .i64 a1, .int .i64 100000] rfl (by (try simp only [List.map_toArray, List.map_cons, List.map_nil]); first | done | rfl | (simp only [List.length_drop, List.length_take]; rfl)) ?_; (with_reducible refine (tolllaw10_within.calls a1 100000 t247 _ A8.out).mono ?_); rintro e w' ⟨rfl, rfl⟩; refine ⟨_, rfl, ?_⟩) | ((with_reducible refine gate_callee (f := 14) rfl ?_); refine goesL_ (some 19) rfl rfl Try.func14 (by kernel_rfl) rfl #[.slice A0 l0.length c0, .int .i64 t247] rfl (by (try simp only [List.map_toArray, List.map_cons, List.map_nil]); first | done | rfl | (simp only [List.length_drop, List.length_take]; rfl)) ?_; (with_reducible refine (tolllaw10_Good.calls k _ _ l0 t247 t248 _ ?side1 ?side2 A9.out).mono ?_); (case side1 => repeat (first | exact (Kd.C_below HR0.out HB.out) | (with_reducible refine Kd.C_alloc ?_ _) | (with_reducible refine Kd.C_drewN ?_ _) | (with_reducible refine Kd.C_drew ?_))); (case side2 => exact HC0.out); rintro e w12 ⟨v249, rfl, ho0, hb⟩; refine ⟨_, rfl, ?_⟩; have n0_ := Aside0.mk (Kd.R_lower ho0 (below_size (by repeat (first | (with_reducible first | exact HB.out | apply below_alloc | apply pw_below_drewN | apply below_drew1) | exact HB.out)))); have n1_ := Aside0.mk (below_step (by repeat (first | (with_reducible first | exact HB.out | apply below_alloc | apply pw_below_drewN | apply below_drew1) | exact HB.out)) hb); clear HB; have HO250 := n0_; have HB := n1_; clear n0_ n1_; (try clear hb); (try clear hb2); (try clear hk); (try clear hi); (try clear ho0); obtain ⟨Ao13, co13, eo13⟩ := Kd.R_slice HO250.out; subst eo13))
     go_ret
     exact ⟨by first | rfl | (simp [errW_none, errW_some] <;> rfl) | (simp [*, errW_none, errW_some] <;> rfl), by repeat (first | (with_reducible first | exact HB.out | apply below_alloc | apply pw_below_drewN | apply below_drew1) | exact HB.out)⟩
   · rw [if_neg c10] at H
     have c10b0 : ((t248.length : Int) == 0) = false := beq_eq_false_iff_ne.mpr c10
     have c10b1 : ((t248.length : Int) != 0) = true := bne_iff_ne.mpr c10
     have c10b2 : ¬ (t248 = []) := fun h_ => c10 (by rw [h_]; rfl)
     replace H := Option.bind_eq_some_iff.mp H
     obtain ⟨t251, A140, H⟩ := H
     replace H : ((tolllaw10_within.f a4 100).bind fun t252 => ((tolllaw10_within.f a3 8).bind fun t253 => (if t253 = 0 then (if 0 ≤ t251 then (if t251 < (t248.length : Int) then (tolllaw10_LotsFields.j0 k (t248.set (t251 : Int).toNat (⟨wrap64 (-(wrap64 (1 + t252))), (rd_T33 t248 t251).f1, (rd_T33 t248 t251).f2, (rd_T33 t248 t251).f3, (rd_T33 t248 t251).f4, (rd_T33 t248 t251).f5, (rd_T33 t248 t251).f6, (rd_T33 t248 t251).f7, (rd_T33 t248 t251).f8⟩ : S33)) a3 (wrap64 (1 + t252)) t251 1) else (none)) else (none)) else (if t253 = 1 then (if 0 ≤ t251 then (if t251 < (t248.length : Int) then (tolllaw10_LotsFields.j0 k (t248.set (t251 : Int).toNat (⟨(rd_T33 t248 t251).f0, wrap64 (2 + (wrap64 (1 + t252))), (rd_T33 t248 t251).f2, (rd_T33 t248 t251).f3, (rd_T33 t248 t251).f4, (rd_T33 t248 t251).f5, (rd_T33 t248 t251).f6, (rd_T33 t248 t251).f7, (rd_T33 t248 t251).f8⟩ : S33)) a3 (wrap64 (1 + t252)) t251 3) else (none)) else (none)) else (if t253 = 2 then (if 0 ≤ t251 then (if t251 < (t248.length : Int) then (tolllaw10_LotsFields.j0 k (t248.set (t251 : Int).toNat (⟨(rd_T33 t248 t251).f0, (rd_T33 t248 t251).f1, wrap64 (-(wrap64 (1 + t252))), (rd_T33 t248 t251).f3, (rd_T33 t248 t251).f4, (rd_T33 t248 t251).f5, (rd_T33 t248 t251).f6, (rd_T33 t248 t251).f7, (rd_T33 t248 t251).f8⟩ : S33)) a3 (wrap64 (1 + t252)) t251 1) else (none)) else (none)) else (if t253 = 3 then (if 0 ≤ t251 then (if t251 < (t248.length : Int) then (tolllaw10_LotsFields.j0 k (t248.set (t251 : Int).toNat (⟨(rd_T33 t248 t251).f0, (rd_T33 t248 t251).f1, (rd_T33 t248 t251).f2, (rd_T33 t248 t251).f2, (rd_T33 t248 t251).f4, (rd_T33 t248 t251).f5, (rd_T33 t248 t251).f6, (rd_T33 t248 t251).f7, (rd_T33 t248 t251).f8⟩ : S33)) a3 (wrap64 (1 + t252)) t251 1) else (none)) else (none)) else (if t253 = 4 then (if 0 ≤ t251 then (if t251 < (t248.length : Int) then (tolllaw10_LotsFields.j0 k (t248.set (t251 : Int).toNat (⟨(rd_T33 t248 t251).f0, (rd_T33 t248 t251).f1, (rd_T33 t248 t251).f2, (rd_T33 t248 t251).f3, (rd_T33 t248 t251).f4, (rd_T33 t248 t251).f5, wrap64 (-(wrap64 (1 + t252))), (rd_T33 t248 t251).f7, (rd_T33 t248 t251).f8⟩ : S33)) a3 (wrap64 (1 + t252)) t251 11) else (none)) else (none)) else (if t253 = 5 then (if 0 ≤ t251 then (if t251 < (t248.length : Int) then (tolllaw10_LotsFields.j0 k (t248.set (t251 : Int).toNat (⟨(rd_T33 t248 t251).f0, (rd_T33 t248 t251).f1, (rd_T33 t248 t251).f2, (rd_T33 t248 t251).f3, wrap64 ((wrap64 ((wrap64 (((rd_T33 t248 t251).f5) + ((rd_T33 t248 t251).f7))) + ((rd_T33 t248 t251).f8))) - (wrap64 (1 + t252))), (rd_T33 t248 t251).f5, (rd_T33 t248 t251).f6, (rd_T33 t248 t251).f7, (rd_T33 t248 t251).f8⟩ : S33)) a3 (wrap64 (1 + t252)) t251 11) else (none)) else (none)) else (if t253 = 6 then (if 0 ≤ t251 then (if t251 < (t248.length : Int) then (tolllaw10_LotsFields.j0 k (t248.set (t251 : Int).toNat (⟨(rd_T33 t248 t251).f0, (rd_T33 t248 t251).f1, (rd_T33 t248 t251).f2, (rd_T33 t248 t251).f3, (rd_T33 t248 t251).f4, (rd_T33 t248 t251).f5, (rd_T33 t248 t251).f6, wrap64 (1099511627776 + (wrap64 (1 + t252))), (rd_T33 t248 t251).f8⟩ : S33)) a3 (wrap64 (1 + t252)) t251 11) else (none)) else (none)) else (if t253 = 7 then (if 0 ≤ t251 then (if t251 < (t248.length : Int) then (tolllaw10_LotsFields.j0 k (t248.set (t251 : Int).toNat (⟨(rd_T33 t248 t251).f0, (rd_T33 t248 t251).f1, (rd_T33 t248 t251).f2, wrap64 (1099511627776 + (wrap64 (1 + t252))), (rd_T33 t248 t251).f4, (rd_T33 t248 t251).f5, (rd_T33 t248 t251).f6, (rd_T33 t248 t251).f7, (rd_T33 t248 t251).f8⟩ : S33)) a3 (wrap64 (1 + t252)) t251 1) else (none)) else (none)) else (tolllaw10_LotsFields.j0 k t248 a3 (wrap64 (1 + t252)) t251 11))))))))))) = some r := H
     have A14 := Aside0.mk A140
     clear A140
     replace H := Option.bind_eq_some_iff.mp H
     obtain ⟨t252, A150, H⟩ := H
     replace H : ((tolllaw10_within.f a3 8).bind fun t253 => (if t253 = 0 then (if 0 ≤ t251 then (if t251 < (t248.length : Int) then (tolllaw10_LotsFields.j0 k (t248.set (t251 : Int).toNat (⟨wrap64 (-(wrap64 (1 + t252))), (rd_T33 t248 t251).f1, (rd_T33 t248 t251).f2, (rd_T33 t248 t251).f3, (rd_T33 t248 t251).f4, (rd_T33 t248 t251).f5, (rd_T33 t248 t251).f6, (rd_T33 t248 t251).f7, (rd_T33 t248 t251).f8⟩ : S33)) a3 (wrap64 (1 + t252)) t251 1) else (none)) else (none)) else (if t253 = 1 then (if 0 ≤ t251 then (if t251 < (t248.length : Int) then (tolllaw10_LotsFields.j0 k (t248.set (t251 : Int).toNat (⟨(rd_T33 t248 t251).f0, wrap64 (2 + (wrap64 (1 + t252))), (rd_T33 t248 t251).f2, (rd_T33 t248 t251).f3, (rd_T33 t248 t251).f4, (rd_T33 t248 t251).f5, (rd_T33 t248 t251).f6, (rd_T33 t248 t251).f7, (rd_T33 t248 t251).f8⟩ : S33)) a3 (wrap64 (1 + t252)) t251 3) else (none)) else (none)) else (if t253 = 2 then (if 0 ≤ t251 then (if t251 < (t248.length : Int) then (tolllaw10_LotsFields.j0 k (t248.set (t251 : Int).toNat (⟨(rd_T33 t248 t251).f0, (rd_T33 t248 t251).f1, wrap64 (-(wrap64 (1 + t252))), (rd_T33 t248 t251).f3, (rd_T33 t248 t251).f4, (rd_T33 t248 t251).f5, (rd_T33 t248 t251).f6, (rd_T33 t248 t251).f7, (rd_T33 t248 t251).f8⟩ : S33)) a3 (wrap64 (1 + t252)) t251 1) else (none)) else (none)) else (if t253 = 3 then (if 0 ≤ t251 then (if t251 < (t248.length : Int) then (tolllaw10_LotsFields.j0 k (t248.set (t251 : Int).toNat (⟨(rd_T33 t248 t251).f0, (rd_T33 t248 t251).f1, (rd_T33 t248 t251).f2, (rd_T33 t248 t251).f2, (rd_T33 t248 t251).f4, (rd_T33 t248 t251).f5, (rd_T33 t248 t251).f6, (rd_T33 t248 t251).f7, (rd_T33 t248 t251).f8⟩ : S33)) a3 (wrap64 (1 + t252)) t251 1) else (none)) else (none)) else (if t253 = 4 then (if 0 ≤ t251 then (if t251 < (t248.length : Int) then (tolllaw10_LotsFields.j0 k (t248.set (t251 : Int).toNat (⟨(rd_T33 t248 t251).f0, (rd_T33 t248 t251).f1, (rd_T33 t248 t251).f2, (rd_T33 t248 t251).f3, (rd_T33 t248 t251).f4, (rd_T33 t248 t251).f5, wrap64 (-(wrap64 (1 + t252))), (rd_T33 t248 t251).f7, (rd_T33 t248 t251).f8⟩ : S33)) a3 (wrap64 (1 + t252)) t251 11) else (none)) else (none)) else (if t253 = 5 then (if 0 ≤ t251 then (if t251 < (t248.length : Int) then (tolllaw10_LotsFields.j0 k (t248.set (t251 : Int).toNat (⟨(rd_T33 t248 t251).f0, (rd_T33 t248 t251).f1, (rd_T33 t248 t251).f2, (rd_T33 t248 t251).f3, wrap64 ((wrap64 ((wrap64 (((rd_T33 t248 t251).f5) + ((rd_T33 t248 t251).f7))) + ((rd_T33 t248 t251).f8))) - (wrap64 (1 + t252))), (rd_T33 t248 t251).f5, (rd_T33 t248 t251).f6, (rd_T33 t248 t251).f7, (rd_T33 t248 t251).f8⟩ : S33)) a3 (wrap64 (1 + t252)) t251 11) else (none)) else (none)) else (if t253 = 6 then (if 0 ≤ t251 then (if t251 < (t248.length : Int) then (tolllaw10_LotsFields.j0 k (t248.set (t251 : Int).toNat (⟨(rd_T33 t248 t251).f0, (rd_T33 t248 t251).f1, (rd_T33 t248 t251).f2, (rd_T33 t248 t251).f3, (rd_T33 t248 t251).f4, (rd_T33 t248 t251).f5, (rd_T33 t248 t251).f6, wrap64 (1099511627776 + (wrap64 (1 + t252))), (rd_T33 t248 t251).f8⟩ : S33)) a3 (wrap64 (1 + t252)) t251 11) else (none)) else (none)) else (if t253 = 7 then (if 0 ≤ t251 then (if t251 < (t248.length : Int) then (tolllaw10_LotsFields.j0 k (t248.set (t251 : Int).toNat (⟨(rd_T33 t248 t251).f0, (rd_T33 t248 t251).f1, (rd_T33 t248 t251).f2, wrap64 (1099511627776 + (wrap64 (1 + t252))), (rd_T33 t248 t251).f4, (rd_T33 t248 t251).f5, (rd_T33 t248 t251).f6, (rd_T33 t248 t251).f7, (rd_T33 t248 t251).f8⟩ : S33)) a3 (wrap64 (1 + t252)) t251 1) else (none)) else (none)) else (tolllaw10_LotsFields.j0 k t248 a3 (wrap64 (1 + t252)) t251 11)))))))))) = some r := H
     have A15 := Aside0.mk A150
     clear A150
     replace H := Option.bind_eq_some_iff.mp H
     obtain ⟨t253, A160, H⟩ := H
     replace H : (if t253 = 0 then (if 0 ≤ t251 then (if t251 < (t248.length : Int) then (tolllaw10_LotsFields.j0 k (t248.set (t251 : Int).toNat (⟨wrap64 (-(wrap64 (1 + t252))), (rd_T33 t248 t251).f1, (rd_T33 t248 t251).f2, (rd_T33 t248 t251).f3, (rd_T33 t248 t251).f4, (rd_T33 t248 t251).f5, (rd_T33 t248 t251).f6, (rd_T33 t248 t251).f7, (rd_T33 t248 t251).f8⟩ : S33)) a3 (wrap64 (1 + t252)) t251 1) else (none)) else (none)) else (if t253 = 1 then (if 0 ≤ t251 then (if t251 < (t248.length : Int) then (tolllaw10_LotsFields.j0 k (t248.set (t251 : Int).toNat (⟨(rd_T33 t248 t251).f0, wrap64 (2 + (wrap64 (1 + t252))), (rd_T33 t248 t251).f2, (rd_T33 t248 t251).f3, (rd_T33 t248 t251).f4, (rd_T33 t248 t251).f5, (rd_T33 t248 t251).f6, (rd_T33 t248 t251).f7, (rd_T33 t248 t251).f8⟩ : S33)) a3 (wrap64 (1 + t252)) t251 3) else (none)) else (none)) else (if t253 = 2 then (if 0 ≤ t251 then (if t251 < (t248.length : Int) then (tolllaw10_LotsFields.j0 k (t248.set (t251 : Int).toNat (⟨(rd_T33 t248 t251).f0, (rd_T33 t248 t251).f1, wrap64 (-(wrap64 (1 + t252))), (rd_T33 t248 t251).f3, (rd_T33 t248 t251).f4, (rd_T33 t248 t251).f5, (rd_T33 t248 t251).f6, (rd_T33 t248 t251).f7, (rd_T33 t248 t251).f8⟩ : S33)) a3 (wrap64 (1 + t252)) t251 1) else (none)) else (none)) else (if t253 = 3 then (if 0 ≤ t251 then (if t251 < (t248.length : Int) then (tolllaw10_LotsFields.j0 k (t248.set (t251 : Int).toNat (⟨(rd_T33 t248 t251).f0, (rd_T33 t248 t251).f1, (rd_T33 t248 t251).f2, (rd_T33 t248 t251).f2, (rd_T33 t248 t251).f4, (rd_T33 t248 t251).f5, (rd_T33 t248 t251).f6, (rd_T33 t248 t251).f7, (rd_T33 t248 t251).f8⟩ : S33)) a3 (wrap64 (1 + t252)) t251 1) else (none)) else (none)) else (if t253 = 4 then (if 0 ≤ t251 then (if t251 < (t248.length : Int) then (tolllaw10_LotsFields.j0 k (t248.set (t251 : Int).toNat (⟨(rd_T33 t248 t251).f0, (rd_T33 t248 t251).f1, (rd_T33 t248 t251).f2, (rd_T33 t248 t251).f3, (rd_T33 t248 t251).f4, (rd_T33 t248 t251).f5, wrap64 (-(wrap64 (1 + t252))), (rd_T33 t248 t251).f7, (rd_T33 t248 t251).f8⟩ : S33)) a3 (wrap64 (1 + t252)) t251 11) else (none)) else (none)) else (if t253 = 5 then (if 0 ≤ t251 then (if t251 < (t248.length : Int) then (tolllaw10_LotsFields.j0 k (t248.set (t251 : Int).toNat (⟨(rd_T33 t248 t251).f0, (rd_T33 t248 t251).f1, (rd_T33 t248 t251).f2, (rd_T33 t248 t251).f3, wrap64 ((wrap64 ((wrap64 (((rd_T33 t248 t251).f5) + ((rd_T33 t248 t251).f7))) + ((rd_T33 t248 t251).f8))) - (wrap64 (1 + t252))), (rd_T33 t248 t251).f5, (rd_T33 t248 t251).f6, (rd_T33 t248 t251).f7, (rd_T33 t248 t251).f8⟩ : S33)) a3 (wrap64 (1 + t252)) t251 11) else (none)) else (none)) else (if t253 = 6 then (if 0 ≤ t251 then (if t251 < (t248.length : Int) then (tolllaw10_LotsFields.j0 k (t248.set (t251 : Int).toNat (⟨(rd_T33 t248 t251).f0, (rd_T33 t248 t251).f1, (rd_T33 t248 t251).f2, (rd_T33 t248 t251).f3, (rd_T33 t248 t251).f4, (rd_T33 t248 t251).f5, (rd_T33 t248 t251).f6, wrap64 (1099511627776 + (wrap64 (1 + t252))), (rd_T33 t248 t251).f8⟩ : S33)) a3 (wrap64 (1 + t252)) t251 11) else (none)) else (none)) else (if t253 = 7 then (if 0 ≤ t251 then (if t251 < (t248.length : Int) then (tolllaw10_LotsFields.j0 k (t248.set (t251 : Int).toNat (⟨(rd_T33 t248 t251).f0, (rd_T33 t248 t251).f1, (rd_T33 t248 t251).f2, wrap64 (1099511627776 + (wrap64 (1 + t252))), (rd_T33 t248 t251).f4, (rd_T33 t248 t251).f5, (rd_T33 t248 t251).f6, (rd_T33 t248 t251).f7, (rd_T33 t248 t251).f8⟩ : S33)) a3 (wrap64 (1 + t252)) t251 1) else (none)) else (none)) else (tolllaw10_LotsFields.j0 k t248 a3 (wrap64 (1 + t252)) t251 11))))))))) = some r := H
     have A16 := Aside0.mk A160
     clear A160
     have HC17 := Aside0.mk H
     clear H
     go_enter Try.func7, Try.ntmps7
     go_upto_block 0 with (first | ((with_reducible refine gate_callee (f := 12) rfl ?_); refine goesL_ (some 13) rfl rfl Try.func12 (by kernel_rfl) rfl #[] rfl (by (try simp only [List.map_toArray, List.map_cons, List.map_nil]); first | done | rfl | (simp only [List.length_drop, List.length_take]; rfl)) ?_; (with_reducible refine (tolllaw10_known.calls  true _ A6.out).mono ?_); rintro e w18 ⟨rfl, hb⟩; refine ⟨_, rfl, ?_⟩; have n0_ := Aside0.mk (below_step (by repeat (first | (with_reducible first | exact HB.out | apply below_alloc | apply pw_below_drewN | apply below_drew1) | exact HB.out)) hb); clear HB; have HB := n0_; clear n0_; (try clear hb); (try clear hb2); (try clear hk); (try clear hi)) | ((with_reducible refine gate_callee (f := 13) rfl ?_); refine goesL_ (some 16) rfl rfl Try.func13 (by kernel_rfl) rfl #[.int .i64 a1, .int .i64 100000] rfl (by (try simp only [List.map_toArray, List.map_cons, List.map_nil]); first | done | rfl | (simp only [List.length_drop, List.length_take]; rfl)) ?_; (with_reducible refine (tolllaw10_within.calls a1 100000 t247 _ A8.out).mono ?_); rintro e w' ⟨rfl, rfl⟩; refine ⟨_, rfl, ?_⟩) | ((with_reducible refine gate_callee (f := 14) rfl ?_); refine goesL_ (some 19) rfl rfl Try.func14 (by kernel_rfl) rfl #[.slice A0 l0.length c0, .int .i64 t247] rfl (by (try simp only [List.map_toArray, List.map_cons, List.map_nil]); first | done | rfl | (simp only [List.length_drop, List.length_take]; rfl)) ?_; (with_reducible refine (tolllaw10_Good.calls k _ _ l0 t247 t248 _ ?side1 ?side2 A9.out).mono ?_); (case side1 => repeat (first | exact (Kd.C_below HR0.out HB.out) | (with_reducible refine Kd.C_alloc ?_ _) | (with_reducible refine Kd.C_drewN ?_ _) | (with_reducible refine Kd.C_drew ?_))); (case side2 => exact HC0.out); rintro e w19 ⟨v249, rfl, ho0, hb⟩; refine ⟨_, rfl, ?_⟩; have n0_ := Aside0.mk (Kd.R_lower ho0 (below_size (by repeat (first | (with_reducible first | exact HB.out | apply below_alloc | apply pw_below_drewN | apply below_drew1) | exact HB.out)))); have n1_ := Aside0.mk (below_step (by repeat (first | (with_reducible first | exact HB.out | apply below_alloc | apply pw_below_drewN | apply below_drew1) | exact HB.out)) hb); clear HB; have HO250 := n0_; have HB := n1_; clear n0_ n1_; (try clear hb); (try clear hb2); (try clear hk); (try clear hi); (try clear ho0); obtain ⟨Ao20, co20, eo20⟩ := Kd.R_slice HO250.out; subst eo20) | ((with_reducible refine gate_callee (f := 13) rfl ?_); refine goesL_ (some 26) rfl rfl Try.func13 (by kernel_rfl) rfl #[.int .i64 a2, .int .i64 (t248.length : Int)] rfl (by (try simp only [List.map_toArray, List.map_cons, List.map_nil]); first | done | rfl | (simp only [List.length_drop, List.length_take]; rfl)) ?_; (with_reducible refine (tolllaw10_within.calls a2 (t248.length : Int) t251 _ A14.out).mono ?_); rintro e w' ⟨rfl, rfl⟩; refine ⟨_, rfl, ?_⟩) | ((with_reducible refine gate_callee (f := 13) rfl ?_); refine goesL_ (some 28) rfl rfl Try.func13 (by kernel_rfl) rfl #[.int .i64 a4, .int .i64 100] rfl (by (try simp only [List.map_toArray, List.map_cons, List.map_nil]); first | done | rfl | (simp only [List.length_drop, List.length_take]; rfl)) ?_; (with_reducible refine (tolllaw10_within.calls a4 100 t252 _ A15.out).mono ?_); rintro e w' ⟨rfl, rfl⟩; refine ⟨_, rfl, ?_⟩) | ((with_reducible refine gate_callee (f := 13) rfl ?_); refine goesL_ (some 31) rfl rfl Try.func13 (by kernel_rfl) rfl #[.int .i64 a3, .int .i64 8] rfl (by (try simp only [List.map_toArray, List.map_cons, List.map_nil]); first | done | rfl | (simp only [List.length_drop, List.length_take]; rfl)) ?_; (with_reducible refine (tolllaw10_within.calls a3 8 t253 _ A16.out).mono ?_); rintro e w' ⟨rfl, rfl⟩; refine ⟨_, rfl, ?_⟩))
     (try simp only [Act.put, List.setIfInBounds_toArray, List.set_cons_zero, List.set_cons_succ])
     go_cut [12] (fun v12 wc => ∃ (kq : Nat) (x0_16 : List (S33)) (x12_16 : Int), v12 = .int .i64 x12_16 ∧ Aside0 (tolllaw10_LotsFields.j0 kq x0_16 a3 (wrap64 (1 + t252)) t251 x12_16 = some r) ∧ Aside0 (kq ≤ k) ∧ Aside0 (Kd.R k33 33 wc w.heap.size (fun _ => True) (.slice Ao20 t248.length co20) x0_16) ∧ Aside0 (Below w.heap.size w wc))
     case first =>
      have H := HC17.out
      clear HC17
      by_cases c21 : t253 = 0
      · rw [if_pos c21] at H
        have c21b0 : (t253 == 0) = true := beq_iff_eq.mpr c21
        have c21b1 : (t253 != 0) = false := bne_eq_false_iff_eq.mpr c21
        clear c21
        (first | rw [c21b0] | (simp only [i64_w, i32_w]; rw [c21b0]) | skip)
        by_cases c22 : 0 ≤ t251
        · rw [if_pos c22] at H
          have c22b0 : decide (0 ≤ t251) = true := decide_eq_true c22
          clear c22
          by_cases c23 : t251 < (t248.length : Int)
          · rw [if_pos c23] at H
            have c23b0 : decide (t251 < (t248.length : Int)) = true := decide_eq_true c23
            clear c23
            obtain ⟨y254, hy254⟩ : ∃ y_ : List (S33), y_ = (t248.set (t251 : Int).toNat (⟨wrap64 (-(wrap64 (1 + t252))), (rd_T33 t248 t251).f1, (rd_T33 t248 t251).f2, (rd_T33 t248 t251).f3, (rd_T33 t248 t251).f4, (rd_T33 t248 t251).f5, (rd_T33 t248 t251).f6, (rd_T33 t248 t251).f7, (rd_T33 t248 t251).f8⟩ : S33)) := ⟨_, rfl⟩
            replace H : (tolllaw10_LotsFields.j0 k y254 a3 (wrap64 (1 + t252)) t251 1) = some r := by first | (rw [hy254]; with_reducible exact H) | (have H2_ := (Option.bind_some _ _).symm.trans H; rw [hy254]; with_reducible exact H2_) | (have H2_ := (Option.bind_some _ _).symm.trans H; with_reducible exact H2_) | with_reducible exact H | (rw [hy254]; exact H) | exact H
            have Ny254 := Aside0.mk hy254
            clear hy254
            have H' := Aside0.mk H
            clear H
            have p24 : 0 ≤ (t251 : Int) := of_decide_eq_true (by first | (with_reducible assumption) | assumption)
            have q24 : (t251 : Int) < ((t248.length : Int) : Int) := of_decide_eq_true (by first | (with_reducible assumption) | assumption)
            obtain ⟨go24, co24, eo24, gb24, gl24, cl24, HG24⟩ := Kd.R_form HO250.out (by omega)
            (first | cases eo24 | (injection eo24 with ea_ en_ ec_; (first | subst ea_ | (injection ea_ with ea_; subst ea_)); subst ec_; clear en_))
            have GB24 := Aside0.mk gb24
            have GG24 := Aside0.mk HG24
            clear gb24 gl24 HG24
            obtain ⟨ce24, hcl24, hM24, hcc24, hfr24⟩ := Kd.R_elem HO250.out z33 (t251 : Int) p24 q24
            obtain rfl := k33_openM hM24
            have hx24_0 : w19.cell? ⟨go24, (t251 : Int).toNat * 9, none⟩ = some (.int .i64 ((rd_T33 t248 t251).f0)) := hcc24 0 _ rfl
            have hx24_1 : w19.cell? ⟨go24, (t251 : Int).toNat * 9 + 1, none⟩ = some (.int .i64 ((rd_T33 t248 t251).f1)) := hcc24 1 _ rfl
            have hx24_2 : w19.cell? ⟨go24, (t251 : Int).toNat * 9 + 2, none⟩ = some (.int .i64 ((rd_T33 t248 t251).f2)) := hcc24 2 _ rfl
            have hx24_3 : w19.cell? ⟨go24, (t251 : Int).toNat * 9 + 3, none⟩ = some (.int .i64 ((rd_T33 t248 t251).f3)) := hcc24 3 _ rfl
            have hx24_4 : w19.cell? ⟨go24, (t251 : Int).toNat * 9 + 4, none⟩ = some (.int .i64 ((rd_T33 t248 t251).f4)) := hcc24 4 _ rfl
            have hx24_5 : w19.cell? ⟨go24, (t251 : Int).toNat * 9 + 5, none⟩ = some (.int .i64 ((rd_T33 t248 t251).f5)) := hcc24 5 _ rfl
            have hx24_6 : w19.cell? ⟨go24, (t251 : Int).toNat * 9 + 6, none⟩ = some (.int .i64 ((rd_T33 t248 t251).f6)) := hcc24 6 _ rfl
            have hx24_7 : w19.cell? ⟨go24, (t251 : Int).toNat * 9 + 7, none⟩ = some (.int .i64 ((rd_T33 t248 t251).f7)) := hcc24 7 _ rfl
            have hx24_8 : w19.cell? ⟨go24, (t251 : Int).toNat * 9 + 8, none⟩ = some (.int .i64 ((rd_T33 t248 t251).f8)) := hcc24 8 _ rfl
            have hf24_0 : w19.frozen? ⟨go24, (t251 : Int).toNat * 9, none⟩ = false := hfr24 0
            have hf24_1 : w19.frozen? ⟨go24, (t251 : Int).toNat * 9 + 1, none⟩ = false := hfr24 1
            have hf24_2 : w19.frozen? ⟨go24, (t251 : Int).toNat * 9 + 2, none⟩ = false := hfr24 2
            have hf24_3 : w19.frozen? ⟨go24, (t251 : Int).toNat * 9 + 3, none⟩ = false := hfr24 3
            have hf24_4 : w19.frozen? ⟨go24, (t251 : Int).toNat * 9 + 4, none⟩ = false := hfr24 4
            have hf24_5 : w19.frozen? ⟨go24, (t251 : Int).toNat * 9 + 5, none⟩ = false := hfr24 5
            have hf24_6 : w19.frozen? ⟨go24, (t251 : Int).toNat * 9 + 6, none⟩ = false := hfr24 6
            have hf24_7 : w19.frozen? ⟨go24, (t251 : Int).toNat * 9 + 7, none⟩ = false := hfr24 7
            have hf24_8 : w19.frozen? ⟨go24, (t251 : Int).toNat * 9 + 8, none⟩ = false := hfr24 8
            clear hcl24 hcc24 hfr24 hM24
            replace p24 := eq_true p24
            replace q24 := eq_true q24
            have HX25 := Aside0.mk (show Kd.R k33 33 w19 w.heap.size (fun _ => True) (.slice (some ⟨go24, 0, none⟩) t248.length co20) t248 from (by (with_reducible repeat (first | apply Kd.R_alloc | apply Kd.R_drewN | apply Kd.R_drew)); exact HO250.out))
            obtain ⟨ce25, hcl25, hM25, hcc25, hfr25⟩ := Kd.R_elem HX25.out z33 (t251 : Int) (of_decide_eq_true (by first | (with_reducible assumption) | assumption)) (by have h_ : (t251 : Int) < ((t248.length : Int) : Int) := of_decide_eq_true (by first | (with_reducible assumption) | assumption); first | exact h_ | (have e_ := (Kd.R_reads' HO250.out).1; omega) | simpa using h_)
            obtain rfl := k33_openM hM25
            have HP25 := Kd.R_seg HX25.out (t251 : Int) (of_decide_eq_true (by first | (with_reducible assumption) | assumption)) (by have h_ : (t251 : Int) < ((t248.length : Int) : Int) := of_decide_eq_true (by first | (with_reducible assumption) | assumption); first | exact h_ | (have e_ := (Kd.R_reads' HO250.out).1; omega) | simpa using h_) (seg := [.int .i64 (wrap64 (-(wrap64 (1 + t252))))]) (j := 0) hcl25 hcc25 (show 1 ≤ 9 from by decide) (x' := (⟨wrap64 (-(wrap64 (1 + t252))), (rd_T33 t248 t251).f1, (rd_T33 t248 t251).f2, (rd_T33 t248 t251).f3, (rd_T33 t248 t251).f4, (rd_T33 t248 t251).f5, (rd_T33 t248 t251).f6, (rd_T33 t248 t251).f7, (rd_T33 t248 t251).f8⟩ : S33)) (k33_mkM _ _ _ (⟨wrap64 (-(wrap64 (1 + t252))), (rd_T33 t248 t251).f1, (rd_T33 t248 t251).f2, (rd_T33 t248 t251).f3, (rd_T33 t248 t251).f4, (rd_T33 t248 t251).f5, (rd_T33 t248 t251).f6, (rd_T33 t248 t251).f7, (rd_T33 t248 t251).f8⟩ : S33) ) (fun _ hk => hk)
            have hx25_0 := hcc25 0 _ rfl
            (try simp only [show (k33).sz = 9 from rfl, Nat.mul_one, Nat.add_zero] at hx25_0)
            have hf25_0 := hfr25 0
            (try simp only [show (k33).sz = 9 from rfl, Nat.mul_one, Nat.add_zero] at hf25_0)
            clear hcl25 hcc25 hfr25 hM25
            go_wp2_with (first | ((with_reducible refine gate_store (t := 3) (p := 39) rfl ?_); refine store_event (t := 3) (p := 39) (v := ?vo_w26) (w1 := (w19.setCell ⟨go24, (t251 : Int).toNat * 9, none⟩ (.int .i64 (wrap64 (-(wrap64 (1 + t252))))))) ?hg ?ho ?hn ?hr ?_; (case ho => rfl); (case hg => rfl); (case hn => rfl); (case hr => first | (go_simp; done) | (go_simp; rfl)); intro w26 hw; have hg : w19.grownBy w26 (some go24) := (by rw [hw]; exact HP25.2); have hp_ : Kd.R k33 33 w26 w.heap.size (fun _ => True) (.slice (some ⟨go24, 0, none⟩) t248.length co20) y254 := (by rw [hw, Ny254.out]; exact HP25.1); clear HP25; have n0_ := Aside0.mk (hp_); have n1_ := Aside0.mk ((by rw [hw]; exact below_set (HB.out) GB24.out : Below w.heap.size w w26)); clear HO250; clear HB; have HO250 := n0_; have HB := n1_; clear n0_ n1_; clear hg hw hp_))
            go_meet
            case rel => exact ⟨_, (y254), (1), (by first | rfl | (simp; done) | (simp [*]; done)), H', ⟨by first | omega | exact Nat.le_refl _⟩, ⟨by (with_reducible repeat (first | apply Kd.R_alloc | apply Kd.R_drewN | apply Kd.R_drew)); exact HO250.out⟩, ⟨by repeat (first | (with_reducible first | exact HB.out | apply below_alloc | apply pw_below_drewN | apply below_drew1) | exact HB.out)⟩⟩
          · rw [if_neg c23] at H
            exact absurd H (by simp)
        · rw [if_neg c22] at H
          exact absurd H (by simp)
      · rw [if_neg c21] at H
        have c21b0 : (t253 == 0) = false := beq_eq_false_iff_ne.mpr c21
        have c21b1 : (t253 != 0) = true := bne_iff_ne.mpr c21
        (first | rw [c21b0] | (simp only [i64_w, i32_w]; rw [c21b0]) | skip)
        by_cases c27 : t253 = 1
        · rw [if_pos c27] at H
          have c27b0 : (t253 == 1) = true := beq_iff_eq.mpr c27
          have c27b1 : (t253 != 1) = false := bne_eq_false_iff_eq.mpr c27
          clear c27
          by_cases c28 : 0 ≤ t251
          · rw [if_pos c28] at H
            have c28b0 : decide (0 ≤ t251) = true := decide_eq_true c28
            clear c28
            by_cases c29 : t251 < (t248.length : Int)
            · rw [if_pos c29] at H
              have c29b0 : decide (t251 < (t248.length : Int)) = true := decide_eq_true c29
              clear c29
              obtain ⟨y255, hy255⟩ : ∃ y_ : List (S33), y_ = (t248.set (t251 : Int).toNat (⟨(rd_T33 t248 t251).f0, wrap64 (2 + (wrap64 (1 + t252))), (rd_T33 t248 t251).f2, (rd_T33 t248 t251).f3, (rd_T33 t248 t251).f4, (rd_T33 t248 t251).f5, (rd_T33 t248 t251).f6, (rd_T33 t248 t251).f7, (rd_T33 t248 t251).f8⟩ : S33)) := ⟨_, rfl⟩
              replace H : (tolllaw10_LotsFields.j0 k y255 a3 (wrap64 (1 + t252)) t251 3) = some r := by first | (rw [hy255]; with_reducible exact H) | (have H2_ := (Option.bind_some _ _).symm.trans H; rw [hy255]; with_reducible exact H2_) | (have H2_ := (Option.bind_some _ _).symm.trans H; with_reducible exact H2_) | with_reducible exact H | (rw [hy255]; exact H) | exact H
              have Ny255 := Aside0.mk hy255
              clear hy255
              have H' := Aside0.mk H
              clear H
              have p30 : 0 ≤ (t251 : Int) := of_decide_eq_true (by first | (with_reducible assumption) | assumption)
              have q30 : (t251 : Int) < ((t248.length : Int) : Int) := of_decide_eq_true (by first | (with_reducible assumption) | assumption)
              obtain ⟨go30, co30, eo30, gb30, gl30, cl30, HG30⟩ := Kd.R_form HO250.out (by omega)
              (first | cases eo30 | (injection eo30 with ea_ en_ ec_; (first | subst ea_ | (injection ea_ with ea_; subst ea_)); subst ec_; clear en_))
              have GB30 := Aside0.mk gb30
              have GG30 := Aside0.mk HG30
              clear gb30 gl30 HG30
              obtain ⟨ce30, hcl30, hM30, hcc30, hfr30⟩ := Kd.R_elem HO250.out z33 (t251 : Int) p30 q30
              obtain rfl := k33_openM hM30
              have hx30_0 : w19.cell? ⟨go30, (t251 : Int).toNat * 9, none⟩ = some (.int .i64 ((rd_T33 t248 t251).f0)) := hcc30 0 _ rfl
              have hx30_1 : w19.cell? ⟨go30, (t251 : Int).toNat * 9 + 1, none⟩ = some (.int .i64 ((rd_T33 t248 t251).f1)) := hcc30 1 _ rfl
              have hx30_2 : w19.cell? ⟨go30, (t251 : Int).toNat * 9 + 2, none⟩ = some (.int .i64 ((rd_T33 t248 t251).f2)) := hcc30 2 _ rfl
              have hx30_3 : w19.cell? ⟨go30, (t251 : Int).toNat * 9 + 3, none⟩ = some (.int .i64 ((rd_T33 t248 t251).f3)) := hcc30 3 _ rfl
              have hx30_4 : w19.cell? ⟨go30, (t251 : Int).toNat * 9 + 4, none⟩ = some (.int .i64 ((rd_T33 t248 t251).f4)) := hcc30 4 _ rfl
              have hx30_5 : w19.cell? ⟨go30, (t251 : Int).toNat * 9 + 5, none⟩ = some (.int .i64 ((rd_T33 t248 t251).f5)) := hcc30 5 _ rfl
              have hx30_6 : w19.cell? ⟨go30, (t251 : Int).toNat * 9 + 6, none⟩ = some (.int .i64 ((rd_T33 t248 t251).f6)) := hcc30 6 _ rfl
              have hx30_7 : w19.cell? ⟨go30, (t251 : Int).toNat * 9 + 7, none⟩ = some (.int .i64 ((rd_T33 t248 t251).f7)) := hcc30 7 _ rfl
              have hx30_8 : w19.cell? ⟨go30, (t251 : Int).toNat * 9 + 8, none⟩ = some (.int .i64 ((rd_T33 t248 t251).f8)) := hcc30 8 _ rfl
              have hf30_0 : w19.frozen? ⟨go30, (t251 : Int).toNat * 9, none⟩ = false := hfr30 0
              have hf30_1 : w19.frozen? ⟨go30, (t251 : Int).toNat * 9 + 1, none⟩ = false := hfr30 1
              have hf30_2 : w19.frozen? ⟨go30, (t251 : Int).toNat * 9 + 2, none⟩ = false := hfr30 2
              have hf30_3 : w19.frozen? ⟨go30, (t251 : Int).toNat * 9 + 3, none⟩ = false := hfr30 3
              have hf30_4 : w19.frozen? ⟨go30, (t251 : Int).toNat * 9 + 4, none⟩ = false := hfr30 4
              have hf30_5 : w19.frozen? ⟨go30, (t251 : Int).toNat * 9 + 5, none⟩ = false := hfr30 5
              have hf30_6 : w19.frozen? ⟨go30, (t251 : Int).toNat * 9 + 6, none⟩ = false := hfr30 6
              have hf30_7 : w19.frozen? ⟨go30, (t251 : Int).toNat * 9 + 7, none⟩ = false := hfr30 7
              have hf30_8 : w19.frozen? ⟨go30, (t251 : Int).toNat * 9 + 8, none⟩ = false := hfr30 8
              clear hcl30 hcc30 hfr30 hM30
              replace p30 := eq_true p30
              replace q30 := eq_true q30
              have HX31 := Aside0.mk (show Kd.R k33 33 w19 w.heap.size (fun _ => True) (.slice (some ⟨go30, 0, none⟩) t248.length co20) t248 from (by (with_reducible repeat (first | apply Kd.R_alloc | apply Kd.R_drewN | apply Kd.R_drew)); exact HO250.out))
              obtain ⟨ce31, hcl31, hM31, hcc31, hfr31⟩ := Kd.R_elem HX31.out z33 (t251 : Int) (of_decide_eq_true (by first | (with_reducible assumption) | assumption)) (by have h_ : (t251 : Int) < ((t248.length : Int) : Int) := of_decide_eq_true (by first | (with_reducible assumption) | assumption); first | exact h_ | (have e_ := (Kd.R_reads' HO250.out).1; omega) | simpa using h_)
              obtain rfl := k33_openM hM31
              have HP31 := Kd.R_seg HX31.out (t251 : Int) (of_decide_eq_true (by first | (with_reducible assumption) | assumption)) (by have h_ : (t251 : Int) < ((t248.length : Int) : Int) := of_decide_eq_true (by first | (with_reducible assumption) | assumption); first | exact h_ | (have e_ := (Kd.R_reads' HO250.out).1; omega) | simpa using h_) (seg := [.int .i64 (wrap64 (2 + (wrap64 (1 + t252))))]) (j := 1) hcl31 hcc31 (show 2 ≤ 9 from by decide) (x' := (⟨(rd_T33 t248 t251).f0, wrap64 (2 + (wrap64 (1 + t252))), (rd_T33 t248 t251).f2, (rd_T33 t248 t251).f3, (rd_T33 t248 t251).f4, (rd_T33 t248 t251).f5, (rd_T33 t248 t251).f6, (rd_T33 t248 t251).f7, (rd_T33 t248 t251).f8⟩ : S33)) (k33_mkM _ _ _ (⟨(rd_T33 t248 t251).f0, wrap64 (2 + (wrap64 (1 + t252))), (rd_T33 t248 t251).f2, (rd_T33 t248 t251).f3, (rd_T33 t248 t251).f4, (rd_T33 t248 t251).f5, (rd_T33 t248 t251).f6, (rd_T33 t248 t251).f7, (rd_T33 t248 t251).f8⟩ : S33) ) (fun _ hk => hk)
              have hx31_1 := hcc31 1 _ rfl
              (try simp only [show (k33).sz = 9 from rfl, Nat.mul_one, Nat.add_zero] at hx31_1)
              have hf31_1 := hfr31 1
              (try simp only [show (k33).sz = 9 from rfl, Nat.mul_one, Nat.add_zero] at hf31_1)
              clear hcl31 hcc31 hfr31 hM31
              go_wp2_with (first | ((with_reducible refine gate_store (t := 3) (p := 47) rfl ?_); refine store_event (t := 3) (p := 47) (v := ?vo_w32) (w1 := (w19.setCell ⟨go30, (t251 : Int).toNat * 9 + 1, none⟩ (.int .i64 (wrap64 (2 + (wrap64 (1 + t252))))))) ?hg ?ho ?hn ?hr ?_; (case ho => rfl); (case hg => rfl); (case hn => rfl); (case hr => first | (go_simp; done) | (go_simp; rfl)); intro w32 hw; have hg : w19.grownBy w32 (some go30) := (by rw [hw]; exact HP31.2); have hp_ : Kd.R k33 33 w32 w.heap.size (fun _ => True) (.slice (some ⟨go30, 0, none⟩) t248.length co20) y255 := (by rw [hw, Ny255.out]; exact HP31.1); clear HP31; have n0_ := Aside0.mk (hp_); have n1_ := Aside0.mk ((by rw [hw]; exact below_set (HB.out) GB30.out : Below w.heap.size w w32)); clear HO250; clear HB; have HO250 := n0_; have HB := n1_; clear n0_ n1_; clear hg hw hp_))
              go_meet
              case rel => exact ⟨_, (y255), (3), (by first | rfl | (simp; done) | (simp [*]; done)), H', ⟨by first | omega | exact Nat.le_refl _⟩, ⟨by (with_reducible repeat (first | apply Kd.R_alloc | apply Kd.R_drewN | apply Kd.R_drew)); exact HO250.out⟩, ⟨by repeat (first | (with_reducible first | exact HB.out | apply below_alloc | apply pw_below_drewN | apply below_drew1) | exact HB.out)⟩⟩
            · rw [if_neg c29] at H
              exact absurd H (by simp)
          · rw [if_neg c28] at H
            exact absurd H (by simp)
        · rw [if_neg c27] at H
          have c27b0 : (t253 == 1) = false := beq_eq_false_iff_ne.mpr c27
          have c27b1 : (t253 != 1) = true := bne_iff_ne.mpr c27
          by_cases c33 : t253 = 2
          · rw [if_pos c33] at H
            have c33b0 : (t253 == 2) = true := beq_iff_eq.mpr c33
            have c33b1 : (t253 != 2) = false := bne_eq_false_iff_eq.mpr c33
            clear c33
            by_cases c34 : 0 ≤ t251
            · rw [if_pos c34] at H
              have c34b0 : decide (0 ≤ t251) = true := decide_eq_true c34
              clear c34
              by_cases c35 : t251 < (t248.length : Int)
              · rw [if_pos c35] at H
                have c35b0 : decide (t251 < (t248.length : Int)) = true := decide_eq_true c35
                clear c35
                obtain ⟨y256, hy256⟩ : ∃ y_ : List (S33), y_ = (t248.set (t251 : Int).toNat (⟨(rd_T33 t248 t251).f0, (rd_T33 t248 t251).f1, wrap64 (-(wrap64 (1 + t252))), (rd_T33 t248 t251).f3, (rd_T33 t248 t251).f4, (rd_T33 t248 t251).f5, (rd_T33 t248 t251).f6, (rd_T33 t248 t251).f7, (rd_T33 t248 t251).f8⟩ : S33)) := ⟨_, rfl⟩
                replace H : (tolllaw10_LotsFields.j0 k y256 a3 (wrap64 (1 + t252)) t251 1) = some r := by first | (rw [hy256]; with_reducible exact H) | (have H2_ := (Option.bind_some _ _).symm.trans H; rw [hy256]; with_reducible exact H2_) | (have H2_ := (Option.bind_some _ _).symm.trans H; with_reducible exact H2_) | with_reducible exact H | (rw [hy256]; exact H) | exact H
                have Ny256 := Aside0.mk hy256
                clear hy256
                have H' := Aside0.mk H
                clear H
                have p36 : 0 ≤ (t251 : Int) := of_decide_eq_true (by first | (with_reducible assumption) | assumption)
                have q36 : (t251 : Int) < ((t248.length : Int) : Int) := of_decide_eq_true (by first | (with_reducible assumption) | assumption)
                obtain ⟨go36, co36, eo36, gb36, gl36, cl36, HG36⟩ := Kd.R_form HO250.out (by omega)
                (first | cases eo36 | (injection eo36 with ea_ en_ ec_; (first | subst ea_ | (injection ea_ with ea_; subst ea_)); subst ec_; clear en_))
                have GB36 := Aside0.mk gb36
                have GG36 := Aside0.mk HG36
                clear gb36 gl36 HG36
                obtain ⟨ce36, hcl36, hM36, hcc36, hfr36⟩ := Kd.R_elem HO250.out z33 (t251 : Int) p36 q36
                obtain rfl := k33_openM hM36
                have hx36_0 : w19.cell? ⟨go36, (t251 : Int).toNat * 9, none⟩ = some (.int .i64 ((rd_T33 t248 t251).f0)) := hcc36 0 _ rfl
                have hx36_1 : w19.cell? ⟨go36, (t251 : Int).toNat * 9 + 1, none⟩ = some (.int .i64 ((rd_T33 t248 t251).f1)) := hcc36 1 _ rfl
                have hx36_2 : w19.cell? ⟨go36, (t251 : Int).toNat * 9 + 2, none⟩ = some (.int .i64 ((rd_T33 t248 t251).f2)) := hcc36 2 _ rfl
                have hx36_3 : w19.cell? ⟨go36, (t251 : Int).toNat * 9 + 3, none⟩ = some (.int .i64 ((rd_T33 t248 t251).f3)) := hcc36 3 _ rfl
                have hx36_4 : w19.cell? ⟨go36, (t251 : Int).toNat * 9 + 4, none⟩ = some (.int .i64 ((rd_T33 t248 t251).f4)) := hcc36 4 _ rfl
                have hx36_5 : w19.cell? ⟨go36, (t251 : Int).toNat * 9 + 5, none⟩ = some (.int .i64 ((rd_T33 t248 t251).f5)) := hcc36 5 _ rfl
                have hx36_6 : w19.cell? ⟨go36, (t251 : Int).toNat * 9 + 6, none⟩ = some (.int .i64 ((rd_T33 t248 t251).f6)) := hcc36 6 _ rfl
                have hx36_7 : w19.cell? ⟨go36, (t251 : Int).toNat * 9 + 7, none⟩ = some (.int .i64 ((rd_T33 t248 t251).f7)) := hcc36 7 _ rfl
                have hx36_8 : w19.cell? ⟨go36, (t251 : Int).toNat * 9 + 8, none⟩ = some (.int .i64 ((rd_T33 t248 t251).f8)) := hcc36 8 _ rfl
                have hf36_0 : w19.frozen? ⟨go36, (t251 : Int).toNat * 9, none⟩ = false := hfr36 0
                have hf36_1 : w19.frozen? ⟨go36, (t251 : Int).toNat * 9 + 1, none⟩ = false := hfr36 1
                have hf36_2 : w19.frozen? ⟨go36, (t251 : Int).toNat * 9 + 2, none⟩ = false := hfr36 2
                have hf36_3 : w19.frozen? ⟨go36, (t251 : Int).toNat * 9 + 3, none⟩ = false := hfr36 3
                have hf36_4 : w19.frozen? ⟨go36, (t251 : Int).toNat * 9 + 4, none⟩ = false := hfr36 4
                have hf36_5 : w19.frozen? ⟨go36, (t251 : Int).toNat * 9 + 5, none⟩ = false := hfr36 5
                have hf36_6 : w19.frozen? ⟨go36, (t251 : Int).toNat * 9 + 6, none⟩ = false := hfr36 6
                have hf36_7 : w19.frozen? ⟨go36, (t251 : Int).toNat * 9 + 7, none⟩ = false := hfr36 7
                have hf36_8 : w19.frozen? ⟨go36, (t251 : Int).toNat * 9 + 8, none⟩ = false := hfr36 8
                clear hcl36 hcc36 hfr36 hM36
                replace p36 := eq_true p36
                replace q36 := eq_true q36
                have HX37 := Aside0.mk (show Kd.R k33 33 w19 w.heap.size (fun _ => True) (.slice (some ⟨go36, 0, none⟩) t248.length co20) t248 from (by (with_reducible repeat (first | apply Kd.R_alloc | apply Kd.R_drewN | apply Kd.R_drew)); exact HO250.out))
                obtain ⟨ce37, hcl37, hM37, hcc37, hfr37⟩ := Kd.R_elem HX37.out z33 (t251 : Int) (of_decide_eq_true (by first | (with_reducible assumption) | assumption)) (by have h_ : (t251 : Int) < ((t248.length : Int) : Int) := of_decide_eq_true (by first | (with_reducible assumption) | assumption); first | exact h_ | (have e_ := (Kd.R_reads' HO250.out).1; omega) | simpa using h_)
                obtain rfl := k33_openM hM37
                have HP37 := Kd.R_seg HX37.out (t251 : Int) (of_decide_eq_true (by first | (with_reducible assumption) | assumption)) (by have h_ : (t251 : Int) < ((t248.length : Int) : Int) := of_decide_eq_true (by first | (with_reducible assumption) | assumption); first | exact h_ | (have e_ := (Kd.R_reads' HO250.out).1; omega) | simpa using h_) (seg := [.int .i64 (wrap64 (-(wrap64 (1 + t252))))]) (j := 2) hcl37 hcc37 (show 3 ≤ 9 from by decide) (x' := (⟨(rd_T33 t248 t251).f0, (rd_T33 t248 t251).f1, wrap64 (-(wrap64 (1 + t252))), (rd_T33 t248 t251).f3, (rd_T33 t248 t251).f4, (rd_T33 t248 t251).f5, (rd_T33 t248 t251).f6, (rd_T33 t248 t251).f7, (rd_T33 t248 t251).f8⟩ : S33)) (k33_mkM _ _ _ (⟨(rd_T33 t248 t251).f0, (rd_T33 t248 t251).f1, wrap64 (-(wrap64 (1 + t252))), (rd_T33 t248 t251).f3, (rd_T33 t248 t251).f4, (rd_T33 t248 t251).f5, (rd_T33 t248 t251).f6, (rd_T33 t248 t251).f7, (rd_T33 t248 t251).f8⟩ : S33) ) (fun _ hk => hk)
                have hx37_2 := hcc37 2 _ rfl
                (try simp only [show (k33).sz = 9 from rfl, Nat.mul_one, Nat.add_zero] at hx37_2)
                have hf37_2 := hfr37 2
                (try simp only [show (k33).sz = 9 from rfl, Nat.mul_one, Nat.add_zero] at hf37_2)
                clear hcl37 hcc37 hfr37 hM37
                go_wp2_with (first | ((with_reducible refine gate_store (t := 3) (p := 55) rfl ?_); refine store_event (t := 3) (p := 55) (v := ?vo_w38) (w1 := (w19.setCell ⟨go36, (t251 : Int).toNat * 9 + 2, none⟩ (.int .i64 (wrap64 (-(wrap64 (1 + t252))))))) ?hg ?ho ?hn ?hr ?_; (case ho => rfl); (case hg => rfl); (case hn => rfl); (case hr => first | (go_simp; done) | (go_simp; rfl)); intro w38 hw; have hg : w19.grownBy w38 (some go36) := (by rw [hw]; exact HP37.2); have hp_ : Kd.R k33 33 w38 w.heap.size (fun _ => True) (.slice (some ⟨go36, 0, none⟩) t248.length co20) y256 := (by rw [hw, Ny256.out]; exact HP37.1); clear HP37; have n0_ := Aside0.mk (hp_); have n1_ := Aside0.mk ((by rw [hw]; exact below_set (HB.out) GB36.out : Below w.heap.size w w38)); clear HO250; clear HB; have HO250 := n0_; have HB := n1_; clear n0_ n1_; clear hg hw hp_))
                go_meet
                case rel => exact ⟨_, (y256), (1), (by first | rfl | (simp; done) | (simp [*]; done)), H', ⟨by first | omega | exact Nat.le_refl _⟩, ⟨by (with_reducible repeat (first | apply Kd.R_alloc | apply Kd.R_drewN | apply Kd.R_drew)); exact HO250.out⟩, ⟨by repeat (first | (with_reducible first | exact HB.out | apply below_alloc | apply pw_below_drewN | apply below_drew1) | exact HB.out)⟩⟩
              · rw [if_neg c35] at H
                exact absurd H (by simp)
            · rw [if_neg c34] at H
              exact absurd H (by simp)
          · rw [if_neg c33] at H
            have c33b0 : (t253 == 2) = false := beq_eq_false_iff_ne.mpr c33
            have c33b1 : (t253 != 2) = true := bne_iff_ne.mpr c33
            by_cases c39 : t253 = 3
            · rw [if_pos c39] at H
              have c39b0 : (t253 == 3) = true := beq_iff_eq.mpr c39
              have c39b1 : (t253 != 3) = false := bne_eq_false_iff_eq.mpr c39
              clear c39
              by_cases c40 : 0 ≤ t251
              · rw [if_pos c40] at H
                have c40b0 : decide (0 ≤ t251) = true := decide_eq_true c40
                clear c40
                by_cases c41 : t251 < (t248.length : Int)
                · rw [if_pos c41] at H
                  have c41b0 : decide (t251 < (t248.length : Int)) = true := decide_eq_true c41
                  clear c41
                  obtain ⟨y258, hy258⟩ : ∃ y_ : List (S33), y_ = (t248.set (t251 : Int).toNat (⟨(rd_T33 t248 t251).f0, (rd_T33 t248 t251).f1, (rd_T33 t248 t251).f2, (rd_T33 t248 t251).f2, (rd_T33 t248 t251).f4, (rd_T33 t248 t251).f5, (rd_T33 t248 t251).f6, (rd_T33 t248 t251).f7, (rd_T33 t248 t251).f8⟩ : S33)) := ⟨_, rfl⟩
                  replace H : (tolllaw10_LotsFields.j0 k y258 a3 (wrap64 (1 + t252)) t251 1) = some r := by first | (rw [hy258]; with_reducible exact H) | (have H2_ := (Option.bind_some _ _).symm.trans H; rw [hy258]; with_reducible exact H2_) | (have H2_ := (Option.bind_some _ _).symm.trans H; with_reducible exact H2_) | with_reducible exact H | (rw [hy258]; exact H) | exact H
                  have Ny258 := Aside0.mk hy258
                  clear hy258
                  have H' := Aside0.mk H
                  clear H
                  have p257 : 0 ≤ (t251 : Int) := of_decide_eq_true (by first | (with_reducible assumption) | assumption)
                  have q257 : t251 < (t248.length : Int) := of_decide_eq_true (by first | (with_reducible assumption) | assumption)
                  obtain ⟨ad257, e257, hx257_0, hx257_1, hx257_2, hx257_3, hx257_4, hx257_5, hx257_6, hx257_7, hx257_8⟩ := at_T33 (Kd.R_reads' HO250.out).2.2 t251 p257 q257
                  cases e257
                  replace p257 := eq_true p257
                  replace q257 := eq_true q257
                  have p42 : 0 ≤ (t251 : Int) := of_decide_eq_true (by first | (with_reducible assumption) | assumption)
                  have q42 : (t251 : Int) < ((t248.length : Int) : Int) := of_decide_eq_true (by first | (with_reducible assumption) | assumption)
                  obtain ⟨go42, co42, eo42, gb42, gl42, cl42, HG42⟩ := Kd.R_form HO250.out (by omega)
                  (first | cases eo42 | (injection eo42 with ea_ en_ ec_; (first | subst ea_ | (injection ea_ with ea_; subst ea_)); subst ec_; clear en_))
                  have GB42 := Aside0.mk gb42
                  have GG42 := Aside0.mk HG42
                  clear gb42 gl42 HG42
                  (first | simp only [add_plain] at hx257_0 | skip)
                  (first | simp only [add_plain] at hx257_1 | skip)
                  (first | simp only [add_plain] at hx257_2 | skip)
                  (first | simp only [add_plain] at hx257_3 | skip)
                  (first | simp only [add_plain] at hx257_4 | skip)
                  (first | simp only [add_plain] at hx257_5 | skip)
                  (first | simp only [add_plain] at hx257_6 | skip)
                  (first | simp only [add_plain] at hx257_7 | skip)
                  (first | simp only [add_plain] at hx257_8 | skip)
                  obtain ⟨ce42, hcl42, hM42, hcc42, hfr42⟩ := Kd.R_elem HO250.out z33 (t251 : Int) p42 q42
                  obtain rfl := k33_openM hM42
                  have hx42_0 : w19.cell? ⟨go42, (t251 : Int).toNat * 9, none⟩ = some (.int .i64 ((rd_T33 t248 t251).f0)) := hcc42 0 _ rfl
                  have hx42_1 : w19.cell? ⟨go42, (t251 : Int).toNat * 9 + 1, none⟩ = some (.int .i64 ((rd_T33 t248 t251).f1)) := hcc42 1 _ rfl
                  have hx42_2 : w19.cell? ⟨go42, (t251 : Int).toNat * 9 + 2, none⟩ = some (.int .i64 ((rd_T33 t248 t251).f2)) := hcc42 2 _ rfl
                  have hx42_3 : w19.cell? ⟨go42, (t251 : Int).toNat * 9 + 3, none⟩ = some (.int .i64 ((rd_T33 t248 t251).f3)) := hcc42 3 _ rfl
                  have hx42_4 : w19.cell? ⟨go42, (t251 : Int).toNat * 9 + 4, none⟩ = some (.int .i64 ((rd_T33 t248 t251).f4)) := hcc42 4 _ rfl
                  have hx42_5 : w19.cell? ⟨go42, (t251 : Int).toNat * 9 + 5, none⟩ = some (.int .i64 ((rd_T33 t248 t251).f5)) := hcc42 5 _ rfl
                  have hx42_6 : w19.cell? ⟨go42, (t251 : Int).toNat * 9 + 6, none⟩ = some (.int .i64 ((rd_T33 t248 t251).f6)) := hcc42 6 _ rfl
                  have hx42_7 : w19.cell? ⟨go42, (t251 : Int).toNat * 9 + 7, none⟩ = some (.int .i64 ((rd_T33 t248 t251).f7)) := hcc42 7 _ rfl
                  have hx42_8 : w19.cell? ⟨go42, (t251 : Int).toNat * 9 + 8, none⟩ = some (.int .i64 ((rd_T33 t248 t251).f8)) := hcc42 8 _ rfl
                  have hf42_0 : w19.frozen? ⟨go42, (t251 : Int).toNat * 9, none⟩ = false := hfr42 0
                  have hf42_1 : w19.frozen? ⟨go42, (t251 : Int).toNat * 9 + 1, none⟩ = false := hfr42 1
                  have hf42_2 : w19.frozen? ⟨go42, (t251 : Int).toNat * 9 + 2, none⟩ = false := hfr42 2
                  have hf42_3 : w19.frozen? ⟨go42, (t251 : Int).toNat * 9 + 3, none⟩ = false := hfr42 3
                  have hf42_4 : w19.frozen? ⟨go42, (t251 : Int).toNat * 9 + 4, none⟩ = false := hfr42 4
                  have hf42_5 : w19.frozen? ⟨go42, (t251 : Int).toNat * 9 + 5, none⟩ = false := hfr42 5
                  have hf42_6 : w19.frozen? ⟨go42, (t251 : Int).toNat * 9 + 6, none⟩ = false := hfr42 6
                  have hf42_7 : w19.frozen? ⟨go42, (t251 : Int).toNat * 9 + 7, none⟩ = false := hfr42 7
                  have hf42_8 : w19.frozen? ⟨go42, (t251 : Int).toNat * 9 + 8, none⟩ = false := hfr42 8
                  clear hcl42 hcc42 hfr42 hM42
                  replace p42 := eq_true p42
                  replace q42 := eq_true q42
                  have HX43 := Aside0.mk (show Kd.R k33 33 w19 w.heap.size (fun _ => True) (.slice (some ⟨go42, 0, none⟩) t248.length co20) t248 from (by (with_reducible repeat (first | apply Kd.R_alloc | apply Kd.R_drewN | apply Kd.R_drew)); exact HO250.out))
                  obtain ⟨ce43, hcl43, hM43, hcc43, hfr43⟩ := Kd.R_elem HX43.out z33 (t251 : Int) (of_decide_eq_true (by first | (with_reducible assumption) | assumption)) (by have h_ : (t251 : Int) < ((t248.length : Int) : Int) := of_decide_eq_true (by first | (with_reducible assumption) | assumption); first | exact h_ | (have e_ := (Kd.R_reads' HO250.out).1; omega) | simpa using h_)
                  obtain rfl := k33_openM hM43
                  have HP43 := Kd.R_seg HX43.out (t251 : Int) (of_decide_eq_true (by first | (with_reducible assumption) | assumption)) (by have h_ : (t251 : Int) < ((t248.length : Int) : Int) := of_decide_eq_true (by first | (with_reducible assumption) | assumption); first | exact h_ | (have e_ := (Kd.R_reads' HO250.out).1; omega) | simpa using h_) (seg := [.int .i64 ((rd_T33 t248 t251).f2)]) (j := 3) hcl43 hcc43 (show 4 ≤ 9 from by decide) (x' := (⟨(rd_T33 t248 t251).f0, (rd_T33 t248 t251).f1, (rd_T33 t248 t251).f2, (rd_T33 t248 t251).f2, (rd_T33 t248 t251).f4, (rd_T33 t248 t251).f5, (rd_T33 t248 t251).f6, (rd_T33 t248 t251).f7, (rd_T33 t248 t251).f8⟩ : S33)) (k33_mkM _ _ _ (⟨(rd_T33 t248 t251).f0, (rd_T33 t248 t251).f1, (rd_T33 t248 t251).f2, (rd_T33 t248 t251).f2, (rd_T33 t248 t251).f4, (rd_T33 t248 t251).f5, (rd_T33 t248 t251).f6, (rd_T33 t248 t251).f7, (rd_T33 t248 t251).f8⟩ : S33) ) (fun _ hk => hk)
                  have hx43_3 := hcc43 3 _ rfl
                  (try simp only [show (k33).sz = 9 from rfl, Nat.mul_one, Nat.add_zero] at hx43_3)
                  have hf43_3 := hfr43 3
                  (try simp only [show (k33).sz = 9 from rfl, Nat.mul_one, Nat.add_zero] at hf43_3)
                  clear hcl43 hcc43 hfr43 hM43
                  go_wp2_with (first | ((with_reducible refine gate_store (t := 3) (p := 66) rfl ?_); refine store_event (t := 3) (p := 66) (v := ?vo_w44) (w1 := (w19.setCell ⟨go42, (t251 : Int).toNat * 9 + 3, none⟩ (.int .i64 ((rd_T33 t248 t251).f2)))) ?hg ?ho ?hn ?hr ?_; (case ho => rfl); (case hg => rfl); (case hn => rfl); (case hr => first | (go_simp; done) | (go_simp; rfl)); intro w44 hw; have hg : w19.grownBy w44 (some go42) := (by rw [hw]; exact HP43.2); have hp_ : Kd.R k33 33 w44 w.heap.size (fun _ => True) (.slice (some ⟨go42, 0, none⟩) t248.length co20) y258 := (by rw [hw, Ny258.out]; exact HP43.1); clear HP43; have n0_ := Aside0.mk (hp_); have n1_ := Aside0.mk ((by rw [hw]; exact below_set (HB.out) GB42.out : Below w.heap.size w w44)); clear HO250; clear HB; have HO250 := n0_; have HB := n1_; clear n0_ n1_; clear hg hw hp_))
                  go_meet
                  case rel => exact ⟨_, (y258), (1), (by first | rfl | (simp; done) | (simp [*]; done)), H', ⟨by first | omega | exact Nat.le_refl _⟩, ⟨by (with_reducible repeat (first | apply Kd.R_alloc | apply Kd.R_drewN | apply Kd.R_drew)); exact HO250.out⟩, ⟨by repeat (first | (with_reducible first | exact HB.out | apply below_alloc | apply pw_below_drewN | apply below_drew1) | exact HB.out)⟩⟩
                · rw [if_neg c41] at H
                  exact absurd H (by simp)
              · rw [if_neg c40] at H
                exact absurd H (by simp)
            · rw [if_neg c39] at H
              have c39b0 : (t253 == 3) = false := beq_eq_false_iff_ne.mpr c39
              have c39b1 : (t253 != 3) = true := bne_iff_ne.mpr c39
              by_cases c45 : t253 = 4
              · rw [if_pos c45] at H
                have c45b0 : (t253 == 4) = true := beq_iff_eq.mpr c45
                have c45b1 : (t253 != 4) = false := bne_eq_false_iff_eq.mpr c45
                clear c45
                by_cases c46 : 0 ≤ t251
                · rw [if_pos c46] at H
                  have c46b0 : decide (0 ≤ t251) = true := decide_eq_true c46
                  clear c46
                  by_cases c47 : t251 < (t248.length : Int)
                  · rw [if_pos c47] at H
                    have c47b0 : decide (t251 < (t248.length : Int)) = true := decide_eq_true c47
                    clear c47
                    obtain ⟨y259, hy259⟩ : ∃ y_ : List (S33), y_ = (t248.set (t251 : Int).toNat (⟨(rd_T33 t248 t251).f0, (rd_T33 t248 t251).f1, (rd_T33 t248 t251).f2, (rd_T33 t248 t251).f3, (rd_T33 t248 t251).f4, (rd_T33 t248 t251).f5, wrap64 (-(wrap64 (1 + t252))), (rd_T33 t248 t251).f7, (rd_T33 t248 t251).f8⟩ : S33)) := ⟨_, rfl⟩
                    replace H : (tolllaw10_LotsFields.j0 k y259 a3 (wrap64 (1 + t252)) t251 11) = some r := by first | (rw [hy259]; with_reducible exact H) | (have H2_ := (Option.bind_some _ _).symm.trans H; rw [hy259]; with_reducible exact H2_) | (have H2_ := (Option.bind_some _ _).symm.trans H; with_reducible exact H2_) | with_reducible exact H | (rw [hy259]; exact H) | exact H
                    have Ny259 := Aside0.mk hy259
                    clear hy259
                    have H' := Aside0.mk H
                    clear H
                    have p48 : 0 ≤ (t251 : Int) := of_decide_eq_true (by first | (with_reducible assumption) | assumption)
                    have q48 : (t251 : Int) < ((t248.length : Int) : Int) := of_decide_eq_true (by first | (with_reducible assumption) | assumption)
                    obtain ⟨go48, co48, eo48, gb48, gl48, cl48, HG48⟩ := Kd.R_form HO250.out (by omega)
                    (first | cases eo48 | (injection eo48 with ea_ en_ ec_; (first | subst ea_ | (injection ea_ with ea_; subst ea_)); subst ec_; clear en_))
                    have GB48 := Aside0.mk gb48
                    have GG48 := Aside0.mk HG48
                    clear gb48 gl48 HG48
                    obtain ⟨ce48, hcl48, hM48, hcc48, hfr48⟩ := Kd.R_elem HO250.out z33 (t251 : Int) p48 q48
                    obtain rfl := k33_openM hM48
                    have hx48_0 : w19.cell? ⟨go48, (t251 : Int).toNat * 9, none⟩ = some (.int .i64 ((rd_T33 t248 t251).f0)) := hcc48 0 _ rfl
                    have hx48_1 : w19.cell? ⟨go48, (t251 : Int).toNat * 9 + 1, none⟩ = some (.int .i64 ((rd_T33 t248 t251).f1)) := hcc48 1 _ rfl
                    have hx48_2 : w19.cell? ⟨go48, (t251 : Int).toNat * 9 + 2, none⟩ = some (.int .i64 ((rd_T33 t248 t251).f2)) := hcc48 2 _ rfl
                    have hx48_3 : w19.cell? ⟨go48, (t251 : Int).toNat * 9 + 3, none⟩ = some (.int .i64 ((rd_T33 t248 t251).f3)) := hcc48 3 _ rfl
                    have hx48_4 : w19.cell? ⟨go48, (t251 : Int).toNat * 9 + 4, none⟩ = some (.int .i64 ((rd_T33 t248 t251).f4)) := hcc48 4 _ rfl
                    have hx48_5 : w19.cell? ⟨go48, (t251 : Int).toNat * 9 + 5, none⟩ = some (.int .i64 ((rd_T33 t248 t251).f5)) := hcc48 5 _ rfl
                    have hx48_6 : w19.cell? ⟨go48, (t251 : Int).toNat * 9 + 6, none⟩ = some (.int .i64 ((rd_T33 t248 t251).f6)) := hcc48 6 _ rfl
                    have hx48_7 : w19.cell? ⟨go48, (t251 : Int).toNat * 9 + 7, none⟩ = some (.int .i64 ((rd_T33 t248 t251).f7)) := hcc48 7 _ rfl
                    have hx48_8 : w19.cell? ⟨go48, (t251 : Int).toNat * 9 + 8, none⟩ = some (.int .i64 ((rd_T33 t248 t251).f8)) := hcc48 8 _ rfl
                    have hf48_0 : w19.frozen? ⟨go48, (t251 : Int).toNat * 9, none⟩ = false := hfr48 0
                    have hf48_1 : w19.frozen? ⟨go48, (t251 : Int).toNat * 9 + 1, none⟩ = false := hfr48 1
                    have hf48_2 : w19.frozen? ⟨go48, (t251 : Int).toNat * 9 + 2, none⟩ = false := hfr48 2
                    have hf48_3 : w19.frozen? ⟨go48, (t251 : Int).toNat * 9 + 3, none⟩ = false := hfr48 3
                    have hf48_4 : w19.frozen? ⟨go48, (t251 : Int).toNat * 9 + 4, none⟩ = false := hfr48 4
                    have hf48_5 : w19.frozen? ⟨go48, (t251 : Int).toNat * 9 + 5, none⟩ = false := hfr48 5
                    have hf48_6 : w19.frozen? ⟨go48, (t251 : Int).toNat * 9 + 6, none⟩ = false := hfr48 6
                    have hf48_7 : w19.frozen? ⟨go48, (t251 : Int).toNat * 9 + 7, none⟩ = false := hfr48 7
                    have hf48_8 : w19.frozen? ⟨go48, (t251 : Int).toNat * 9 + 8, none⟩ = false := hfr48 8
                    clear hcl48 hcc48 hfr48 hM48
                    replace p48 := eq_true p48
                    replace q48 := eq_true q48
                    have HX49 := Aside0.mk (show Kd.R k33 33 w19 w.heap.size (fun _ => True) (.slice (some ⟨go48, 0, none⟩) t248.length co20) t248 from (by (with_reducible repeat (first | apply Kd.R_alloc | apply Kd.R_drewN | apply Kd.R_drew)); exact HO250.out))
                    obtain ⟨ce49, hcl49, hM49, hcc49, hfr49⟩ := Kd.R_elem HX49.out z33 (t251 : Int) (of_decide_eq_true (by first | (with_reducible assumption) | assumption)) (by have h_ : (t251 : Int) < ((t248.length : Int) : Int) := of_decide_eq_true (by first | (with_reducible assumption) | assumption); first | exact h_ | (have e_ := (Kd.R_reads' HO250.out).1; omega) | simpa using h_)
                    obtain rfl := k33_openM hM49
                    have HP49 := Kd.R_seg HX49.out (t251 : Int) (of_decide_eq_true (by first | (with_reducible assumption) | assumption)) (by have h_ : (t251 : Int) < ((t248.length : Int) : Int) := of_decide_eq_true (by first | (with_reducible assumption) | assumption); first | exact h_ | (have e_ := (Kd.R_reads' HO250.out).1; omega) | simpa using h_) (seg := [.int .i64 (wrap64 (-(wrap64 (1 + t252))))]) (j := 6) hcl49 hcc49 (show 7 ≤ 9 from by decide) (x' := (⟨(rd_T33 t248 t251).f0, (rd_T33 t248 t251).f1, (rd_T33 t248 t251).f2, (rd_T33 t248 t251).f3, (rd_T33 t248 t251).f4, (rd_T33 t248 t251).f5, wrap64 (-(wrap64 (1 + t252))), (rd_T33 t248 t251).f7, (rd_T33 t248 t251).f8⟩ : S33)) (k33_mkM _ _ _ (⟨(rd_T33 t248 t251).f0, (rd_T33 t248 t251).f1, (rd_T33 t248 t251).f2, (rd_T33 t248 t251).f3, (rd_T33 t248 t251).f4, (rd_T33 t248 t251).f5, wrap64 (-(wrap64 (1 + t252))), (rd_T33 t248 t251).f7, (rd_T33 t248 t251).f8⟩ : S33) ) (fun _ hk => hk)
                    have hx49_6 := hcc49 6 _ rfl
                    (try simp only [show (k33).sz = 9 from rfl, Nat.mul_one, Nat.add_zero] at hx49_6)
                    have hf49_6 := hfr49 6
                    (try simp only [show (k33).sz = 9 from rfl, Nat.mul_one, Nat.add_zero] at hf49_6)
                    clear hcl49 hcc49 hfr49 hM49
                    go_wp2_with (first | ((with_reducible refine gate_store (t := 3) (p := 74) rfl ?_); refine store_event (t := 3) (p := 74) (v := ?vo_w50) (w1 := (w19.setCell ⟨go48, (t251 : Int).toNat * 9 + 6, none⟩ (.int .i64 (wrap64 (-(wrap64 (1 + t252))))))) ?hg ?ho ?hn ?hr ?_; (case ho => rfl); (case hg => rfl); (case hn => rfl); (case hr => first | (go_simp; done) | (go_simp; rfl)); intro w50 hw; have hg : w19.grownBy w50 (some go48) := (by rw [hw]; exact HP49.2); have hp_ : Kd.R k33 33 w50 w.heap.size (fun _ => True) (.slice (some ⟨go48, 0, none⟩) t248.length co20) y259 := (by rw [hw, Ny259.out]; exact HP49.1); clear HP49; have n0_ := Aside0.mk (hp_); have n1_ := Aside0.mk ((by rw [hw]; exact below_set (HB.out) GB48.out : Below w.heap.size w w50)); clear HO250; clear HB; have HO250 := n0_; have HB := n1_; clear n0_ n1_; clear hg hw hp_))
                    go_meet
                    case rel => exact ⟨_, (y259), (11), (by first | rfl | (simp; done) | (simp [*]; done)), H', ⟨by first | omega | exact Nat.le_refl _⟩, ⟨by (with_reducible repeat (first | apply Kd.R_alloc | apply Kd.R_drewN | apply Kd.R_drew)); exact HO250.out⟩, ⟨by repeat (first | (with_reducible first | exact HB.out | apply below_alloc | apply pw_below_drewN | apply below_drew1) | exact HB.out)⟩⟩
                  · rw [if_neg c47] at H
                    exact absurd H (by simp)
                · rw [if_neg c46] at H
                  exact absurd H (by simp)
              · rw [if_neg c45] at H
                have c45b0 : (t253 == 4) = false := beq_eq_false_iff_ne.mpr c45
                have c45b1 : (t253 != 4) = true := bne_iff_ne.mpr c45
                by_cases c51 : t253 = 5
                · rw [if_pos c51] at H
                  have c51b0 : (t253 == 5) = true := beq_iff_eq.mpr c51
                  have c51b1 : (t253 != 5) = false := bne_eq_false_iff_eq.mpr c51
                  clear c51
                  by_cases c52 : 0 ≤ t251
                  · rw [if_pos c52] at H
                    have c52b0 : decide (0 ≤ t251) = true := decide_eq_true c52
                    clear c52
                    by_cases c53 : t251 < (t248.length : Int)
                    · rw [if_pos c53] at H
                      have c53b0 : decide (t251 < (t248.length : Int)) = true := decide_eq_true c53
                      clear c53
                      obtain ⟨y263, hy263⟩ : ∃ y_ : List (S33), y_ = (t248.set (t251 : Int).toNat (⟨(rd_T33 t248 t251).f0, (rd_T33 t248 t251).f1, (rd_T33 t248 t251).f2, (rd_T33 t248 t251).f3, wrap64 ((wrap64 ((wrap64 (((rd_T33 t248 t251).f5) + ((rd_T33 t248 t251).f7))) + ((rd_T33 t248 t251).f8))) - (wrap64 (1 + t252))), (rd_T33 t248 t251).f5, (rd_T33 t248 t251).f6, (rd_T33 t248 t251).f7, (rd_T33 t248 t251).f8⟩ : S33)) := ⟨_, rfl⟩
                      replace H : (tolllaw10_LotsFields.j0 k y263 a3 (wrap64 (1 + t252)) t251 11) = some r := by first | (rw [hy263]; with_reducible exact H) | (have H2_ := (Option.bind_some _ _).symm.trans H; rw [hy263]; with_reducible exact H2_) | (have H2_ := (Option.bind_some _ _).symm.trans H; with_reducible exact H2_) | with_reducible exact H | (rw [hy263]; exact H) | exact H
                      have Ny263 := Aside0.mk hy263
                      clear hy263
                      have H' := Aside0.mk H
                      clear H
                      try go_wp2
                      have n0_ := Aside0.mk (Kd.R_drew HO250.out)
                      have n1_ := Aside0.mk (below_drew1 HB.out)
                      clear HO250
                      clear HB
                      have HO250 := n0_
                      have HB := n1_
                      clear n0_ n1_
                      have p260 : 0 ≤ (t251 : Int) := of_decide_eq_true (by first | (with_reducible assumption) | assumption)
                      have q260 : t251 < (t248.length : Int) := of_decide_eq_true (by first | (with_reducible assumption) | assumption)
                      obtain ⟨ad260, e260, hx260_0, hx260_1, hx260_2, hx260_3, hx260_4, hx260_5, hx260_6, hx260_7, hx260_8⟩ := at_T33 (Kd.R_reads' HO250.out).2.2 t251 p260 q260
                      cases e260
                      replace p260 := eq_true p260
                      replace q260 := eq_true q260
                      have p261 : 0 ≤ (t251 : Int) := of_decide_eq_true (by first | (with_reducible assumption) | assumption)
                      have q261 : t251 < (t248.length : Int) := of_decide_eq_true (by first | (with_reducible assumption) | assumption)
                      obtain ⟨ad261, e261, hx261_0, hx261_1, hx261_2, hx261_3, hx261_4, hx261_5, hx261_6, hx261_7, hx261_8⟩ := at_T33 (Kd.R_reads' HO250.out).2.2 t251 p261 q261
                      obtain rfl : ad260 = ad261 := (by injection e261)
                      replace p261 := eq_true p261
                      replace q261 := eq_true q261
                      have p262 : 0 ≤ (t251 : Int) := of_decide_eq_true (by first | (with_reducible assumption) | assumption)
                      have q262 : t251 < (t248.length : Int) := of_decide_eq_true (by first | (with_reducible assumption) | assumption)
                      obtain ⟨ad262, e262, hx262_0, hx262_1, hx262_2, hx262_3, hx262_4, hx262_5, hx262_6, hx262_7, hx262_8⟩ := at_T33 (Kd.R_reads' HO250.out).2.2 t251 p262 q262
                      obtain rfl : ad260 = ad262 := (by injection e262)
                      replace p262 := eq_true p262
                      replace q262 := eq_true q262
                      have p54 : 0 ≤ (t251 : Int) := of_decide_eq_true (by first | (with_reducible assumption) | assumption)
                      have q54 : (t251 : Int) < ((t248.length : Int) : Int) := of_decide_eq_true (by first | (with_reducible assumption) | assumption)
                      obtain ⟨go54, co54, eo54, gb54, gl54, cl54, HG54⟩ := Kd.R_form HO250.out (by omega)
                      (first | cases eo54 | (injection eo54 with ea_ en_ ec_; (first | subst ea_ | (injection ea_ with ea_; subst ea_)); subst ec_; clear en_))
                      have GB54 := Aside0.mk gb54
                      have GG54 := Aside0.mk HG54
                      clear gb54 gl54 HG54
                      (first | simp only [add_plain] at hx260_0 | skip)
                      (first | simp only [add_plain] at hx260_1 | skip)
                      (first | simp only [add_plain] at hx260_2 | skip)
                      (first | simp only [add_plain] at hx260_3 | skip)
                      (first | simp only [add_plain] at hx260_4 | skip)
                      (first | simp only [add_plain] at hx260_5 | skip)
                      (first | simp only [add_plain] at hx260_6 | skip)
                      (first | simp only [add_plain] at hx260_7 | skip)
                      (first | simp only [add_plain] at hx260_8 | skip)
                      (first | simp only [add_plain] at hx261_0 | skip)
                      (first | simp only [add_plain] at hx261_1 | skip)
                      (first | simp only [add_plain] at hx261_2 | skip)
                      (first | simp only [add_plain] at hx261_3 | skip)
                      (first | simp only [add_plain] at hx261_4 | skip)
                      (first | simp only [add_plain] at hx261_5 | skip)
                      (first | simp only [add_plain] at hx261_6 | skip)
                      (first | simp only [add_plain] at hx261_7 | skip)
                      (first | simp only [add_plain] at hx261_8 | skip)
                      (first | simp only [add_plain] at hx262_0 | skip)
                      (first | simp only [add_plain] at hx262_1 | skip)
                      (first | simp only [add_plain] at hx262_2 | skip)
                      (first | simp only [add_plain] at hx262_3 | skip)
                      (first | simp only [add_plain] at hx262_4 | skip)
                      (first | simp only [add_plain] at hx262_5 | skip)
                      (first | simp only [add_plain] at hx262_6 | skip)
                      (first | simp only [add_plain] at hx262_7 | skip)
                      (first | simp only [add_plain] at hx262_8 | skip)
                      obtain ⟨ce54, hcl54, hM54, hcc54, hfr54⟩ := Kd.R_elem HO250.out z33 (t251 : Int) p54 q54
                      obtain rfl := k33_openM hM54
                      have hx54_0 : World.cell? _ ⟨go54, (t251 : Int).toNat * 9, none⟩ = some (.int .i64 ((rd_T33 t248 t251).f0)) := hcc54 0 _ rfl
                      have hx54_1 : World.cell? _ ⟨go54, (t251 : Int).toNat * 9 + 1, none⟩ = some (.int .i64 ((rd_T33 t248 t251).f1)) := hcc54 1 _ rfl
                      have hx54_2 : World.cell? _ ⟨go54, (t251 : Int).toNat * 9 + 2, none⟩ = some (.int .i64 ((rd_T33 t248 t251).f2)) := hcc54 2 _ rfl
                      have hx54_3 : World.cell? _ ⟨go54, (t251 : Int).toNat * 9 + 3, none⟩ = some (.int .i64 ((rd_T33 t248 t251).f3)) := hcc54 3 _ rfl
                      have hx54_4 : World.cell? _ ⟨go54, (t251 : Int).toNat * 9 + 4, none⟩ = some (.int .i64 ((rd_T33 t248 t251).f4)) := hcc54 4 _ rfl
                      have hx54_5 : World.cell? _ ⟨go54, (t251 : Int).toNat * 9 + 5, none⟩ = some (.int .i64 ((rd_T33 t248 t251).f5)) := hcc54 5 _ rfl
                      have hx54_6 : World.cell? _ ⟨go54, (t251 : Int).toNat * 9 + 6, none⟩ = some (.int .i64 ((rd_T33 t248 t251).f6)) := hcc54 6 _ rfl
                      have hx54_7 : World.cell? _ ⟨go54, (t251 : Int).toNat * 9 + 7, none⟩ = some (.int .i64 ((rd_T33 t248 t251).f7)) := hcc54 7 _ rfl
                      have hx54_8 : World.cell? _ ⟨go54, (t251 : Int).toNat * 9 + 8, none⟩ = some (.int .i64 ((rd_T33 t248 t251).f8)) := hcc54 8 _ rfl
                      have hf54_0 : World.frozen? _ ⟨go54, (t251 : Int).toNat * 9, none⟩ = false := hfr54 0
                      have hf54_1 : World.frozen? _ ⟨go54, (t251 : Int).toNat * 9 + 1, none⟩ = false := hfr54 1
                      have hf54_2 : World.frozen? _ ⟨go54, (t251 : Int).toNat * 9 + 2, none⟩ = false := hfr54 2
                      have hf54_3 : World.frozen? _ ⟨go54, (t251 : Int).toNat * 9 + 3, none⟩ = false := hfr54 3
                      have hf54_4 : World.frozen? _ ⟨go54, (t251 : Int).toNat * 9 + 4, none⟩ = false := hfr54 4
                      have hf54_5 : World.frozen? _ ⟨go54, (t251 : Int).toNat * 9 + 5, none⟩ = false := hfr54 5
                      have hf54_6 : World.frozen? _ ⟨go54, (t251 : Int).toNat * 9 + 6, none⟩ = false := hfr54 6
                      have hf54_7 : World.frozen? _ ⟨go54, (t251 : Int).toNat * 9 + 7, none⟩ = false := hfr54 7
                      have hf54_8 : World.frozen? _ ⟨go54, (t251 : Int).toNat * 9 + 8, none⟩ = false := hfr54 8
                      clear hcl54 hcc54 hfr54 hM54
                      replace p54 := eq_true p54
                      replace q54 := eq_true q54
                      obtain ⟨ce56, hcl56, hM56, hcc56, hfr56⟩ := Kd.R_elem HO250.out z33 (t251 : Int) (of_decide_eq_true (by first | (with_reducible assumption) | assumption)) (by have h_ : (t251 : Int) < ((t248.length : Int) : Int) := of_decide_eq_true (by first | (with_reducible assumption) | assumption); first | exact h_ | (have e_ := (Kd.R_reads' HO250.out).1; omega) | simpa using h_)
                      obtain rfl := k33_openM hM56
                      have HP56 := (Kd.R_seg HO250.out (t251 : Int) (of_decide_eq_true (by first | (with_reducible assumption) | assumption)) (by have h_ : (t251 : Int) < ((t248.length : Int) : Int) := of_decide_eq_true (by first | (with_reducible assumption) | assumption); first | exact h_ | (have e_ := (Kd.R_reads' HO250.out).1; omega) | simpa using h_) (seg := [.int .i64 (wrap64 ((wrap64 ((wrap64 (((rd_T33 t248 t251).f5) + ((rd_T33 t248 t251).f7))) + ((rd_T33 t248 t251).f8))) - (wrap64 (1 + t252))))]) (j := 4) hcl56 hcc56 (show 5 ≤ 9 from by decide) (x' := (⟨(rd_T33 t248 t251).f0, (rd_T33 t248 t251).f1, (rd_T33 t248 t251).f2, (rd_T33 t248 t251).f3, wrap64 ((wrap64 ((wrap64 (((rd_T33 t248 t251).f5) + ((rd_T33 t248 t251).f7))) + ((rd_T33 t248 t251).f8))) - (wrap64 (1 + t252))), (rd_T33 t248 t251).f5, (rd_T33 t248 t251).f6, (rd_T33 t248 t251).f7, (rd_T33 t248 t251).f8⟩ : S33)) (k33_mkM _ _ _ (⟨(rd_T33 t248 t251).f0, (rd_T33 t248 t251).f1, (rd_T33 t248 t251).f2, (rd_T33 t248 t251).f3, wrap64 ((wrap64 ((wrap64 (((rd_T33 t248 t251).f5) + ((rd_T33 t248 t251).f7))) + ((rd_T33 t248 t251).f8))) - (wrap64 (1 + t252))), (rd_T33 t248 t251).f5, (rd_T33 t248 t251).f6, (rd_T33 t248 t251).f7, (rd_T33 t248 t251).f8⟩ : S33) ) (fun _ hk => hk)).1
                      rw [← Ny263.out] at HP56
                      have HQ56 := Aside0.mk HP56
                      clear hcl56 hcc56 hfr56 hM56 HP56
                      refine start_ (n := 24) (S := fun w' => w'.cell? ⟨go54, ((t251).toNat * 9), none⟩ = some (.int .i64 ((rd_T33 t248 t251).f0)) ∧ w'.cell? ⟨go54, ((t251).toNat * 9) + 1, none⟩ = some (.int .i64 ((rd_T33 t248 t251).f1)) ∧ w'.cell? ⟨go54, ((t251).toNat * 9) + 2, none⟩ = some (.int .i64 ((rd_T33 t248 t251).f2)) ∧ w'.cell? ⟨go54, ((t251).toNat * 9) + 3, none⟩ = some (.int .i64 ((rd_T33 t248 t251).f3)) ∧ w'.cell? ⟨go54, ((t251).toNat * 9) + 4, none⟩ = some (.int .i64 ((rd_T33 t248 t251).f4)) ∧ w'.cell? ⟨go54, ((t251).toNat * 9) + 5, none⟩ = some (.int .i64 ((rd_T33 t248 t251).f5)) ∧ w'.cell? ⟨go54, ((t251).toNat * 9) + 6, none⟩ = some (.int .i64 ((rd_T33 t248 t251).f6)) ∧ w'.cell? ⟨go54, ((t251).toNat * 9) + 7, none⟩ = some (.int .i64 ((rd_T33 t248 t251).f7)) ∧ w'.cell? ⟨go54, ((t251).toNat * 9) + 8, none⟩ = some (.int .i64 ((rd_T33 t248 t251).f8)) ∧ w'.cell? ⟨go54, ((t251).toNat * 9), none⟩ = some (.int .i64 ((rd_T33 t248 t251).f0)) ∧ w'.cell? ⟨go54, ((t251).toNat * 9) + 1, none⟩ = some (.int .i64 ((rd_T33 t248 t251).f1)) ∧ w'.cell? ⟨go54, ((t251).toNat * 9) + 2, none⟩ = some (.int .i64 ((rd_T33 t248 t251).f2)) ∧ w'.cell? ⟨go54, ((t251).toNat * 9) + 3, none⟩ = some (.int .i64 ((rd_T33 t248 t251).f3)) ∧ w'.cell? ⟨go54, ((t251).toNat * 9) + 4, none⟩ = some (.int .i64 ((rd_T33 t248 t251).f4)) ∧ w'.cell? ⟨go54, ((t251).toNat * 9) + 5, none⟩ = some (.int .i64 ((rd_T33 t248 t251).f5)) ∧ w'.cell? ⟨go54, ((t251).toNat * 9) + 6, none⟩ = some (.int .i64 ((rd_T33 t248 t251).f6)) ∧ w'.cell? ⟨go54, ((t251).toNat * 9) + 7, none⟩ = some (.int .i64 ((rd_T33 t248 t251).f7)) ∧ w'.cell? ⟨go54, ((t251).toNat * 9) + 8, none⟩ = some (.int .i64 ((rd_T33 t248 t251).f8)) ∧ w'.cell? ⟨go54, ((t251).toNat * 9), none⟩ = some (.int .i64 ((rd_T33 t248 t251).f0)) ∧ w'.cell? ⟨go54, ((t251).toNat * 9) + 1, none⟩ = some (.int .i64 ((rd_T33 t248 t251).f1)) ∧ w'.cell? ⟨go54, ((t251).toNat * 9) + 2, none⟩ = some (.int .i64 ((rd_T33 t248 t251).f2)) ∧ w'.cell? ⟨go54, ((t251).toNat * 9) + 3, none⟩ = some (.int .i64 ((rd_T33 t248 t251).f3)) ∧ w'.cell? ⟨go54, ((t251).toNat * 9) + 4, none⟩ = some (.int .i64 ((rd_T33 t248 t251).f4)) ∧ w'.cell? ⟨go54, ((t251).toNat * 9) + 5, none⟩ = some (.int .i64 ((rd_T33 t248 t251).f5)) ∧ w'.cell? ⟨go54, ((t251).toNat * 9) + 6, none⟩ = some (.int .i64 ((rd_T33 t248 t251).f6)) ∧ w'.cell? ⟨go54, ((t251).toNat * 9) + 7, none⟩ = some (.int .i64 ((rd_T33 t248 t251).f7)) ∧ w'.cell? ⟨go54, ((t251).toNat * 9) + 8, none⟩ = some (.int .i64 ((rd_T33 t248 t251).f8))) (ds := [23]) #[false, false, false, false, false, false, false, false, false, false, false, false, false, false, false, false, false, false, false, false, false, false, false, false] (by kernel_rfl) rfl rfl ⟨hx260_0, hx260_1, hx260_2, hx260_3, hx260_4, hx260_5, hx260_6, hx260_7, hx260_8, hx261_0, hx261_1, hx261_2, hx261_3, hx261_4, hx261_5, hx261_6, hx261_7, hx261_8, hx262_0, hx262_1, hx262_2, hx262_3, hx262_4, hx262_5, hx262_6, hx262_7, hx262_8⟩ (fun hHeld => ?_); refine with_tabW tolllaw10_LotsFields.tab22 tolllaw10_LotsFields.bits22 (fun HT_ HW_ => ?_)
                      generalize w19.drew = w55 at HO250 HB GG54 HQ56 hf54_0 hf54_1 hf54_2 hf54_3 hf54_4 hf54_5 hf54_6 hf54_7 hf54_8 hx260_0 hx260_1 hx260_2 hx260_3 hx260_4 hx260_5 hx260_6 hx260_7 hx260_8 hx261_0 hx261_1 hx261_2 hx261_3 hx261_4 hx261_5 hx261_6 hx261_7 hx261_8 hx262_0 hx262_1 hx262_2 hx262_3 hx262_4 hx262_5 hx262_6 hx262_7 hx262_8 hx54_0 hx54_1 hx54_2 hx54_3 hx54_4 hx54_5 hx54_6 hx54_7 hx54_8 hHeld ⊢
                      refine pure_ (i := 0) (N := some 77) (v := ?_) (a' := ?_) (bA 24 1) rfl rfl (any_of HT_.out (by kernel_rfl)) (fun _ _ _ h => h) (Or.inl ⟨by rfl, ?_⟩) ?_ ?_
                      rotate_left
                      · intro w'
                        go_simp
                        with_reducible rfl
                      rotate_left
                      · simp only [Act.put, List.setIfInBounds_toArray, List.set_cons_zero, List.set_cons_succ, i64_w, i32_w]
                        rfl
                      refine pure_ (i := 1) (N := some 78) (v := ?_) (a' := ?_) (bA 24 3) rfl rfl (any_of HT_.out (by kernel_rfl)) (fun _ _ _ h => h) (Or.inl ⟨by rfl, ?_⟩) ?_ ?_
                      rotate_left
                      · intro w'
                        go_simp
                        with_reducible rfl
                      rotate_left
                      · simp only [Act.put, List.setIfInBounds_toArray, List.set_cons_zero, List.set_cons_succ, i64_w, i32_w]
                        rfl
                      refine pure_ (i := 2) (N := some 79) (v := ?_) (a' := ?_) (bA 24 7) rfl rfl (any_of HT_.out (by kernel_rfl)) (fun _ _ _ h => h) (Or.inl ⟨by rfl, ?_⟩) ?_ ?_
                      rotate_left
                      · intro w'
                        go_simp
                        with_reducible rfl
                      rotate_left
                      · simp only [Act.put, List.setIfInBounds_toArray, List.set_cons_zero, List.set_cons_succ, i64_w, i32_w]
                        rfl
                      refine pure_ (i := 3) (N := some 80) (v := ?_) (a' := ?_) (bA 24 15) rfl rfl (any_of HT_.out (by kernel_rfl)) (fun _ _ _ h => h) (Or.inl ⟨by rfl, ?_⟩) ?_ ?_
                      rotate_left
                      · intro w'
                        go_simp
                        with_reducible rfl
                      rotate_left
                      · simp only [Act.put, List.setIfInBounds_toArray, List.set_cons_zero, List.set_cons_succ, i64_w, i32_w]
                        rfl
                      refine pure_ (i := 4) (N := some 81) (v := ?_) (a' := ?_) (bA 24 31) rfl rfl (any_of HT_.out (by kernel_rfl)) (fun _ _ _ h => h) (Or.inl ⟨by rfl, ?_⟩) ?_ ?_
                      rotate_left
                      · intro w'
                        go_simp
                        with_reducible rfl
                      rotate_left
                      · simp only [Act.put, List.setIfInBounds_toArray, List.set_cons_zero, List.set_cons_succ, i64_w, i32_w]
                        rfl
                      refine pure_ (i := 5) (N := some 82) (v := ?_) (a' := ?_) (bA 24 63) rfl rfl (any_of HT_.out (by kernel_rfl)) (fun _ _ _ h => h) (Or.inl ⟨by rfl, ?_⟩) ?_ ?_
                      rotate_left
                      · intro w'
                        go_simp
                        with_reducible rfl
                      rotate_left
                      · simp only [Act.put, List.setIfInBounds_toArray, List.set_cons_zero, List.set_cons_succ, i64_w, i32_w]
                        rfl
                      refine pure_ (i := 7) (N := some 84) (v := ?_) (a' := ?_) (bA 24 191) rfl rfl (any_of HT_.out (by kernel_rfl)) (fun _ _ _ h => h) (Or.inl ⟨by rfl, ?_⟩) ?_ ?_
                      rotate_left
                      · intro w'
                        go_simp
                        with_reducible rfl
                      rotate_left
                      · simp only [Act.put, List.setIfInBounds_toArray, List.set_cons_zero, List.set_cons_succ, i64_w, i32_w]
                        rfl
                      refine pure_ (i := 8) (N := some 85) (v := ?_) (a' := ?_) (bA 24 447) rfl rfl (any_of HT_.out (by kernel_rfl)) (fun _ _ _ h => h) (Or.inl ⟨by rfl, ?_⟩) ?_ ?_
                      rotate_left
                      · intro w'
                        go_simp
                        with_reducible rfl
                      rotate_left
                      · simp only [Act.put, List.setIfInBounds_toArray, List.set_cons_zero, List.set_cons_succ, i64_w, i32_w]
                        rfl
                      refine pure_ (i := 9) (N := some 86) (v := ?_) (a' := ?_) (bA 24 959) rfl rfl (any_of HT_.out (by kernel_rfl)) (fun _ _ _ h => h) (Or.inl ⟨by rfl, ?_⟩) ?_ ?_
                      rotate_left
                      · intro w'
                        go_simp
                        with_reducible rfl
                      rotate_left
                      · simp only [Act.put, List.setIfInBounds_toArray, List.set_cons_zero, List.set_cons_succ, i64_w, i32_w]
                        rfl
                      refine pure_ (i := 10) (N := some 87) (v := ?_) (a' := ?_) (bA 24 1983) rfl rfl (any_of HT_.out (by kernel_rfl)) (fun _ _ _ h => h) (Or.inl ⟨by rfl, ?_⟩) ?_ ?_
                      rotate_left
                      · intro w'
                        go_simp
                        with_reducible rfl
                      rotate_left
                      · simp only [Act.put, List.setIfInBounds_toArray, List.set_cons_zero, List.set_cons_succ, i64_w, i32_w]
                        rfl
                      refine pure_ (i := 13) (N := some 90) (v := ?_) (a' := ?_) (bA 24 10175) rfl rfl (any_of HT_.out (by kernel_rfl)) (fun _ _ _ h => h) (Or.inl ⟨by rfl, ?_⟩) ?_ ?_
                      rotate_left
                      · intro w'
                        go_simp
                        with_reducible rfl
                      rotate_left
                      · simp only [Act.put, List.setIfInBounds_toArray, List.set_cons_zero, List.set_cons_succ, i64_w, i32_w]
                        rfl
                      refine pure_ (i := 14) (N := some 91) (v := ?_) (a' := ?_) (bA 24 26559) rfl rfl (any_of HT_.out (by kernel_rfl)) (fun _ _ _ h => h) (Or.inl ⟨by rfl, ?_⟩) ?_ ?_
                      rotate_left
                      · intro w'
                        go_simp
                        with_reducible rfl
                      rotate_left
                      · simp only [Act.put, List.setIfInBounds_toArray, List.set_cons_zero, List.set_cons_succ, i64_w, i32_w]
                        rfl
                      refine pure_ (i := 15) (N := some 92) (v := ?_) (a' := ?_) (bA 24 59327) rfl rfl (any_of HT_.out (by kernel_rfl)) (fun _ _ _ h => h) (Or.inl ⟨by rfl, ?_⟩) ?_ ?_
                      rotate_left
                      · intro w'
                        go_simp
                        with_reducible rfl
                      rotate_left
                      · simp only [Act.put, List.setIfInBounds_toArray, List.set_cons_zero, List.set_cons_succ, i64_w, i32_w]
                        rfl
                      refine pure_ (i := 16) (N := some 93) (v := ?_) (a' := ?_) (bA 24 124863) rfl rfl (any_of HT_.out (by kernel_rfl)) (fun _ _ _ h => h) (Or.inl ⟨by rfl, ?_⟩) ?_ ?_
                      rotate_left
                      · intro w'
                        go_simp
                        with_reducible rfl
                      rotate_left
                      · simp only [Act.put, List.setIfInBounds_toArray, List.set_cons_zero, List.set_cons_succ, i64_w, i32_w]
                        rfl
                      refine pure_ (i := 19) (N := some 96) (v := ?_) (a' := ?_) (bA 24 649151) rfl rfl (any_of HT_.out (by kernel_rfl)) (fun _ _ _ h => h) (Or.inl ⟨by rfl, ?_⟩) ?_ ?_
                      rotate_left
                      · intro w'
                        go_simp
                        with_reducible rfl
                      rotate_left
                      · simp only [Act.put, List.setIfInBounds_toArray, List.set_cons_zero, List.set_cons_succ, i64_w, i32_w]
                        rfl
                      refine take_ (i := 6) (N := some 83) (v := ?_) (a' := ?_) (bA 24 649215) rfl rfl (take_ofW HT_.out HW_.out (by kernel_rfl)) (fun _ _ _ h => h) (Or.inl ⟨by rfl, ?_⟩) hHeld ?_ ?_
                      rotate_left
                      · rintro w' ⟨s0, s1, s2, s3, s4, s5, s6, s7, s8, s9, s10, s11, s12, s13, s14, s15, s16, s17, s18, s19, s20, s21, s22, s23, s24, s25, s26⟩
                        go_simp
                        with_reducible rfl
                      rotate_left
                      · simp only [Act.put, List.setIfInBounds_toArray, List.set_cons_zero, List.set_cons_succ, i64_w, i32_w]
                        rfl
                      refine take_ (i := 11) (N := some 88) (v := ?_) (a' := ?_) (bA 24 651263) rfl rfl (take_ofW HT_.out HW_.out (by kernel_rfl)) (fun _ _ _ h => h) (Or.inl ⟨by rfl, ?_⟩) hHeld ?_ ?_
                      rotate_left
                      · rintro w' ⟨s0, s1, s2, s3, s4, s5, s6, s7, s8, s9, s10, s11, s12, s13, s14, s15, s16, s17, s18, s19, s20, s21, s22, s23, s24, s25, s26⟩
                        go_simp
                        with_reducible rfl
                      rotate_left
                      · simp only [Act.put, List.setIfInBounds_toArray, List.set_cons_zero, List.set_cons_succ, i64_w, i32_w]
                        rfl
                      refine pure_ (i := 12) (N := some 89) (v := ?_) (a' := ?_) (bA 24 655359) rfl rfl (any_of HT_.out (by kernel_rfl)) (fun _ _ _ h => h) (Or.inl ⟨by rfl, ?_⟩) ?_ ?_
                      rotate_left
                      · intro w'
                        go_simp
                        with_reducible rfl
                      rotate_left
                      · simp only [Act.put, List.setIfInBounds_toArray, List.set_cons_zero, List.set_cons_succ, i64_w, i32_w]
                        rfl
                      refine take_ (i := 17) (N := some 94) (v := ?_) (a' := ?_) (bA 24 786431) rfl rfl (take_ofW HT_.out HW_.out (by kernel_rfl)) (fun _ _ _ h => h) (Or.inl ⟨by rfl, ?_⟩) hHeld ?_ ?_
                      rotate_left
                      · rintro w' ⟨s0, s1, s2, s3, s4, s5, s6, s7, s8, s9, s10, s11, s12, s13, s14, s15, s16, s17, s18, s19, s20, s21, s22, s23, s24, s25, s26⟩
                        go_simp
                        with_reducible rfl
                      rotate_left
                      · simp only [Act.put, List.setIfInBounds_toArray, List.set_cons_zero, List.set_cons_succ, i64_w, i32_w]
                        rfl
                      refine pure_ (i := 18) (N := some 95) (v := ?_) (a' := ?_) (bA 24 1048575) rfl rfl (any_of HT_.out (by kernel_rfl)) (fun _ _ _ h => h) (Or.inl ⟨by rfl, ?_⟩) ?_ ?_
                      rotate_left
                      · intro w'
                        go_simp
                        with_reducible rfl
                      rotate_left
                      · simp only [Act.put, List.setIfInBounds_toArray, List.set_cons_zero, List.set_cons_succ, i64_w, i32_w]
                        rfl
                      refine pure_ (i := 20) (N := some 97) (v := ?_) (a' := ?_) (bA 24 2097151) rfl rfl (any_of HT_.out (by kernel_rfl)) (fun _ _ _ h => h) (Or.inl ⟨by rfl, ?_⟩) ?_ ?_
                      rotate_left
                      · intro w'
                        go_simp
                        with_reducible rfl
                      rotate_left
                      · simp only [Act.put, List.setIfInBounds_toArray, List.set_cons_zero, List.set_cons_succ, i64_w, i32_w]
                        rfl
                      refine pure_ (i := 21) (N := some 98) (v := ?_) (a' := ?_) (bA 24 4194303) rfl rfl (any_of HT_.out (by kernel_rfl)) (fun _ _ _ h => h) (Or.inl ⟨by rfl, ?_⟩) ?_ ?_
                      rotate_left
                      · intro w'
                        go_simp
                        with_reducible rfl
                      rotate_left
                      · simp only [Act.put, List.setIfInBounds_toArray, List.set_cons_zero, List.set_cons_succ, i64_w, i32_w]
                        rfl
                      refine pure_ (i := 22) (N := some 99) (v := ?_) (a' := ?_) (bA 24 8388607) rfl rfl (any_of HT_.out (by kernel_rfl)) (fun _ _ _ h => h) (Or.inl ⟨by rfl, ?_⟩) ?_ ?_
                      rotate_left
                      · intro w'
                        go_simp
                        with_reducible rfl
                      rotate_left
                      · simp only [Act.put, List.setIfInBounds_toArray, List.set_cons_zero, List.set_cons_succ, i64_w, i32_w]
                        rfl
                      refine last_ (i := 23) (N := none) (bA 24 16777215) rfl rfl (one_of HT_.out (by kernel_rfl)) (by decide) (fun K hK => ?_)
                      refine skip_ (w1 := ?_) (by rfl) rfl ?_ ?_
                      rotate_left
                      · go_simp
                        rfl
                      refine hK.out _ _ ?_
                      clear hK K
                      refine done_ (done_of HT_.out (by kernel_rfl)) ?_
                      try go_wp2
                      go_meet
                      case rel => exact ⟨_, (y263), (11), (by first | rfl | (simp; done) | (simp [*]; done)), H', ⟨by first | omega | exact Nat.le_refl _⟩, ⟨by (with_reducible repeat (first | apply Kd.R_alloc | apply Kd.R_drewN | apply Kd.R_drew)); exact HQ56.out⟩, ⟨by repeat (first | (with_reducible first | exact HB.out | apply below_alloc | apply pw_below_drewN | apply below_drew1 | refine below_set ?_ GB54.out) | exact HB.out)⟩⟩
                    · rw [if_neg c53] at H
                      exact absurd H (by simp)
                  · rw [if_neg c52] at H
                    exact absurd H (by simp)
                · rw [if_neg c51] at H
                  have c51b0 : (t253 == 5) = false := beq_eq_false_iff_ne.mpr c51
                  have c51b1 : (t253 != 5) = true := bne_iff_ne.mpr c51
                  by_cases c57 : t253 = 6
                  · rw [if_pos c57] at H
                    have c57b0 : (t253 == 6) = true := beq_iff_eq.mpr c57
                    have c57b1 : (t253 != 6) = false := bne_eq_false_iff_eq.mpr c57
                    clear c57
                    by_cases c58 : 0 ≤ t251
                    · rw [if_pos c58] at H
                      have c58b0 : decide (0 ≤ t251) = true := decide_eq_true c58
                      clear c58
                      by_cases c59 : t251 < (t248.length : Int)
                      · rw [if_pos c59] at H
                        have c59b0 : decide (t251 < (t248.length : Int)) = true := decide_eq_true c59
                        clear c59
                        obtain ⟨y264, hy264⟩ : ∃ y_ : List (S33), y_ = (t248.set (t251 : Int).toNat (⟨(rd_T33 t248 t251).f0, (rd_T33 t248 t251).f1, (rd_T33 t248 t251).f2, (rd_T33 t248 t251).f3, (rd_T33 t248 t251).f4, (rd_T33 t248 t251).f5, (rd_T33 t248 t251).f6, wrap64 (1099511627776 + (wrap64 (1 + t252))), (rd_T33 t248 t251).f8⟩ : S33)) := ⟨_, rfl⟩
                        replace H : (tolllaw10_LotsFields.j0 k y264 a3 (wrap64 (1 + t252)) t251 11) = some r := by first | (rw [hy264]; with_reducible exact H) | (have H2_ := (Option.bind_some _ _).symm.trans H; rw [hy264]; with_reducible exact H2_) | (have H2_ := (Option.bind_some _ _).symm.trans H; with_reducible exact H2_) | with_reducible exact H | (rw [hy264]; exact H) | exact H
                        have Ny264 := Aside0.mk hy264
                        clear hy264
                        have H' := Aside0.mk H
                        clear H
                        have p60 : 0 ≤ (t251 : Int) := of_decide_eq_true (by first | (with_reducible assumption) | assumption)
                        have q60 : (t251 : Int) < ((t248.length : Int) : Int) := of_decide_eq_true (by first | (with_reducible assumption) | assumption)
                        obtain ⟨go60, co60, eo60, gb60, gl60, cl60, HG60⟩ := Kd.R_form HO250.out (by omega)
                        (first | cases eo60 | (injection eo60 with ea_ en_ ec_; (first | subst ea_ | (injection ea_ with ea_; subst ea_)); subst ec_; clear en_))
                        have GB60 := Aside0.mk gb60
                        have GG60 := Aside0.mk HG60
                        clear gb60 gl60 HG60
                        obtain ⟨ce60, hcl60, hM60, hcc60, hfr60⟩ := Kd.R_elem HO250.out z33 (t251 : Int) p60 q60
                        obtain rfl := k33_openM hM60
                        have hx60_0 : w19.cell? ⟨go60, (t251 : Int).toNat * 9, none⟩ = some (.int .i64 ((rd_T33 t248 t251).f0)) := hcc60 0 _ rfl
                        have hx60_1 : w19.cell? ⟨go60, (t251 : Int).toNat * 9 + 1, none⟩ = some (.int .i64 ((rd_T33 t248 t251).f1)) := hcc60 1 _ rfl
                        have hx60_2 : w19.cell? ⟨go60, (t251 : Int).toNat * 9 + 2, none⟩ = some (.int .i64 ((rd_T33 t248 t251).f2)) := hcc60 2 _ rfl
                        have hx60_3 : w19.cell? ⟨go60, (t251 : Int).toNat * 9 + 3, none⟩ = some (.int .i64 ((rd_T33 t248 t251).f3)) := hcc60 3 _ rfl
                        have hx60_4 : w19.cell? ⟨go60, (t251 : Int).toNat * 9 + 4, none⟩ = some (.int .i64 ((rd_T33 t248 t251).f4)) := hcc60 4 _ rfl
                        have hx60_5 : w19.cell? ⟨go60, (t251 : Int).toNat * 9 + 5, none⟩ = some (.int .i64 ((rd_T33 t248 t251).f5)) := hcc60 5 _ rfl
                        have hx60_6 : w19.cell? ⟨go60, (t251 : Int).toNat * 9 + 6, none⟩ = some (.int .i64 ((rd_T33 t248 t251).f6)) := hcc60 6 _ rfl
                        have hx60_7 : w19.cell? ⟨go60, (t251 : Int).toNat * 9 + 7, none⟩ = some (.int .i64 ((rd_T33 t248 t251).f7)) := hcc60 7 _ rfl
                        have hx60_8 : w19.cell? ⟨go60, (t251 : Int).toNat * 9 + 8, none⟩ = some (.int .i64 ((rd_T33 t248 t251).f8)) := hcc60 8 _ rfl
                        have hf60_0 : w19.frozen? ⟨go60, (t251 : Int).toNat * 9, none⟩ = false := hfr60 0
                        have hf60_1 : w19.frozen? ⟨go60, (t251 : Int).toNat * 9 + 1, none⟩ = false := hfr60 1
                        have hf60_2 : w19.frozen? ⟨go60, (t251 : Int).toNat * 9 + 2, none⟩ = false := hfr60 2
                        have hf60_3 : w19.frozen? ⟨go60, (t251 : Int).toNat * 9 + 3, none⟩ = false := hfr60 3
                        have hf60_4 : w19.frozen? ⟨go60, (t251 : Int).toNat * 9 + 4, none⟩ = false := hfr60 4
                        have hf60_5 : w19.frozen? ⟨go60, (t251 : Int).toNat * 9 + 5, none⟩ = false := hfr60 5
                        have hf60_6 : w19.frozen? ⟨go60, (t251 : Int).toNat * 9 + 6, none⟩ = false := hfr60 6
                        have hf60_7 : w19.frozen? ⟨go60, (t251 : Int).toNat * 9 + 7, none⟩ = false := hfr60 7
                        have hf60_8 : w19.frozen? ⟨go60, (t251 : Int).toNat * 9 + 8, none⟩ = false := hfr60 8
                        clear hcl60 hcc60 hfr60 hM60
                        replace p60 := eq_true p60
                        replace q60 := eq_true q60
                        have HX61 := Aside0.mk (show Kd.R k33 33 w19 w.heap.size (fun _ => True) (.slice (some ⟨go60, 0, none⟩) t248.length co20) t248 from (by (with_reducible repeat (first | apply Kd.R_alloc | apply Kd.R_drewN | apply Kd.R_drew)); exact HO250.out))
                        obtain ⟨ce61, hcl61, hM61, hcc61, hfr61⟩ := Kd.R_elem HX61.out z33 (t251 : Int) (of_decide_eq_true (by first | (with_reducible assumption) | assumption)) (by have h_ : (t251 : Int) < ((t248.length : Int) : Int) := of_decide_eq_true (by first | (with_reducible assumption) | assumption); first | exact h_ | (have e_ := (Kd.R_reads' HO250.out).1; omega) | simpa using h_)
                        obtain rfl := k33_openM hM61
                        have HP61 := Kd.R_seg HX61.out (t251 : Int) (of_decide_eq_true (by first | (with_reducible assumption) | assumption)) (by have h_ : (t251 : Int) < ((t248.length : Int) : Int) := of_decide_eq_true (by first | (with_reducible assumption) | assumption); first | exact h_ | (have e_ := (Kd.R_reads' HO250.out).1; omega) | simpa using h_) (seg := [.int .i64 (wrap64 (1099511627776 + (wrap64 (1 + t252))))]) (j := 7) hcl61 hcc61 (show 8 ≤ 9 from by decide) (x' := (⟨(rd_T33 t248 t251).f0, (rd_T33 t248 t251).f1, (rd_T33 t248 t251).f2, (rd_T33 t248 t251).f3, (rd_T33 t248 t251).f4, (rd_T33 t248 t251).f5, (rd_T33 t248 t251).f6, wrap64 (1099511627776 + (wrap64 (1 + t252))), (rd_T33 t248 t251).f8⟩ : S33)) (k33_mkM _ _ _ (⟨(rd_T33 t248 t251).f0, (rd_T33 t248 t251).f1, (rd_T33 t248 t251).f2, (rd_T33 t248 t251).f3, (rd_T33 t248 t251).f4, (rd_T33 t248 t251).f5, (rd_T33 t248 t251).f6, wrap64 (1099511627776 + (wrap64 (1 + t252))), (rd_T33 t248 t251).f8⟩ : S33) ) (fun _ hk => hk)
                        have hx61_7 := hcc61 7 _ rfl
                        (try simp only [show (k33).sz = 9 from rfl, Nat.mul_one, Nat.add_zero] at hx61_7)
                        have hf61_7 := hfr61 7
                        (try simp only [show (k33).sz = 9 from rfl, Nat.mul_one, Nat.add_zero] at hf61_7)
                        clear hcl61 hcc61 hfr61 hM61
                        go_wp2_with (first | ((with_reducible refine gate_store (t := 3) (p := 107) rfl ?_); refine store_event (t := 3) (p := 107) (v := ?vo_w62) (w1 := (w19.setCell ⟨go60, (t251 : Int).toNat * 9 + 7, none⟩ (.int .i64 (wrap64 (1099511627776 + (wrap64 (1 + t252))))))) ?hg ?ho ?hn ?hr ?_; (case ho => rfl); (case hg => rfl); (case hn => rfl); (case hr => first | (go_simp; done) | (go_simp; rfl)); intro w62 hw; have hg : w19.grownBy w62 (some go60) := (by rw [hw]; exact HP61.2); have hp_ : Kd.R k33 33 w62 w.heap.size (fun _ => True) (.slice (some ⟨go60, 0, none⟩) t248.length co20) y264 := (by rw [hw, Ny264.out]; exact HP61.1); clear HP61; have n0_ := Aside0.mk (hp_); have n1_ := Aside0.mk ((by rw [hw]; exact below_set (HB.out) GB60.out : Below w.heap.size w w62)); clear HO250; clear HB; have HO250 := n0_; have HB := n1_; clear n0_ n1_; clear hg hw hp_))
                        go_meet
                        case rel => exact ⟨_, (y264), (11), (by first | rfl | (simp; done) | (simp [*]; done)), H', ⟨by first | omega | exact Nat.le_refl _⟩, ⟨by (with_reducible repeat (first | apply Kd.R_alloc | apply Kd.R_drewN | apply Kd.R_drew)); exact HO250.out⟩, ⟨by repeat (first | (with_reducible first | exact HB.out | apply below_alloc | apply pw_below_drewN | apply below_drew1) | exact HB.out)⟩⟩
                      · rw [if_neg c59] at H
                        exact absurd H (by simp)
                    · rw [if_neg c58] at H
                      exact absurd H (by simp)
                  · rw [if_neg c57] at H
                    have c57b0 : (t253 == 6) = false := beq_eq_false_iff_ne.mpr c57
                    have c57b1 : (t253 != 6) = true := bne_iff_ne.mpr c57
                    by_cases c63 : t253 = 7
                    · rw [if_pos c63] at H
                      have c63b0 : (t253 == 7) = true := beq_iff_eq.mpr c63
                      have c63b1 : (t253 != 7) = false := bne_eq_false_iff_eq.mpr c63
                      clear c63
                      by_cases c64 : 0 ≤ t251
                      · rw [if_pos c64] at H
                        have c64b0 : decide (0 ≤ t251) = true := decide_eq_true c64
                        clear c64
                        by_cases c65 : t251 < (t248.length : Int)
                        · rw [if_pos c65] at H
                          have c65b0 : decide (t251 < (t248.length : Int)) = true := decide_eq_true c65
                          clear c65
                          obtain ⟨y265, hy265⟩ : ∃ y_ : List (S33), y_ = (t248.set (t251 : Int).toNat (⟨(rd_T33 t248 t251).f0, (rd_T33 t248 t251).f1, (rd_T33 t248 t251).f2, wrap64 (1099511627776 + (wrap64 (1 + t252))), (rd_T33 t248 t251).f4, (rd_T33 t248 t251).f5, (rd_T33 t248 t251).f6, (rd_T33 t248 t251).f7, (rd_T33 t248 t251).f8⟩ : S33)) := ⟨_, rfl⟩
                          replace H : (tolllaw10_LotsFields.j0 k y265 a3 (wrap64 (1 + t252)) t251 1) = some r := by first | (rw [hy265]; with_reducible exact H) | (have H2_ := (Option.bind_some _ _).symm.trans H; rw [hy265]; with_reducible exact H2_) | (have H2_ := (Option.bind_some _ _).symm.trans H; with_reducible exact H2_) | with_reducible exact H | (rw [hy265]; exact H) | exact H
                          have Ny265 := Aside0.mk hy265
                          clear hy265
                          have H' := Aside0.mk H
                          clear H
                          have p66 : 0 ≤ (t251 : Int) := of_decide_eq_true (by first | (with_reducible assumption) | assumption)
                          have q66 : (t251 : Int) < ((t248.length : Int) : Int) := of_decide_eq_true (by first | (with_reducible assumption) | assumption)
                          obtain ⟨go66, co66, eo66, gb66, gl66, cl66, HG66⟩ := Kd.R_form HO250.out (by omega)
                          (first | cases eo66 | (injection eo66 with ea_ en_ ec_; (first | subst ea_ | (injection ea_ with ea_; subst ea_)); subst ec_; clear en_))
                          have GB66 := Aside0.mk gb66
                          have GG66 := Aside0.mk HG66
                          clear gb66 gl66 HG66
                          obtain ⟨ce66, hcl66, hM66, hcc66, hfr66⟩ := Kd.R_elem HO250.out z33 (t251 : Int) p66 q66
                          obtain rfl := k33_openM hM66
                          have hx66_0 : w19.cell? ⟨go66, (t251 : Int).toNat * 9, none⟩ = some (.int .i64 ((rd_T33 t248 t251).f0)) := hcc66 0 _ rfl
                          have hx66_1 : w19.cell? ⟨go66, (t251 : Int).toNat * 9 + 1, none⟩ = some (.int .i64 ((rd_T33 t248 t251).f1)) := hcc66 1 _ rfl
                          have hx66_2 : w19.cell? ⟨go66, (t251 : Int).toNat * 9 + 2, none⟩ = some (.int .i64 ((rd_T33 t248 t251).f2)) := hcc66 2 _ rfl
                          have hx66_3 : w19.cell? ⟨go66, (t251 : Int).toNat * 9 + 3, none⟩ = some (.int .i64 ((rd_T33 t248 t251).f3)) := hcc66 3 _ rfl
                          have hx66_4 : w19.cell? ⟨go66, (t251 : Int).toNat * 9 + 4, none⟩ = some (.int .i64 ((rd_T33 t248 t251).f4)) := hcc66 4 _ rfl
                          have hx66_5 : w19.cell? ⟨go66, (t251 : Int).toNat * 9 + 5, none⟩ = some (.int .i64 ((rd_T33 t248 t251).f5)) := hcc66 5 _ rfl
                          have hx66_6 : w19.cell? ⟨go66, (t251 : Int).toNat * 9 + 6, none⟩ = some (.int .i64 ((rd_T33 t248 t251).f6)) := hcc66 6 _ rfl
                          have hx66_7 : w19.cell? ⟨go66, (t251 : Int).toNat * 9 + 7, none⟩ = some (.int .i64 ((rd_T33 t248 t251).f7)) := hcc66 7 _ rfl
                          have hx66_8 : w19.cell? ⟨go66, (t251 : Int).toNat * 9 + 8, none⟩ = some (.int .i64 ((rd_T33 t248 t251).f8)) := hcc66 8 _ rfl
                          have hf66_0 : w19.frozen? ⟨go66, (t251 : Int).toNat * 9, none⟩ = false := hfr66 0
                          have hf66_1 : w19.frozen? ⟨go66, (t251 : Int).toNat * 9 + 1, none⟩ = false := hfr66 1
                          have hf66_2 : w19.frozen? ⟨go66, (t251 : Int).toNat * 9 + 2, none⟩ = false := hfr66 2
                          have hf66_3 : w19.frozen? ⟨go66, (t251 : Int).toNat * 9 + 3, none⟩ = false := hfr66 3
                          have hf66_4 : w19.frozen? ⟨go66, (t251 : Int).toNat * 9 + 4, none⟩ = false := hfr66 4
                          have hf66_5 : w19.frozen? ⟨go66, (t251 : Int).toNat * 9 + 5, none⟩ = false := hfr66 5
                          have hf66_6 : w19.frozen? ⟨go66, (t251 : Int).toNat * 9 + 6, none⟩ = false := hfr66 6
                          have hf66_7 : w19.frozen? ⟨go66, (t251 : Int).toNat * 9 + 7, none⟩ = false := hfr66 7
                          have hf66_8 : w19.frozen? ⟨go66, (t251 : Int).toNat * 9 + 8, none⟩ = false := hfr66 8
                          clear hcl66 hcc66 hfr66 hM66
                          replace p66 := eq_true p66
                          replace q66 := eq_true q66
                          have HX67 := Aside0.mk (show Kd.R k33 33 w19 w.heap.size (fun _ => True) (.slice (some ⟨go66, 0, none⟩) t248.length co20) t248 from (by (with_reducible repeat (first | apply Kd.R_alloc | apply Kd.R_drewN | apply Kd.R_drew)); exact HO250.out))
                          obtain ⟨ce67, hcl67, hM67, hcc67, hfr67⟩ := Kd.R_elem HX67.out z33 (t251 : Int) (of_decide_eq_true (by first | (with_reducible assumption) | assumption)) (by have h_ : (t251 : Int) < ((t248.length : Int) : Int) := of_decide_eq_true (by first | (with_reducible assumption) | assumption); first | exact h_ | (have e_ := (Kd.R_reads' HO250.out).1; omega) | simpa using h_)
                          obtain rfl := k33_openM hM67
                          have HP67 := Kd.R_seg HX67.out (t251 : Int) (of_decide_eq_true (by first | (with_reducible assumption) | assumption)) (by have h_ : (t251 : Int) < ((t248.length : Int) : Int) := of_decide_eq_true (by first | (with_reducible assumption) | assumption); first | exact h_ | (have e_ := (Kd.R_reads' HO250.out).1; omega) | simpa using h_) (seg := [.int .i64 (wrap64 (1099511627776 + (wrap64 (1 + t252))))]) (j := 3) hcl67 hcc67 (show 4 ≤ 9 from by decide) (x' := (⟨(rd_T33 t248 t251).f0, (rd_T33 t248 t251).f1, (rd_T33 t248 t251).f2, wrap64 (1099511627776 + (wrap64 (1 + t252))), (rd_T33 t248 t251).f4, (rd_T33 t248 t251).f5, (rd_T33 t248 t251).f6, (rd_T33 t248 t251).f7, (rd_T33 t248 t251).f8⟩ : S33)) (k33_mkM _ _ _ (⟨(rd_T33 t248 t251).f0, (rd_T33 t248 t251).f1, (rd_T33 t248 t251).f2, wrap64 (1099511627776 + (wrap64 (1 + t252))), (rd_T33 t248 t251).f4, (rd_T33 t248 t251).f5, (rd_T33 t248 t251).f6, (rd_T33 t248 t251).f7, (rd_T33 t248 t251).f8⟩ : S33) ) (fun _ hk => hk)
                          have hx67_3 := hcc67 3 _ rfl
                          (try simp only [show (k33).sz = 9 from rfl, Nat.mul_one, Nat.add_zero] at hx67_3)
                          have hf67_3 := hfr67 3
                          (try simp only [show (k33).sz = 9 from rfl, Nat.mul_one, Nat.add_zero] at hf67_3)
                          clear hcl67 hcc67 hfr67 hM67
                          go_wp2_with (first | ((with_reducible refine gate_store (t := 3) (p := 115) rfl ?_); refine store_event (t := 3) (p := 115) (v := ?vo_w68) (w1 := (w19.setCell ⟨go66, (t251 : Int).toNat * 9 + 3, none⟩ (.int .i64 (wrap64 (1099511627776 + (wrap64 (1 + t252))))))) ?hg ?ho ?hn ?hr ?_; (case ho => rfl); (case hg => rfl); (case hn => rfl); (case hr => first | (go_simp; done) | (go_simp; rfl)); intro w68 hw; have hg : w19.grownBy w68 (some go66) := (by rw [hw]; exact HP67.2); have hp_ : Kd.R k33 33 w68 w.heap.size (fun _ => True) (.slice (some ⟨go66, 0, none⟩) t248.length co20) y265 := (by rw [hw, Ny265.out]; exact HP67.1); clear HP67; have n0_ := Aside0.mk (hp_); have n1_ := Aside0.mk ((by rw [hw]; exact below_set (HB.out) GB66.out : Below w.heap.size w w68)); clear HO250; clear HB; have HO250 := n0_; have HB := n1_; clear n0_ n1_; clear hg hw hp_))
                          go_meet
                          case rel => exact ⟨_, (y265), (1), (by first | rfl | (simp; done) | (simp [*]; done)), H', ⟨by first | omega | exact Nat.le_refl _⟩, ⟨by (with_reducible repeat (first | apply Kd.R_alloc | apply Kd.R_drewN | apply Kd.R_drew)); exact HO250.out⟩, ⟨by repeat (first | (with_reducible first | exact HB.out | apply below_alloc | apply pw_below_drewN | apply below_drew1) | exact HB.out)⟩⟩
                        · rw [if_neg c65] at H
                          exact absurd H (by simp)
                      · rw [if_neg c64] at H
                        exact absurd H (by simp)
                    · rw [if_neg c63] at H
                      have c63b0 : (t253 == 7) = false := beq_eq_false_iff_ne.mpr c63
                      have c63b1 : (t253 != 7) = true := bne_iff_ne.mpr c63
                      have H' := Aside0.mk H
                      clear H
                      go_wp2
                      go_meet
                      case rel => exact ⟨_, (t248), (11), (by first | rfl | (simp; done) | (simp [*]; done)), H', ⟨by first | omega | exact Nat.le_refl _⟩, ⟨by (with_reducible repeat (first | apply Kd.R_alloc | apply Kd.R_drewN | apply Kd.R_drew)); exact HO250.out⟩, ⟨by repeat (first | (with_reducible first | exact HB.out | apply below_alloc | apply pw_below_drewN | apply below_drew1) | exact HB.out)⟩⟩
     case rest =>
      clear HC17
      try clear p2
      try clear q2
      try clear hx2
      try clear c3
      try clear c4
      try clear p4
      try clear q4
      try clear hx4
      try clear c5
      try clear p5
      try clear q5
      try clear hx5
      try clear hf5
      try clear c6
      try clear p6
      try clear q6
      try clear hx6
      try clear hf6
      try clear p25
      try clear q25
      try clear hx25
      try clear p26
      try clear q26
      try clear hx26
      try clear c39
      try clear c39b0
      try clear c39b1
      try clear c40
      try clear c40b0
      try clear c41
      try clear c41b0
      try clear c42
      try clear p42
      try clear q42
      try clear hx42
      try clear hf42
      try clear c43
      try clear hx43
      try clear hf43
      try clear c45
      try clear c45b0
      try clear c45b1
      try clear c46
      try clear c46b0
      try clear c47
      try clear c47b0
      try clear c48
      try clear p48
      try clear q48
      try clear hx48
      try clear hf48
      try clear c49
      try clear hx49
      try clear hf49
      try clear c51
      try clear c51b0
      try clear c51b1
      try clear c52
      try clear c52b0
      try clear c53
      try clear c53b0
      try clear c54
      try clear p54
      try clear q54
      try clear hx54
      try clear hf54
      try clear c56
      try clear c57
      try clear c57b0
      try clear c57b1
      try clear c58
      try clear c58b0
      try clear c59
      try clear c59b0
      try clear c60
      try clear p60
      try clear q60
      try clear hx60
      try clear hf60
      try clear c61
      try clear hx61
      try clear hf61
      try clear c63
      try clear c63b0
      try clear c63b1
      try clear c64
      try clear c64b0
      try clear p64
      try clear c65
      try clear c65b0
      try clear c66
      try clear p66
      try clear q66
      try clear hx66
      try clear hf66
      try clear c67
      try clear hx67
      try clear hf67
      try clear hx257_0
      try clear hx257_1
      try clear hx257_2
      try clear hx257_3
      try clear hx257_4
      try clear hx257_5
      try clear hx257_6
      try clear hx257_7
      try clear hx257_8
      try clear hx260_0
      try clear hx260_1
      try clear hx260_2
      try clear hx260_3
      try clear hx260_4
      try clear hx260_5
      try clear hx260_6
      try clear hx260_7
      try clear hx260_8
      try clear hx261_0
      try clear hx261_1
      try clear hx261_2
      try clear hx261_3
      try clear hx261_4
      try clear hx261_5
      try clear hx261_6
      try clear hx261_7
      try clear hx261_8
      try clear hx262_0
      try clear hx262_1
      try clear hx262_2
      try clear hx262_3
      try clear hx262_4
      try clear hx262_5
      try clear hx262_6
      try clear hx262_7
      try clear hx262_8
      try clear hx42_0
      try clear hx42_1
      try clear hx42_2
      try clear hx42_3
      try clear hx42_4
      try clear hx42_5
      try clear hx42_6
      try clear hx42_7
      try clear hx42_8
      try clear hx43_3
      try clear hx48_0
      try clear hx48_1
      try clear hx48_2
      try clear hx48_3
      try clear hx48_4
      try clear hx48_5
      try clear hx48_6
      try clear hx48_7
      try clear hx48_8
      try clear hx49_6
      try clear hx54_0
      try clear hx54_1
      try clear hx54_2
      try clear hx54_3
      try clear hx54_4
      try clear hx54_5
      try clear hx54_6
      try clear hx54_7
      try clear hx54_8
      try clear hx60_0
      try clear hx60_1
      try clear hx60_2
      try clear hx60_3
      try clear hx60_4
      try clear hx60_5
      try clear hx60_6
      try clear hx60_7
      try clear hx60_8
      try clear hx61_7
      try clear hx66_0
      try clear hx66_1
      try clear hx66_2
      try clear hx66_3
      try clear hx66_4
      try clear hx66_5
      try clear hx66_6
      try clear hx66_7
      try clear hx66_8
      try clear hx67_3
      try clear p257
      try clear p260
      try clear p261
      try clear p262
      try clear p42
      try clear p48
      try clear p54
      try clear p60
      try clear p66
      try clear q257
      try clear q260
      try clear q261
      try clear q262
      try clear q42
      try clear q48
      try clear q54
      try clear q60
      try clear q66
      obtain ⟨kq, x0_16, x12_16, rfl, HA, HJ16, HO_0, HB⟩ := hcut
      have hl0_16 := (Kd.R_reads' HO_0.out).1
      rw [hl0_16] at HO_0
      (try simp only [hl0_16])
      cases kq with
      | zero => exact absurd HA.out (by simp [tolllaw10_LotsFields.j0])
      | succ kj16 =>
       have H := HA.out
       clear HA
       simp only [tolllaw10_LotsFields.j0] at H
       by_cases c69 : (x0_16.length : Int) > 1
       · rw [if_pos c69] at H
         have c69b0 : decide (1 < (x0_16.length : Int)) = true := decide_eq_true c69
         have c69b1 : decide (1 < x0_16.length) = true := decide_eq_true (by omega)
         clear c69
         replace H := Option.bind_eq_some_iff.mp H
         obtain ⟨t266, A700, H⟩ := H
         replace H : (if t266 = 1 then (if t251 > 0 then (if 0 ≤ t251 then (if t251 < (x0_16.length : Int) then ((lots_Check.f kj16 (x0_16.set (t251 : Int).toNat (⟨(rd_T33 x0_16 t251).f0, wrap64 (-(wrap64 (1 + t252))), (rd_T33 x0_16 t251).f2, (rd_T33 x0_16 t251).f3, (rd_T33 x0_16 t251).f4, (rd_T33 x0_16 t251).f5, (rd_T33 x0_16 t251).f6, (rd_T33 x0_16 t251).f7, (rd_T33 x0_16 t251).f8⟩ : S33))).bind fun t268 => (some (t268 == x12_16))) else (none)) else (none)) else ((lots_Check.f kj16 x0_16).bind fun t269 => (some (t269 == x12_16)))) else ((lots_Check.f kj16 x0_16).bind fun t270 => (some (t270 == x12_16)))) = some r := H
         have A70 := Aside0.mk A700
         clear A700
         by_cases c71 : t266 = 1
         · rw [if_pos c71] at H
           have c71b0 : (t266 == 1) = true := beq_iff_eq.mpr c71
           have c71b1 : (t266 != 1) = false := bne_eq_false_iff_eq.mpr c71
           clear c71
           by_cases c72 : t251 > 0
           · rw [if_pos c72] at H
             have c72b0 : decide (0 < t251) = true := decide_eq_true c72
             clear c72
             by_cases c73 : 0 ≤ t251
             · rw [if_pos c73] at H
               have c73b0 : decide (0 ≤ t251) = true := decide_eq_true c73
               clear c73
               by_cases c74 : t251 < (x0_16.length : Int)
               · rw [if_pos c74] at H
                 have c74b0 : decide (t251 < (x0_16.length : Int)) = true := decide_eq_true c74
                 clear c74
                 obtain ⟨y267, hy267⟩ : ∃ y_ : List (S33), y_ = (x0_16.set (t251 : Int).toNat (⟨(rd_T33 x0_16 t251).f0, wrap64 (-(wrap64 (1 + t252))), (rd_T33 x0_16 t251).f2, (rd_T33 x0_16 t251).f3, (rd_T33 x0_16 t251).f4, (rd_T33 x0_16 t251).f5, (rd_T33 x0_16 t251).f6, (rd_T33 x0_16 t251).f7, (rd_T33 x0_16 t251).f8⟩ : S33)) := ⟨_, rfl⟩
                 replace H : ((lots_Check.f kj16 y267).bind fun t268 => (some (t268 == x12_16))) = some r := by first | (rw [hy267]; with_reducible exact H) | (have H2_ := (Option.bind_some _ _).symm.trans H; rw [hy267]; with_reducible exact H2_) | (have H2_ := (Option.bind_some _ _).symm.trans H; with_reducible exact H2_) | with_reducible exact H | (rw [hy267]; exact H) | exact H
                 have Ny267 := Aside0.mk hy267
                 clear hy267
                 replace H := Option.bind_eq_some_iff.mp H
                 obtain ⟨t268, A760, H⟩ := H
                 replace H : (some (t268 == x12_16)) = some r := H
                 have A76 := Aside0.mk A760
                 clear A760
                 obtain rfl := Option.some.inj H
                 go_wp2_with (first | (go_at_call 13; (with_reducible refine (tolllaw10_within.calls a3 8 t266 _ A70.out).mono ?_); rintro e w' ⟨rfl, rfl⟩; (try (rw [drewN_self wc]; generalize hq_ : World.drewN wc _ = wc; have n0_ : Aside0 (Kd.R k33 33 wc w.heap.size (fun _ => True) (.slice Ao20 x0_16.length co20) x0_16) := ⟨by rw [← hq_]; exact (by (with_reducible repeat (first | apply Kd.R_alloc | apply Kd.R_drewN | apply Kd.R_drew)); exact HO_0.out)⟩; have n1_ : Aside0 (Below w.heap.size w wc) := ⟨by rw [← hq_]; exact (by repeat (first | (with_reducible first | exact HB.out | apply below_alloc | apply pw_below_drewN | apply below_drew1) | exact HB.out))⟩; clear HO_0 HB hq_; have HO_0 := n0_; have HB := n1_; clear n0_ n1_)); have p75 : 0 ≤ (t251 : Int) := of_decide_eq_true (by first | (with_reducible assumption) | assumption); have q75 : (t251 : Int) < ((x0_16.length : Int) : Int) := of_decide_eq_true (by first | (with_reducible assumption) | assumption); obtain ⟨go75, co75, eo75, gb75, gl75, cl75, HG75⟩ := Kd.R_form HO_0.out (by omega); (first | cases eo75 | (injection eo75 with ea_ en_ ec_; (first | subst ea_ | (injection ea_ with ea_; subst ea_)); subst ec_; clear en_)); have GB75 := Aside0.mk gb75; have GG75 := Aside0.mk HG75; clear gb75 gl75 HG75; obtain ⟨ce75, hcl75, hM75, hcc75, hfr75⟩ := Kd.R_elem HO_0.out z33 (t251 : Int) p75 q75; obtain rfl := k33_openM hM75; have hx75_0 : wc.cell? ⟨go75, (t251 : Int).toNat * 9, none⟩ = some (.int .i64 ((rd_T33 x0_16 t251).f0)) := hcc75 0 _ rfl; have hx75_1 : wc.cell? ⟨go75, (t251 : Int).toNat * 9 + 1, none⟩ = some (.int .i64 ((rd_T33 x0_16 t251).f1)) := hcc75 1 _ rfl; have hx75_2 : wc.cell? ⟨go75, (t251 : Int).toNat * 9 + 2, none⟩ = some (.int .i64 ((rd_T33 x0_16 t251).f2)) := hcc75 2 _ rfl; have hx75_3 : wc.cell? ⟨go75, (t251 : Int).toNat * 9 + 3, none⟩ = some (.int .i64 ((rd_T33 x0_16 t251).f3)) := hcc75 3 _ rfl; have hx75_4 : wc.cell? ⟨go75, (t251 : Int).toNat * 9 + 4, none⟩ = some (.int .i64 ((rd_T33 x0_16 t251).f4)) := hcc75 4 _ rfl; have hx75_5 : wc.cell? ⟨go75, (t251 : Int).toNat * 9 + 5, none⟩ = some (.int .i64 ((rd_T33 x0_16 t251).f5)) := hcc75 5 _ rfl; have hx75_6 : wc.cell? ⟨go75, (t251 : Int).toNat * 9 + 6, none⟩ = some (.int .i64 ((rd_T33 x0_16 t251).f6)) := hcc75 6 _ rfl; have hx75_7 : wc.cell? ⟨go75, (t251 : Int).toNat * 9 + 7, none⟩ = some (.int .i64 ((rd_T33 x0_16 t251).f7)) := hcc75 7 _ rfl; have hx75_8 : wc.cell? ⟨go75, (t251 : Int).toNat * 9 + 8, none⟩ = some (.int .i64 ((rd_T33 x0_16 t251).f8)) := hcc75 8 _ rfl; have hf75_0 : wc.frozen? ⟨go75, (t251 : Int).toNat * 9, none⟩ = false := hfr75 0; have hf75_1 : wc.frozen? ⟨go75, (t251 : Int).toNat * 9 + 1, none⟩ = false := hfr75 1; have hf75_2 : wc.frozen? ⟨go75, (t251 : Int).toNat * 9 + 2, none⟩ = false := hfr75 2; have hf75_3 : wc.frozen? ⟨go75, (t251 : Int).toNat * 9 + 3, none⟩ = false := hfr75 3; have hf75_4 : wc.frozen? ⟨go75, (t251 : Int).toNat * 9 + 4, none⟩ = false := hfr75 4; have hf75_5 : wc.frozen? ⟨go75, (t251 : Int).toNat * 9 + 5, none⟩ = false := hfr75 5; have hf75_6 : wc.frozen? ⟨go75, (t251 : Int).toNat * 9 + 6, none⟩ = false := hfr75 6; have hf75_7 : wc.frozen? ⟨go75, (t251 : Int).toNat * 9 + 7, none⟩ = false := hfr75 7; have hf75_8 : wc.frozen? ⟨go75, (t251 : Int).toNat * 9 + 8, none⟩ = false := hfr75 8; clear hcl75 hcc75 hfr75 hM75; replace p75 := eq_true p75; replace q75 := eq_true q75; have HX77 := Aside0.mk (show Kd.R k33 33 wc w.heap.size (fun _ => True) (.slice (some ⟨go75, 0, none⟩) x0_16.length co20) x0_16 from (by (with_reducible repeat (first | apply Kd.R_alloc | apply Kd.R_drewN | apply Kd.R_drew)); exact HO_0.out)); obtain ⟨ce77, hcl77, hM77, hcc77, hfr77⟩ := Kd.R_elem HX77.out z33 (t251 : Int) (of_decide_eq_true (by first | (with_reducible assumption) | assumption)) (by have h_ : (t251 : Int) < ((x0_16.length : Int) : Int) := of_decide_eq_true (by first | (with_reducible assumption) | assumption); first | exact h_ | (have e_ := (Kd.R_reads' HO_0.out).1; omega) | simpa using h_); obtain rfl := k33_openM hM77; have HP77 := Kd.R_seg HX77.out (t251 : Int) (of_decide_eq_true (by first | (with_reducible assumption) | assumption)) (by have h_ : (t251 : Int) < ((x0_16.length : Int) : Int) := of_decide_eq_true (by first | (with_reducible assumption) | assumption); first | exact h_ | (have e_ := (Kd.R_reads' HO_0.out).1; omega) | simpa using h_) (seg := [.int .i64 (wrap64 (-(wrap64 (1 + t252))))]) (j := 1) hcl77 hcc77 (show 2 ≤ 9 from by decide) (x' := (⟨(rd_T33 x0_16 t251).f0, wrap64 (-(wrap64 (1 + t252))), (rd_T33 x0_16 t251).f2, (rd_T33 x0_16 t251).f3, (rd_T33 x0_16 t251).f4, (rd_T33 x0_16 t251).f5, (rd_T33 x0_16 t251).f6, (rd_T33 x0_16 t251).f7, (rd_T33 x0_16 t251).f8⟩ : S33)) (k33_mkM _ _ _ (⟨(rd_T33 x0_16 t251).f0, wrap64 (-(wrap64 (1 + t252))), (rd_T33 x0_16 t251).f2, (rd_T33 x0_16 t251).f3, (rd_T33 x0_16 t251).f4, (rd_T33 x0_16 t251).f5, (rd_T33 x0_16 t251).f6, (rd_T33 x0_16 t251).f7, (rd_T33 x0_16 t251).f8⟩ : S33) ) (fun _ hk => hk); have hx77_1 := hcc77 1 _ rfl; (try simp only [show (k33).sz = 9 from rfl, Nat.mul_one, Nat.add_zero] at hx77_1); have hf77_1 := hfr77 1; (try simp only [show (k33).sz = 9 from rfl, Nat.mul_one, Nat.add_zero] at hf77_1); clear hcl77 hcc77 hfr77 hM77) | ((with_reducible refine gate_store (t := 3) (p := 133) rfl ?_); refine store_event (t := 3) (p := 133) (v := ?vo_w78) (w1 := (wc.setCell ⟨go75, (t251 : Int).toNat * 9 + 1, none⟩ (.int .i64 (wrap64 (-(wrap64 (1 + t252))))))) ?hg ?ho ?hn ?hr ?_; (case ho => rfl); (case hg => rfl); (case hn => rfl); (case hr => first | (go_simp; done) | (go_simp; rfl)); intro w78 hw; have hg : wc.grownBy w78 (some go75) := (by rw [hw]; exact HP77.2); have hp_ : Kd.R k33 33 w78 w.heap.size (fun _ => True) (.slice (some ⟨go75, 0, none⟩) x0_16.length co20) y267 := (by rw [hw, Ny267.out]; exact HP77.1); clear HP77; have n0_ := Aside0.mk (hp_); have n1_ := Aside0.mk ((by rw [hw]; exact below_set (HB.out) GB75.out : Below w.heap.size w w78)); clear HO_0; clear HB; have HO_0 := n0_; have HB := n1_; clear n0_ n1_; clear hg hw hp_) | ((with_reducible refine gate_callee (f := 20) rfl ?_); refine goesL_ (some 135) rfl rfl Try.func20 (by kernel_rfl) rfl #[.slice (some ⟨go75, 0, none⟩) y267.length co20] rfl (by (try simp only [List.map_toArray, List.map_cons, List.map_nil]); first | done | (rw [show y267.length = x0_16.length from (Kd.R_reads' HO_0.out).1.symm] <;> rfl) | rfl | (simp only [List.length_drop, List.length_take]; rfl)) ?_; (with_reducible refine (lots_Check.calls kj16 _ _ y267 t268 _ ?side1 ?side2 A76.out).mono ?_); (case side1 => repeat (first | exact (Kd.R_reads' HO_0.out).2.2 | (with_reducible refine Kd.C_alloc ?_ _) | (with_reducible refine Kd.C_drewN ?_ _) | (with_reducible refine Kd.C_drew ?_))); (case side2 => rw [show y267.length = x0_16.length from (Kd.R_reads' HO_0.out).1.symm]; exact (Kd.R_reads' HO_0.out).2.1); rintro e w79 ⟨rfl, hb⟩; refine ⟨_, rfl, ?_⟩; have n0_ := Aside0.mk (Kd.R_below (by (with_reducible repeat (first | apply Kd.R_alloc | apply Kd.R_drewN | apply Kd.R_drew)); exact HO_0.out) hb); have n1_ := Aside0.mk (below_step (by repeat (first | (with_reducible first | exact HB.out | apply below_alloc | apply pw_below_drewN | apply below_drew1) | exact HB.out)) hb); clear HO_0; clear HB; have HO_0 := n0_; have HB := n1_; clear n0_ n1_; (try clear hb); (try clear hb2); (try clear hk); (try clear hi)))
                 go_ret
                 exact ⟨by first | rfl | (simp [errW_none, errW_some] <;> rfl) | (simp [*, errW_none, errW_some] <;> rfl), by repeat (first | (with_reducible first | exact HB.out | apply below_alloc | apply pw_below_drewN | apply below_drew1) | exact HB.out)⟩
               · rw [if_neg c74] at H
                 exact absurd H (by simp)
             · rw [if_neg c73] at H
               exact absurd H (by simp)
           · rw [if_neg c72] at H
             have c72b0 : decide (0 < t251) = false := decide_eq_false c72
             clear c72
             replace H := Option.bind_eq_some_iff.mp H
             obtain ⟨t269, A800, H⟩ := H
             replace H : (some (t269 == x12_16)) = some r := H
             have A80 := Aside0.mk A800
             clear A800
             obtain rfl := Option.some.inj H
             go_wp2_with (first | (go_at_call 13; (with_reducible refine (tolllaw10_within.calls a3 8 t266 _ A70.out).mono ?_); rintro e w' ⟨rfl, rfl⟩) | ((with_reducible refine gate_callee (f := 20) rfl ?_); refine goesL_ (some 135) rfl rfl Try.func20 (by kernel_rfl) rfl #[.slice Ao20 x0_16.length co20] rfl (by (try simp only [List.map_toArray, List.map_cons, List.map_nil]); first | done | rfl | (simp only [List.length_drop, List.length_take]; rfl)) ?_; (with_reducible refine (lots_Check.calls kj16 _ _ x0_16 t269 _ ?side1 ?side2 A80.out).mono ?_); (case side1 => repeat (first | exact (Kd.R_reads' HO_0.out).2.2 | (with_reducible refine Kd.C_alloc ?_ _) | (with_reducible refine Kd.C_drewN ?_ _) | (with_reducible refine Kd.C_drew ?_))); (case side2 => exact (Kd.R_reads' HO_0.out).2.1); rintro e w81 ⟨rfl, hb⟩; refine ⟨_, rfl, ?_⟩; have n0_ := Aside0.mk (Kd.R_below (by (with_reducible repeat (first | apply Kd.R_alloc | apply Kd.R_drewN | apply Kd.R_drew)); exact HO_0.out) hb); have n1_ := Aside0.mk (below_step (by repeat (first | (with_reducible first | exact HB.out | apply below_alloc | apply pw_below_drewN | apply below_drew1) | exact HB.out)) hb); clear HO_0; clear HB; have HO_0 := n0_; have HB := n1_; clear n0_ n1_; (try clear hb); (try clear hb2); (try clear hk); (try clear hi)))
             go_ret
             exact ⟨by first | rfl | (simp [errW_none, errW_some] <;> rfl) | (simp [*, errW_none, errW_some] <;> rfl), by repeat (first | (with_reducible first | exact HB.out | apply below_alloc | apply pw_below_drewN | apply below_drew1) | exact HB.out)⟩
         · rw [if_neg c71] at H
           have c71b0 : (t266 == 1) = false := beq_eq_false_iff_ne.mpr c71
           have c71b1 : (t266 != 1) = true := bne_iff_ne.mpr c71
           replace H := Option.bind_eq_some_iff.mp H
           obtain ⟨t270, A820, H⟩ := H
           replace H : (some (t270 == x12_16)) = some r := H
           have A82 := Aside0.mk A820
           clear A820
           obtain rfl := Option.some.inj H
           go_wp2_with (first | (go_at_call 13; (with_reducible refine (tolllaw10_within.calls a3 8 t266 _ A70.out).mono ?_); rintro e w' ⟨rfl, rfl⟩) | ((with_reducible refine gate_callee (f := 20) rfl ?_); refine goesL_ (some 135) rfl rfl Try.func20 (by kernel_rfl) rfl #[.slice Ao20 x0_16.length co20] rfl (by (try simp only [List.map_toArray, List.map_cons, List.map_nil]); first | done | rfl | (simp only [List.length_drop, List.length_take]; rfl)) ?_; (with_reducible refine (lots_Check.calls kj16 _ _ x0_16 t270 _ ?side1 ?side2 A82.out).mono ?_); (case side1 => repeat (first | exact (Kd.R_reads' HO_0.out).2.2 | (with_reducible refine Kd.C_alloc ?_ _) | (with_reducible refine Kd.C_drewN ?_ _) | (with_reducible refine Kd.C_drew ?_))); (case side2 => exact (Kd.R_reads' HO_0.out).2.1); rintro e w83 ⟨rfl, hb⟩; refine ⟨_, rfl, ?_⟩; have n0_ := Aside0.mk (Kd.R_below (by (with_reducible repeat (first | apply Kd.R_alloc | apply Kd.R_drewN | apply Kd.R_drew)); exact HO_0.out) hb); have n1_ := Aside0.mk (below_step (by repeat (first | (with_reducible first | exact HB.out | apply below_alloc | apply pw_below_drewN | apply below_drew1) | exact HB.out)) hb); clear HO_0; clear HB; have HO_0 := n0_; have HB := n1_; clear n0_ n1_; (try clear hb); (try clear hb2); (try clear hk); (try clear hi)))
           go_ret
           exact ⟨by first | rfl | (simp [errW_none, errW_some] <;> rfl) | (simp [*, errW_none, errW_some] <;> rfl), by repeat (first | (with_reducible first | exact HB.out | apply below_alloc | apply pw_below_drewN | apply below_drew1) | exact HB.out)⟩
       · rw [if_neg c69] at H
         have c69b0 : decide (1 < (x0_16.length : Int)) = false := decide_eq_false c69
         have c69b1 : decide (1 < x0_16.length) = false := decide_eq_false (by omega)
         clear c69
         replace H := Option.bind_eq_some_iff.mp H
         obtain ⟨t271, A840, H⟩ := H
         replace H : (some (t271 == x12_16)) = some r := H
         have A84 := Aside0.mk A840
         clear A840
         obtain rfl := Option.some.inj H
         go_wp2_with (first | ((with_reducible refine gate_callee (f := 20) rfl ?_); refine goesL_ (some 135) rfl rfl Try.func20 (by kernel_rfl) rfl #[.slice Ao20 x0_16.length co20] rfl (by (try simp only [List.map_toArray, List.map_cons, List.map_nil]); first | done | rfl | (simp only [List.length_drop, List.length_take]; rfl)) ?_; (with_reducible refine (lots_Check.calls kj16 _ _ x0_16 t271 _ ?side1 ?side2 A84.out).mono ?_); (case side1 => repeat (first | exact (Kd.R_reads' HO_0.out).2.2 | (with_reducible refine Kd.C_alloc ?_ _) | (with_reducible refine Kd.C_drewN ?_ _) | (with_reducible refine Kd.C_drew ?_))); (case side2 => exact (Kd.R_reads' HO_0.out).2.1); rintro e w85 ⟨rfl, hb⟩; refine ⟨_, rfl, ?_⟩; have n0_ := Aside0.mk (Kd.R_below (by (with_reducible repeat (first | apply Kd.R_alloc | apply Kd.R_drewN | apply Kd.R_drew)); exact HO_0.out) hb); have n1_ := Aside0.mk (below_step (by repeat (first | (with_reducible first | exact HB.out | apply below_alloc | apply pw_below_drewN | apply below_drew1) | exact HB.out)) hb); clear HO_0; clear HB; have HO_0 := n0_; have HB := n1_; clear n0_ n1_; (try clear hb); (try clear hb2); (try clear hk); (try clear hi)))
         go_ret
         exact ⟨by first | rfl | (simp [errW_none, errW_some] <;> rfl) | (simp [*, errW_none, errW_some] <;> rfl), by repeat (first | (with_reducible first | exact HB.out | apply below_alloc | apply pw_below_drewN | apply below_drew1) | exact HB.out)⟩
 · replace c7 := Bool.eq_false_iff.mpr c7
   subst c7
   have H1 : (some false) = some r := by rw [if_neg (show ¬ (false = true) by decide)] at H; exact H
   clear H
   have H := H1
   clear H1
   obtain rfl := Option.some.inj H
   go_enter Try.func7, Try.ntmps7
   go_wp2_with (first | ((with_reducible refine gate_callee (f := 12) rfl ?_); refine goesL_ (some 13) rfl rfl Try.func12 (by kernel_rfl) rfl #[] rfl (by (try simp only [List.map_toArray, List.map_cons, List.map_nil]); first | done | rfl | (simp only [List.length_drop, List.length_take]; rfl)) ?_; (with_reducible refine (tolllaw10_known.calls  false _ A6.out).mono ?_); rintro e w86 ⟨rfl, hb⟩; refine ⟨_, rfl, ?_⟩; have n0_ := Aside0.mk (below_step (by repeat (first | (with_reducible first | exact HB.out | apply below_alloc | apply pw_below_drewN | apply below_drew1) | exact HB.out)) hb); clear HB; have HB := n0_; clear n0_; (try clear hb); (try clear hb2); (try clear hk); (try clear hi)))
   go_ret
   exact ⟨by first | rfl | (simp [errW_none, errW_some] <;> rfl) | (simp [*, errW_none, errW_some] <;> rfl), by repeat (first | (with_reducible first | exact HB.out | apply below_alloc | apply pw_below_drewN | apply below_drew1) | exact HB.out)⟩

end Go.Proofs.Ytjoimapgmocoeaa.Xa
