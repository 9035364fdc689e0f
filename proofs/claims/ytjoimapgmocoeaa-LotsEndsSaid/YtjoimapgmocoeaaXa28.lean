/- What Go functions of this seat compute, as plain Lean functions; the machine's calls do what these say, under the conditions that each theorem names. Written by a program of this session (xprint, over print.py of the kit). -/
import Derived.Test.YtjoimapgmocoeaaXa0
import Derived.Test.YtjoimapgmocoeaaXa3
import Derived.Test.YtjoimapgmocoeaaXa4
import Derived.Test.YtjoimapgmocoeaaXa5
import Derived.Test.YtjoimapgmocoeaaXa10
import Derived.Test.YtjoimapgmocoeaaXa12
import Derived.Test.YtjoimapgmocoeaaXa14
namespace Go.Proofs.Ytjoimapgmocoeaa.Xa
open Go.RowKit Go.Proofs.YtjoimapgmocoeaaW.PrintWords Go.Proofs.YtjoimapgmocoeaaW.PrintLast Go.Proofs.YtjoimapgmocoeaaW.PrintMore
attribute [local go_sem] max2_int min2_int max_two min_two max_three min_three max_four min_four   -- for this text's walks alone
set_option linter.unusedVariables false
set_option linter.unusedSimpArgs false

/-! ### tolllaw10_LotsEnds: function 9 -/
def tolllaw10_LotsEnds.j0 : Nat → Int → Int → Int → Int → List (S33) → Bool → Option (Bool)
 | 0, _, _, _, _, _, _ => none
 | k + 1, x0, x1, x2, x3, x13, x70 => if x70 = true then (some false) else (if x3 ≥ x2 then (if 0 < (x13.length : Int) then (if ((rd_T33 x13 0).f7) = (wrap64 (x0 - x1)) then ((lots_Rest.f ((rd_T33 x13 0).f0) ((rd_T33 x13 0).f1) ((rd_T33 x13 0).f2) ((rd_T33 x13 0).f3) ((rd_T33 x13 0).f4) ((rd_T33 x13 0).f5) ((rd_T33 x13 0).f6) ((rd_T33 x13 0).f7) ((rd_T33 x13 0).f8)).bind fun t393 => (if t393 = 5 then ((lots_Left.f k x13 x3).bind fun t394 => (some (t394 == 0))) else (some false))) else (some false)) else (none)) else (if 0 < (x13.length : Int) then (if ((rd_T33 x13 0).f7) = 0 then ((lots_Rest.f ((rd_T33 x13 0).f0) ((rd_T33 x13 0).f1) ((rd_T33 x13 0).f2) ((rd_T33 x13 0).f3) ((rd_T33 x13 0).f4) ((rd_T33 x13 0).f5) ((rd_T33 x13 0).f6) ((rd_T33 x13 0).f7) ((rd_T33 x13 0).f8)).bind fun t397 => (if t397 = (wrap64 ((wrap64 (x0 - x1)) + 5)) then ((lots_Left.f k x13 x3).bind fun t398 => (some (t398 == (wrap64 ((wrap64 (x0 - x1)) + 5))))) else (some false))) else (some false)) else (none)))
def tolllaw10_LotsEnds.f (k : Nat) (a0 : Int) (a1 : Int) (a2 : Int) (a3 : Int) : Option (Bool) := (tolllaw10_known.f).bind fun t370 => (if t370 = true then ((tolllaw10_within.f a0 1000).bind fun t371 => ((tolllaw10_within.f a1 (wrap64 ((wrap64 (1 + t371)) + 1))).bind fun t372 => ((tolllaw10_within.f a2 20).bind fun t373 => ((tolllaw10_within.f a3 30).bind fun t374 => ((lots_Take.f (([(⟨4, 0, 0, wrap64 (10 + t373), wrap64 ((wrap64 (1 + t371)) + 5), 0, 0, 0, 0⟩ : S33)] : List (S33))) (wrap64 (1 + t371)) 1).bind fun bt378 => ((lots_Use.f bt378.1 bt378.2.1 t372 (wrap64 (10 + t374))).bind fun bt385 => (if bt378.2.2 = 0 then (if bt385.2 = 0 then (if 0 < (bt385.1.length : Int) then (if ((rd_T33 bt385.1 0).f5) = t372 then (tolllaw10_LotsEnds.j0 k (wrap64 (1 + t371)) t372 (wrap64 (10 + t373)) (wrap64 (10 + t374)) bt385.1 (((rd_T33 bt385.1 0).f6) != 0)) else (tolllaw10_LotsEnds.j0 k (wrap64 (1 + t371)) t372 (wrap64 (10 + t373)) (wrap64 (10 + t374)) bt385.1 true)) else (none)) else (tolllaw10_LotsEnds.j0 k (wrap64 (1 + t371)) t372 (wrap64 (10 + t373)) (wrap64 (10 + t374)) bt385.1 true)) else (tolllaw10_LotsEnds.j0 k (wrap64 (1 + t371)) t372 (wrap64 (10 + t373)) (wrap64 (10 + t374)) bt385.1 true)))))))) else (some false))
theorem tolllaw10_LotsEnds.mono_l : ∀ k, (∀ y0 y1 y2 y3 y4 y5, LeO (tolllaw10_LotsEnds.j0 k y0 y1 y2 y3 y4 y5) (tolllaw10_LotsEnds.j0 (k + 1) y0 y1 y2 y3 y4 y5))
 | 0 => fun _ _ _ _ _ _ r h => by simp [tolllaw10_LotsEnds.j0] at h
 | k + 1 => by
  have ih0 := tolllaw10_LotsEnds.mono_l k
  · intro y0 y1 y2 y3 y4 y5
    unfold tolllaw10_LotsEnds.j0
    repeat' first
    | (with_reducible exact ih0 _ _ _ _ _ _)
    | (with_reducible exact lots_Left.mono _ _ _)
    | (with_reducible exact LeO.refl _)
    | (with_reducible exact LeO.none _)
    | (with_reducible refine LeO.ite ?_ ?_)
    | (with_reducible refine LeO.bind ?_ (fun _ => ?_))
    | exact ih0 _ _ _ _ _ _
    | exact lots_Left.mono _ _ _
    | exact LeO.none _
    | refine LeO.ite ?_ ?_
    | refine LeO.bind ?_ (fun _ => ?_)
theorem tolllaw10_LotsEnds.mono : ∀ a0 a1 a2 a3 k, LeO (tolllaw10_LotsEnds.f k a0 a1 a2 a3) (tolllaw10_LotsEnds.f (k + 1) a0 a1 a2 a3) := by
 intro a0 a1 a2 a3 k
 have ih0 := tolllaw10_LotsEnds.mono_l k
 unfold tolllaw10_LotsEnds.f
 repeat' first
  | (with_reducible exact ih0 _ _ _ _ _ _)
  | (with_reducible exact lots_Left.mono _ _ _)
  | (with_reducible exact LeO.refl _)
  | (with_reducible exact LeO.none _)
  | (with_reducible refine LeO.ite ?_ ?_)
  | (with_reducible refine LeO.bind ?_ (fun _ => ?_))
  | exact ih0 _ _ _ _ _ _
  | exact lots_Left.mono _ _ _
  | exact LeO.none _
  | refine LeO.ite ?_ ?_
  | refine LeO.bind ?_ (fun _ => ?_)
set_option maxHeartbeats 8000000 in
set_option maxRecDepth 100000 in
theorem tolllaw10_LotsEnds.calls (k : Nat) (a0 : Int) (a1 : Int) (a2 : Int) (a3 : Int) (r : Bool) (w : World) (h : tolllaw10_LotsEnds.f k a0 a1 a2 a3 = some r) :
 Calls Try.prog 9 #[.int .i64 a0, .int .i64 a1, .int .i64 a2, .int .i64 a3] w fun e w' => e = .returned (.bool r) ∧ Below w.heap.size w w' := by
 have hu33 := Try.underlying33
 have HB := Aside0.mk (Below.refl w.heap.size w)
 have H : ((tolllaw10_known.f).bind fun t370 => (if t370 = true then ((tolllaw10_within.f a0 1000).bind fun t371 => ((tolllaw10_within.f a1 (wrap64 ((wrap64 (1 + t371)) + 1))).bind fun t372 => ((tolllaw10_within.f a2 20).bind fun t373 => ((tolllaw10_within.f a3 30).bind fun t374 => ((lots_Take.f (([(⟨4, 0, 0, wrap64 (10 + t373), wrap64 ((wrap64 (1 + t371)) + 5), 0, 0, 0, 0⟩ : S33)] : List (S33))) (wrap64 (1 + t371)) 1).bind fun bt378 => ((lots_Use.f bt378.1 bt378.2.1 t372 (wrap64 (10 + t374))).bind fun bt385 => (if bt378.2.2 = 0 then (if bt385.2 = 0 then (if 0 < (bt385.1.length : Int) then (if ((rd_T33 bt385.1 0).f5) = t372 then (tolllaw10_LotsEnds.j0 k (wrap64 (1 + t371)) t372 (wrap64 (10 + t373)) (wrap64 (10 + t374)) bt385.1 (((rd_T33 bt385.1 0).f6) != 0)) else (tolllaw10_LotsEnds.j0 k (wrap64 (1 + t371)) t372 (wrap64 (10 + t373)) (wrap64 (10 + t374)) bt385.1 true)) else (none)) else (tolllaw10_LotsEnds.j0 k (wrap64 (1 + t371)) t372 (wrap64 (10 + t373)) (wrap64 (10 + t374)) bt385.1 true)) else (tolllaw10_LotsEnds.j0 k (wrap64 (1 + t371)) t372 (wrap64 (10 + t373)) (wrap64 (10 + t374)) bt385.1 true)))))))) else (some false))) = some r := h
 clear h
 replace H := Option.bind_eq_some_iff.mp H
 obtain ⟨t370, A50, H⟩ := H
 replace H : (if t370 = true then ((tolllaw10_within.f a0 1000).bind fun t371 => ((tolllaw10_within.f a1 (wrap64 ((wrap64 (1 + t371)) + 1))).bind fun t372 => ((tolllaw10_within.f a2 20).bind fun t373 => ((tolllaw10_within.f a3 30).bind fun t374 => ((lots_Take.f (([(⟨4, 0, 0, wrap64 (10 + t373), wrap64 ((wrap64 (1 + t371)) + 5), 0, 0, 0, 0⟩ : S33)] : List (S33))) (wrap64 (1 + t371)) 1).bind fun bt378 => ((lots_Use.f bt378.1 bt378.2.1 t372 (wrap64 (10 + t374))).bind fun bt385 => (if bt378.2.2 = 0 then (if bt385.2 = 0 then (if 0 < (bt385.1.length : Int) then (if ((rd_T33 bt385.1 0).f5) = t372 then (tolllaw10_LotsEnds.j0 k (wrap64 (1 + t371)) t372 (wrap64 (10 + t373)) (wrap64 (10 + t374)) bt385.1 (((rd_T33 bt385.1 0).f6) != 0)) else (tolllaw10_LotsEnds.j0 k (wrap64 (1 + t371)) t372 (wrap64 (10 + t373)) (wrap64 (10 + t374)) bt385.1 true)) else (none)) else (tolllaw10_LotsEnds.j0 k (wrap64 (1 + t371)) t372 (wrap64 (10 + t373)) (wrap64 (10 + t374)) bt385.1 true)) else (tolllaw10_LotsEnds.j0 k (wrap64 (1 + t371)) t372 (wrap64 (10 + t373)) (wrap64 (10 + t374)) bt385.1 true)))))))) else (some false)) = some r := H
 have A5 := Aside0.mk A50
 clear A50
 by_cases c6 : t370 = true
 · subst c6
   have H1 : ((tolllaw10_within.f a0 1000).bind fun t371 => ((tolllaw10_within.f a1 (wrap64 ((wrap64 (1 + t371)) + 1))).bind fun t372 => ((tolllaw10_within.f a2 20).bind fun t373 => ((tolllaw10_within.f a3 30).bind fun t374 => ((lots_Take.f (([(⟨4, 0, 0, wrap64 (10 + t373), wrap64 ((wrap64 (1 + t371)) + 5), 0, 0, 0, 0⟩ : S33)] : List (S33))) (wrap64 (1 + t371)) 1).bind fun bt378 => ((lots_Use.f bt378.1 bt378.2.1 t372 (wrap64 (10 + t374))).bind fun bt385 => (if bt378.2.2 = 0 then (if bt385.2 = 0 then (if 0 < (bt385.1.length : Int) then (if ((rd_T33 bt385.1 0).f5) = t372 then (tolllaw10_LotsEnds.j0 k (wrap64 (1 + t371)) t372 (wrap64 (10 + t373)) (wrap64 (10 + t374)) bt385.1 (((rd_T33 bt385.1 0).f6) != 0)) else (tolllaw10_LotsEnds.j0 k (wrap64 (1 + t371)) t372 (wrap64 (10 + t373)) (wrap64 (10 + t374)) bt385.1 true)) else (none)) else (tolllaw10_LotsEnds.j0 k (wrap64 (1 + t371)) t372 (wrap64 (10 + t373)) (wrap64 (10 + t374)) bt385.1 true)) else (tolllaw10_LotsEnds.j0 k (wrap64 (1 + t371)) t372 (wrap64 (10 + t373)) (wrap64 (10 + t374)) bt385.1 true)))))))) = some r := by rw [if_pos rfl] at H; exact H
   clear H
   have H := H1
   clear H1
   replace H := Option.bind_eq_some_iff.mp H
   obtain ⟨t371, A70, H⟩ := H
   replace H : ((tolllaw10_within.f a1 (wrap64 ((wrap64 (1 + t371)) + 1))).bind fun t372 => ((tolllaw10_within.f a2 20).bind fun t373 => ((tolllaw10_within.f a3 30).bind fun t374 => ((lots_Take.f (([(⟨4, 0, 0, wrap64 (10 + t373), wrap64 ((wrap64 (1 + t371)) + 5), 0, 0, 0, 0⟩ : S33)] : List (S33))) (wrap64 (1 + t371)) 1).bind fun bt378 => ((lots_Use.f bt378.1 bt378.2.1 t372 (wrap64 (10 + t374))).bind fun bt385 => (if bt378.2.2 = 0 then (if bt385.2 = 0 then (if 0 < (bt385.1.length : Int) then (if ((rd_T33 bt385.1 0).f5) = t372 then (tolllaw10_LotsEnds.j0 k (wrap64 (1 + t371)) t372 (wrap64 (10 + t373)) (wrap64 (10 + t374)) bt385.1 (((rd_T33 bt385.1 0).f6) != 0)) else (tolllaw10_LotsEnds.j0 k (wrap64 (1 + t371)) t372 (wrap64 (10 + t373)) (wrap64 (10 + t374)) bt385.1 true)) else (none)) else (tolllaw10_LotsEnds.j0 k (wrap64 (1 + t371)) t372 (wrap64 (10 + t373)) (wrap64 (10 + t374)) bt385.1 true)) else (tolllaw10_LotsEnds.j0 k (wrap64 (1 + t371)) t372 (wrap64 (10 + t373)) (wrap64 (10 + t374)) bt385.1 true))))))) = some r := H
   have A7 := Aside0.mk A70
   clear A70
   replace H := Option.bind_eq_some_iff.mp H
   obtain ⟨t372, A80, H⟩ := H
   replace H : ((tolllaw10_within.f a2 20).bind fun t373 => ((tolllaw10_within.f a3 30).bind fun t374 => ((lots_Take.f (([(⟨4, 0, 0, wrap64 (10 + t373), wrap64 ((wrap64 (1 + t371)) + 5), 0, 0, 0, 0⟩ : S33)] : List (S33))) (wrap64 (1 + t371)) 1).bind fun bt378 => ((lots_Use.f bt378.1 bt378.2.1 t372 (wrap64 (10 + t374))).bind fun bt385 => (if bt378.2.2 = 0 then (if bt385.2 = 0 then (if 0 < (bt385.1.length : Int) then (if ((rd_T33 bt385.1 0).f5) = t372 then (tolllaw10_LotsEnds.j0 k (wrap64 (1 + t371)) t372 (wrap64 (10 + t373)) (wrap64 (10 + t374)) bt385.1 (((rd_T33 bt385.1 0).f6) != 0)) else (tolllaw10_LotsEnds.j0 k (wrap64 (1 + t371)) t372 (wrap64 (10 + t373)) (wrap64 (10 + t374)) bt385.1 true)) else (none)) else (tolllaw10_LotsEnds.j0 k (wrap64 (1 + t371)) t372 (wrap64 (10 + t373)) (wrap64 (10 + t374)) bt385.1 true)) else (tolllaw10_LotsEnds.j0 k (wrap64 (1 + t371)) t372 (wrap64 (10 + t373)) (wrap64 (10 + t374)) bt385.1 true)))))) = some r := H
   have A8 := Aside0.mk A80
   clear A80
   replace H := Option.bind_eq_some_iff.mp H
   obtain ⟨t373, A90, H⟩ := H
   replace H : ((tolllaw10_within.f a3 30).bind fun t374 => ((lots_Take.f (([(⟨4, 0, 0, wrap64 (10 + t373), wrap64 ((wrap64 (1 + t371)) + 5), 0, 0, 0, 0⟩ : S33)] : List (S33))) (wrap64 (1 + t371)) 1).bind fun bt378 => ((lots_Use.f bt378.1 bt378.2.1 t372 (wrap64 (10 + t374))).bind fun bt385 => (if bt378.2.2 = 0 then (if bt385.2 = 0 then (if 0 < (bt385.1.length : Int) then (if ((rd_T33 bt385.1 0).f5) = t372 then (tolllaw10_LotsEnds.j0 k (wrap64 (1 + t371)) t372 (wrap64 (10 + t373)) (wrap64 (10 + t374)) bt385.1 (((rd_T33 bt385.1 0).f6) != 0)) else (tolllaw10_LotsEnds.j0 k (wrap64 (1 + t371)) t372 (wrap64 (10 + t373)) (wrap64 (10 + t374)) bt385.1 true)) else (none)) else (tolllaw10_LotsEnds.j0 k (wrap64 (1 + t371)) t372 (wrap64 (10 + t373)) (wrap64 (10 + t374)) bt385.1 true)) else (tolllaw10_LotsEnds.j0 k (wrap64 (1 + t371)) t372 (wrap64 (10 + t373)) (wrap64 (10 + t374)) bt385.1 true))))) = some r := H
   have A9 := Aside0.mk A90
   clear A90
   replace H := Option.bind_eq_some_iff.mp H
   obtain ⟨t374, A100, H⟩ := H
   replace H : ((lots_Take.f (([(⟨4, 0, 0, wrap64 (10 + t373), wrap64 ((wrap64 (1 + t371)) + 5), 0, 0, 0, 0⟩ : S33)] : List (S33))) (wrap64 (1 + t371)) 1).bind fun bt378 => ((lots_Use.f bt378.1 bt378.2.1 t372 (wrap64 (10 + t374))).bind fun bt385 => (if bt378.2.2 = 0 then (if bt385.2 = 0 then (if 0 < (bt385.1.length : Int) then (if ((rd_T33 bt385.1 0).f5) = t372 then (tolllaw10_LotsEnds.j0 k (wrap64 (1 + t371)) t372 (wrap64 (10 + t373)) (wrap64 (10 + t374)) bt385.1 (((rd_T33 bt385.1 0).f6) != 0)) else (tolllaw10_LotsEnds.j0 k (wrap64 (1 + t371)) t372 (wrap64 (10 + t373)) (wrap64 (10 + t374)) bt385.1 true)) else (none)) else (tolllaw10_LotsEnds.j0 k (wrap64 (1 + t371)) t372 (wrap64 (10 + t373)) (wrap64 (10 + t374)) bt385.1 true)) else (tolllaw10_LotsEnds.j0 k (wrap64 (1 + t371)) t372 (wrap64 (10 + t373)) (wrap64 (10 + t374)) bt385.1 true)))) = some r := H
   have A10 := Aside0.mk A100
   clear A100
   obtain ⟨y375, hy375⟩ : ∃ y_ : List (S33), y_ = (([(⟨4, 0, 0, wrap64 (10 + t373), wrap64 ((wrap64 (1 + t371)) + 5), 0, 0, 0, 0⟩ : S33)] : List (S33))) := ⟨_, rfl⟩
   replace H : ((lots_Take.f y375 (wrap64 (1 + t371)) 1).bind fun bt378 => ((lots_Use.f bt378.1 bt378.2.1 t372 (wrap64 (10 + t374))).bind fun bt385 => (if bt378.2.2 = 0 then (if bt385.2 = 0 then (if 0 < (bt385.1.length : Int) then (if ((rd_T33 bt385.1 0).f5) = t372 then (tolllaw10_LotsEnds.j0 k (wrap64 (1 + t371)) t372 (wrap64 (10 + t373)) (wrap64 (10 + t374)) bt385.1 (((rd_T33 bt385.1 0).f6) != 0)) else (tolllaw10_LotsEnds.j0 k (wrap64 (1 + t371)) t372 (wrap64 (10 + t373)) (wrap64 (10 + t374)) bt385.1 true)) else (none)) else (tolllaw10_LotsEnds.j0 k (wrap64 (1 + t371)) t372 (wrap64 (10 + t373)) (wrap64 (10 + t374)) bt385.1 true)) else (tolllaw10_LotsEnds.j0 k (wrap64 (1 + t371)) t372 (wrap64 (10 + t373)) (wrap64 (10 + t374)) bt385.1 true)))) = some r := by first | (rw [hy375]; with_reducible exact H) | (have H2_ := (Option.bind_some _ _).symm.trans H; rw [hy375]; with_reducible exact H2_) | (have H2_ := (Option.bind_some _ _).symm.trans H; with_reducible exact H2_) | with_reducible exact H | (rw [hy375]; exact H) | exact H
   have Ny375 := Aside0.mk hy375
   clear hy375
   replace H := Option.bind_eq_some_iff.mp H
   obtain ⟨⟨t378, t379, t380⟩, A110, H⟩ := H
   replace H : ((lots_Use.f t378 t379 t372 (wrap64 (10 + t374))).bind fun bt385 => (if t380 = 0 then (if bt385.2 = 0 then (if 0 < (bt385.1.length : Int) then (if ((rd_T33 bt385.1 0).f5) = t372 then (tolllaw10_LotsEnds.j0 k (wrap64 (1 + t371)) t372 (wrap64 (10 + t373)) (wrap64 (10 + t374)) bt385.1 (((rd_T33 bt385.1 0).f6) != 0)) else (tolllaw10_LotsEnds.j0 k (wrap64 (1 + t371)) t372 (wrap64 (10 + t373)) (wrap64 (10 + t374)) bt385.1 true)) else (none)) else (tolllaw10_LotsEnds.j0 k (wrap64 (1 + t371)) t372 (wrap64 (10 + t373)) (wrap64 (10 + t374)) bt385.1 true)) else (tolllaw10_LotsEnds.j0 k (wrap64 (1 + t371)) t372 (wrap64 (10 + t373)) (wrap64 (10 + t374)) bt385.1 true))) = some r := H
   have A11 := Aside0.mk A110
   clear A110
   replace H := Option.bind_eq_some_iff.mp H
   obtain ⟨⟨t385, t386⟩, A120, H⟩ := H
   replace H : (if t380 = 0 then (if t386 = 0 then (if 0 < (t385.length : Int) then (if ((rd_T33 t385 0).f5) = t372 then (tolllaw10_LotsEnds.j0 k (wrap64 (1 + t371)) t372 (wrap64 (10 + t373)) (wrap64 (10 + t374)) t385 (((rd_T33 t385 0).f6) != 0)) else (tolllaw10_LotsEnds.j0 k (wrap64 (1 + t371)) t372 (wrap64 (10 + t373)) (wrap64 (10 + t374)) t385 true)) else (none)) else (tolllaw10_LotsEnds.j0 k (wrap64 (1 + t371)) t372 (wrap64 (10 + t373)) (wrap64 (10 + t374)) t385 true)) else (tolllaw10_LotsEnds.j0 k (wrap64 (1 + t371)) t372 (wrap64 (10 + t373)) (wrap64 (10 + t374)) t385 true)) = some r := H
   have A12 := Aside0.mk A120
   clear A120
   have HC13 := Aside0.mk H
   clear H
   go_enter Try.func9, Try.ntmps9
   go_upto_region 8 with (first | ((with_reducible refine gate_callee (f := 12) rfl ?_); refine goesL_ (some 15) rfl rfl Try.func12 (by kernel_rfl) rfl #[] rfl (by (try simp only [List.map_toArray, List.map_cons, List.map_nil]); first | done | rfl | (simp only [List.length_drop, List.length_take]; rfl)) ?_; (with_reducible refine (tolllaw10_known.calls  true _ A5.out).mono ?_); rintro e w14 ⟨rfl, hb⟩; refine ⟨_, rfl, ?_⟩; have n0_ := Aside0.mk (below_step (by repeat (first | (with_reducible first | exact HB.out | apply below_alloc | apply pw_below_drewN | apply below_drew1) | exact HB.out)) hb); clear HB; have HB := n0_; clear n0_; (try clear hb); (try clear hb2); (try clear hk); (try clear hi)) | ((with_reducible refine gate_callee (f := 13) rfl ?_); refine goesL_ (some 18) rfl rfl Try.func13 (by kernel_rfl) rfl #[.int .i64 a0, .int .i64 1000] rfl (by (try simp only [List.map_toArray, List.map_cons, List.map_nil]); first | done | rfl | (simp only [List.length_drop, List.length_take]; rfl)) ?_; (with_reducible refine (tolllaw10_within.calls a0 1000 t371 _ A7.out).mono ?_); rintro e w' ⟨rfl, rfl⟩; refine ⟨_, rfl, ?_⟩) | ((with_reducible refine gate_callee (f := 13) rfl ?_); refine goesL_ (some 23) rfl rfl Try.func13 (by kernel_rfl) rfl #[.int .i64 a1, .int .i64 (wrap64 ((wrap64 (1 + t371)) + 1))] rfl (by (try simp only [List.map_toArray, List.map_cons, List.map_nil]); first | done | rfl | (simp only [List.length_drop, List.length_take]; rfl)) ?_; (with_reducible refine (tolllaw10_within.calls a1 (wrap64 ((wrap64 (1 + t371)) + 1)) t372 _ A8.out).mono ?_); rintro e w' ⟨rfl, rfl⟩; refine ⟨_, rfl, ?_⟩) | ((with_reducible refine gate_callee (f := 13) rfl ?_); refine goesL_ (some 25) rfl rfl Try.func13 (by kernel_rfl) rfl #[.int .i64 a2, .int .i64 20] rfl (by (try simp only [List.map_toArray, List.map_cons, List.map_nil]); first | done | rfl | (simp only [List.length_drop, List.length_take]; rfl)) ?_; (with_reducible refine (tolllaw10_within.calls a2 20 t373 _ A9.out).mono ?_); rintro e w' ⟨rfl, rfl⟩; refine ⟨_, rfl, ?_⟩) | ((with_reducible refine gate_callee (f := 13) rfl ?_); refine goesL_ (some 28) rfl rfl Try.func13 (by kernel_rfl) rfl #[.int .i64 a3, .int .i64 30] rfl (by (try simp only [List.map_toArray, List.map_cons, List.map_nil]); first | done | rfl | (simp only [List.length_drop, List.length_take]; rfl)) ?_; (with_reducible refine (tolllaw10_within.calls a3 30 t374 _ A10.out).mono ?_); rintro e w' ⟨rfl, rfl⟩; refine ⟨_, rfl, ?_⟩) | ((with_reducible refine gate_dst (N := 34) rfl ?_); refine Kd.R_lit k33 _ 33 ?hg (N := 34) ?hd (xs := ([(⟨4, 0, 0, wrap64 (10 + t373), wrap64 ((wrap64 (1 + t371)) + 5), 0, 0, 0, 0⟩ : S33)] : List (S33))) (inner := [.int .i64 4, .int .i64 0, .int .i64 0, .int .i64 (wrap64 (10 + t373)), .int .i64 (wrap64 ((wrap64 (1 + t371)) + 5)), .int .i64 0, .int .i64 0, .int .i64 0, .int .i64 0]) (ok := fun _ => True) (okp := fun _ => True) ?hr ?hp (fun _ hk => hk) trivial (Below.refl _ _) (Nat.le_refl _) (by simp) ?_; (case hd => rfl); (case hg => rfl); (case hr => first | (go_simp; done) | (go_simp; rfl)); (case hp => exact (Reps.c9 (show Kd.M k33 _ _ _ (⟨4, 0, 0, wrap64 (10 + t373), wrap64 ((wrap64 (1 + t371)) + 5), 0, 0, 0, 0⟩ : S33) [.int .i64 4, .int .i64 0, .int .i64 0, .int .i64 (wrap64 (10 + t373)), .int .i64 (wrap64 ((wrap64 (1 + t371)) + 5)), .int .i64 0, .int .i64 0, .int .i64 0, .int .i64 0] from (k33_mkM _ _ _ (⟨4, 0, 0, wrap64 (10 + t373), wrap64 ((wrap64 (1 + t371)) + 5), 0, 0, 0, 0⟩ : S33) )) (Reps.none _ _))); intro v376 w15 ho16 hb hg_ hnew_; clear hg_ hnew_; (first | rw [← Ny375.out] at ho16 | (simp only [Int.reduceToNat] at ho16; rw [← Ny375.out] at ho16)); have n0_ := Aside0.mk (Kd.R_lower ho16 (below_size (by repeat (first | (with_reducible first | exact HB.out | apply below_alloc | apply pw_below_drewN | apply below_drew1) | exact HB.out)))); have n1_ := Aside0.mk (below_step (by repeat (first | (with_reducible first | exact HB.out | apply below_alloc | apply pw_below_drewN | apply below_drew1) | exact HB.out)) hb); clear HB; have HO377 := n0_; have HB := n1_; clear n0_ n1_; clear hb ho16; obtain ⟨Ao17, co17, eo17⟩ := Kd.R_slice HO377.out; subst eo17) | ((with_reducible refine gate_callee (f := 15) rfl ?_); refine goesL_ (some 38) rfl rfl Try.func15 (by kernel_rfl) rfl #[.slice Ao17 y375.length co17, .int .i64 (wrap64 (1 + t371)), .int .i64 1] rfl (by (try simp only [List.map_toArray, List.map_cons, List.map_nil]); first | done | rfl | (simp only [List.length_drop, List.length_take]; rfl)) ?_; (with_reducible refine (lots_Take.calls _ _ y375 (wrap64 (1 + t371)) 1 t378 t379 t380 _ ?side1 ?side2 A11.out).mono ?_); (case side1 => repeat (first | exact (Kd.R_reads' HO377.out).2.2 | (with_reducible refine Kd.C_alloc ?_ _) | (with_reducible refine Kd.C_drewN ?_ _) | (with_reducible refine Kd.C_drew ?_))); (case side2 => exact (Kd.R_reads' HO377.out).2.1); rintro e w18 ⟨v381, v383, rfl, ho0, ho1, hb⟩; refine ⟨_, rfl, ?_⟩; have n0_ := Aside0.mk (Kd.R_elder' (by (with_reducible repeat (first | apply Kd.R_alloc | apply Kd.R_drewN | apply Kd.R_drew)); exact HO377.out) (Kd.R_base ho0) hb); have n1_ := Aside0.mk (Kd.R_lower (Kd.R_new' ho0 (Kd.R_lt (by (with_reducible repeat (first | apply Kd.R_alloc | apply Kd.R_drewN | apply Kd.R_drew)); exact HO377.out))) (below_size (by repeat (first | (with_reducible first | exact HB.out | apply below_alloc | apply pw_below_drewN | apply below_drew1) | exact HB.out)))); have n2_ := Aside0.mk (Kd.R_lower ho1 (below_size (by repeat (first | (with_reducible first | exact HB.out | apply below_alloc | apply pw_below_drewN | apply below_drew1) | exact HB.out)))); have n3_ := Aside0.mk (below_step (by repeat (first | (with_reducible first | exact HB.out | apply below_alloc | apply pw_below_drewN | apply below_drew1) | exact HB.out)) hb); clear HO377; clear HB; have HO377 := n0_; have HO382 := n1_; have HO384 := n2_; have HB := n3_; clear n0_ n1_ n2_ n3_; (try clear hb); (try clear hb2); (try clear hk); (try clear hi); (try clear ho0); (try clear ho1); obtain ⟨Ao19, co19, eo19⟩ := Kd.R_slice HO382.out; subst eo19; obtain ⟨Ao20, co20, eo20⟩ := Kd.R_slice HO384.out; subst eo20) | ((with_reducible refine gate_callee (f := 19) rfl ?_); refine goesL_ (some 47) rfl rfl Try.func19 (by kernel_rfl) rfl #[.slice Ao19 t378.length co19, .slice Ao20 t379.length co20, .int .i64 t372, .int .i64 (wrap64 (10 + t374))] rfl (by (try simp only [List.map_toArray, List.map_cons, List.map_nil]); first | done | rfl | (simp only [List.length_drop, List.length_take]; rfl)) ?_; (with_reducible refine (lots_Use.calls _ _ t378 _ _ t379 t372 (wrap64 (10 + t374)) t385 t386 _ ?side1 ?side2 ?side3 ?side4 A12.out).mono ?_); (case side1 => repeat (first | exact (Kd.R_reads' HO382.out).2.2 | (with_reducible refine Kd.C_alloc ?_ _) | (with_reducible refine Kd.C_drewN ?_ _) | (with_reducible refine Kd.C_drew ?_))); (case side2 => exact (Kd.R_reads' HO382.out).2.1); (case side3 => repeat (first | exact (Kd.R_reads' HO384.out).2.2 | (with_reducible refine Kd.C_alloc ?_ _) | (with_reducible refine Kd.C_drewN ?_ _) | (with_reducible refine Kd.C_drew ?_))); (case side4 => exact (Kd.R_reads' HO384.out).2.1); rintro e w21 ⟨v387, rfl, ho0, hb⟩; refine ⟨_, rfl, ?_⟩; have n0_ := Aside0.mk (Kd.R_elder' (by (with_reducible repeat (first | apply Kd.R_alloc | apply Kd.R_drewN | apply Kd.R_drew)); exact HO377.out) (Kd.R_base ho0) hb); have n1_ := Aside0.mk (Kd.R_elder' (by (with_reducible repeat (first | apply Kd.R_alloc | apply Kd.R_drewN | apply Kd.R_drew)); exact HO382.out) (Kd.R_base ho0) hb); have n2_ := Aside0.mk (Kd.R_below (by (with_reducible repeat (first | apply Kd.R_alloc | apply Kd.R_drewN | apply Kd.R_drew)); exact HO384.out) hb); have n3_ := Aside0.mk (Kd.R_lower (Kd.R_new' (Kd.R_new' ho0 (Kd.R_lt (by (with_reducible repeat (first | apply Kd.R_alloc | apply Kd.R_drewN | apply Kd.R_drew)); exact HO377.out))) (Kd.R_lt (by (with_reducible repeat (first | apply Kd.R_alloc | apply Kd.R_drewN | apply Kd.R_drew)); exact HO382.out))) (below_size (by repeat (first | (with_reducible first | exact HB.out | apply below_alloc | apply pw_below_drewN | apply below_drew1) | exact HB.out)))); have n4_ := Aside0.mk (below_step (by repeat (first | (with_reducible first | exact HB.out | apply below_alloc | apply pw_below_drewN | apply below_drew1) | exact HB.out)) hb); clear HO377; clear HO382; clear HO384; clear HB; have HO377 := n0_; have HO382 := n1_; have HO384 := n2_; have HO388 := n3_; have HB := n4_; clear n0_ n1_ n2_ n3_ n4_; (try clear hb); (try clear hb2); (try clear hk); (try clear hi); (try clear ho0)))
   (try simp only [Act.put, List.setIfInBounds_toArray, List.set_cons_zero, List.set_cons_succ])
   go_cut [70] (fun v70 wc => ∃ (kq : Nat) (x70_12 : Bool), v70 = .bool x70_12 ∧ Aside0 (tolllaw10_LotsEnds.j0 kq (wrap64 (1 + t371)) t372 (wrap64 (10 + t373)) (wrap64 (10 + t374)) t385 x70_12 = some r) ∧ Aside0 (kq ≤ k) ∧ Aside0 (Kd.R k33 33 wc w.heap.size (fun _ => True) v387 t385) ∧ Aside0 (Below w.heap.size w wc))
   case first =>
    have H := HC13.out
    clear HC13
    by_cases c22 : t380 = 0
    · rw [if_pos c22] at H
      have c22b0 : (t380 == 0) = true := beq_iff_eq.mpr c22
      have c22b1 : (t380 != 0) = false := bne_eq_false_iff_eq.mpr c22
      clear c22
      (first | rw [c22b0] | (simp only [i64_w, i32_w]; rw [c22b0]) | skip)
      by_cases c23 : t386 = 0
      · rw [if_pos c23] at H
        have c23b0 : (t386 == 0) = true := beq_iff_eq.mpr c23
        have c23b1 : (t386 != 0) = false := bne_eq_false_iff_eq.mpr c23
        clear c23
        by_cases c24 : 0 < (t385.length : Int)
        · rw [if_pos c24] at H
          have c24b0 : decide (0 < (t385.length : Int)) = true := decide_eq_true c24
          have c24b1 : decide (0 < t385.length) = true := decide_eq_true (by omega)
          clear c24
          by_cases c25 : ((rd_T33 t385 0).f5) = t372
          · rw [if_pos c25] at H
            have c25b0 : (((rd_T33 t385 0).f5) == t372) = true := beq_iff_eq.mpr c25
            have c25b1 : (((rd_T33 t385 0).f5) != t372) = false := bne_eq_false_iff_eq.mpr c25
            clear c25
            have H' := Aside0.mk H
            clear H
            obtain ⟨Ao26, co26, eo26⟩ := Kd.R_slice HO388.out
            subst eo26
            have p389 : 0 ≤ (0 : Int) := (by omega)
            have q389 : 0 < (t385.length : Int) := of_decide_eq_true (by first | (with_reducible assumption) | assumption)
            obtain ⟨ad389, e389, hx389_0, hx389_1, hx389_2, hx389_3, hx389_4, hx389_5, hx389_6, hx389_7, hx389_8⟩ := at_T33 (Kd.R_reads' HO388.out).2.2 0 p389 q389
            cases e389
            have qi389 : (0 < t385.length) = True := eq_true (by omega)
            (try rw [show ((0 : Int)).toNat = 0 from rfl] at hx389_0)
            (try rw [show 0 * 9 = 0 from rfl] at hx389_0)
            (try rw [Addr.add_zero'] at hx389_0)
            (try rw [show ((0 : Int)).toNat = 0 from rfl] at hx389_1)
            (try rw [show 0 * 9 = 0 from rfl] at hx389_1)
            (try rw [Addr.add_zero'] at hx389_1)
            (try rw [show ((0 : Int)).toNat = 0 from rfl] at hx389_2)
            (try rw [show 0 * 9 = 0 from rfl] at hx389_2)
            (try rw [Addr.add_zero'] at hx389_2)
            (try rw [show ((0 : Int)).toNat = 0 from rfl] at hx389_3)
            (try rw [show 0 * 9 = 0 from rfl] at hx389_3)
            (try rw [Addr.add_zero'] at hx389_3)
            (try rw [show ((0 : Int)).toNat = 0 from rfl] at hx389_4)
            (try rw [show 0 * 9 = 0 from rfl] at hx389_4)
            (try rw [Addr.add_zero'] at hx389_4)
            (try rw [show ((0 : Int)).toNat = 0 from rfl] at hx389_5)
            (try rw [show 0 * 9 = 0 from rfl] at hx389_5)
            (try rw [Addr.add_zero'] at hx389_5)
            (try rw [show ((0 : Int)).toNat = 0 from rfl] at hx389_6)
            (try rw [show 0 * 9 = 0 from rfl] at hx389_6)
            (try rw [Addr.add_zero'] at hx389_6)
            (try rw [show ((0 : Int)).toNat = 0 from rfl] at hx389_7)
            (try rw [show 0 * 9 = 0 from rfl] at hx389_7)
            (try rw [Addr.add_zero'] at hx389_7)
            (try rw [show ((0 : Int)).toNat = 0 from rfl] at hx389_8)
            (try rw [show 0 * 9 = 0 from rfl] at hx389_8)
            (try rw [Addr.add_zero'] at hx389_8)
            replace p389 := eq_true p389
            replace q389 := eq_true q389
            have p390 : 0 ≤ (0 : Int) := (by omega)
            have q390 : 0 < (t385.length : Int) := of_decide_eq_true (by first | (with_reducible assumption) | assumption)
            obtain ⟨ad390, e390, hx390_0, hx390_1, hx390_2, hx390_3, hx390_4, hx390_5, hx390_6, hx390_7, hx390_8⟩ := at_T33 (Kd.R_reads' HO388.out).2.2 0 p390 q390
            obtain rfl : ad389 = ad390 := (by injection e390)
            have qi390 : (0 < t385.length) = True := eq_true (by omega)
            (try rw [show ((0 : Int)).toNat = 0 from rfl] at hx390_0)
            (try rw [show 0 * 9 = 0 from rfl] at hx390_0)
            (try rw [Addr.add_zero'] at hx390_0)
            (try rw [show ((0 : Int)).toNat = 0 from rfl] at hx390_1)
            (try rw [show 0 * 9 = 0 from rfl] at hx390_1)
            (try rw [Addr.add_zero'] at hx390_1)
            (try rw [show ((0 : Int)).toNat = 0 from rfl] at hx390_2)
            (try rw [show 0 * 9 = 0 from rfl] at hx390_2)
            (try rw [Addr.add_zero'] at hx390_2)
            (try rw [show ((0 : Int)).toNat = 0 from rfl] at hx390_3)
            (try rw [show 0 * 9 = 0 from rfl] at hx390_3)
            (try rw [Addr.add_zero'] at hx390_3)
            (try rw [show ((0 : Int)).toNat = 0 from rfl] at hx390_4)
            (try rw [show 0 * 9 = 0 from rfl] at hx390_4)
            (try rw [Addr.add_zero'] at hx390_4)
            (try rw [show ((0 : Int)).toNat = 0 from rfl] at hx390_5)
            (try rw [show 0 * 9 = 0 from rfl] at hx390_5)
            (try rw [Addr.add_zero'] at hx390_5)
            (try rw [show ((0 : Int)).toNat = 0 from rfl] at hx390_6)
            (try rw [show 0 * 9 = 0 from rfl] at hx390_6)
            (try rw [Addr.add_zero'] at hx390_6)
            (try rw [show ((0 : Int)).toNat = 0 from rfl] at hx390_7)
            (try rw [show 0 * 9 = 0 from rfl] at hx390_7)
            (try rw [Addr.add_zero'] at hx390_7)
            (try rw [show ((0 : Int)).toNat = 0 from rfl] at hx390_8)
            (try rw [show 0 * 9 = 0 from rfl] at hx390_8)
            (try rw [Addr.add_zero'] at hx390_8)
            replace p390 := eq_true p390
            replace q390 := eq_true q390
            go_wp2
            go_meet
            case rel => exact ⟨_, ((((rd_T33 t385 0).f6) != 0)), (by first | rfl | (simp; done) | (simp [*]; done)), H', ⟨by first | omega | exact Nat.le_refl _⟩, ⟨by (with_reducible repeat (first | apply Kd.R_alloc | apply Kd.R_drewN | apply Kd.R_drew)); exact Kd.R_mono HO388.out (fun _ hk => trivial)⟩, ⟨by repeat (first | (with_reducible first | exact HB.out | apply below_alloc | apply pw_below_drewN | apply below_drew1) | exact HB.out)⟩⟩
          · rw [if_neg c25] at H
            have c25b0 : (((rd_T33 t385 0).f5) == t372) = false := beq_eq_false_iff_ne.mpr c25
            have c25b1 : (((rd_T33 t385 0).f5) != t372) = true := bne_iff_ne.mpr c25
            have H' := Aside0.mk H
            clear H
            obtain ⟨Ao27, co27, eo27⟩ := Kd.R_slice HO388.out
            subst eo27
            have p389 : 0 ≤ (0 : Int) := (by omega)
            have q389 : 0 < (t385.length : Int) := of_decide_eq_true (by first | (with_reducible assumption) | assumption)
            obtain ⟨ad389, e389, hx389_0, hx389_1, hx389_2, hx389_3, hx389_4, hx389_5, hx389_6, hx389_7, hx389_8⟩ := at_T33 (Kd.R_reads' HO388.out).2.2 0 p389 q389
            cases e389
            have qi389 : (0 < t385.length) = True := eq_true (by omega)
            (try rw [show ((0 : Int)).toNat = 0 from rfl] at hx389_0)
            (try rw [show 0 * 9 = 0 from rfl] at hx389_0)
            (try rw [Addr.add_zero'] at hx389_0)
            (try rw [show ((0 : Int)).toNat = 0 from rfl] at hx389_1)
            (try rw [show 0 * 9 = 0 from rfl] at hx389_1)
            (try rw [Addr.add_zero'] at hx389_1)
            (try rw [show ((0 : Int)).toNat = 0 from rfl] at hx389_2)
            (try rw [show 0 * 9 = 0 from rfl] at hx389_2)
            (try rw [Addr.add_zero'] at hx389_2)
            (try rw [show ((0 : Int)).toNat = 0 from rfl] at hx389_3)
            (try rw [show 0 * 9 = 0 from rfl] at hx389_3)
            (try rw [Addr.add_zero'] at hx389_3)
            (try rw [show ((0 : Int)).toNat = 0 from rfl] at hx389_4)
            (try rw [show 0 * 9 = 0 from rfl] at hx389_4)
            (try rw [Addr.add_zero'] at hx389_4)
            (try rw [show ((0 : Int)).toNat = 0 from rfl] at hx389_5)
            (try rw [show 0 * 9 = 0 from rfl] at hx389_5)
            (try rw [Addr.add_zero'] at hx389_5)
            (try rw [show ((0 : Int)).toNat = 0 from rfl] at hx389_6)
            (try rw [show 0 * 9 = 0 from rfl] at hx389_6)
            (try rw [Addr.add_zero'] at hx389_6)
            (try rw [show ((0 : Int)).toNat = 0 from rfl] at hx389_7)
            (try rw [show 0 * 9 = 0 from rfl] at hx389_7)
            (try rw [Addr.add_zero'] at hx389_7)
            (try rw [show ((0 : Int)).toNat = 0 from rfl] at hx389_8)
            (try rw [show 0 * 9 = 0 from rfl] at hx389_8)
            (try rw [Addr.add_zero'] at hx389_8)
            replace p389 := eq_true p389
            replace q389 := eq_true q389
            go_wp2
            go_meet
            case rel => exact ⟨_, (true), (by first | rfl | (simp; done) | (simp [*]; done)), H', ⟨by first | omega | exact Nat.le_refl _⟩, ⟨by (with_reducible repeat (first | apply Kd.R_alloc | apply Kd.R_drewN | apply Kd.R_drew)); exact Kd.R_mono HO388.out (fun _ hk => trivial)⟩, ⟨by repeat (first | (with_reducible first | exact HB.out | apply below_alloc | apply pw_below_drewN | apply below_drew1) | exact HB.out)⟩⟩
        · rw [if_neg c24] at H
          exact absurd H (by simp)
      · rw [if_neg c23] at H
        have c23b0 : (t386 == 0) = false := beq_eq_false_iff_ne.mpr c23
        have c23b1 : (t386 != 0) = true := bne_iff_ne.mpr c23
        have H' := Aside0.mk H
        clear H
        go_wp2
        go_meet
        case rel => exact ⟨_, (true), (by first | rfl | (simp; done) | (simp [*]; done)), H', ⟨by first | omega | exact Nat.le_refl _⟩, ⟨by (with_reducible repeat (first | apply Kd.R_alloc | apply Kd.R_drewN | apply Kd.R_drew)); exact Kd.R_mono HO388.out (fun _ hk => trivial)⟩, ⟨by repeat (first | (with_reducible first | exact HB.out | apply below_alloc | apply pw_below_drewN | apply below_drew1) | exact HB.out)⟩⟩
    · rw [if_neg c22] at H
      have c22b0 : (t380 == 0) = false := beq_eq_false_iff_ne.mpr c22
      have c22b1 : (t380 != 0) = true := bne_iff_ne.mpr c22
      (first | rw [c22b0] | (simp only [i64_w, i32_w]; rw [c22b0]) | skip)
      have H' := Aside0.mk H
      clear H
      go_wp2
      go_meet
      case rel => exact ⟨_, (true), (by first | rfl | (simp; done) | (simp [*]; done)), H', ⟨by first | omega | exact Nat.le_refl _⟩, ⟨by (with_reducible repeat (first | apply Kd.R_alloc | apply Kd.R_drewN | apply Kd.R_drew)); exact Kd.R_mono HO388.out (fun _ hk => trivial)⟩, ⟨by repeat (first | (with_reducible first | exact HB.out | apply below_alloc | apply pw_below_drewN | apply below_drew1) | exact HB.out)⟩⟩
   case rest =>
    clear HC13
    try clear c1
    try clear c2
    try clear p2
    try clear p3
    try clear q3
    try clear hx3
    try clear qi3
    try clear c6
    try clear p6
    try clear c9
    try clear c12
    try clear c13
    try clear c15
    try clear c19
    try clear c22
    try clear c22b0
    try clear c22b1
    try clear c23
    try clear c23b0
    try clear c23b1
    try clear c24
    try clear c24b0
    try clear c24b1
    try clear c25
    try clear c25b0
    try clear c25b1
    try clear hx389_0
    try clear hx389_1
    try clear hx389_2
    try clear hx389_3
    try clear hx389_4
    try clear hx389_5
    try clear hx389_6
    try clear hx389_7
    try clear hx389_8
    try clear hx390_0
    try clear hx390_1
    try clear hx390_2
    try clear hx390_3
    try clear hx390_4
    try clear hx390_5
    try clear hx390_6
    try clear hx390_7
    try clear hx390_8
    try clear p389
    try clear p390
    try clear q389
    try clear q390
    obtain ⟨kq, x70_12, rfl, HA, HJ12, HO_13, HB⟩ := hcut
    cases kq with
    | zero => exact absurd HA.out (by simp [tolllaw10_LotsEnds.j0])
    | succ kj12 =>
     have H := HA.out
     clear HA
     simp only [tolllaw10_LotsEnds.j0] at H
     by_cases c28 : x70_12 = true
     · subst c28
       have H1 : (some false) = some r := by rw [if_pos rfl] at H; exact H
       clear H
       have H := H1
       clear H1
       obtain rfl := Option.some.inj H
       go_wp2
       go_ret
       exact ⟨by first | rfl | (simp [errW_none, errW_some] <;> rfl) | (simp [*, errW_none, errW_some] <;> rfl), by repeat (first | (with_reducible first | exact HB.out | apply below_alloc | apply pw_below_drewN | apply below_drew1) | exact HB.out)⟩
     · replace c28 := Bool.eq_false_iff.mpr c28
       subst c28
       have H1 : (if (wrap64 (10 + t374)) ≥ (wrap64 (10 + t373)) then (if 0 < (t385.length : Int) then (if ((rd_T33 t385 0).f7) = (wrap64 ((wrap64 (1 + t371)) - t372)) then ((lots_Rest.f ((rd_T33 t385 0).f0) ((rd_T33 t385 0).f1) ((rd_T33 t385 0).f2) ((rd_T33 t385 0).f3) ((rd_T33 t385 0).f4) ((rd_T33 t385 0).f5) ((rd_T33 t385 0).f6) ((rd_T33 t385 0).f7) ((rd_T33 t385 0).f8)).bind fun t393 => (if t393 = 5 then ((lots_Left.f kj12 t385 (wrap64 (10 + t374))).bind fun t394 => (some (t394 == 0))) else (some false))) else (some false)) else (none)) else (if 0 < (t385.length : Int) then (if ((rd_T33 t385 0).f7) = 0 then ((lots_Rest.f ((rd_T33 t385 0).f0) ((rd_T33 t385 0).f1) ((rd_T33 t385 0).f2) ((rd_T33 t385 0).f3) ((rd_T33 t385 0).f4) ((rd_T33 t385 0).f5) ((rd_T33 t385 0).f6) ((rd_T33 t385 0).f7) ((rd_T33 t385 0).f8)).bind fun t397 => (if t397 = (wrap64 ((wrap64 ((wrap64 (1 + t371)) - t372)) + 5)) then ((lots_Left.f kj12 t385 (wrap64 (10 + t374))).bind fun t398 => (some (t398 == (wrap64 ((wrap64 ((wrap64 (1 + t371)) - t372)) + 5))))) else (some false))) else (some false)) else (none))) = some r := by rw [if_neg (show ¬ (false = true) by decide)] at H; exact H
       clear H
       have H := H1
       clear H1
       by_cases c29 : (wrap64 (10 + t374)) ≥ (wrap64 (10 + t373))
       · rw [if_pos c29] at H
         have c29b0 : decide ((wrap64 (10 + t373)) ≤ (wrap64 (10 + t374))) = true := decide_eq_true c29
         clear c29
         by_cases c30 : 0 < (t385.length : Int)
         · rw [if_pos c30] at H
           have c30b0 : decide (0 < (t385.length : Int)) = true := decide_eq_true c30
           have c30b1 : decide (0 < t385.length) = true := decide_eq_true (by omega)
           clear c30
           by_cases c31 : ((rd_T33 t385 0).f7) = (wrap64 ((wrap64 (1 + t371)) - t372))
           · rw [if_pos c31] at H
             have c31b0 : (((rd_T33 t385 0).f7) == (wrap64 ((wrap64 (1 + t371)) - t372))) = true := beq_iff_eq.mpr c31
             have c31b1 : (((rd_T33 t385 0).f7) != (wrap64 ((wrap64 (1 + t371)) - t372))) = false := bne_eq_false_iff_eq.mpr c31
             clear c31
             replace H := Option.bind_eq_some_iff.mp H
             obtain ⟨t393, A320, H⟩ := H
             replace H : (if t393 = 5 then ((lots_Left.f kj12 t385 (wrap64 (10 + t374))).bind fun t394 => (some (t394 == 0))) else (some false)) = some r := H
             have A32 := Aside0.mk A320
             clear A320
             by_cases c33 : t393 = 5
             · rw [if_pos c33] at H
               have c33b0 : (t393 == 5) = true := beq_iff_eq.mpr c33
               have c33b1 : (t393 != 5) = false := bne_eq_false_iff_eq.mpr c33
               clear c33
               replace H := Option.bind_eq_some_iff.mp H
               obtain ⟨t394, A340, H⟩ := H
               replace H : (some (t394 == 0)) = some r := H
               have A34 := Aside0.mk A340
               clear A340
               obtain rfl := Option.some.inj H
               obtain ⟨Ao35, co35, eo35⟩ := Kd.R_slice HO_13.out
               subst eo35
               have p391 : 0 ≤ (0 : Int) := (by omega)
               have q391 : 0 < (t385.length : Int) := of_decide_eq_true (by first | (with_reducible assumption) | assumption)
               obtain ⟨ad391, e391, hx391_0, hx391_1, hx391_2, hx391_3, hx391_4, hx391_5, hx391_6, hx391_7, hx391_8⟩ := at_T33 (Kd.R_reads' HO_13.out).2.2 0 p391 q391
               cases e391
               have qi391 : (0 < t385.length) = True := eq_true (by omega)
               (try rw [show ((0 : Int)).toNat = 0 from rfl] at hx391_0)
               (try rw [show 0 * 9 = 0 from rfl] at hx391_0)
               (try rw [Addr.add_zero'] at hx391_0)
               (try rw [show ((0 : Int)).toNat = 0 from rfl] at hx391_1)
               (try rw [show 0 * 9 = 0 from rfl] at hx391_1)
               (try rw [Addr.add_zero'] at hx391_1)
               (try rw [show ((0 : Int)).toNat = 0 from rfl] at hx391_2)
               (try rw [show 0 * 9 = 0 from rfl] at hx391_2)
               (try rw [Addr.add_zero'] at hx391_2)
               (try rw [show ((0 : Int)).toNat = 0 from rfl] at hx391_3)
               (try rw [show 0 * 9 = 0 from rfl] at hx391_3)
               (try rw [Addr.add_zero'] at hx391_3)
               (try rw [show ((0 : Int)).toNat = 0 from rfl] at hx391_4)
               (try rw [show 0 * 9 = 0 from rfl] at hx391_4)
               (try rw [Addr.add_zero'] at hx391_4)
               (try rw [show ((0 : Int)).toNat = 0 from rfl] at hx391_5)
               (try rw [show 0 * 9 = 0 from rfl] at hx391_5)
               (try rw [Addr.add_zero'] at hx391_5)
               (try rw [show ((0 : Int)).toNat = 0 from rfl] at hx391_6)
               (try rw [show 0 * 9 = 0 from rfl] at hx391_6)
               (try rw [Addr.add_zero'] at hx391_6)
               (try rw [show ((0 : Int)).toNat = 0 from rfl] at hx391_7)
               (try rw [show 0 * 9 = 0 from rfl] at hx391_7)
               (try rw [Addr.add_zero'] at hx391_7)
               (try rw [show ((0 : Int)).toNat = 0 from rfl] at hx391_8)
               (try rw [show 0 * 9 = 0 from rfl] at hx391_8)
               (try rw [Addr.add_zero'] at hx391_8)
               replace p391 := eq_true p391
               replace q391 := eq_true q391
               have p392 : 0 ≤ (0 : Int) := (by omega)
               have q392 : 0 < (t385.length : Int) := of_decide_eq_true (by first | (with_reducible assumption) | assumption)
               obtain ⟨ad392, e392, hx392_0, hx392_1, hx392_2, hx392_3, hx392_4, hx392_5, hx392_6, hx392_7, hx392_8⟩ := at_T33 (Kd.R_reads' HO_13.out).2.2 0 p392 q392
               obtain rfl : ad391 = ad392 := (by injection e392)
               have qi392 : (0 < t385.length) = True := eq_true (by omega)
               (try rw [show ((0 : Int)).toNat = 0 from rfl] at hx392_0)
               (try rw [show 0 * 9 = 0 from rfl] at hx392_0)
               (try rw [Addr.add_zero'] at hx392_0)
               (try rw [show ((0 : Int)).toNat = 0 from rfl] at hx392_1)
               (try rw [show 0 * 9 = 0 from rfl] at hx392_1)
               (try rw [Addr.add_zero'] at hx392_1)
               (try rw [show ((0 : Int)).toNat = 0 from rfl] at hx392_2)
               (try rw [show 0 * 9 = 0 from rfl] at hx392_2)
               (try rw [Addr.add_zero'] at hx392_2)
               (try rw [show ((0 : Int)).toNat = 0 from rfl] at hx392_3)
               (try rw [show 0 * 9 = 0 from rfl] at hx392_3)
               (try rw [Addr.add_zero'] at hx392_3)
               (try rw [show ((0 : Int)).toNat = 0 from rfl] at hx392_4)
               (try rw [show 0 * 9 = 0 from rfl] at hx392_4)
               (try rw [Addr.add_zero'] at hx392_4)
               (try rw [show ((0 : Int)).toNat = 0 from rfl] at hx392_5)
               (try rw [show 0 * 9 = 0 from rfl] at hx392_5)
               (try rw [Addr.add_zero'] at hx392_5)
               (try rw [show ((0 : Int)).toNat = 0 from rfl] at hx392_6)
               (try rw [show 0 * 9 = 0 from rfl] at hx392_6)
               (try rw [Addr.add_zero'] at hx392_6)
               (try rw [show ((0 : Int)).toNat = 0 from rfl] at hx392_7)
               (try rw [show 0 * 9 = 0 from rfl] at hx392_7)
               (try rw [Addr.add_zero'] at hx392_7)
               (try rw [show ((0 : Int)).toNat = 0 from rfl] at hx392_8)
               (try rw [show 0 * 9 = 0 from rfl] at hx392_8)
               (try rw [Addr.add_zero'] at hx392_8)
               replace p392 := eq_true p392
               replace q392 := eq_true q392
               go_wp2_with (first | (go_at_call 18; (with_reducible refine (lots_Rest.calls ((rd_T33 t385 0).f0) ((rd_T33 t385 0).f1) ((rd_T33 t385 0).f2) ((rd_T33 t385 0).f3) ((rd_T33 t385 0).f4) ((rd_T33 t385 0).f5) ((rd_T33 t385 0).f6) ((rd_T33 t385 0).f7) ((rd_T33 t385 0).f8) t393 _ A32.out).mono ?_); rintro e w36 ⟨rfl, hb⟩; have n0_ := Aside0.mk (Kd.R_below (by (with_reducible repeat (first | apply Kd.R_alloc | apply Kd.R_drewN | apply Kd.R_drew)); exact HO_13.out) hb); have n1_ := Aside0.mk (below_step (by repeat (first | (with_reducible first | exact HB.out | apply below_alloc | apply pw_below_drewN | apply below_drew1) | exact HB.out)) hb); clear HO_13; clear HB; have HO_13 := n0_; have HB := n1_; clear n0_ n1_; (try clear hb); (try clear hb2); (try clear hk); (try clear hi)) | (go_at_call 17; (with_reducible refine (lots_Left.calls kj12 _ _ t385 (wrap64 (10 + t374)) t394 _ ?side1 ?side2 A34.out).mono ?_); (case side1 => repeat (first | exact (Kd.R_reads' HO_13.out).2.2 | (with_reducible refine Kd.C_alloc ?_ _) | (with_reducible refine Kd.C_drewN ?_ _) | (with_reducible refine Kd.C_drew ?_))); (case side2 => exact (Kd.R_reads' HO_13.out).2.1); rintro e w37 ⟨rfl, hb⟩; have n0_ := Aside0.mk (Kd.R_below (by (with_reducible repeat (first | apply Kd.R_alloc | apply Kd.R_drewN | apply Kd.R_drew)); exact HO_13.out) hb); have n1_ := Aside0.mk (below_step (by repeat (first | (with_reducible first | exact HB.out | apply below_alloc | apply pw_below_drewN | apply below_drew1) | exact HB.out)) hb); clear HO_13; clear HB; have HO_13 := n0_; have HB := n1_; clear n0_ n1_; (try clear hb); (try clear hb2); (try clear hk); (try clear hi)))
               go_ret
               exact ⟨by first | rfl | (simp [errW_none, errW_some] <;> rfl) | (simp [*, errW_none, errW_some] <;> rfl), by repeat (first | (with_reducible first | exact HB.out | apply below_alloc | apply pw_below_drewN | apply below_drew1) | exact HB.out)⟩
             · rw [if_neg c33] at H
               have c33b0 : (t393 == 5) = false := beq_eq_false_iff_ne.mpr c33
               have c33b1 : (t393 != 5) = true := bne_iff_ne.mpr c33
               obtain rfl := Option.some.inj H
               obtain ⟨Ao38, co38, eo38⟩ := Kd.R_slice HO_13.out
               subst eo38
               have p391 : 0 ≤ (0 : Int) := (by omega)
               have q391 : 0 < (t385.length : Int) := of_decide_eq_true (by first | (with_reducible assumption) | assumption)
               obtain ⟨ad391, e391, hx391_0, hx391_1, hx391_2, hx391_3, hx391_4, hx391_5, hx391_6, hx391_7, hx391_8⟩ := at_T33 (Kd.R_reads' HO_13.out).2.2 0 p391 q391
               cases e391
               have qi391 : (0 < t385.length) = True := eq_true (by omega)
               (try rw [show ((0 : Int)).toNat = 0 from rfl] at hx391_0)
               (try rw [show 0 * 9 = 0 from rfl] at hx391_0)
               (try rw [Addr.add_zero'] at hx391_0)
               (try rw [show ((0 : Int)).toNat = 0 from rfl] at hx391_1)
               (try rw [show 0 * 9 = 0 from rfl] at hx391_1)
               (try rw [Addr.add_zero'] at hx391_1)
               (try rw [show ((0 : Int)).toNat = 0 from rfl] at hx391_2)
               (try rw [show 0 * 9 = 0 from rfl] at hx391_2)
               (try rw [Addr.add_zero'] at hx391_2)
               (try rw [show ((0 : Int)).toNat = 0 from rfl] at hx391_3)
               (try rw [show 0 * 9 = 0 from rfl] at hx391_3)
               (try rw [Addr.add_zero'] at hx391_3)
               (try rw [show ((0 : Int)).toNat = 0 from rfl] at hx391_4)
               (try rw [show 0 * 9 = 0 from rfl] at hx391_4)
               (try rw [Addr.add_zero'] at hx391_4)
               (try rw [show ((0 : Int)).toNat = 0 from rfl] at hx391_5)
               (try rw [show 0 * 9 = 0 from rfl] at hx391_5)
               (try rw [Addr.add_zero'] at hx391_5)
               (try rw [show ((0 : Int)).toNat = 0 from rfl] at hx391_6)
               (try rw [show 0 * 9 = 0 from rfl] at hx391_6)
               (try rw [Addr.add_zero'] at hx391_6)
               (try rw [show ((0 : Int)).toNat = 0 from rfl] at hx391_7)
               (try rw [show 0 * 9 = 0 from rfl] at hx391_7)
               (try rw [Addr.add_zero'] at hx391_7)
               (try rw [show ((0 : Int)).toNat = 0 from rfl] at hx391_8)
               (try rw [show 0 * 9 = 0 from rfl] at hx391_8)
               (try rw [Addr.add_zero'] at hx391_8)
               replace p391 := eq_true p391
               replace q391 := eq_true q391
               have p392 : 0 ≤ (0 : Int) := (by omega)
               have q392 : 0 < (t385.length : Int) := of_decide_eq_true (by first | (with_reducible assumption) | assumption)
               obtain ⟨ad392, e392, hx392_0, hx392_1, hx392_2, hx392_3, hx392_4, hx392_5, hx392_6, hx392_7, hx392_8⟩ := at_T33 (Kd.R_reads' HO_13.out).2.2 0 p392 q392
               obtain rfl : ad391 = ad392 := (by injection e392)
               have qi392 : (0 < t385.length) = True := eq_true (by omega)
               (try rw [show ((0 : Int)).toNat = 0 from rfl] at hx392_0)
               (try rw [show 0 * 9 = 0 from rfl] at hx392_0)
               (try rw [Addr.add_zero'] at hx392_0)
               (try rw [show ((0 : Int)).toNat = 0 from rfl] at hx392_1)
               (try rw [show 0 * 9 = 0 from rfl] at hx392_1)
               (try rw [Addr.add_zero'] at hx392_1)
               (try rw [show ((0 : Int)).toNat = 0 from rfl] at hx392_2)
               (try rw [show 0 * 9 = 0 from rfl] at hx392_2)
               (try rw [Addr.add_zero'] at hx392_2)
               (try rw [show ((0 : Int)).toNat = 0 from rfl] at hx392_3)
               (try rw [show 0 * 9 = 0 from rfl] at hx392_3)
               (try rw [Addr.add_zero'] at hx392_3)
               (try rw [show ((0 : Int)).toNat = 0 from rfl] at hx392_4)
               (try rw [show 0 * 9 = 0 from rfl] at hx392_4)
               (try rw [Addr.add_zero'] at hx392_4)
               (try rw [show ((0 : Int)).toNat = 0 from rfl] at hx392_5)
               (try rw [show 0 * 9 = 0 from rfl] at hx392_5)
               (try rw [Addr.add_zero'] at hx392_5)
               (try rw [show ((0 : Int)).toNat = 0 from rfl] at hx392_6)
               (try rw [show 0 * 9 = 0 from rfl] at hx392_6)
               (try rw [Addr.add_zero'] at hx392_6)
               (try rw [show ((0 : Int)).toNat = 0 from rfl] at hx392_7)
               (try rw [show 0 * 9 = 0 from rfl] at hx392_7)
               (try rw [Addr.add_zero'] at hx392_7)
               (try rw [show ((0 : Int)).toNat = 0 from rfl] at hx392_8)
               (try rw [show 0 * 9 = 0 from rfl] at hx392_8)
               (try rw [Addr.add_zero'] at hx392_8)
               replace p392 := eq_true p392
               replace q392 := eq_true q392
               go_wp2_with (first | (go_at_call 18; (with_reducible refine (lots_Rest.calls ((rd_T33 t385 0).f0) ((rd_T33 t385 0).f1) ((rd_T33 t385 0).f2) ((rd_T33 t385 0).f3) ((rd_T33 t385 0).f4) ((rd_T33 t385 0).f5) ((rd_T33 t385 0).f6) ((rd_T33 t385 0).f7) ((rd_T33 t385 0).f8) t393 _ A32.out).mono ?_); rintro e w39 ⟨rfl, hb⟩; have n0_ := Aside0.mk (Kd.R_below (by (with_reducible repeat (first | apply Kd.R_alloc | apply Kd.R_drewN | apply Kd.R_drew)); exact HO_13.out) hb); have n1_ := Aside0.mk (below_step (by repeat (first | (with_reducible first | exact HB.out | apply below_alloc | apply pw_below_drewN | apply below_drew1) | exact HB.out)) hb); clear HO_13; clear HB; have HO_13 := n0_; have HB := n1_; clear n0_ n1_; (try clear hb); (try clear hb2); (try clear hk); (try clear hi)))
               go_ret
               exact ⟨by first | rfl | (simp [errW_none, errW_some] <;> rfl) | (simp [*, errW_none, errW_some] <;> rfl), by repeat (first | (with_reducible first | exact HB.out | apply below_alloc | apply pw_below_drewN | apply below_drew1) | exact HB.out)⟩
           · rw [if_neg c31] at H
             have c31b0 : (((rd_T33 t385 0).f7) == (wrap64 ((wrap64 (1 + t371)) - t372))) = false := beq_eq_false_iff_ne.mpr c31
             have c31b1 : (((rd_T33 t385 0).f7) != (wrap64 ((wrap64 (1 + t371)) - t372))) = true := bne_iff_ne.mpr c31
             obtain rfl := Option.some.inj H
             obtain ⟨Ao40, co40, eo40⟩ := Kd.R_slice HO_13.out
             subst eo40
             have p391 : 0 ≤ (0 : Int) := (by omega)
             have q391 : 0 < (t385.length : Int) := of_decide_eq_true (by first | (with_reducible assumption) | assumption)
             obtain ⟨ad391, e391, hx391_0, hx391_1, hx391_2, hx391_3, hx391_4, hx391_5, hx391_6, hx391_7, hx391_8⟩ := at_T33 (Kd.R_reads' HO_13.out).2.2 0 p391 q391
             cases e391
             have qi391 : (0 < t385.length) = True := eq_true (by omega)
             (try rw [show ((0 : Int)).toNat = 0 from rfl] at hx391_0)
             (try rw [show 0 * 9 = 0 from rfl] at hx391_0)
             (try rw [Addr.add_zero'] at hx391_0)
             (try rw [show ((0 : Int)).toNat = 0 from rfl] at hx391_1)
             (try rw [show 0 * 9 = 0 from rfl] at hx391_1)
             (try rw [Addr.add_zero'] at hx391_1)
             (try rw [show ((0 : Int)).toNat = 0 from rfl] at hx391_2)
             (try rw [show 0 * 9 = 0 from rfl] at hx391_2)
             (try rw [Addr.add_zero'] at hx391_2)
             (try rw [show ((0 : Int)).toNat = 0 from rfl] at hx391_3)
             (try rw [show 0 * 9 = 0 from rfl] at hx391_3)
             (try rw [Addr.add_zero'] at hx391_3)
             (try rw [show ((0 : Int)).toNat = 0 from rfl] at hx391_4)
             (try rw [show 0 * 9 = 0 from rfl] at hx391_4)
             (try rw [Addr.add_zero'] at hx391_4)
             (try rw [show ((0 : Int)).toNat = 0 from rfl] at hx391_5)
             (try rw [show 0 * 9 = 0 from rfl] at hx391_5)
             (try rw [Addr.add_zero'] at hx391_5)
             (try rw [show ((0 : Int)).toNat = 0 from rfl] at hx391_6)
             (try rw [show 0 * 9 = 0 from rfl] at hx391_6)
             (try rw [Addr.add_zero'] at hx391_6)
             (try rw [show ((0 : Int)).toNat = 0 from rfl] at hx391_7)
             (try rw [show 0 * 9 = 0 from rfl] at hx391_7)
             (try rw [Addr.add_zero'] at hx391_7)
             (try rw [show ((0 : Int)).toNat = 0 from rfl] at hx391_8)
             (try rw [show 0 * 9 = 0 from rfl] at hx391_8)
             (try rw [Addr.add_zero'] at hx391_8)
             replace p391 := eq_true p391
             replace q391 := eq_true q391
             go_wp2
             go_ret
             exact ⟨by first | rfl | (simp [errW_none, errW_some] <;> rfl) | (simp [*, errW_none, errW_some] <;> rfl), by repeat (first | (with_reducible first | exact HB.out | apply below_alloc | apply pw_below_drewN | apply below_drew1) | exact HB.out)⟩
         · rw [if_neg c30] at H
           exact absurd H (by simp)
       · rw [if_neg c29] at H
         have c29b0 : decide ((wrap64 (10 + t373)) ≤ (wrap64 (10 + t374))) = false := decide_eq_false c29
         clear c29
         by_cases c41 : 0 < (t385.length : Int)
         · rw [if_pos c41] at H
           have c41b0 : decide (0 < (t385.length : Int)) = true := decide_eq_true c41
           have c41b1 : decide (0 < t385.length) = true := decide_eq_true (by omega)
           clear c41
           by_cases c42 : ((rd_T33 t385 0).f7) = 0
           · rw [if_pos c42] at H
             have c42b0 : (((rd_T33 t385 0).f7) == 0) = true := beq_iff_eq.mpr c42
             have c42b1 : (((rd_T33 t385 0).f7) != 0) = false := bne_eq_false_iff_eq.mpr c42
             clear c42
             replace H := Option.bind_eq_some_iff.mp H
             obtain ⟨t397, A430, H⟩ := H
             replace H : (if t397 = (wrap64 ((wrap64 ((wrap64 (1 + t371)) - t372)) + 5)) then ((lots_Left.f kj12 t385 (wrap64 (10 + t374))).bind fun t398 => (some (t398 == (wrap64 ((wrap64 ((wrap64 (1 + t371)) - t372)) + 5))))) else (some false)) = some r := H
             have A43 := Aside0.mk A430
             clear A430
             by_cases c44 : t397 = (wrap64 ((wrap64 ((wrap64 (1 + t371)) - t372)) + 5))
             · rw [if_pos c44] at H
               have c44b0 : (t397 == (wrap64 ((wrap64 ((wrap64 (1 + t371)) - t372)) + 5))) = true := beq_iff_eq.mpr c44
               have c44b1 : (t397 != (wrap64 ((wrap64 ((wrap64 (1 + t371)) - t372)) + 5))) = false := bne_eq_false_iff_eq.mpr c44
               clear c44
               replace H := Option.bind_eq_some_iff.mp H
               obtain ⟨t398, A450, H⟩ := H
               replace H : (some (t398 == (wrap64 ((wrap64 ((wrap64 (1 + t371)) - t372)) + 5)))) = some r := H
               have A45 := Aside0.mk A450
               clear A450
               obtain rfl := Option.some.inj H
               obtain ⟨Ao46, co46, eo46⟩ := Kd.R_slice HO_13.out
               subst eo46
               have p395 : 0 ≤ (0 : Int) := (by omega)
               have q395 : 0 < (t385.length : Int) := of_decide_eq_true (by first | (with_reducible assumption) | assumption)
               obtain ⟨ad395, e395, hx395_0, hx395_1, hx395_2, hx395_3, hx395_4, hx395_5, hx395_6, hx395_7, hx395_8⟩ := at_T33 (Kd.R_reads' HO_13.out).2.2 0 p395 q395
               cases e395
               have qi395 : (0 < t385.length) = True := eq_true (by omega)
               (try rw [show ((0 : Int)).toNat = 0 from rfl] at hx395_0)
               (try rw [show 0 * 9 = 0 from rfl] at hx395_0)
               (try rw [Addr.add_zero'] at hx395_0)
               (try rw [show ((0 : Int)).toNat = 0 from rfl] at hx395_1)
               (try rw [show 0 * 9 = 0 from rfl] at hx395_1)
               (try rw [Addr.add_zero'] at hx395_1)
               (try rw [show ((0 : Int)).toNat = 0 from rfl] at hx395_2)
               (try rw [show 0 * 9 = 0 from rfl] at hx395_2)
               (try rw [Addr.add_zero'] at hx395_2)
               (try rw [show ((0 : Int)).toNat = 0 from rfl] at hx395_3)
               (try rw [show 0 * 9 = 0 from rfl] at hx395_3)
               (try rw [Addr.add_zero'] at hx395_3)
               (try rw [show ((0 : Int)).toNat = 0 from rfl] at hx395_4)
               (try rw [show 0 * 9 = 0 from rfl] at hx395_4)
               (try rw [Addr.add_zero'] at hx395_4)
               (try rw [show ((0 : Int)).toNat = 0 from rfl] at hx395_5)
               (try rw [show 0 * 9 = 0 from rfl] at hx395_5)
               (try rw [Addr.add_zero'] at hx395_5)
               (try rw [show ((0 : Int)).toNat = 0 from rfl] at hx395_6)
               (try rw [show 0 * 9 = 0 from rfl] at hx395_6)
               (try rw [Addr.add_zero'] at hx395_6)
               (try rw [show ((0 : Int)).toNat = 0 from rfl] at hx395_7)
               (try rw [show 0 * 9 = 0 from rfl] at hx395_7)
               (try rw [Addr.add_zero'] at hx395_7)
               (try rw [show ((0 : Int)).toNat = 0 from rfl] at hx395_8)
               (try rw [show 0 * 9 = 0 from rfl] at hx395_8)
               (try rw [Addr.add_zero'] at hx395_8)
               replace p395 := eq_true p395
               replace q395 := eq_true q395
               have p396 : 0 ≤ (0 : Int) := (by omega)
               have q396 : 0 < (t385.length : Int) := of_decide_eq_true (by first | (with_reducible assumption) | assumption)
               obtain ⟨ad396, e396, hx396_0, hx396_1, hx396_2, hx396_3, hx396_4, hx396_5, hx396_6, hx396_7, hx396_8⟩ := at_T33 (Kd.R_reads' HO_13.out).2.2 0 p396 q396
               obtain rfl : ad395 = ad396 := (by injection e396)
               have qi396 : (0 < t385.length) = True := eq_true (by omega)
               (try rw [show ((0 : Int)).toNat = 0 from rfl] at hx396_0)
               (try rw [show 0 * 9 = 0 from rfl] at hx396_0)
               (try rw [Addr.add_zero'] at hx396_0)
               (try rw [show ((0 : Int)).toNat = 0 from rfl] at hx396_1)
               (try rw [show 0 * 9 = 0 from rfl] at hx396_1)
               (try rw [Addr.add_zero'] at hx396_1)
               (try rw [show ((0 : Int)).toNat = 0 from rfl] at hx396_2)
               (try rw [show 0 * 9 = 0 from rfl] at hx396_2)
               (try rw [Addr.add_zero'] at hx396_2)
               (try rw [show ((0 : Int)).toNat = 0 from rfl] at hx396_3)
               (try rw [show 0 * 9 = 0 from rfl] at hx396_3)
               (try rw [Addr.add_zero'] at hx396_3)
               (try rw [show ((0 : Int)).toNat = 0 from rfl] at hx396_4)
               (try rw [show 0 * 9 = 0 from rfl] at hx396_4)
               (try rw [Addr.add_zero'] at hx396_4)
               (try rw [show ((0 : Int)).toNat = 0 from rfl] at hx396_5)
               (try rw [show 0 * 9 = 0 from rfl] at hx396_5)
               (try rw [Addr.add_zero'] at hx396_5)
               (try rw [show ((0 : Int)).toNat = 0 from rfl] at hx396_6)
               (try rw [show 0 * 9 = 0 from rfl] at hx396_6)
               (try rw [Addr.add_zero'] at hx396_6)
               (try rw [show ((0 : Int)).toNat = 0 from rfl] at hx396_7)
               (try rw [show 0 * 9 = 0 from rfl] at hx396_7)
               (try rw [Addr.add_zero'] at hx396_7)
               (try rw [show ((0 : Int)).toNat = 0 from rfl] at hx396_8)
               (try rw [show 0 * 9 = 0 from rfl] at hx396_8)
               (try rw [Addr.add_zero'] at hx396_8)
               replace p396 := eq_true p396
               replace q396 := eq_true q396
               go_wp2_with (first | (go_at_call 18; (with_reducible refine (lots_Rest.calls ((rd_T33 t385 0).f0) ((rd_T33 t385 0).f1) ((rd_T33 t385 0).f2) ((rd_T33 t385 0).f3) ((rd_T33 t385 0).f4) ((rd_T33 t385 0).f5) ((rd_T33 t385 0).f6) ((rd_T33 t385 0).f7) ((rd_T33 t385 0).f8) t397 _ A43.out).mono ?_); rintro e w47 ⟨rfl, hb⟩; have n0_ := Aside0.mk (Kd.R_below (by (with_reducible repeat (first | apply Kd.R_alloc | apply Kd.R_drewN | apply Kd.R_drew)); exact HO_13.out) hb); have n1_ := Aside0.mk (below_step (by repeat (first | (with_reducible first | exact HB.out | apply below_alloc | apply pw_below_drewN | apply below_drew1) | exact HB.out)) hb); clear HO_13; clear HB; have HO_13 := n0_; have HB := n1_; clear n0_ n1_; (try clear hb); (try clear hb2); (try clear hk); (try clear hi)) | (go_at_call 17; (with_reducible refine (lots_Left.calls kj12 _ _ t385 (wrap64 (10 + t374)) t398 _ ?side1 ?side2 A45.out).mono ?_); (case side1 => repeat (first | exact (Kd.R_reads' HO_13.out).2.2 | (with_reducible refine Kd.C_alloc ?_ _) | (with_reducible refine Kd.C_drewN ?_ _) | (with_reducible refine Kd.C_drew ?_))); (case side2 => exact (Kd.R_reads' HO_13.out).2.1); rintro e w48 ⟨rfl, hb⟩; have n0_ := Aside0.mk (Kd.R_below (by (with_reducible repeat (first | apply Kd.R_alloc | apply Kd.R_drewN | apply Kd.R_drew)); exact HO_13.out) hb); have n1_ := Aside0.mk (below_step (by repeat (first | (with_reducible first | exact HB.out | apply below_alloc | apply pw_below_drewN | apply below_drew1) | exact HB.out)) hb); clear HO_13; clear HB; have HO_13 := n0_; have HB := n1_; clear n0_ n1_; (try clear hb); (try clear hb2); (try clear hk); (try clear hi)))
               go_ret
               exact ⟨by first | rfl | (simp [errW_none, errW_some] <;> rfl) | (simp [*, errW_none, errW_some] <;> rfl), by repeat (first | (with_reducible first | exact HB.out | apply below_alloc | apply pw_below_drewN | apply below_drew1) | exact HB.out)⟩
             · rw [if_neg c44] at H
               have c44b0 : (t397 == (wrap64 ((wrap64 ((wrap64 (1 + t371)) - t372)) + 5))) = false := beq_eq_false_iff_ne.mpr c44
               have c44b1 : (t397 != (wrap64 ((wrap64 ((wrap64 (1 + t371)) - t372)) + 5))) = true := bne_iff_ne.mpr c44
               obtain rfl := Option.some.inj H
               obtain ⟨Ao49, co49, eo49⟩ := Kd.R_slice HO_13.out
               subst eo49
               have p395 : 0 ≤ (0 : Int) := (by omega)
               have q395 : 0 < (t385.length : Int) := of_decide_eq_true (by first | (with_reducible assumption) | assumption)
               obtain ⟨ad395, e395, hx395_0, hx395_1, hx395_2, hx395_3, hx395_4, hx395_5, hx395_6, hx395_7, hx395_8⟩ := at_T33 (Kd.R_reads' HO_13.out).2.2 0 p395 q395
               cases e395
               have qi395 : (0 < t385.length) = True := eq_true (by omega)
               (try rw [show ((0 : Int)).toNat = 0 from rfl] at hx395_0)
               (try rw [show 0 * 9 = 0 from rfl] at hx395_0)
               (try rw [Addr.add_zero'] at hx395_0)
               (try rw [show ((0 : Int)).toNat = 0 from rfl] at hx395_1)
               (try rw [show 0 * 9 = 0 from rfl] at hx395_1)
               (try rw [Addr.add_zero'] at hx395_1)
               (try rw [show ((0 : Int)).toNat = 0 from rfl] at hx395_2)
               (try rw [show 0 * 9 = 0 from rfl] at hx395_2)
               (try rw [Addr.add_zero'] at hx395_2)
               (try rw [show ((0 : Int)).toNat = 0 from rfl] at hx395_3)
               (try rw [show 0 * 9 = 0 from rfl] at hx395_3)
               (try rw [Addr.add_zero'] at hx395_3)
               (try rw [show ((0 : Int)).toNat = 0 from rfl] at hx395_4)
               (try rw [show 0 * 9 = 0 from rfl] at hx395_4)
               (try rw [Addr.add_zero'] at hx395_4)
               (try rw [show ((0 : Int)).toNat = 0 from rfl] at hx395_5)
               (try rw [show 0 * 9 = 0 from rfl] at hx395_5)
               (try rw [Addr.add_zero'] at hx395_5)
               (try rw [show ((0 : Int)).toNat = 0 from rfl] at hx395_6)
               (try rw [show 0 * 9 = 0 from rfl] at hx395_6)
               (try rw [Addr.add_zero'] at hx395_6)
               (try rw [show ((0 : Int)).toNat = 0 from rfl] at hx395_7)
               (try rw [show 0 * 9 = 0 from rfl] at hx395_7)
               (try rw [Addr.add_zero'] at hx395_7)
               (try rw [show ((0 : Int)).toNat = 0 from rfl] at hx395_8)
               (try rw [show 0 * 9 = 0 from rfl] at hx395_8)
               (try rw [Addr.add_zero'] at hx395_8)
               replace p395 := eq_true p395
               replace q395 := eq_true q395
               have p396 : 0 ≤ (0 : Int) := (by omega)
               have q396 : 0 < (t385.length : Int) := of_decide_eq_true (by first | (with_reducible assumption) | assumption)
               obtain ⟨ad396, e396, hx396_0, hx396_1, hx396_2, hx396_3, hx396_4, hx396_5, hx396_6, hx396_7, hx396_8⟩ := at_T33 (Kd.R_reads' HO_13.out).2.2 0 p396 q396
               obtain rfl : ad395 = ad396 := (by injection e396)
               have qi396 : (0 < t385.length) = True := eq_true (by omega)
               (try rw [show ((0 : Int)).toNat = 0 from rfl] at hx396_0)
               (try rw [show 0 * 9 = 0 from rfl] at hx396_0)
               (try rw [Addr.add_zero'] at hx396_0)
               (try rw [show ((0 : Int)).toNat = 0 from rfl] at hx396_1)
               (try rw [show 0 * 9 = 0 from rfl] at hx396_1)
               (try rw [Addr.add_zero'] at hx396_1)
               (try rw [show ((0 : Int)).toNat = 0 from rfl] at hx396_2)
               (try rw [show 0 * 9 = 0 from rfl] at hx396_2)
               (try rw [Addr.add_zero'] at hx396_2)
               (try rw [show ((0 : Int)).toNat = 0 from rfl] at hx396_3)
               (try rw [show 0 * 9 = 0 from rfl] at hx396_3)
               (try rw [Addr.add_zero'] at hx396_3)
               (try rw [show ((0 : Int)).toNat = 0 from rfl] at hx396_4)
               (try rw [show 0 * 9 = 0 from rfl] at hx396_4)
               (try rw [Addr.add_zero'] at hx396_4)
               (try rw [show ((0 : Int)).toNat = 0 from rfl] at hx396_5)
               (try rw [show 0 * 9 = 0 from rfl] at hx396_5)
               (try rw [Addr.add_zero'] at hx396_5)
               (try rw [show ((0 : Int)).toNat = 0 from rfl] at hx396_6)
               (try rw [show 0 * 9 = 0 from rfl] at hx396_6)
               (try rw [Addr.add_zero'] at hx396_6)
               (try rw [show ((0 : Int)).toNat = 0 from rfl] at hx396_7)
               (try rw [show 0 * 9 = 0 from rfl] at hx396_7)
               (try rw [Addr.add_zero'] at hx396_7)
               (try rw [show ((0 : Int)).toNat = 0 from rfl] at hx396_8)
               (try rw [show 0 * 9 = 0 from rfl] at hx396_8)
               (try rw [Addr.add_zero'] at hx396_8)
               replace p396 := eq_true p396
               replace q396 := eq_true q396
               go_wp2_with (first | (go_at_call 18; (with_reducible refine (lots_Rest.calls ((rd_T33 t385 0).f0) ((rd_T33 t385 0).f1) ((rd_T33 t385 0).f2) ((rd_T33 t385 0).f3) ((rd_T33 t385 0).f4) ((rd_T33 t385 0).f5) ((rd_T33 t385 0).f6) ((rd_T33 t385 0).f7) ((rd_T33 t385 0).f8) t397 _ A43.out).mono ?_); rintro e w50 ⟨rfl, hb⟩; have n0_ := Aside0.mk (Kd.R_below (by (with_reducible repeat (first | apply Kd.R_alloc | apply Kd.R_drewN | apply Kd.R_drew)); exact HO_13.out) hb); have n1_ := Aside0.mk (below_step (by repeat (first | (with_reducible first | exact HB.out | apply below_alloc | apply pw_below_drewN | apply below_drew1) | exact HB.out)) hb); clear HO_13; clear HB; have HO_13 := n0_; have HB := n1_; clear n0_ n1_; (try clear hb); (try clear hb2); (try clear hk); (try clear hi)))
               go_ret
               exact ⟨by first | rfl | (simp [errW_none, errW_some] <;> rfl) | (simp [*, errW_none, errW_some] <;> rfl), by repeat (first | (with_reducible first | exact HB.out | apply below_alloc | apply pw_below_drewN | apply below_drew1) | exact HB.out)⟩
           · rw [if_neg c42] at H
             have c42b0 : (((rd_T33 t385 0).f7) == 0) = false := beq_eq_false_iff_ne.mpr c42
             have c42b1 : (((rd_T33 t385 0).f7) != 0) = true := bne_iff_ne.mpr c42
             obtain rfl := Option.some.inj H
             obtain ⟨Ao51, co51, eo51⟩ := Kd.R_slice HO_13.out
             subst eo51
             have p395 : 0 ≤ (0 : Int) := (by omega)
             have q395 : 0 < (t385.length : Int) := of_decide_eq_true (by first | (with_reducible assumption) | assumption)
             obtain ⟨ad395, e395, hx395_0, hx395_1, hx395_2, hx395_3, hx395_4, hx395_5, hx395_6, hx395_7, hx395_8⟩ := at_T33 (Kd.R_reads' HO_13.out).2.2 0 p395 q395
             cases e395
             have qi395 : (0 < t385.length) = True := eq_true (by omega)
             (try rw [show ((0 : Int)).toNat = 0 from rfl] at hx395_0)
             (try rw [show 0 * 9 = 0 from rfl] at hx395_0)
             (try rw [Addr.add_zero'] at hx395_0)
             (try rw [show ((0 : Int)).toNat = 0 from rfl] at hx395_1)
             (try rw [show 0 * 9 = 0 from rfl] at hx395_1)
             (try rw [Addr.add_zero'] at hx395_1)
             (try rw [show ((0 : Int)).toNat = 0 from rfl] at hx395_2)
             (try rw [show 0 * 9 = 0 from rfl] at hx395_2)
             (try rw [Addr.add_zero'] at hx395_2)
             (try rw [show ((0 : Int)).toNat = 0 from rfl] at hx395_3)
             (try rw [show 0 * 9 = 0 from rfl] at hx395_3)
             (try rw [Addr.add_zero'] at hx395_3)
             (try rw [show ((0 : Int)).toNat = 0 from rfl] at hx395_4)
             (try rw [show 0 * 9 = 0 from rfl] at hx395_4)
             (try rw [Addr.add_zero'] at hx395_4)
             (try rw [show ((0 : Int)).toNat = 0 from rfl] at hx395_5)
             (try rw [show 0 * 9 = 0 from rfl] at hx395_5)
             (try rw [Addr.add_zero'] at hx395_5)
             (try rw [show ((0 : Int)).toNat = 0 from rfl] at hx395_6)
             (try rw [show 0 * 9 = 0 from rfl] at hx395_6)
             (try rw [Addr.add_zero'] at hx395_6)
             (try rw [show ((0 : Int)).toNat = 0 from rfl] at hx395_7)
             (try rw [show 0 * 9 = 0 from rfl] at hx395_7)
             (try rw [Addr.add_zero'] at hx395_7)
             (try rw [show ((0 : Int)).toNat = 0 from rfl] at hx395_8)
             (try rw [show 0 * 9 = 0 from rfl] at hx395_8)
             (try rw [Addr.add_zero'] at hx395_8)
             replace p395 := eq_true p395
             replace q395 := eq_true q395
             go_wp2
             go_ret
             exact ⟨by first | rfl | (simp [errW_none, errW_some] <;> rfl) | (simp [*, errW_none, errW_some] <;> rfl), by repeat (first | (with_reducible first | exact HB.out | apply below_alloc | apply pw_below_drewN | apply below_drew1) | exact HB.out)⟩
         · rw [if_neg c41] at H
           exact absurd H (by simp)
 · replace c6 := Bool.eq_false_iff.mpr c6
   subst c6
   have H1 : (some false) = some r := by rw [if_neg (show ¬ (false = true) by decide)] at H; exact H
   clear H
   have H := H1
   clear H1
   obtain rfl := Option.some.inj H
   go_enter Try.func9, Try.ntmps9
   go_wp2_with (first | ((with_reducible refine gate_callee (f := 12) rfl ?_); refine goesL_ (some 15) rfl rfl Try.func12 (by kernel_rfl) rfl #[] rfl (by (try simp only [List.map_toArray, List.map_cons, List.map_nil]); first | done | rfl | (simp only [List.length_drop, List.length_take]; rfl)) ?_; (with_reducible refine (tolllaw10_known.calls  false _ A5.out).mono ?_); rintro e w52 ⟨rfl, hb⟩; refine ⟨_, rfl, ?_⟩; have n0_ := Aside0.mk (below_step (by repeat (first | (with_reducible first | exact HB.out | apply below_alloc | apply pw_below_drewN | apply below_drew1) | exact HB.out)) hb); clear HB; have HB := n0_; clear n0_; (try clear hb); (try clear hb2); (try clear hk); (try clear hi)))
   go_ret
   exact ⟨by first | rfl | (simp [errW_none, errW_some] <;> rfl) | (simp [*, errW_none, errW_some] <;> rfl), by repeat (first | (with_reducible first | exact HB.out | apply below_alloc | apply pw_below_drewN | apply below_drew1) | exact HB.out)⟩

/-- THE ONE PURE STATEMENT of tolllaw10_LotsEnds: yours. -/
def tolllaw10_LotsEnds.Pure : Prop := ∀ (a0 : Int) (a1 : Int) (a2 : Int) (a3 : Int), (Lit.int .i64 a0).wf = true → (Lit.int .i64 a1).wf = true → (Lit.int .i64 a2).wf = true → (Lit.int .i64 a3).wf = true → ∃ k, tolllaw10_LotsEnds.f k a0 a1 a2 a3 = some true
theorem tolllaw10_LotsEnds.walk (P : tolllaw10_LotsEnds.Pure) (a0 : Int) (a1 : Int) (a2 : Int) (a3 : Int) (w : World) (w0 : (Lit.int .i64 a0).wf = true) (w1 : (Lit.int .i64 a1).wf = true) (w2 : (Lit.int .i64 a2).wf = true) (w3 : (Lit.int .i64 a3).wf = true) :
 Calls Try.prog 9 #[.int .i64 a0, .int .i64 a1, .int .i64 a2, .int .i64 a3] w fun e w' => e = .returned (.bool true) ∧ Below w.heap.size w w' := by
 obtain ⟨k, h⟩ := P a0 a1 a2 a3 w0 w1 w2 w3
 refine (tolllaw10_LotsEnds.calls k a0 a1 a2 a3 true w h).mono ?_
 rintro e w' ⟨rfl, hd⟩
 exact ⟨rfl, hd⟩

end Go.Proofs.Ytjoimapgmocoeaa.Xa
