/- What Go functions of this seat compute, as plain Lean functions; the machine's calls do what these say, under the conditions that each theorem names. Written by a program of this session (xprint, over print.py of the kit). -/
import Derived.Test.YtjoimapgmocoeaaXa0
import Derived.Test.YtjoimapgmocoeaaXa4
import Derived.Test.YtjoimapgmocoeaaXa5
import Derived.Test.YtjoimapgmocoeaaXa6
import Derived.Test.YtjoimapgmocoeaaXa10
import Derived.Test.YtjoimapgmocoeaaXa12
namespace Go.Proofs.Ytjoimapgmocoeaa.Xa
open Go.RowKit Go.Proofs.YtjoimapgmocoeaaW.PrintWords Go.Proofs.YtjoimapgmocoeaaW.PrintLast Go.Proofs.YtjoimapgmocoeaaW.PrintMore
attribute [local go_sem] max2_int min2_int max_two min_two max_three min_three max_four min_four   -- for this text's walks alone
set_option linter.unusedVariables false
set_option linter.unusedSimpArgs false

/-! ### tolllaw10_LotsLeft: function 5 -/
def tolllaw10_LotsLeft.l0 : Nat → List (S33) → Int → Int → Int → Option (Bool)
 | 0, _, _, _, _ => none
 | k + 1, x0, x1, x5, x6 => if x6 < (x0.length : Int) then (if 0 ≤ x6 then (if x6 ≤ (wrap64 (x6 + 1)) then (if (wrap64 (x6 + 1)) ≤ (x0.length : Int) then ((lots_Left.f k ((x0.take ((wrap64 (x6 + 1)) : Int).toNat).drop (x6 : Int).toNat) x1).bind fun t197 => (if t197 = 0 then (if x1 ≥ ((rd_T33 x0 x6).f2) then (if x1 < ((rd_T33 x0 x6).f3) then ((lots_Rest.f ((rd_T33 x0 x6).f0) ((rd_T33 x0 x6).f1) ((rd_T33 x0 x6).f2) ((rd_T33 x0 x6).f3) ((rd_T33 x0 x6).f4) ((rd_T33 x0 x6).f5) ((rd_T33 x0 x6).f6) ((rd_T33 x0 x6).f7) ((rd_T33 x0 x6).f8)).bind fun t201 => (if t197 = t201 then (tolllaw10_LotsLeft.l0 k x0 x1 (wrap64 (x5 + t197)) (wrap64 (x6 + 1))) else (some false))) else (tolllaw10_LotsLeft.l0 k x0 x1 (wrap64 (x5 + t197)) (wrap64 (x6 + 1)))) else (tolllaw10_LotsLeft.l0 k x0 x1 (wrap64 (x5 + t197)) (wrap64 (x6 + 1)))) else (if x1 < ((rd_T33 x0 x6).f2) then (some false) else (if x1 ≥ ((rd_T33 x0 x6).f3) then (some false) else ((lots_Rest.f ((rd_T33 x0 x6).f0) ((rd_T33 x0 x6).f1) ((rd_T33 x0 x6).f2) ((rd_T33 x0 x6).f3) ((rd_T33 x0 x6).f4) ((rd_T33 x0 x6).f5) ((rd_T33 x0 x6).f6) ((rd_T33 x0 x6).f7) ((rd_T33 x0 x6).f8)).bind fun t205 => (if t197 = t205 then (if x1 ≥ ((rd_T33 x0 x6).f2) then (if x1 < ((rd_T33 x0 x6).f3) then ((lots_Rest.f ((rd_T33 x0 x6).f0) ((rd_T33 x0 x6).f1) ((rd_T33 x0 x6).f2) ((rd_T33 x0 x6).f3) ((rd_T33 x0 x6).f4) ((rd_T33 x0 x6).f5) ((rd_T33 x0 x6).f6) ((rd_T33 x0 x6).f7) ((rd_T33 x0 x6).f8)).bind fun t209 => (if t197 = t209 then (tolllaw10_LotsLeft.l0 k x0 x1 (wrap64 (x5 + t197)) (wrap64 (x6 + 1))) else (some false))) else (tolllaw10_LotsLeft.l0 k x0 x1 (wrap64 (x5 + t197)) (wrap64 (x6 + 1)))) else (tolllaw10_LotsLeft.l0 k x0 x1 (wrap64 (x5 + t197)) (wrap64 (x6 + 1)))) else (some false))))))) else (none)) else (none)) else (none)) else ((lots_Left.f k x0 x1).bind fun t191 => (if t191 = x5 then ((lots_Left.f k ([] : List (S33)) x1).bind fun t192 => (some (t192 == 0))) else (some false)))
def tolllaw10_LotsLeft.f (k : Nat) (l0 : List (S33)) (a1 : Int) : Option (Bool) := (tolllaw10_known.f).bind fun t186 => (if t186 = true then ((tolllaw10_within.f a1 100000).bind fun t187 => ((tolllaw10_Good.f k l0 t187).bind fun t188 => (tolllaw10_LotsLeft.l0 k t188 t187 0 0))) else (some false))
theorem tolllaw10_LotsLeft.mono_l : ∀ k, (∀ y0 y1 y2 y3, LeO (tolllaw10_LotsLeft.l0 k y0 y1 y2 y3) (tolllaw10_LotsLeft.l0 (k + 1) y0 y1 y2 y3))
 | 0 => fun _ _ _ _ r h => by simp [tolllaw10_LotsLeft.l0] at h
 | k + 1 => by
  have ih0 := tolllaw10_LotsLeft.mono_l k
  · intro y0 y1 y2 y3
    unfold tolllaw10_LotsLeft.l0
    repeat' first
    | (with_reducible exact ih0 _ _ _ _)
    | (with_reducible exact lots_Left.mono _ _ _)
    | (with_reducible exact tolllaw10_Good.mono _ _ _)
    | (with_reducible exact LeO.refl _)
    | (with_reducible exact LeO.none _)
    | (with_reducible refine LeO.ite ?_ ?_)
    | (with_reducible refine LeO.bind ?_ (fun _ => ?_))
    | exact ih0 _ _ _ _
    | exact lots_Left.mono _ _ _
    | exact tolllaw10_Good.mono _ _ _
    | exact LeO.none _
    | refine LeO.ite ?_ ?_
    | refine LeO.bind ?_ (fun _ => ?_)
theorem tolllaw10_LotsLeft.mono : ∀ a0 a1 k, LeO (tolllaw10_LotsLeft.f k a0 a1) (tolllaw10_LotsLeft.f (k + 1) a0 a1) := by
 intro a0 a1 k
 have ih0 := tolllaw10_LotsLeft.mono_l k
 unfold tolllaw10_LotsLeft.f
 repeat' first
  | (with_reducible exact ih0 _ _ _ _)
  | (with_reducible exact lots_Left.mono _ _ _)
  | (with_reducible exact tolllaw10_Good.mono _ _ _)
  | (with_reducible exact LeO.refl _)
  | (with_reducible exact LeO.none _)
  | (with_reducible refine LeO.ite ?_ ?_)
  | (with_reducible refine LeO.bind ?_ (fun _ => ?_))
  | exact ih0 _ _ _ _
  | exact lots_Left.mono _ _ _
  | exact tolllaw10_Good.mono _ _ _
  | exact LeO.none _
  | refine LeO.ite ?_ ?_
  | refine LeO.bind ?_ (fun _ => ?_)
set_option maxHeartbeats 8000000 in
set_option maxRecDepth 100000 in
theorem tolllaw10_LotsLeft.calls (k : Nat) (A0 : Option Addr) (c0 : Nat) (l0 : List (S33)) (a1 : Int) (r : Bool) (w : World) (hr0 : Kd.C k33 w A0 l0.length l0) (hc0 : l0.length ≤ c0) (h : tolllaw10_LotsLeft.f k l0 a1 = some r) :
 Calls Try.prog 5 #[.slice A0 l0.length c0, .int .i64 a1] w fun e w' => e = .returned (.bool r) ∧ Below w.heap.size w w' := by
 have hu33 := Try.underlying33
 have HR0 := Aside0.mk hr0
 have HC0 := Aside0.mk hc0
 clear hr0 hc0
 have HB := Aside0.mk (Below.refl w.heap.size w)
 have H : ((tolllaw10_known.f).bind fun t186 => (if t186 = true then ((tolllaw10_within.f a1 100000).bind fun t187 => ((tolllaw10_Good.f k l0 t187).bind fun t188 => (tolllaw10_LotsLeft.l0 k t188 t187 0 0))) else (some false))) = some r := h
 clear h
 replace H := Option.bind_eq_some_iff.mp H
 obtain ⟨t186, A30, H⟩ := H
 replace H : (if t186 = true then ((tolllaw10_within.f a1 100000).bind fun t187 => ((tolllaw10_Good.f k l0 t187).bind fun t188 => (tolllaw10_LotsLeft.l0 k t188 t187 0 0))) else (some false)) = some r := H
 have A3 := Aside0.mk A30
 clear A30
 by_cases c4 : t186 = true
 · subst c4
   have H1 : ((tolllaw10_within.f a1 100000).bind fun t187 => ((tolllaw10_Good.f k l0 t187).bind fun t188 => (tolllaw10_LotsLeft.l0 k t188 t187 0 0))) = some r := by rw [if_pos rfl] at H; exact H
   clear H
   have H := H1
   clear H1
   replace H := Option.bind_eq_some_iff.mp H
   obtain ⟨t187, A50, H⟩ := H
   replace H : ((tolllaw10_Good.f k l0 t187).bind fun t188 => (tolllaw10_LotsLeft.l0 k t188 t187 0 0)) = some r := H
   have A5 := Aside0.mk A50
   clear A50
   replace H := Option.bind_eq_some_iff.mp H
   obtain ⟨t188, A60, H⟩ := H
   replace H : (tolllaw10_LotsLeft.l0 k t188 t187 0 0) = some r := H
   have A6 := Aside0.mk A60
   clear A60
   have H' := Aside0.mk H
   clear H
   go_enter Try.func5, Try.ntmps5
   go_wp2_with (first | ((with_reducible refine gate_callee (f := 12) rfl ?_); refine goesL_ (some 8) rfl rfl Try.func12 (by kernel_rfl) rfl #[] rfl (by (try simp only [List.map_toArray, List.map_cons, List.map_nil]); first | done | rfl | (simp only [List.length_drop, List.length_take]; rfl)) ?_; (with_reducible refine (tolllaw10_known.calls  true _ A3.out).mono ?_); rintro e w7 ⟨rfl, hb⟩; refine ⟨_, rfl, ?_⟩; have n0_ := Aside0.mk (below_step (by repeat (first | (with_reducible first | exact HB.out | apply below_alloc | apply pw_below_drewN | apply below_drew1) | exact HB.out)) hb); clear HB; have HB := n0_; clear n0_; (try clear hb); (try clear hb2); (try clear hk); (try clear hi)) | ((with_reducible refine gate_callee (f := 13) rfl ?_); refine goesL_ (some 11) rfl rfl Try.func13 (by kernel_rfl) rfl #[.int .i64 a1, .int .i64 100000] rfl (by (try simp only [List.map_toArray, List.map_cons, List.map_nil]); first | done | rfl | (simp only [List.length_drop, List.length_take]; rfl)) ?_; (with_reducible refine (tolllaw10_within.calls a1 100000 t187 _ A5.out).mono ?_); rintro e w' ⟨rfl, rfl⟩; refine ⟨_, rfl, ?_⟩) | ((with_reducible refine gate_callee (f := 14) rfl ?_); refine goesL_ (some 14) rfl rfl Try.func14 (by kernel_rfl) rfl #[.slice A0 l0.length c0, .int .i64 t187] rfl (by (try simp only [List.map_toArray, List.map_cons, List.map_nil]); first | done | rfl | (simp only [List.length_drop, List.length_take]; rfl)) ?_; (with_reducible refine (tolllaw10_Good.calls k _ _ l0 t187 t188 _ ?side1 ?side2 A6.out).mono ?_); (case side1 => repeat (first | exact (Kd.C_below HR0.out HB.out) | (with_reducible refine Kd.C_alloc ?_ _) | (with_reducible refine Kd.C_drewN ?_ _) | (with_reducible refine Kd.C_drew ?_))); (case side2 => exact HC0.out); rintro e w8 ⟨v189, rfl, ho0, hb⟩; refine ⟨_, rfl, ?_⟩; have n0_ := Aside0.mk (Kd.R_lower ho0 (below_size (by repeat (first | (with_reducible first | exact HB.out | apply below_alloc | apply pw_below_drewN | apply below_drew1) | exact HB.out)))); have n1_ := Aside0.mk (below_step (by repeat (first | (with_reducible first | exact HB.out | apply below_alloc | apply pw_below_drewN | apply below_drew1) | exact HB.out)) hb); clear HB; have HO190 := n0_; have HB := n1_; clear n0_ n1_; (try clear hb); (try clear hb2); (try clear hk); (try clear hi); (try clear ho0)))
   go_loopg [5, 6] k (fun kq v5 v6 w' => ∃ (x5_1 : Int) (x6_1 : Int), v5 = .int .i64 x5_1 ∧ v6 = .int .i64 x6_1 ∧ Aside0 (tolllaw10_LotsLeft.l0 kq t188 t187 x5_1 x6_1 = some r) ∧ Aside0 (kq ≤ k) ∧ Aside0 (Kd.R k33 33 w' w.heap.size (fun _ => True) v189 t188) ∧ Aside0 (Below w.heap.size w w'))
   case atStart => exact ⟨(0), (0), (by first | rfl | (simp; done) | (simp [*]; done)), (by first | rfl | (simp; done) | (simp [*]; done)), H', ⟨Nat.le_refl _⟩, ⟨by (with_reducible repeat (first | apply Kd.R_alloc | apply Kd.R_drewN | apply Kd.R_drew)); exact HO190.out⟩, ⟨by repeat (first | (with_reducible first | exact HB.out | apply below_alloc | apply pw_below_drewN | apply below_drew1) | exact HB.out)⟩⟩
   case round =>
    clear H'
    try clear c1
    try clear p2
    try clear c4
    try clear c5
    obtain ⟨x5_1, x6_1, rfl, rfl, HA, HK1, HO_0, HB⟩ := hrel
    cases gk with
    | zero => exact absurd HA.out (by simp [tolllaw10_LotsLeft.l0])
    | succ k1 =>
     have H := HA.out
     clear HA
     simp only [tolllaw10_LotsLeft.l0] at H
     by_cases c9 : x6_1 < (t188.length : Int)
     · rw [if_pos c9] at H
       have c9b0 : decide (x6_1 < (t188.length : Int)) = true := decide_eq_true c9
       clear c9
       by_cases c10 : 0 ≤ x6_1
       · rw [if_pos c10] at H
         have c10b0 := eq_true c10
         have c10b1 : decide (0 ≤ x6_1) = true := decide_eq_true c10
         clear c10
         by_cases c11 : x6_1 ≤ (wrap64 (x6_1 + 1))
         · rw [if_pos c11] at H
           have c11b0 := eq_true c11
           have c11b1 : decide (x6_1 ≤ (wrap64 (x6_1 + 1))) = true := decide_eq_true c11
           by_cases c12 : (wrap64 (x6_1 + 1)) ≤ (t188.length : Int)
           · rw [if_pos c12] at H
             have c12b0 := eq_true c12
             have c12b1 : decide ((wrap64 (x6_1 + 1)) ≤ (t188.length : Int)) = true := decide_eq_true c12
             obtain ⟨y193, hy193⟩ : ∃ y_ : List (S33), y_ = ((t188.take ((wrap64 (x6_1 + 1)) : Int).toNat).drop (x6_1 : Int).toNat) := ⟨_, rfl⟩
             replace H : ((lots_Left.f k1 y193 t187).bind fun t197 => (if t197 = 0 then (if t187 ≥ ((rd_T33 t188 x6_1).f2) then (if t187 < ((rd_T33 t188 x6_1).f3) then ((lots_Rest.f ((rd_T33 t188 x6_1).f0) ((rd_T33 t188 x6_1).f1) ((rd_T33 t188 x6_1).f2) ((rd_T33 t188 x6_1).f3) ((rd_T33 t188 x6_1).f4) ((rd_T33 t188 x6_1).f5) ((rd_T33 t188 x6_1).f6) ((rd_T33 t188 x6_1).f7) ((rd_T33 t188 x6_1).f8)).bind fun t201 => (if t197 = t201 then (tolllaw10_LotsLeft.l0 k1 t188 t187 (wrap64 (x5_1 + t197)) (wrap64 (x6_1 + 1))) else (some false))) else (tolllaw10_LotsLeft.l0 k1 t188 t187 (wrap64 (x5_1 + t197)) (wrap64 (x6_1 + 1)))) else (tolllaw10_LotsLeft.l0 k1 t188 t187 (wrap64 (x5_1 + t197)) (wrap64 (x6_1 + 1)))) else (if t187 < ((rd_T33 t188 x6_1).f2) then (some false) else (if t187 ≥ ((rd_T33 t188 x6_1).f3) then (some false) else ((lots_Rest.f ((rd_T33 t188 x6_1).f0) ((rd_T33 t188 x6_1).f1) ((rd_T33 t188 x6_1).f2) ((rd_T33 t188 x6_1).f3) ((rd_T33 t188 x6_1).f4) ((rd_T33 t188 x6_1).f5) ((rd_T33 t188 x6_1).f6) ((rd_T33 t188 x6_1).f7) ((rd_T33 t188 x6_1).f8)).bind fun t205 => (if t197 = t205 then (if t187 ≥ ((rd_T33 t188 x6_1).f2) then (if t187 < ((rd_T33 t188 x6_1).f3) then ((lots_Rest.f ((rd_T33 t188 x6_1).f0) ((rd_T33 t188 x6_1).f1) ((rd_T33 t188 x6_1).f2) ((rd_T33 t188 x6_1).f3) ((rd_T33 t188 x6_1).f4) ((rd_T33 t188 x6_1).f5) ((rd_T33 t188 x6_1).f6) ((rd_T33 t188 x6_1).f7) ((rd_T33 t188 x6_1).f8)).bind fun t209 => (if t197 = t209 then (tolllaw10_LotsLeft.l0 k1 t188 t187 (wrap64 (x5_1 + t197)) (wrap64 (x6_1 + 1))) else (some false))) else (tolllaw10_LotsLeft.l0 k1 t188 t187 (wrap64 (x5_1 + t197)) (wrap64 (x6_1 + 1)))) else (tolllaw10_LotsLeft.l0 k1 t188 t187 (wrap64 (x5_1 + t197)) (wrap64 (x6_1 + 1)))) else (some false))))))) = some r := by first | (rw [hy193]; with_reducible exact H) | (have H2_ := (Option.bind_some _ _).symm.trans H; rw [hy193]; with_reducible exact H2_) | (have H2_ := (Option.bind_some _ _).symm.trans H; with_reducible exact H2_) | with_reducible exact H | (rw [hy193]; exact H) | exact H
             have Ny193 := Aside0.mk hy193
             clear hy193
             replace H := Option.bind_eq_some_iff.mp H
             obtain ⟨t197, A130, H⟩ := H
             replace H : (if t197 = 0 then (if t187 ≥ ((rd_T33 t188 x6_1).f2) then (if t187 < ((rd_T33 t188 x6_1).f3) then ((lots_Rest.f ((rd_T33 t188 x6_1).f0) ((rd_T33 t188 x6_1).f1) ((rd_T33 t188 x6_1).f2) ((rd_T33 t188 x6_1).f3) ((rd_T33 t188 x6_1).f4) ((rd_T33 t188 x6_1).f5) ((rd_T33 t188 x6_1).f6) ((rd_T33 t188 x6_1).f7) ((rd_T33 t188 x6_1).f8)).bind fun t201 => (if t197 = t201 then (tolllaw10_LotsLeft.l0 k1 t188 t187 (wrap64 (x5_1 + t197)) (wrap64 (x6_1 + 1))) else (some false))) else (tolllaw10_LotsLeft.l0 k1 t188 t187 (wrap64 (x5_1 + t197)) (wrap64 (x6_1 + 1)))) else (tolllaw10_LotsLeft.l0 k1 t188 t187 (wrap64 (x5_1 + t197)) (wrap64 (x6_1 + 1)))) else (if t187 < ((rd_T33 t188 x6_1).f2) then (some false) else (if t187 ≥ ((rd_T33 t188 x6_1).f3) then (some false) else ((lots_Rest.f ((rd_T33 t188 x6_1).f0) ((rd_T33 t188 x6_1).f1) ((rd_T33 t188 x6_1).f2) ((rd_T33 t188 x6_1).f3) ((rd_T33 t188 x6_1).f4) ((rd_T33 t188 x6_1).f5) ((rd_T33 t188 x6_1).f6) ((rd_T33 t188 x6_1).f7) ((rd_T33 t188 x6_1).f8)).bind fun t205 => (if t197 = t205 then (if t187 ≥ ((rd_T33 t188 x6_1).f2) then (if t187 < ((rd_T33 t188 x6_1).f3) then ((lots_Rest.f ((rd_T33 t188 x6_1).f0) ((rd_T33 t188 x6_1).f1) ((rd_T33 t188 x6_1).f2) ((rd_T33 t188 x6_1).f3) ((rd_T33 t188 x6_1).f4) ((rd_T33 t188 x6_1).f5) ((rd_T33 t188 x6_1).f6) ((rd_T33 t188 x6_1).f7) ((rd_T33 t188 x6_1).f8)).bind fun t209 => (if t197 = t209 then (tolllaw10_LotsLeft.l0 k1 t188 t187 (wrap64 (x5_1 + t197)) (wrap64 (x6_1 + 1))) else (some false))) else (tolllaw10_LotsLeft.l0 k1 t188 t187 (wrap64 (x5_1 + t197)) (wrap64 (x6_1 + 1)))) else (tolllaw10_LotsLeft.l0 k1 t188 t187 (wrap64 (x5_1 + t197)) (wrap64 (x6_1 + 1)))) else (some false)))))) = some r := H
             have A13 := Aside0.mk A130
             clear A130
             by_cases c14 : t197 = 0
             · rw [if_pos c14] at H
               have c14b0 : (t197 == 0) = true := beq_iff_eq.mpr c14
               have c14b1 : (t197 != 0) = false := bne_eq_false_iff_eq.mpr c14
               clear c14
               by_cases c15 : t187 ≥ ((rd_T33 t188 x6_1).f2)
               · rw [if_pos c15] at H
                 have c15b0 : decide (((rd_T33 t188 x6_1).f2) ≤ t187) = true := decide_eq_true c15
                 clear c15
                 by_cases c16 : t187 < ((rd_T33 t188 x6_1).f3)
                 · rw [if_pos c16] at H
                   have c16b0 : decide (t187 < ((rd_T33 t188 x6_1).f3)) = true := decide_eq_true c16
                   clear c16
                   replace H := Option.bind_eq_some_iff.mp H
                   obtain ⟨t201, A170, H⟩ := H
                   replace H : (if t197 = t201 then (tolllaw10_LotsLeft.l0 k1 t188 t187 (wrap64 (x5_1 + t197)) (wrap64 (x6_1 + 1))) else (some false)) = some r := H
                   have A17 := Aside0.mk A170
                   clear A170
                   by_cases c18 : t197 = t201
                   · rw [if_pos c18] at H
                     have c18b0 : (t197 == t201) = true := beq_iff_eq.mpr c18
                     have c18b1 : (t197 != t201) = false := bne_eq_false_iff_eq.mpr c18
                     clear c18
                     have H' := Aside0.mk H
                     clear H
                     obtain ⟨Ao19, co19, eo19⟩ := Kd.R_slice HO_0.out
                     subst eo19
                     have q20 : ((wrap64 (x6_1 + 1)) : Int) ≤ ((t188.length : Int) : Int) := of_decide_eq_true (by first | (with_reducible assumption) | assumption)
                     obtain ⟨i020, hi020, _, hsz20, _⟩ := info_parts info33
                     have hroom20 : t188.length ≤ co19 := (Kd.R_reads' HO_0.out).2.1
                     have hC20 : Kd.C k33 _ Ao19 t188.length t188 := (Kd.R_reads' HO_0.out).2.2
                     have ql20 : (x6_1 : Int) ≤ ((wrap64 (x6_1 + 1)) : Int) := of_decide_eq_true (by first | (with_reducible assumption) | assumption)
                     have q020 : (0 : Int) ≤ (x6_1 : Int) := of_decide_eq_true (by first | (with_reducible assumption) | assumption)
                     have hcut20 := cut_mid (P := Try.prog) 22 33 .i64 .i64 Try.underlying22 hi020 9 hsz20 Ao19 t188.length co19 x6_1 (wrap64 (x6_1 + 1)) q020 ql20 q20 hroom20
                     have hr20 := Kd.C_mid (lo := (x6_1 : Int).toNat) (hi := ((wrap64 (x6_1 + 1)) : Int).toNat) (c := co19) hC20 (by omega) (by omega) hroom20
                     obtain ⟨A20, hA20⟩ : ∃ A1, A1 = (if co19 = (x6_1 : Int).toNat then Ao19 else (Ao19 : Option Addr).map (·.add ((x6_1 : Int).toNat * 9))) := ⟨_, rfl⟩
                     obtain ⟨c20, hc20⟩ : ∃ c1, c1 = co19 - (x6_1 : Int).toNat := ⟨_, rfl⟩
                     have hy20 : y193.length = ((wrap64 (x6_1 + 1)) : Int).toNat - (x6_1 : Int).toNat := (by rw [Ny193.out, List.length_drop, List.length_take] <;> omega)
                     rw [show ((t188).take ((wrap64 (x6_1 + 1)) : Int).toNat).drop (x6_1 : Int).toNat = y193 from Ny193.out.symm] at hr20
                     replace hr20 : Kd.C k33 _ A20 y193.length y193 := (by rw [hA20]; exact hr20)
                     rw [← hy20, ← hA20, ← hc20] at hcut20
                     have HR196 := Aside0.mk hr20
                     have HC196 := Aside0.mk (show y193.length ≤ c20 from by rw [hy20, hc20]; exact Nat.sub_le_sub_right (Nat.le_trans (by omega) hroom20) _)
                     clear hr20 hC20 hroom20 hi020 hsz20 hc20
                     have KY20 := Aside0.mk hy20
                     have KA20 := Aside0.mk hA20
                     clear hy20 hA20
                     have KL20 := Aside0.mk (show ((wrap64 (x6_1 + 1)) : Int).toNat ≤ t188.length from by omega)
                     have KM20 := Aside0.mk (show (x6_1 : Int).toNat ≤ ((wrap64 (x6_1 + 1)) : Int).toNat from by omega)
                     replace q20 := eq_true q20
                     go_wp2_with (first | ((with_reducible refine gate_callee (f := 17) rfl ?_); refine goesL_ (some 27) rfl rfl Try.func17 (by kernel_rfl) rfl #[.slice A20 y193.length c20, .int .i64 t187] rfl (by (try simp only [List.map_toArray, List.map_cons, List.map_nil]); first | done | rfl | (simp only [List.length_drop, List.length_take]; rfl)) ?_; (with_reducible refine (lots_Left.calls k1 _ _ y193 t187 t197 _ ?side1 ?side2 A13.out).mono ?_); (case side1 => repeat (first | exact (by repeat (first | (with_reducible exact HR196.out) | (with_reducible refine Kd.C_alloc ?_ _) | (with_reducible refine Kd.C_drewN ?_ _) | (with_reducible refine Kd.C_drew ?_) | exact HR196.out)) | (with_reducible refine Kd.C_alloc ?_ _) | (with_reducible refine Kd.C_drewN ?_ _) | (with_reducible refine Kd.C_drew ?_))); (case side2 => exact HC196.out); rintro e w21 ⟨rfl, hb⟩; refine ⟨_, rfl, ?_⟩; have n0_ := Aside0.mk (Kd.R_below (by (with_reducible repeat (first | apply Kd.R_alloc | apply Kd.R_drewN | apply Kd.R_drew)); exact HO_0.out) hb); have n1_ := Aside0.mk (Kd.C_below (by repeat (first | (with_reducible exact HR196.out) | (with_reducible refine Kd.C_alloc ?_ _) | (with_reducible refine Kd.C_drewN ?_ _) | (with_reducible refine Kd.C_drew ?_) | exact HR196.out)) hb); have n2_ := Aside0.mk (below_step (by repeat (first | (with_reducible first | exact HB.out | apply below_alloc | apply pw_below_drewN | apply below_drew1) | exact HB.out)) hb); clear HO_0; clear HR196; clear HB; have HO_0 := n0_; have HR196 := n1_; have HB := n2_; clear n0_ n1_ n2_; (try clear hb); (try clear hb2); (try clear hk); (try clear hi); have p198 : 0 ≤ (x6_1 : Int) := of_decide_eq_true (by first | (with_reducible assumption) | assumption); have q198 : x6_1 < (t188.length : Int) := of_decide_eq_true (by first | (with_reducible assumption) | assumption); obtain ⟨ad198, e198, hx198_0, hx198_1, hx198_2, hx198_3, hx198_4, hx198_5, hx198_6, hx198_7, hx198_8⟩ := at_T33 (Kd.R_reads' HO_0.out).2.2 x6_1 p198 q198; cases e198; replace p198 := eq_true p198; replace q198 := eq_true q198; have p199 : 0 ≤ (x6_1 : Int) := of_decide_eq_true (by first | (with_reducible assumption) | assumption); have q199 : x6_1 < (t188.length : Int) := of_decide_eq_true (by first | (with_reducible assumption) | assumption); obtain ⟨ad199, e199, hx199_0, hx199_1, hx199_2, hx199_3, hx199_4, hx199_5, hx199_6, hx199_7, hx199_8⟩ := at_T33 (Kd.R_reads' HO_0.out).2.2 x6_1 p199 q199; obtain rfl : ad198 = ad199 := (by injection e199); replace p199 := eq_true p199; replace q199 := eq_true q199; have p200 : 0 ≤ (x6_1 : Int) := of_decide_eq_true (by first | (with_reducible assumption) | assumption); have q200 : x6_1 < (t188.length : Int) := of_decide_eq_true (by first | (with_reducible assumption) | assumption); obtain ⟨ad200, e200, hx200_0, hx200_1, hx200_2, hx200_3, hx200_4, hx200_5, hx200_6, hx200_7, hx200_8⟩ := at_T33 (Kd.R_reads' HO_0.out).2.2 x6_1 p200 q200; obtain rfl : ad198 = ad200 := (by injection e200); replace p200 := eq_true p200; replace q200 := eq_true q200) | (go_at_call 18; (with_reducible refine (lots_Rest.calls ((rd_T33 t188 x6_1).f0) ((rd_T33 t188 x6_1).f1) ((rd_T33 t188 x6_1).f2) ((rd_T33 t188 x6_1).f3) ((rd_T33 t188 x6_1).f4) ((rd_T33 t188 x6_1).f5) ((rd_T33 t188 x6_1).f6) ((rd_T33 t188 x6_1).f7) ((rd_T33 t188 x6_1).f8) t201 _ A17.out).mono ?_); rintro e w22 ⟨rfl, hb⟩; have n0_ := Aside0.mk (Kd.R_below (by (with_reducible repeat (first | apply Kd.R_alloc | apply Kd.R_drewN | apply Kd.R_drew)); exact HO_0.out) hb); have n1_ := Aside0.mk (Kd.C_below (by repeat (first | (with_reducible exact HR196.out) | (with_reducible refine Kd.C_alloc ?_ _) | (with_reducible refine Kd.C_drewN ?_ _) | (with_reducible refine Kd.C_drew ?_) | exact HR196.out)) hb); have n2_ := Aside0.mk (below_step (by repeat (first | (with_reducible first | exact HB.out | apply below_alloc | apply pw_below_drewN | apply below_drew1) | exact HB.out)) hb); clear HO_0; clear HR196; clear HB; have HO_0 := n0_; have HR196 := n1_; have HB := n2_; clear n0_ n1_ n2_; (try clear hb); (try clear hb2); (try clear hk); (try clear hi)))
                     go_roundg k1
                     case measure => have := HK1.out; omega
                     case rel => exact ⟨(wrap64 (x5_1 + t197)), (wrap64 (x6_1 + 1)), (by first | rfl | (simp; done) | (simp [*]; done)), (by first | rfl | (simp; done) | (simp [*]; done)), H', ⟨by have := HK1.out; omega⟩, ⟨by (with_reducible repeat (first | apply Kd.R_alloc | apply Kd.R_drewN | apply Kd.R_drew)); exact HO_0.out⟩, ⟨by repeat (first | (with_reducible first | exact HB.out | apply below_alloc | apply pw_below_drewN | apply below_drew1) | exact HB.out)⟩⟩
                   · rw [if_neg c18] at H
                     have c18b0 : (t197 == t201) = false := beq_eq_false_iff_ne.mpr c18
                     have c18b1 : (t197 != t201) = true := bne_iff_ne.mpr c18
                     obtain rfl := Option.some.inj H
                     obtain ⟨Ao23, co23, eo23⟩ := Kd.R_slice HO_0.out
                     subst eo23
                     have q24 : ((wrap64 (x6_1 + 1)) : Int) ≤ ((t188.length : Int) : Int) := of_decide_eq_true (by first | (with_reducible assumption) | assumption)
                     obtain ⟨i024, hi024, _, hsz24, _⟩ := info_parts info33
                     have hroom24 : t188.length ≤ co23 := (Kd.R_reads' HO_0.out).2.1
                     have hC24 : Kd.C k33 _ Ao23 t188.length t188 := (Kd.R_reads' HO_0.out).2.2
                     have ql24 : (x6_1 : Int) ≤ ((wrap64 (x6_1 + 1)) : Int) := of_decide_eq_true (by first | (with_reducible assumption) | assumption)
                     have q024 : (0 : Int) ≤ (x6_1 : Int) := of_decide_eq_true (by first | (with_reducible assumption) | assumption)
                     have hcut24 := cut_mid (P := Try.prog) 22 33 .i64 .i64 Try.underlying22 hi024 9 hsz24 Ao23 t188.length co23 x6_1 (wrap64 (x6_1 + 1)) q024 ql24 q24 hroom24
                     have hr24 := Kd.C_mid (lo := (x6_1 : Int).toNat) (hi := ((wrap64 (x6_1 + 1)) : Int).toNat) (c := co23) hC24 (by omega) (by omega) hroom24
                     obtain ⟨A24, hA24⟩ : ∃ A1, A1 = (if co23 = (x6_1 : Int).toNat then Ao23 else (Ao23 : Option Addr).map (·.add ((x6_1 : Int).toNat * 9))) := ⟨_, rfl⟩
                     obtain ⟨c24, hc24⟩ : ∃ c1, c1 = co23 - (x6_1 : Int).toNat := ⟨_, rfl⟩
                     have hy24 : y193.length = ((wrap64 (x6_1 + 1)) : Int).toNat - (x6_1 : Int).toNat := (by rw [Ny193.out, List.length_drop, List.length_take] <;> omega)
                     rw [show ((t188).take ((wrap64 (x6_1 + 1)) : Int).toNat).drop (x6_1 : Int).toNat = y193 from Ny193.out.symm] at hr24
                     replace hr24 : Kd.C k33 _ A24 y193.length y193 := (by rw [hA24]; exact hr24)
                     rw [← hy24, ← hA24, ← hc24] at hcut24
                     have HR196 := Aside0.mk hr24
                     have HC196 := Aside0.mk (show y193.length ≤ c24 from by rw [hy24, hc24]; exact Nat.sub_le_sub_right (Nat.le_trans (by omega) hroom24) _)
                     clear hr24 hC24 hroom24 hi024 hsz24 hc24
                     have KY24 := Aside0.mk hy24
                     have KA24 := Aside0.mk hA24
                     clear hy24 hA24
                     have KL24 := Aside0.mk (show ((wrap64 (x6_1 + 1)) : Int).toNat ≤ t188.length from by omega)
                     have KM24 := Aside0.mk (show (x6_1 : Int).toNat ≤ ((wrap64 (x6_1 + 1)) : Int).toNat from by omega)
                     replace q24 := eq_true q24
                     go_wp2_with (first | ((with_reducible refine gate_callee (f := 17) rfl ?_); refine goesL_ (some 27) rfl rfl Try.func17 (by kernel_rfl) rfl #[.slice A24 y193.length c24, .int .i64 t187] rfl (by (try simp only [List.map_toArray, List.map_cons, List.map_nil]); first | done | rfl | (simp only [List.length_drop, List.length_take]; rfl)) ?_; (with_reducible refine (lots_Left.calls k1 _ _ y193 t187 t197 _ ?side1 ?side2 A13.out).mono ?_); (case side1 => repeat (first | exact (by repeat (first | (with_reducible exact HR196.out) | (with_reducible refine Kd.C_alloc ?_ _) | (with_reducible refine Kd.C_drewN ?_ _) | (with_reducible refine Kd.C_drew ?_) | exact HR196.out)) | (with_reducible refine Kd.C_alloc ?_ _) | (with_reducible refine Kd.C_drewN ?_ _) | (with_reducible refine Kd.C_drew ?_))); (case side2 => exact HC196.out); rintro e w25 ⟨rfl, hb⟩; refine ⟨_, rfl, ?_⟩; have n0_ := Aside0.mk (Kd.R_below (by (with_reducible repeat (first | apply Kd.R_alloc | apply Kd.R_drewN | apply Kd.R_drew)); exact HO_0.out) hb); have n1_ := Aside0.mk (Kd.C_below (by repeat (first | (with_reducible exact HR196.out) | (with_reducible refine Kd.C_alloc ?_ _) | (with_reducible refine Kd.C_drewN ?_ _) | (with_reducible refine Kd.C_drew ?_) | exact HR196.out)) hb); have n2_ := Aside0.mk (below_step (by repeat (first | (with_reducible first | exact HB.out | apply below_alloc | apply pw_below_drewN | apply below_drew1) | exact HB.out)) hb); clear HO_0; clear HR196; clear HB; have HO_0 := n0_; have HR196 := n1_; have HB := n2_; clear n0_ n1_ n2_; (try clear hb); (try clear hb2); (try clear hk); (try clear hi); have p198 : 0 ≤ (x6_1 : Int) := of_decide_eq_true (by first | (with_reducible assumption) | assumption); have q198 : x6_1 < (t188.length : Int) := of_decide_eq_true (by first | (with_reducible assumption) | assumption); obtain ⟨ad198, e198, hx198_0, hx198_1, hx198_2, hx198_3, hx198_4, hx198_5, hx198_6, hx198_7, hx198_8⟩ := at_T33 (Kd.R_reads' HO_0.out).2.2 x6_1 p198 q198; cases e198; replace p198 := eq_true p198; replace q198 := eq_true q198; have p199 : 0 ≤ (x6_1 : Int) := of_decide_eq_true (by first | (with_reducible assumption) | assumption); have q199 : x6_1 < (t188.length : Int) := of_decide_eq_true (by first | (with_reducible assumption) | assumption); obtain ⟨ad199, e199, hx199_0, hx199_1, hx199_2, hx199_3, hx199_4, hx199_5, hx199_6, hx199_7, hx199_8⟩ := at_T33 (Kd.R_reads' HO_0.out).2.2 x6_1 p199 q199; obtain rfl : ad198 = ad199 := (by injection e199); replace p199 := eq_true p199; replace q199 := eq_true q199; have p200 : 0 ≤ (x6_1 : Int) := of_decide_eq_true (by first | (with_reducible assumption) | assumption); have q200 : x6_1 < (t188.length : Int) := of_decide_eq_true (by first | (with_reducible assumption) | assumption); obtain ⟨ad200, e200, hx200_0, hx200_1, hx200_2, hx200_3, hx200_4, hx200_5, hx200_6, hx200_7, hx200_8⟩ := at_T33 (Kd.R_reads' HO_0.out).2.2 x6_1 p200 q200; obtain rfl : ad198 = ad200 := (by injection e200); replace p200 := eq_true p200; replace q200 := eq_true q200) | (go_at_call 18; (with_reducible refine (lots_Rest.calls ((rd_T33 t188 x6_1).f0) ((rd_T33 t188 x6_1).f1) ((rd_T33 t188 x6_1).f2) ((rd_T33 t188 x6_1).f3) ((rd_T33 t188 x6_1).f4) ((rd_T33 t188 x6_1).f5) ((rd_T33 t188 x6_1).f6) ((rd_T33 t188 x6_1).f7) ((rd_T33 t188 x6_1).f8) t201 _ A17.out).mono ?_); rintro e w26 ⟨rfl, hb⟩; have n0_ := Aside0.mk (Kd.R_below (by (with_reducible repeat (first | apply Kd.R_alloc | apply Kd.R_drewN | apply Kd.R_drew)); exact HO_0.out) hb); have n1_ := Aside0.mk (Kd.C_below (by repeat (first | (with_reducible exact HR196.out) | (with_reducible refine Kd.C_alloc ?_ _) | (with_reducible refine Kd.C_drewN ?_ _) | (with_reducible refine Kd.C_drew ?_) | exact HR196.out)) hb); have n2_ := Aside0.mk (below_step (by repeat (first | (with_reducible first | exact HB.out | apply below_alloc | apply pw_below_drewN | apply below_drew1) | exact HB.out)) hb); clear HO_0; clear HR196; clear HB; have HO_0 := n0_; have HR196 := n1_; have HB := n2_; clear n0_ n1_ n2_; (try clear hb); (try clear hb2); (try clear hk); (try clear hi)))
                     go_ret
                     exact ⟨by first | rfl | (simp [errW_none, errW_some] <;> rfl) | (simp [*, errW_none, errW_some] <;> rfl), by repeat (first | (with_reducible first | exact HB.out | apply below_alloc | apply pw_below_drewN | apply below_drew1) | exact HB.out)⟩
                 · rw [if_neg c16] at H
                   have c16b0 : decide (t187 < ((rd_T33 t188 x6_1).f3)) = false := decide_eq_false c16
                   clear c16
                   have H' := Aside0.mk H
                   clear H
                   obtain ⟨Ao27, co27, eo27⟩ := Kd.R_slice HO_0.out
                   subst eo27
                   have q28 : ((wrap64 (x6_1 + 1)) : Int) ≤ ((t188.length : Int) : Int) := of_decide_eq_true (by first | (with_reducible assumption) | assumption)
                   obtain ⟨i028, hi028, _, hsz28, _⟩ := info_parts info33
                   have hroom28 : t188.length ≤ co27 := (Kd.R_reads' HO_0.out).2.1
                   have hC28 : Kd.C k33 _ Ao27 t188.length t188 := (Kd.R_reads' HO_0.out).2.2
                   have ql28 : (x6_1 : Int) ≤ ((wrap64 (x6_1 + 1)) : Int) := of_decide_eq_true (by first | (with_reducible assumption) | assumption)
                   have q028 : (0 : Int) ≤ (x6_1 : Int) := of_decide_eq_true (by first | (with_reducible assumption) | assumption)
                   have hcut28 := cut_mid (P := Try.prog) 22 33 .i64 .i64 Try.underlying22 hi028 9 hsz28 Ao27 t188.length co27 x6_1 (wrap64 (x6_1 + 1)) q028 ql28 q28 hroom28
                   have hr28 := Kd.C_mid (lo := (x6_1 : Int).toNat) (hi := ((wrap64 (x6_1 + 1)) : Int).toNat) (c := co27) hC28 (by omega) (by omega) hroom28
                   obtain ⟨A28, hA28⟩ : ∃ A1, A1 = (if co27 = (x6_1 : Int).toNat then Ao27 else (Ao27 : Option Addr).map (·.add ((x6_1 : Int).toNat * 9))) := ⟨_, rfl⟩
                   obtain ⟨c28, hc28⟩ : ∃ c1, c1 = co27 - (x6_1 : Int).toNat := ⟨_, rfl⟩
                   have hy28 : y193.length = ((wrap64 (x6_1 + 1)) : Int).toNat - (x6_1 : Int).toNat := (by rw [Ny193.out, List.length_drop, List.length_take] <;> omega)
                   rw [show ((t188).take ((wrap64 (x6_1 + 1)) : Int).toNat).drop (x6_1 : Int).toNat = y193 from Ny193.out.symm] at hr28
                   replace hr28 : Kd.C k33 _ A28 y193.length y193 := (by rw [hA28]; exact hr28)
                   rw [← hy28, ← hA28, ← hc28] at hcut28
                   have HR196 := Aside0.mk hr28
                   have HC196 := Aside0.mk (show y193.length ≤ c28 from by rw [hy28, hc28]; exact Nat.sub_le_sub_right (Nat.le_trans (by omega) hroom28) _)
                   clear hr28 hC28 hroom28 hi028 hsz28 hc28
                   have KY28 := Aside0.mk hy28
                   have KA28 := Aside0.mk hA28
                   clear hy28 hA28
                   have KL28 := Aside0.mk (show ((wrap64 (x6_1 + 1)) : Int).toNat ≤ t188.length from by omega)
                   have KM28 := Aside0.mk (show (x6_1 : Int).toNat ≤ ((wrap64 (x6_1 + 1)) : Int).toNat from by omega)
                   replace q28 := eq_true q28
                   go_wp2_with (first | ((with_reducible refine gate_callee (f := 17) rfl ?_); refine goesL_ (some 27) rfl rfl Try.func17 (by kernel_rfl) rfl #[.slice A28 y193.length c28, .int .i64 t187] rfl (by (try simp only [List.map_toArray, List.map_cons, List.map_nil]); first | done | rfl | (simp only [List.length_drop, List.length_take]; rfl)) ?_; (with_reducible refine (lots_Left.calls k1 _ _ y193 t187 t197 _ ?side1 ?side2 A13.out).mono ?_); (case side1 => repeat (first | exact (by repeat (first | (with_reducible exact HR196.out) | (with_reducible refine Kd.C_alloc ?_ _) | (with_reducible refine Kd.C_drewN ?_ _) | (with_reducible refine Kd.C_drew ?_) | exact HR196.out)) | (with_reducible refine Kd.C_alloc ?_ _) | (with_reducible refine Kd.C_drewN ?_ _) | (with_reducible refine Kd.C_drew ?_))); (case side2 => exact HC196.out); rintro e w29 ⟨rfl, hb⟩; refine ⟨_, rfl, ?_⟩; have n0_ := Aside0.mk (Kd.R_below (by (with_reducible repeat (first | apply Kd.R_alloc | apply Kd.R_drewN | apply Kd.R_drew)); exact HO_0.out) hb); have n1_ := Aside0.mk (Kd.C_below (by repeat (first | (with_reducible exact HR196.out) | (with_reducible refine Kd.C_alloc ?_ _) | (with_reducible refine Kd.C_drewN ?_ _) | (with_reducible refine Kd.C_drew ?_) | exact HR196.out)) hb); have n2_ := Aside0.mk (below_step (by repeat (first | (with_reducible first | exact HB.out | apply below_alloc | apply pw_below_drewN | apply below_drew1) | exact HB.out)) hb); clear HO_0; clear HR196; clear HB; have HO_0 := n0_; have HR196 := n1_; have HB := n2_; clear n0_ n1_ n2_; (try clear hb); (try clear hb2); (try clear hk); (try clear hi); have p198 : 0 ≤ (x6_1 : Int) := of_decide_eq_true (by first | (with_reducible assumption) | assumption); have q198 : x6_1 < (t188.length : Int) := of_decide_eq_true (by first | (with_reducible assumption) | assumption); obtain ⟨ad198, e198, hx198_0, hx198_1, hx198_2, hx198_3, hx198_4, hx198_5, hx198_6, hx198_7, hx198_8⟩ := at_T33 (Kd.R_reads' HO_0.out).2.2 x6_1 p198 q198; cases e198; replace p198 := eq_true p198; replace q198 := eq_true q198; have p199 : 0 ≤ (x6_1 : Int) := of_decide_eq_true (by first | (with_reducible assumption) | assumption); have q199 : x6_1 < (t188.length : Int) := of_decide_eq_true (by first | (with_reducible assumption) | assumption); obtain ⟨ad199, e199, hx199_0, hx199_1, hx199_2, hx199_3, hx199_4, hx199_5, hx199_6, hx199_7, hx199_8⟩ := at_T33 (Kd.R_reads' HO_0.out).2.2 x6_1 p199 q199; obtain rfl : ad198 = ad199 := (by injection e199); replace p199 := eq_true p199; replace q199 := eq_true q199))
                   go_roundg k1
                   case measure => have := HK1.out; omega
                   case rel => exact ⟨(wrap64 (x5_1 + t197)), (wrap64 (x6_1 + 1)), (by first | rfl | (simp; done) | (simp [*]; done)), (by first | rfl | (simp; done) | (simp [*]; done)), H', ⟨by have := HK1.out; omega⟩, ⟨by (with_reducible repeat (first | apply Kd.R_alloc | apply Kd.R_drewN | apply Kd.R_drew)); exact HO_0.out⟩, ⟨by repeat (first | (with_reducible first | exact HB.out | apply below_alloc | apply pw_below_drewN | apply below_drew1) | exact HB.out)⟩⟩
               · rw [if_neg c15] at H
                 have c15b0 : decide (((rd_T33 t188 x6_1).f2) ≤ t187) = false := decide_eq_false c15
                 clear c15
                 have H' := Aside0.mk H
                 clear H
                 obtain ⟨Ao30, co30, eo30⟩ := Kd.R_slice HO_0.out
                 subst eo30
                 have q31 : ((wrap64 (x6_1 + 1)) : Int) ≤ ((t188.length : Int) : Int) := of_decide_eq_true (by first | (with_reducible assumption) | assumption)
                 obtain ⟨i031, hi031, _, hsz31, _⟩ := info_parts info33
                 have hroom31 : t188.length ≤ co30 := (Kd.R_reads' HO_0.out).2.1
                 have hC31 : Kd.C k33 _ Ao30 t188.length t188 := (Kd.R_reads' HO_0.out).2.2
                 have ql31 : (x6_1 : Int) ≤ ((wrap64 (x6_1 + 1)) : Int) := of_decide_eq_true (by first | (with_reducible assumption) | assumption)
                 have q031 : (0 : Int) ≤ (x6_1 : Int) := of_decide_eq_true (by first | (with_reducible assumption) | assumption)
                 have hcut31 := cut_mid (P := Try.prog) 22 33 .i64 .i64 Try.underlying22 hi031 9 hsz31 Ao30 t188.length co30 x6_1 (wrap64 (x6_1 + 1)) q031 ql31 q31 hroom31
                 have hr31 := Kd.C_mid (lo := (x6_1 : Int).toNat) (hi := ((wrap64 (x6_1 + 1)) : Int).toNat) (c := co30) hC31 (by omega) (by omega) hroom31
                 obtain ⟨A31, hA31⟩ : ∃ A1, A1 = (if co30 = (x6_1 : Int).toNat then Ao30 else (Ao30 : Option Addr).map (·.add ((x6_1 : Int).toNat * 9))) := ⟨_, rfl⟩
                 obtain ⟨c31, hc31⟩ : ∃ c1, c1 = co30 - (x6_1 : Int).toNat := ⟨_, rfl⟩
                 have hy31 : y193.length = ((wrap64 (x6_1 + 1)) : Int).toNat - (x6_1 : Int).toNat := (by rw [Ny193.out, List.length_drop, List.length_take] <;> omega)
                 rw [show ((t188).take ((wrap64 (x6_1 + 1)) : Int).toNat).drop (x6_1 : Int).toNat = y193 from Ny193.out.symm] at hr31
                 replace hr31 : Kd.C k33 _ A31 y193.length y193 := (by rw [hA31]; exact hr31)
                 rw [← hy31, ← hA31, ← hc31] at hcut31
                 have HR196 := Aside0.mk hr31
                 have HC196 := Aside0.mk (show y193.length ≤ c31 from by rw [hy31, hc31]; exact Nat.sub_le_sub_right (Nat.le_trans (by omega) hroom31) _)
                 clear hr31 hC31 hroom31 hi031 hsz31 hc31
                 have KY31 := Aside0.mk hy31
                 have KA31 := Aside0.mk hA31
                 clear hy31 hA31
                 have KL31 := Aside0.mk (show ((wrap64 (x6_1 + 1)) : Int).toNat ≤ t188.length from by omega)
                 have KM31 := Aside0.mk (show (x6_1 : Int).toNat ≤ ((wrap64 (x6_1 + 1)) : Int).toNat from by omega)
                 replace q31 := eq_true q31
                 go_wp2_with (first | ((with_reducible refine gate_callee (f := 17) rfl ?_); refine goesL_ (some 27) rfl rfl Try.func17 (by kernel_rfl) rfl #[.slice A31 y193.length c31, .int .i64 t187] rfl (by (try simp only [List.map_toArray, List.map_cons, List.map_nil]); first | done | rfl | (simp only [List.length_drop, List.length_take]; rfl)) ?_; (with_reducible refine (lots_Left.calls k1 _ _ y193 t187 t197 _ ?side1 ?side2 A13.out).mono ?_); (case side1 => repeat (first | exact (by repeat (first | (with_reducible exact HR196.out) | (with_reducible refine Kd.C_alloc ?_ _) | (with_reducible refine Kd.C_drewN ?_ _) | (with_reducible refine Kd.C_drew ?_) | exact HR196.out)) | (with_reducible refine Kd.C_alloc ?_ _) | (with_reducible refine Kd.C_drewN ?_ _) | (with_reducible refine Kd.C_drew ?_))); (case side2 => exact HC196.out); rintro e w32 ⟨rfl, hb⟩; refine ⟨_, rfl, ?_⟩; have n0_ := Aside0.mk (Kd.R_below (by (with_reducible repeat (first | apply Kd.R_alloc | apply Kd.R_drewN | apply Kd.R_drew)); exact HO_0.out) hb); have n1_ := Aside0.mk (Kd.C_below (by repeat (first | (with_reducible exact HR196.out) | (with_reducible refine Kd.C_alloc ?_ _) | (with_reducible refine Kd.C_drewN ?_ _) | (with_reducible refine Kd.C_drew ?_) | exact HR196.out)) hb); have n2_ := Aside0.mk (below_step (by repeat (first | (with_reducible first | exact HB.out | apply below_alloc | apply pw_below_drewN | apply below_drew1) | exact HB.out)) hb); clear HO_0; clear HR196; clear HB; have HO_0 := n0_; have HR196 := n1_; have HB := n2_; clear n0_ n1_ n2_; (try clear hb); (try clear hb2); (try clear hk); (try clear hi); have p198 : 0 ≤ (x6_1 : Int) := of_decide_eq_true (by first | (with_reducible assumption) | assumption); have q198 : x6_1 < (t188.length : Int) := of_decide_eq_true (by first | (with_reducible assumption) | assumption); obtain ⟨ad198, e198, hx198_0, hx198_1, hx198_2, hx198_3, hx198_4, hx198_5, hx198_6, hx198_7, hx198_8⟩ := at_T33 (Kd.R_reads' HO_0.out).2.2 x6_1 p198 q198; cases e198; replace p198 := eq_true p198; replace q198 := eq_true q198))
                 go_roundg k1
                 case measure => have := HK1.out; omega
                 case rel => exact ⟨(wrap64 (x5_1 + t197)), (wrap64 (x6_1 + 1)), (by first | rfl | (simp; done) | (simp [*]; done)), (by first | rfl | (simp; done) | (simp [*]; done)), H', ⟨by have := HK1.out; omega⟩, ⟨by (with_reducible repeat (first | apply Kd.R_alloc | apply Kd.R_drewN | apply Kd.R_drew)); exact HO_0.out⟩, ⟨by repeat (first | (with_reducible first | exact HB.out | apply below_alloc | apply pw_below_drewN | apply below_drew1) | exact HB.out)⟩⟩
             · rw [if_neg c14] at H
               have c14b0 : (t197 == 0) = false := beq_eq_false_iff_ne.mpr c14
               have c14b1 : (t197 != 0) = true := bne_iff_ne.mpr c14
               by_cases c33 : t187 < ((rd_T33 t188 x6_1).f2)
               · rw [if_pos c33] at H
                 have c33b0 : decide (t187 < ((rd_T33 t188 x6_1).f2)) = true := decide_eq_true c33
                 clear c33
                 obtain rfl := Option.some.inj H
                 obtain ⟨Ao34, co34, eo34⟩ := Kd.R_slice HO_0.out
                 subst eo34
                 have q35 : ((wrap64 (x6_1 + 1)) : Int) ≤ ((t188.length : Int) : Int) := of_decide_eq_true (by first | (with_reducible assumption) | assumption)
                 obtain ⟨i035, hi035, _, hsz35, _⟩ := info_parts info33
                 have hroom35 : t188.length ≤ co34 := (Kd.R_reads' HO_0.out).2.1
                 have hC35 : Kd.C k33 _ Ao34 t188.length t188 := (Kd.R_reads' HO_0.out).2.2
                 have ql35 : (x6_1 : Int) ≤ ((wrap64 (x6_1 + 1)) : Int) := of_decide_eq_true (by first | (with_reducible assumption) | assumption)
                 have q035 : (0 : Int) ≤ (x6_1 : Int) := of_decide_eq_true (by first | (with_reducible assumption) | assumption)
                 have hcut35 := cut_mid (P := Try.prog) 22 33 .i64 .i64 Try.underlying22 hi035 9 hsz35 Ao34 t188.length co34 x6_1 (wrap64 (x6_1 + 1)) q035 ql35 q35 hroom35
                 have hr35 := Kd.C_mid (lo := (x6_1 : Int).toNat) (hi := ((wrap64 (x6_1 + 1)) : Int).toNat) (c := co34) hC35 (by omega) (by omega) hroom35
                 obtain ⟨A35, hA35⟩ : ∃ A1, A1 = (if co34 = (x6_1 : Int).toNat then Ao34 else (Ao34 : Option Addr).map (·.add ((x6_1 : Int).toNat * 9))) := ⟨_, rfl⟩
                 obtain ⟨c35, hc35⟩ : ∃ c1, c1 = co34 - (x6_1 : Int).toNat := ⟨_, rfl⟩
                 have hy35 : y193.length = ((wrap64 (x6_1 + 1)) : Int).toNat - (x6_1 : Int).toNat := (by rw [Ny193.out, List.length_drop, List.length_take] <;> omega)
                 rw [show ((t188).take ((wrap64 (x6_1 + 1)) : Int).toNat).drop (x6_1 : Int).toNat = y193 from Ny193.out.symm] at hr35
                 replace hr35 : Kd.C k33 _ A35 y193.length y193 := (by rw [hA35]; exact hr35)
                 rw [← hy35, ← hA35, ← hc35] at hcut35
                 have HR196 := Aside0.mk hr35
                 have HC196 := Aside0.mk (show y193.length ≤ c35 from by rw [hy35, hc35]; exact Nat.sub_le_sub_right (Nat.le_trans (by omega) hroom35) _)
                 clear hr35 hC35 hroom35 hi035 hsz35 hc35
                 have KY35 := Aside0.mk hy35
                 have KA35 := Aside0.mk hA35
                 clear hy35 hA35
                 have KL35 := Aside0.mk (show ((wrap64 (x6_1 + 1)) : Int).toNat ≤ t188.length from by omega)
                 have KM35 := Aside0.mk (show (x6_1 : Int).toNat ≤ ((wrap64 (x6_1 + 1)) : Int).toNat from by omega)
                 replace q35 := eq_true q35
                 go_wp2_with (first | ((with_reducible refine gate_callee (f := 17) rfl ?_); refine goesL_ (some 27) rfl rfl Try.func17 (by kernel_rfl) rfl #[.slice A35 y193.length c35, .int .i64 t187] rfl (by (try simp only [List.map_toArray, List.map_cons, List.map_nil]); first | done | rfl | (simp only [List.length_drop, List.length_take]; rfl)) ?_; (with_reducible refine (lots_Left.calls k1 _ _ y193 t187 t197 _ ?side1 ?side2 A13.out).mono ?_); (case side1 => repeat (first | exact (by repeat (first | (with_reducible exact HR196.out) | (with_reducible refine Kd.C_alloc ?_ _) | (with_reducible refine Kd.C_drewN ?_ _) | (with_reducible refine Kd.C_drew ?_) | exact HR196.out)) | (with_reducible refine Kd.C_alloc ?_ _) | (with_reducible refine Kd.C_drewN ?_ _) | (with_reducible refine Kd.C_drew ?_))); (case side2 => exact HC196.out); rintro e w36 ⟨rfl, hb⟩; refine ⟨_, rfl, ?_⟩; have n0_ := Aside0.mk (Kd.R_below (by (with_reducible repeat (first | apply Kd.R_alloc | apply Kd.R_drewN | apply Kd.R_drew)); exact HO_0.out) hb); have n1_ := Aside0.mk (Kd.C_below (by repeat (first | (with_reducible exact HR196.out) | (with_reducible refine Kd.C_alloc ?_ _) | (with_reducible refine Kd.C_drewN ?_ _) | (with_reducible refine Kd.C_drew ?_) | exact HR196.out)) hb); have n2_ := Aside0.mk (below_step (by repeat (first | (with_reducible first | exact HB.out | apply below_alloc | apply pw_below_drewN | apply below_drew1) | exact HB.out)) hb); clear HO_0; clear HR196; clear HB; have HO_0 := n0_; have HR196 := n1_; have HB := n2_; clear n0_ n1_ n2_; (try clear hb); (try clear hb2); (try clear hk); (try clear hi); have p202 : 0 ≤ (x6_1 : Int) := of_decide_eq_true (by first | (with_reducible assumption) | assumption); have q202 : x6_1 < (t188.length : Int) := of_decide_eq_true (by first | (with_reducible assumption) | assumption); obtain ⟨ad202, e202, hx202_0, hx202_1, hx202_2, hx202_3, hx202_4, hx202_5, hx202_6, hx202_7, hx202_8⟩ := at_T33 (Kd.R_reads' HO_0.out).2.2 x6_1 p202 q202; cases e202; replace p202 := eq_true p202; replace q202 := eq_true q202))
                 go_ret
                 exact ⟨by first | rfl | (simp [errW_none, errW_some] <;> rfl) | (simp [*, errW_none, errW_some] <;> rfl), by repeat (first | (with_reducible first | exact HB.out | apply below_alloc | apply pw_below_drewN | apply below_drew1) | exact HB.out)⟩
               · rw [if_neg c33] at H
                 have c33b0 : decide (t187 < ((rd_T33 t188 x6_1).f2)) = false := decide_eq_false c33
                 clear c33
                 by_cases c37 : t187 ≥ ((rd_T33 t188 x6_1).f3)
                 · rw [if_pos c37] at H
                   have c37b0 : decide (((rd_T33 t188 x6_1).f3) ≤ t187) = true := decide_eq_true c37
                   clear c37
                   obtain rfl := Option.some.inj H
                   obtain ⟨Ao38, co38, eo38⟩ := Kd.R_slice HO_0.out
                   subst eo38
                   have q39 : ((wrap64 (x6_1 + 1)) : Int) ≤ ((t188.length : Int) : Int) := of_decide_eq_true (by first | (with_reducible assumption) | assumption)
                   obtain ⟨i039, hi039, _, hsz39, _⟩ := info_parts info33
                   have hroom39 : t188.length ≤ co38 := (Kd.R_reads' HO_0.out).2.1
                   have hC39 : Kd.C k33 _ Ao38 t188.length t188 := (Kd.R_reads' HO_0.out).2.2
                   have ql39 : (x6_1 : Int) ≤ ((wrap64 (x6_1 + 1)) : Int) := of_decide_eq_true (by first | (with_reducible assumption) | assumption)
                   have q039 : (0 : Int) ≤ (x6_1 : Int) := of_decide_eq_true (by first | (with_reducible assumption) | assumption)
                   have hcut39 := cut_mid (P := Try.prog) 22 33 .i64 .i64 Try.underlying22 hi039 9 hsz39 Ao38 t188.length co38 x6_1 (wrap64 (x6_1 + 1)) q039 ql39 q39 hroom39
                   have hr39 := Kd.C_mid (lo := (x6_1 : Int).toNat) (hi := ((wrap64 (x6_1 + 1)) : Int).toNat) (c := co38) hC39 (by omega) (by omega) hroom39
                   obtain ⟨A39, hA39⟩ : ∃ A1, A1 = (if co38 = (x6_1 : Int).toNat then Ao38 else (Ao38 : Option Addr).map (·.add ((x6_1 : Int).toNat * 9))) := ⟨_, rfl⟩
                   obtain ⟨c39, hc39⟩ : ∃ c1, c1 = co38 - (x6_1 : Int).toNat := ⟨_, rfl⟩
                   have hy39 : y193.length = ((wrap64 (x6_1 + 1)) : Int).toNat - (x6_1 : Int).toNat := (by rw [Ny193.out, List.length_drop, List.length_take] <;> omega)
                   rw [show ((t188).take ((wrap64 (x6_1 + 1)) : Int).toNat).drop (x6_1 : Int).toNat = y193 from Ny193.out.symm] at hr39
                   replace hr39 : Kd.C k33 _ A39 y193.length y193 := (by rw [hA39]; exact hr39)
                   rw [← hy39, ← hA39, ← hc39] at hcut39
                   have HR196 := Aside0.mk hr39
                   have HC196 := Aside0.mk (show y193.length ≤ c39 from by rw [hy39, hc39]; exact Nat.sub_le_sub_right (Nat.le_trans (by omega) hroom39) _)
                   clear hr39 hC39 hroom39 hi039 hsz39 hc39
                   have KY39 := Aside0.mk hy39
                   have KA39 := Aside0.mk hA39
                   clear hy39 hA39
                   have KL39 := Aside0.mk (show ((wrap64 (x6_1 + 1)) : Int).toNat ≤ t188.length from by omega)
                   have KM39 := Aside0.mk (show (x6_1 : Int).toNat ≤ ((wrap64 (x6_1 + 1)) : Int).toNat from by omega)
                   replace q39 := eq_true q39
                   go_wp2_with (first | ((with_reducible refine gate_callee (f := 17) rfl ?_); refine goesL_ (some 27) rfl rfl Try.func17 (by kernel_rfl) rfl #[.slice A39 y193.length c39, .int .i64 t187] rfl (by (try simp only [List.map_toArray, List.map_cons, List.map_nil]); first | done | rfl | (simp only [List.length_drop, List.length_take]; rfl)) ?_; (with_reducible refine (lots_Left.calls k1 _ _ y193 t187 t197 _ ?side1 ?side2 A13.out).mono ?_); (case side1 => repeat (first | exact (by repeat (first | (with_reducible exact HR196.out) | (with_reducible refine Kd.C_alloc ?_ _) | (with_reducible refine Kd.C_drewN ?_ _) | (with_reducible refine Kd.C_drew ?_) | exact HR196.out)) | (with_reducible refine Kd.C_alloc ?_ _) | (with_reducible refine Kd.C_drewN ?_ _) | (with_reducible refine Kd.C_drew ?_))); (case side2 => exact HC196.out); rintro e w40 ⟨rfl, hb⟩; refine ⟨_, rfl, ?_⟩; have n0_ := Aside0.mk (Kd.R_below (by (with_reducible repeat (first | apply Kd.R_alloc | apply Kd.R_drewN | apply Kd.R_drew)); exact HO_0.out) hb); have n1_ := Aside0.mk (Kd.C_below (by repeat (first | (with_reducible exact HR196.out) | (with_reducible refine Kd.C_alloc ?_ _) | (with_reducible refine Kd.C_drewN ?_ _) | (with_reducible refine Kd.C_drew ?_) | exact HR196.out)) hb); have n2_ := Aside0.mk (below_step (by repeat (first | (with_reducible first | exact HB.out | apply below_alloc | apply pw_below_drewN | apply below_drew1) | exact HB.out)) hb); clear HO_0; clear HR196; clear HB; have HO_0 := n0_; have HR196 := n1_; have HB := n2_; clear n0_ n1_ n2_; (try clear hb); (try clear hb2); (try clear hk); (try clear hi); have p202 : 0 ≤ (x6_1 : Int) := of_decide_eq_true (by first | (with_reducible assumption) | assumption); have q202 : x6_1 < (t188.length : Int) := of_decide_eq_true (by first | (with_reducible assumption) | assumption); obtain ⟨ad202, e202, hx202_0, hx202_1, hx202_2, hx202_3, hx202_4, hx202_5, hx202_6, hx202_7, hx202_8⟩ := at_T33 (Kd.R_reads' HO_0.out).2.2 x6_1 p202 q202; cases e202; replace p202 := eq_true p202; replace q202 := eq_true q202; have p203 : 0 ≤ (x6_1 : Int) := of_decide_eq_true (by first | (with_reducible assumption) | assumption); have q203 : x6_1 < (t188.length : Int) := of_decide_eq_true (by first | (with_reducible assumption) | assumption); obtain ⟨ad203, e203, hx203_0, hx203_1, hx203_2, hx203_3, hx203_4, hx203_5, hx203_6, hx203_7, hx203_8⟩ := at_T33 (Kd.R_reads' HO_0.out).2.2 x6_1 p203 q203; obtain rfl : ad202 = ad203 := (by injection e203); replace p203 := eq_true p203; replace q203 := eq_true q203))
                   go_ret
                   exact ⟨by first | rfl | (simp [errW_none, errW_some] <;> rfl) | (simp [*, errW_none, errW_some] <;> rfl), by repeat (first | (with_reducible first | exact HB.out | apply below_alloc | apply pw_below_drewN | apply below_drew1) | exact HB.out)⟩
                 · rw [if_neg c37] at H
                   have c37b0 : decide (((rd_T33 t188 x6_1).f3) ≤ t187) = false := decide_eq_false c37
                   clear c37
                   replace H := Option.bind_eq_some_iff.mp H
                   obtain ⟨t205, A410, H⟩ := H
                   replace H : (if t197 = t205 then (if t187 ≥ ((rd_T33 t188 x6_1).f2) then (if t187 < ((rd_T33 t188 x6_1).f3) then ((lots_Rest.f ((rd_T33 t188 x6_1).f0) ((rd_T33 t188 x6_1).f1) ((rd_T33 t188 x6_1).f2) ((rd_T33 t188 x6_1).f3) ((rd_T33 t188 x6_1).f4) ((rd_T33 t188 x6_1).f5) ((rd_T33 t188 x6_1).f6) ((rd_T33 t188 x6_1).f7) ((rd_T33 t188 x6_1).f8)).bind fun t209 => (if t197 = t209 then (tolllaw10_LotsLeft.l0 k1 t188 t187 (wrap64 (x5_1 + t197)) (wrap64 (x6_1 + 1))) else (some false))) else (tolllaw10_LotsLeft.l0 k1 t188 t187 (wrap64 (x5_1 + t197)) (wrap64 (x6_1 + 1)))) else (tolllaw10_LotsLeft.l0 k1 t188 t187 (wrap64 (x5_1 + t197)) (wrap64 (x6_1 + 1)))) else (some false)) = some r := H
                   have A41 := Aside0.mk A410
                   clear A410
                   by_cases c42 : t197 = t205
                   · rw [if_pos c42] at H
                     have c42b0 : (t197 == t205) = true := beq_iff_eq.mpr c42
                     have c42b1 : (t197 != t205) = false := bne_eq_false_iff_eq.mpr c42
                     clear c42
                     by_cases c43 : t187 ≥ ((rd_T33 t188 x6_1).f2)
                     · rw [if_pos c43] at H
                       have c43b0 : decide (((rd_T33 t188 x6_1).f2) ≤ t187) = true := decide_eq_true c43
                       clear c43
                       by_cases c44 : t187 < ((rd_T33 t188 x6_1).f3)
                       · rw [if_pos c44] at H
                         have c44b0 : decide (t187 < ((rd_T33 t188 x6_1).f3)) = true := decide_eq_true c44
                         clear c44
                         replace H := Option.bind_eq_some_iff.mp H
                         obtain ⟨t209_, A450, H⟩ := H
                         obtain rfl := Option.some.inj (A41.out.symm.trans A450)
                         replace H : (if t197 = t205 then (tolllaw10_LotsLeft.l0 k1 t188 t187 (wrap64 (x5_1 + t197)) (wrap64 (x6_1 + 1))) else (some false)) = some r := H
                         have A45 := Aside0.mk A450
                         clear A450
                         by_cases c46 : t197 = t205
                         · rw [if_pos c46] at H
                           have c46b0 : (t197 == t205) = true := beq_iff_eq.mpr c46
                           have c46b1 : (t197 != t205) = false := bne_eq_false_iff_eq.mpr c46
                           clear c46
                           have H' := Aside0.mk H
                           clear H
                           obtain ⟨Ao47, co47, eo47⟩ := Kd.R_slice HO_0.out
                           subst eo47
                           have q48 : ((wrap64 (x6_1 + 1)) : Int) ≤ ((t188.length : Int) : Int) := of_decide_eq_true (by first | (with_reducible assumption) | assumption)
                           obtain ⟨i048, hi048, _, hsz48, _⟩ := info_parts info33
                           have hroom48 : t188.length ≤ co47 := (Kd.R_reads' HO_0.out).2.1
                           have hC48 : Kd.C k33 _ Ao47 t188.length t188 := (Kd.R_reads' HO_0.out).2.2
                           have ql48 : (x6_1 : Int) ≤ ((wrap64 (x6_1 + 1)) : Int) := of_decide_eq_true (by first | (with_reducible assumption) | assumption)
                           have q048 : (0 : Int) ≤ (x6_1 : Int) := of_decide_eq_true (by first | (with_reducible assumption) | assumption)
                           have hcut48 := cut_mid (P := Try.prog) 22 33 .i64 .i64 Try.underlying22 hi048 9 hsz48 Ao47 t188.length co47 x6_1 (wrap64 (x6_1 + 1)) q048 ql48 q48 hroom48
                           have hr48 := Kd.C_mid (lo := (x6_1 : Int).toNat) (hi := ((wrap64 (x6_1 + 1)) : Int).toNat) (c := co47) hC48 (by omega) (by omega) hroom48
                           obtain ⟨A48, hA48⟩ : ∃ A1, A1 = (if co47 = (x6_1 : Int).toNat then Ao47 else (Ao47 : Option Addr).map (·.add ((x6_1 : Int).toNat * 9))) := ⟨_, rfl⟩
                           obtain ⟨c48, hc48⟩ : ∃ c1, c1 = co47 - (x6_1 : Int).toNat := ⟨_, rfl⟩
                           have hy48 : y193.length = ((wrap64 (x6_1 + 1)) : Int).toNat - (x6_1 : Int).toNat := (by rw [Ny193.out, List.length_drop, List.length_take] <;> omega)
                           rw [show ((t188).take ((wrap64 (x6_1 + 1)) : Int).toNat).drop (x6_1 : Int).toNat = y193 from Ny193.out.symm] at hr48
                           replace hr48 : Kd.C k33 _ A48 y193.length y193 := (by rw [hA48]; exact hr48)
                           rw [← hy48, ← hA48, ← hc48] at hcut48
                           have HR196 := Aside0.mk hr48
                           have HC196 := Aside0.mk (show y193.length ≤ c48 from by rw [hy48, hc48]; exact Nat.sub_le_sub_right (Nat.le_trans (by omega) hroom48) _)
                           clear hr48 hC48 hroom48 hi048 hsz48 hc48
                           have KY48 := Aside0.mk hy48
                           have KA48 := Aside0.mk hA48
                           clear hy48 hA48
                           have KL48 := Aside0.mk (show ((wrap64 (x6_1 + 1)) : Int).toNat ≤ t188.length from by omega)
                           have KM48 := Aside0.mk (show (x6_1 : Int).toNat ≤ ((wrap64 (x6_1 + 1)) : Int).toNat from by omega)
                           replace q48 := eq_true q48
                           go_wp2_with (first | ((with_reducible refine gate_callee (f := 17) rfl ?_); refine goesL_ (some 27) rfl rfl Try.func17 (by kernel_rfl) rfl #[.slice A48 y193.length c48, .int .i64 t187] rfl (by (try simp only [List.map_toArray, List.map_cons, List.map_nil]); first | done | rfl | (simp only [List.length_drop, List.length_take]; rfl)) ?_; (with_reducible refine (lots_Left.calls k1 _ _ y193 t187 t197 _ ?side1 ?side2 A13.out).mono ?_); (case side1 => repeat (first | exact (by repeat (first | (with_reducible exact HR196.out) | (with_reducible refine Kd.C_alloc ?_ _) | (with_reducible refine Kd.C_drewN ?_ _) | (with_reducible refine Kd.C_drew ?_) | exact HR196.out)) | (with_reducible refine Kd.C_alloc ?_ _) | (with_reducible refine Kd.C_drewN ?_ _) | (with_reducible refine Kd.C_drew ?_))); (case side2 => exact HC196.out); rintro e w49 ⟨rfl, hb⟩; refine ⟨_, rfl, ?_⟩; have n0_ := Aside0.mk (Kd.R_below (by (with_reducible repeat (first | apply Kd.R_alloc | apply Kd.R_drewN | apply Kd.R_drew)); exact HO_0.out) hb); have n1_ := Aside0.mk (Kd.C_below (by repeat (first | (with_reducible exact HR196.out) | (with_reducible refine Kd.C_alloc ?_ _) | (with_reducible refine Kd.C_drewN ?_ _) | (with_reducible refine Kd.C_drew ?_) | exact HR196.out)) hb); have n2_ := Aside0.mk (below_step (by repeat (first | (with_reducible first | exact HB.out | apply below_alloc | apply pw_below_drewN | apply below_drew1) | exact HB.out)) hb); clear HO_0; clear HR196; clear HB; have HO_0 := n0_; have HR196 := n1_; have HB := n2_; clear n0_ n1_ n2_; (try clear hb); (try clear hb2); (try clear hk); (try clear hi); have p202 : 0 ≤ (x6_1 : Int) := of_decide_eq_true (by first | (with_reducible assumption) | assumption); have q202 : x6_1 < (t188.length : Int) := of_decide_eq_true (by first | (with_reducible assumption) | assumption); obtain ⟨ad202, e202, hx202_0, hx202_1, hx202_2, hx202_3, hx202_4, hx202_5, hx202_6, hx202_7, hx202_8⟩ := at_T33 (Kd.R_reads' HO_0.out).2.2 x6_1 p202 q202; cases e202; replace p202 := eq_true p202; replace q202 := eq_true q202; have p203 : 0 ≤ (x6_1 : Int) := of_decide_eq_true (by first | (with_reducible assumption) | assumption); have q203 : x6_1 < (t188.length : Int) := of_decide_eq_true (by first | (with_reducible assumption) | assumption); obtain ⟨ad203, e203, hx203_0, hx203_1, hx203_2, hx203_3, hx203_4, hx203_5, hx203_6, hx203_7, hx203_8⟩ := at_T33 (Kd.R_reads' HO_0.out).2.2 x6_1 p203 q203; obtain rfl : ad202 = ad203 := (by injection e203); replace p203 := eq_true p203; replace q203 := eq_true q203; have p204 : 0 ≤ (x6_1 : Int) := of_decide_eq_true (by first | (with_reducible assumption) | assumption); have q204 : x6_1 < (t188.length : Int) := of_decide_eq_true (by first | (with_reducible assumption) | assumption); obtain ⟨ad204, e204, hx204_0, hx204_1, hx204_2, hx204_3, hx204_4, hx204_5, hx204_6, hx204_7, hx204_8⟩ := at_T33 (Kd.R_reads' HO_0.out).2.2 x6_1 p204 q204; obtain rfl : ad202 = ad204 := (by injection e204); replace p204 := eq_true p204; replace q204 := eq_true q204) | (go_at_call 18; (with_reducible refine (lots_Rest.calls ((rd_T33 t188 x6_1).f0) ((rd_T33 t188 x6_1).f1) ((rd_T33 t188 x6_1).f2) ((rd_T33 t188 x6_1).f3) ((rd_T33 t188 x6_1).f4) ((rd_T33 t188 x6_1).f5) ((rd_T33 t188 x6_1).f6) ((rd_T33 t188 x6_1).f7) ((rd_T33 t188 x6_1).f8) t205 _ A41.out).mono ?_); rintro e w50 ⟨rfl, hb⟩; have n0_ := Aside0.mk (Kd.R_below (by (with_reducible repeat (first | apply Kd.R_alloc | apply Kd.R_drewN | apply Kd.R_drew)); exact HO_0.out) hb); have n1_ := Aside0.mk (Kd.C_below (by repeat (first | (with_reducible exact HR196.out) | (with_reducible refine Kd.C_alloc ?_ _) | (with_reducible refine Kd.C_drewN ?_ _) | (with_reducible refine Kd.C_drew ?_) | exact HR196.out)) hb); have n2_ := Aside0.mk (below_step (by repeat (first | (with_reducible first | exact HB.out | apply below_alloc | apply pw_below_drewN | apply below_drew1) | exact HB.out)) hb); clear HO_0; clear HR196; clear HB; have HO_0 := n0_; have HR196 := n1_; have HB := n2_; clear n0_ n1_ n2_; (try clear hb); (try clear hb2); (try clear hk); (try clear hi); have p206 : 0 ≤ (x6_1 : Int) := of_decide_eq_true (by first | (with_reducible assumption) | assumption); have q206 : x6_1 < (t188.length : Int) := of_decide_eq_true (by first | (with_reducible assumption) | assumption); obtain ⟨ad206, e206, hx206_0, hx206_1, hx206_2, hx206_3, hx206_4, hx206_5, hx206_6, hx206_7, hx206_8⟩ := at_T33 (Kd.R_reads' HO_0.out).2.2 x6_1 p206 q206; obtain rfl : ad202 = ad206 := (by injection e206); replace p206 := eq_true p206; replace q206 := eq_true q206; have p207 : 0 ≤ (x6_1 : Int) := of_decide_eq_true (by first | (with_reducible assumption) | assumption); have q207 : x6_1 < (t188.length : Int) := of_decide_eq_true (by first | (with_reducible assumption) | assumption); obtain ⟨ad207, e207, hx207_0, hx207_1, hx207_2, hx207_3, hx207_4, hx207_5, hx207_6, hx207_7, hx207_8⟩ := at_T33 (Kd.R_reads' HO_0.out).2.2 x6_1 p207 q207; obtain rfl : ad202 = ad207 := (by injection e207); replace p207 := eq_true p207; replace q207 := eq_true q207; have p208 : 0 ≤ (x6_1 : Int) := of_decide_eq_true (by first | (with_reducible assumption) | assumption); have q208 : x6_1 < (t188.length : Int) := of_decide_eq_true (by first | (with_reducible assumption) | assumption); obtain ⟨ad208, e208, hx208_0, hx208_1, hx208_2, hx208_3, hx208_4, hx208_5, hx208_6, hx208_7, hx208_8⟩ := at_T33 (Kd.R_reads' HO_0.out).2.2 x6_1 p208 q208; obtain rfl : ad202 = ad208 := (by injection e208); replace p208 := eq_true p208; replace q208 := eq_true q208) | (go_at_call 18; (with_reducible refine (lots_Rest.calls ((rd_T33 t188 x6_1).f0) ((rd_T33 t188 x6_1).f1) ((rd_T33 t188 x6_1).f2) ((rd_T33 t188 x6_1).f3) ((rd_T33 t188 x6_1).f4) ((rd_T33 t188 x6_1).f5) ((rd_T33 t188 x6_1).f6) ((rd_T33 t188 x6_1).f7) ((rd_T33 t188 x6_1).f8) t205 _ A45.out).mono ?_); rintro e w51 ⟨rfl, hb⟩; have n0_ := Aside0.mk (Kd.R_below (by (with_reducible repeat (first | apply Kd.R_alloc | apply Kd.R_drewN | apply Kd.R_drew)); exact HO_0.out) hb); have n1_ := Aside0.mk (Kd.C_below (by repeat (first | (with_reducible exact HR196.out) | (with_reducible refine Kd.C_alloc ?_ _) | (with_reducible refine Kd.C_drewN ?_ _) | (with_reducible refine Kd.C_drew ?_) | exact HR196.out)) hb); have n2_ := Aside0.mk (below_step (by repeat (first | (with_reducible first | exact HB.out | apply below_alloc | apply pw_below_drewN | apply below_drew1) | exact HB.out)) hb); clear HO_0; clear HR196; clear HB; have HO_0 := n0_; have HR196 := n1_; have HB := n2_; clear n0_ n1_ n2_; (try clear hb); (try clear hb2); (try clear hk); (try clear hi)))
                           go_roundg k1
                           case measure => have := HK1.out; omega
                           case rel => exact ⟨(wrap64 (x5_1 + t197)), (wrap64 (x6_1 + 1)), (by first | rfl | (simp; done) | (simp [*]; done)), (by first | rfl | (simp; done) | (simp [*]; done)), H', ⟨by have := HK1.out; omega⟩, ⟨by (with_reducible repeat (first | apply Kd.R_alloc | apply Kd.R_drewN | apply Kd.R_drew)); exact HO_0.out⟩, ⟨by repeat (first | (with_reducible first | exact HB.out | apply below_alloc | apply pw_below_drewN | apply below_drew1) | exact HB.out)⟩⟩
                         · exact absurd (beq_iff_eq.mp c42b0) c46
                       · rw [if_neg c44] at H
                         have c44b0 : decide (t187 < ((rd_T33 t188 x6_1).f3)) = false := decide_eq_false c44
                         clear c44
                         have H' := Aside0.mk H
                         clear H
                         obtain ⟨Ao57, co57, eo57⟩ := Kd.R_slice HO_0.out
                         subst eo57
                         have q58 : ((wrap64 (x6_1 + 1)) : Int) ≤ ((t188.length : Int) : Int) := of_decide_eq_true (by first | (with_reducible assumption) | assumption)
                         obtain ⟨i058, hi058, _, hsz58, _⟩ := info_parts info33
                         have hroom58 : t188.length ≤ co57 := (Kd.R_reads' HO_0.out).2.1
                         have hC58 : Kd.C k33 _ Ao57 t188.length t188 := (Kd.R_reads' HO_0.out).2.2
                         have ql58 : (x6_1 : Int) ≤ ((wrap64 (x6_1 + 1)) : Int) := of_decide_eq_true (by first | (with_reducible assumption) | assumption)
                         have q058 : (0 : Int) ≤ (x6_1 : Int) := of_decide_eq_true (by first | (with_reducible assumption) | assumption)
                         have hcut58 := cut_mid (P := Try.prog) 22 33 .i64 .i64 Try.underlying22 hi058 9 hsz58 Ao57 t188.length co57 x6_1 (wrap64 (x6_1 + 1)) q058 ql58 q58 hroom58
                         have hr58 := Kd.C_mid (lo := (x6_1 : Int).toNat) (hi := ((wrap64 (x6_1 + 1)) : Int).toNat) (c := co57) hC58 (by omega) (by omega) hroom58
                         obtain ⟨A58, hA58⟩ : ∃ A1, A1 = (if co57 = (x6_1 : Int).toNat then Ao57 else (Ao57 : Option Addr).map (·.add ((x6_1 : Int).toNat * 9))) := ⟨_, rfl⟩
                         obtain ⟨c58, hc58⟩ : ∃ c1, c1 = co57 - (x6_1 : Int).toNat := ⟨_, rfl⟩
                         have hy58 : y193.length = ((wrap64 (x6_1 + 1)) : Int).toNat - (x6_1 : Int).toNat := (by rw [Ny193.out, List.length_drop, List.length_take] <;> omega)
                         rw [show ((t188).take ((wrap64 (x6_1 + 1)) : Int).toNat).drop (x6_1 : Int).toNat = y193 from Ny193.out.symm] at hr58
                         replace hr58 : Kd.C k33 _ A58 y193.length y193 := (by rw [hA58]; exact hr58)
                         rw [← hy58, ← hA58, ← hc58] at hcut58
                         have HR196 := Aside0.mk hr58
                         have HC196 := Aside0.mk (show y193.length ≤ c58 from by rw [hy58, hc58]; exact Nat.sub_le_sub_right (Nat.le_trans (by omega) hroom58) _)
                         clear hr58 hC58 hroom58 hi058 hsz58 hc58
                         have KY58 := Aside0.mk hy58
                         have KA58 := Aside0.mk hA58
                         clear hy58 hA58
                         have KL58 := Aside0.mk (show ((wrap64 (x6_1 + 1)) : Int).toNat ≤ t188.length from by omega)
                         have KM58 := Aside0.mk (show (x6_1 : Int).toNat ≤ ((wrap64 (x6_1 + 1)) : Int).toNat from by omega)
                         replace q58 := eq_true q58
                         go_wp2_with (first | ((with_reducible refine gate_callee (f := 17) rfl ?_); refine goesL_ (some 27) rfl rfl Try.func17 (by kernel_rfl) rfl #[.slice A58 y193.length c58, .int .i64 t187] rfl (by (try simp only [List.map_toArray, List.map_cons, List.map_nil]); first | done | rfl | (simp only [List.length_drop, List.length_take]; rfl)) ?_; (with_reducible refine (lots_Left.calls k1 _ _ y193 t187 t197 _ ?side1 ?side2 A13.out).mono ?_); (case side1 => repeat (first | exact (by repeat (first | (with_reducible exact HR196.out) | (with_reducible refine Kd.C_alloc ?_ _) | (with_reducible refine Kd.C_drewN ?_ _) | (with_reducible refine Kd.C_drew ?_) | exact HR196.out)) | (with_reducible refine Kd.C_alloc ?_ _) | (with_reducible refine Kd.C_drewN ?_ _) | (with_reducible refine Kd.C_drew ?_))); (case side2 => exact HC196.out); rintro e w59 ⟨rfl, hb⟩; refine ⟨_, rfl, ?_⟩; have n0_ := Aside0.mk (Kd.R_below (by (with_reducible repeat (first | apply Kd.R_alloc | apply Kd.R_drewN | apply Kd.R_drew)); exact HO_0.out) hb); have n1_ := Aside0.mk (Kd.C_below (by repeat (first | (with_reducible exact HR196.out) | (with_reducible refine Kd.C_alloc ?_ _) | (with_reducible refine Kd.C_drewN ?_ _) | (with_reducible refine Kd.C_drew ?_) | exact HR196.out)) hb); have n2_ := Aside0.mk (below_step (by repeat (first | (with_reducible first | exact HB.out | apply below_alloc | apply pw_below_drewN | apply below_drew1) | exact HB.out)) hb); clear HO_0; clear HR196; clear HB; have HO_0 := n0_; have HR196 := n1_; have HB := n2_; clear n0_ n1_ n2_; (try clear hb); (try clear hb2); (try clear hk); (try clear hi); have p202 : 0 ≤ (x6_1 : Int) := of_decide_eq_true (by first | (with_reducible assumption) | assumption); have q202 : x6_1 < (t188.length : Int) := of_decide_eq_true (by first | (with_reducible assumption) | assumption); obtain ⟨ad202, e202, hx202_0, hx202_1, hx202_2, hx202_3, hx202_4, hx202_5, hx202_6, hx202_7, hx202_8⟩ := at_T33 (Kd.R_reads' HO_0.out).2.2 x6_1 p202 q202; cases e202; replace p202 := eq_true p202; replace q202 := eq_true q202; have p203 : 0 ≤ (x6_1 : Int) := of_decide_eq_true (by first | (with_reducible assumption) | assumption); have q203 : x6_1 < (t188.length : Int) := of_decide_eq_true (by first | (with_reducible assumption) | assumption); obtain ⟨ad203, e203, hx203_0, hx203_1, hx203_2, hx203_3, hx203_4, hx203_5, hx203_6, hx203_7, hx203_8⟩ := at_T33 (Kd.R_reads' HO_0.out).2.2 x6_1 p203 q203; obtain rfl : ad202 = ad203 := (by injection e203); replace p203 := eq_true p203; replace q203 := eq_true q203; have p204 : 0 ≤ (x6_1 : Int) := of_decide_eq_true (by first | (with_reducible assumption) | assumption); have q204 : x6_1 < (t188.length : Int) := of_decide_eq_true (by first | (with_reducible assumption) | assumption); obtain ⟨ad204, e204, hx204_0, hx204_1, hx204_2, hx204_3, hx204_4, hx204_5, hx204_6, hx204_7, hx204_8⟩ := at_T33 (Kd.R_reads' HO_0.out).2.2 x6_1 p204 q204; obtain rfl : ad202 = ad204 := (by injection e204); replace p204 := eq_true p204; replace q204 := eq_true q204) | (go_at_call 18; (with_reducible refine (lots_Rest.calls ((rd_T33 t188 x6_1).f0) ((rd_T33 t188 x6_1).f1) ((rd_T33 t188 x6_1).f2) ((rd_T33 t188 x6_1).f3) ((rd_T33 t188 x6_1).f4) ((rd_T33 t188 x6_1).f5) ((rd_T33 t188 x6_1).f6) ((rd_T33 t188 x6_1).f7) ((rd_T33 t188 x6_1).f8) t205 _ A41.out).mono ?_); rintro e w60 ⟨rfl, hb⟩; have n0_ := Aside0.mk (Kd.R_below (by (with_reducible repeat (first | apply Kd.R_alloc | apply Kd.R_drewN | apply Kd.R_drew)); exact HO_0.out) hb); have n1_ := Aside0.mk (Kd.C_below (by repeat (first | (with_reducible exact HR196.out) | (with_reducible refine Kd.C_alloc ?_ _) | (with_reducible refine Kd.C_drewN ?_ _) | (with_reducible refine Kd.C_drew ?_) | exact HR196.out)) hb); have n2_ := Aside0.mk (below_step (by repeat (first | (with_reducible first | exact HB.out | apply below_alloc | apply pw_below_drewN | apply below_drew1) | exact HB.out)) hb); clear HO_0; clear HR196; clear HB; have HO_0 := n0_; have HR196 := n1_; have HB := n2_; clear n0_ n1_ n2_; (try clear hb); (try clear hb2); (try clear hk); (try clear hi); have p206 : 0 ≤ (x6_1 : Int) := of_decide_eq_true (by first | (with_reducible assumption) | assumption); have q206 : x6_1 < (t188.length : Int) := of_decide_eq_true (by first | (with_reducible assumption) | assumption); obtain ⟨ad206, e206, hx206_0, hx206_1, hx206_2, hx206_3, hx206_4, hx206_5, hx206_6, hx206_7, hx206_8⟩ := at_T33 (Kd.R_reads' HO_0.out).2.2 x6_1 p206 q206; obtain rfl : ad202 = ad206 := (by injection e206); replace p206 := eq_true p206; replace q206 := eq_true q206; have p207 : 0 ≤ (x6_1 : Int) := of_decide_eq_true (by first | (with_reducible assumption) | assumption); have q207 : x6_1 < (t188.length : Int) := of_decide_eq_true (by first | (with_reducible assumption) | assumption); obtain ⟨ad207, e207, hx207_0, hx207_1, hx207_2, hx207_3, hx207_4, hx207_5, hx207_6, hx207_7, hx207_8⟩ := at_T33 (Kd.R_reads' HO_0.out).2.2 x6_1 p207 q207; obtain rfl : ad202 = ad207 := (by injection e207); replace p207 := eq_true p207; replace q207 := eq_true q207))
                         go_roundg k1
                         case measure => have := HK1.out; omega
                         case rel => exact ⟨(wrap64 (x5_1 + t197)), (wrap64 (x6_1 + 1)), (by first | rfl | (simp; done) | (simp [*]; done)), (by first | rfl | (simp; done) | (simp [*]; done)), H', ⟨by have := HK1.out; omega⟩, ⟨by (with_reducible repeat (first | apply Kd.R_alloc | apply Kd.R_drewN | apply Kd.R_drew)); exact HO_0.out⟩, ⟨by repeat (first | (with_reducible first | exact HB.out | apply below_alloc | apply pw_below_drewN | apply below_drew1) | exact HB.out)⟩⟩
                     · rw [if_neg c43] at H
                       have c43b0 : decide (((rd_T33 t188 x6_1).f2) ≤ t187) = false := decide_eq_false c43
                       clear c43
                       have H' := Aside0.mk H
                       clear H
                       obtain ⟨Ao61, co61, eo61⟩ := Kd.R_slice HO_0.out
                       subst eo61
                       have q62 : ((wrap64 (x6_1 + 1)) : Int) ≤ ((t188.length : Int) : Int) := of_decide_eq_true (by first | (with_reducible assumption) | assumption)
                       obtain ⟨i062, hi062, _, hsz62, _⟩ := info_parts info33
                       have hroom62 : t188.length ≤ co61 := (Kd.R_reads' HO_0.out).2.1
                       have hC62 : Kd.C k33 _ Ao61 t188.length t188 := (Kd.R_reads' HO_0.out).2.2
                       have ql62 : (x6_1 : Int) ≤ ((wrap64 (x6_1 + 1)) : Int) := of_decide_eq_true (by first | (with_reducible assumption) | assumption)
                       have q062 : (0 : Int) ≤ (x6_1 : Int) := of_decide_eq_true (by first | (with_reducible assumption) | assumption)
                       have hcut62 := cut_mid (P := Try.prog) 22 33 .i64 .i64 Try.underlying22 hi062 9 hsz62 Ao61 t188.length co61 x6_1 (wrap64 (x6_1 + 1)) q062 ql62 q62 hroom62
                       have hr62 := Kd.C_mid (lo := (x6_1 : Int).toNat) (hi := ((wrap64 (x6_1 + 1)) : Int).toNat) (c := co61) hC62 (by omega) (by omega) hroom62
                       obtain ⟨A62, hA62⟩ : ∃ A1, A1 = (if co61 = (x6_1 : Int).toNat then Ao61 else (Ao61 : Option Addr).map (·.add ((x6_1 : Int).toNat * 9))) := ⟨_, rfl⟩
                       obtain ⟨c62, hc62⟩ : ∃ c1, c1 = co61 - (x6_1 : Int).toNat := ⟨_, rfl⟩
                       have hy62 : y193.length = ((wrap64 (x6_1 + 1)) : Int).toNat - (x6_1 : Int).toNat := (by rw [Ny193.out, List.length_drop, List.length_take] <;> omega)
                       rw [show ((t188).take ((wrap64 (x6_1 + 1)) : Int).toNat).drop (x6_1 : Int).toNat = y193 from Ny193.out.symm] at hr62
                       replace hr62 : Kd.C k33 _ A62 y193.length y193 := (by rw [hA62]; exact hr62)
                       rw [← hy62, ← hA62, ← hc62] at hcut62
                       have HR196 := Aside0.mk hr62
                       have HC196 := Aside0.mk (show y193.length ≤ c62 from by rw [hy62, hc62]; exact Nat.sub_le_sub_right (Nat.le_trans (by omega) hroom62) _)
                       clear hr62 hC62 hroom62 hi062 hsz62 hc62
                       have KY62 := Aside0.mk hy62
                       have KA62 := Aside0.mk hA62
                       clear hy62 hA62
                       have KL62 := Aside0.mk (show ((wrap64 (x6_1 + 1)) : Int).toNat ≤ t188.length from by omega)
                       have KM62 := Aside0.mk (show (x6_1 : Int).toNat ≤ ((wrap64 (x6_1 + 1)) : Int).toNat from by omega)
                       replace q62 := eq_true q62
                       go_wp2_with (first | ((with_reducible refine gate_callee (f := 17) rfl ?_); refine goesL_ (some 27) rfl rfl Try.func17 (by kernel_rfl) rfl #[.slice A62 y193.length c62, .int .i64 t187] rfl (by (try simp only [List.map_toArray, List.map_cons, List.map_nil]); first | done | rfl | (simp only [List.length_drop, List.length_take]; rfl)) ?_; (with_reducible refine (lots_Left.calls k1 _ _ y193 t187 t197 _ ?side1 ?side2 A13.out).mono ?_); (case side1 => repeat (first | exact (by repeat (first | (with_reducible exact HR196.out) | (with_reducible refine Kd.C_alloc ?_ _) | (with_reducible refine Kd.C_drewN ?_ _) | (with_reducible refine Kd.C_drew ?_) | exact HR196.out)) | (with_reducible refine Kd.C_alloc ?_ _) | (with_reducible refine Kd.C_drewN ?_ _) | (with_reducible refine Kd.C_drew ?_))); (case side2 => exact HC196.out); rintro e w63 ⟨rfl, hb⟩; refine ⟨_, rfl, ?_⟩; have n0_ := Aside0.mk (Kd.R_below (by (with_reducible repeat (first | apply Kd.R_alloc | apply Kd.R_drewN | apply Kd.R_drew)); exact HO_0.out) hb); have n1_ := Aside0.mk (Kd.C_below (by repeat (first | (with_reducible exact HR196.out) | (with_reducible refine Kd.C_alloc ?_ _) | (with_reducible refine Kd.C_drewN ?_ _) | (with_reducible refine Kd.C_drew ?_) | exact HR196.out)) hb); have n2_ := Aside0.mk (below_step (by repeat (first | (with_reducible first | exact HB.out | apply below_alloc | apply pw_below_drewN | apply below_drew1) | exact HB.out)) hb); clear HO_0; clear HR196; clear HB; have HO_0 := n0_; have HR196 := n1_; have HB := n2_; clear n0_ n1_ n2_; (try clear hb); (try clear hb2); (try clear hk); (try clear hi); have p202 : 0 ≤ (x6_1 : Int) := of_decide_eq_true (by first | (with_reducible assumption) | assumption); have q202 : x6_1 < (t188.length : Int) := of_decide_eq_true (by first | (with_reducible assumption) | assumption); obtain ⟨ad202, e202, hx202_0, hx202_1, hx202_2, hx202_3, hx202_4, hx202_5, hx202_6, hx202_7, hx202_8⟩ := at_T33 (Kd.R_reads' HO_0.out).2.2 x6_1 p202 q202; cases e202; replace p202 := eq_true p202; replace q202 := eq_true q202; have p203 : 0 ≤ (x6_1 : Int) := of_decide_eq_true (by first | (with_reducible assumption) | assumption); have q203 : x6_1 < (t188.length : Int) := of_decide_eq_true (by first | (with_reducible assumption) | assumption); obtain ⟨ad203, e203, hx203_0, hx203_1, hx203_2, hx203_3, hx203_4, hx203_5, hx203_6, hx203_7, hx203_8⟩ := at_T33 (Kd.R_reads' HO_0.out).2.2 x6_1 p203 q203; obtain rfl : ad202 = ad203 := (by injection e203); replace p203 := eq_true p203; replace q203 := eq_true q203; have p204 : 0 ≤ (x6_1 : Int) := of_decide_eq_true (by first | (with_reducible assumption) | assumption); have q204 : x6_1 < (t188.length : Int) := of_decide_eq_true (by first | (with_reducible assumption) | assumption); obtain ⟨ad204, e204, hx204_0, hx204_1, hx204_2, hx204_3, hx204_4, hx204_5, hx204_6, hx204_7, hx204_8⟩ := at_T33 (Kd.R_reads' HO_0.out).2.2 x6_1 p204 q204; obtain rfl : ad202 = ad204 := (by injection e204); replace p204 := eq_true p204; replace q204 := eq_true q204) | (go_at_call 18; (with_reducible refine (lots_Rest.calls ((rd_T33 t188 x6_1).f0) ((rd_T33 t188 x6_1).f1) ((rd_T33 t188 x6_1).f2) ((rd_T33 t188 x6_1).f3) ((rd_T33 t188 x6_1).f4) ((rd_T33 t188 x6_1).f5) ((rd_T33 t188 x6_1).f6) ((rd_T33 t188 x6_1).f7) ((rd_T33 t188 x6_1).f8) t205 _ A41.out).mono ?_); rintro e w64 ⟨rfl, hb⟩; have n0_ := Aside0.mk (Kd.R_below (by (with_reducible repeat (first | apply Kd.R_alloc | apply Kd.R_drewN | apply Kd.R_drew)); exact HO_0.out) hb); have n1_ := Aside0.mk (Kd.C_below (by repeat (first | (with_reducible exact HR196.out) | (with_reducible refine Kd.C_alloc ?_ _) | (with_reducible refine Kd.C_drewN ?_ _) | (with_reducible refine Kd.C_drew ?_) | exact HR196.out)) hb); have n2_ := Aside0.mk (below_step (by repeat (first | (with_reducible first | exact HB.out | apply below_alloc | apply pw_below_drewN | apply below_drew1) | exact HB.out)) hb); clear HO_0; clear HR196; clear HB; have HO_0 := n0_; have HR196 := n1_; have HB := n2_; clear n0_ n1_ n2_; (try clear hb); (try clear hb2); (try clear hk); (try clear hi); have p206 : 0 ≤ (x6_1 : Int) := of_decide_eq_true (by first | (with_reducible assumption) | assumption); have q206 : x6_1 < (t188.length : Int) := of_decide_eq_true (by first | (with_reducible assumption) | assumption); obtain ⟨ad206, e206, hx206_0, hx206_1, hx206_2, hx206_3, hx206_4, hx206_5, hx206_6, hx206_7, hx206_8⟩ := at_T33 (Kd.R_reads' HO_0.out).2.2 x6_1 p206 q206; obtain rfl : ad202 = ad206 := (by injection e206); replace p206 := eq_true p206; replace q206 := eq_true q206))
                       go_roundg k1
                       case measure => have := HK1.out; omega
                       case rel => exact ⟨(wrap64 (x5_1 + t197)), (wrap64 (x6_1 + 1)), (by first | rfl | (simp; done) | (simp [*]; done)), (by first | rfl | (simp; done) | (simp [*]; done)), H', ⟨by have := HK1.out; omega⟩, ⟨by (with_reducible repeat (first | apply Kd.R_alloc | apply Kd.R_drewN | apply Kd.R_drew)); exact HO_0.out⟩, ⟨by repeat (first | (with_reducible first | exact HB.out | apply below_alloc | apply pw_below_drewN | apply below_drew1) | exact HB.out)⟩⟩
                   · rw [if_neg c42] at H
                     have c42b0 : (t197 == t205) = false := beq_eq_false_iff_ne.mpr c42
                     have c42b1 : (t197 != t205) = true := bne_iff_ne.mpr c42
                     obtain rfl := Option.some.inj H
                     obtain ⟨Ao65, co65, eo65⟩ := Kd.R_slice HO_0.out
                     subst eo65
                     have q66 : ((wrap64 (x6_1 + 1)) : Int) ≤ ((t188.length : Int) : Int) := of_decide_eq_true (by first | (with_reducible assumption) | assumption)
                     obtain ⟨i066, hi066, _, hsz66, _⟩ := info_parts info33
                     have hroom66 : t188.length ≤ co65 := (Kd.R_reads' HO_0.out).2.1
                     have hC66 : Kd.C k33 _ Ao65 t188.length t188 := (Kd.R_reads' HO_0.out).2.2
                     have ql66 : (x6_1 : Int) ≤ ((wrap64 (x6_1 + 1)) : Int) := of_decide_eq_true (by first | (with_reducible assumption) | assumption)
                     have q066 : (0 : Int) ≤ (x6_1 : Int) := of_decide_eq_true (by first | (with_reducible assumption) | assumption)
                     have hcut66 := cut_mid (P := Try.prog) 22 33 .i64 .i64 Try.underlying22 hi066 9 hsz66 Ao65 t188.length co65 x6_1 (wrap64 (x6_1 + 1)) q066 ql66 q66 hroom66
                     have hr66 := Kd.C_mid (lo := (x6_1 : Int).toNat) (hi := ((wrap64 (x6_1 + 1)) : Int).toNat) (c := co65) hC66 (by omega) (by omega) hroom66
                     obtain ⟨A66, hA66⟩ : ∃ A1, A1 = (if co65 = (x6_1 : Int).toNat then Ao65 else (Ao65 : Option Addr).map (·.add ((x6_1 : Int).toNat * 9))) := ⟨_, rfl⟩
                     obtain ⟨c66, hc66⟩ : ∃ c1, c1 = co65 - (x6_1 : Int).toNat := ⟨_, rfl⟩
                     have hy66 : y193.length = ((wrap64 (x6_1 + 1)) : Int).toNat - (x6_1 : Int).toNat := (by rw [Ny193.out, List.length_drop, List.length_take] <;> omega)
                     rw [show ((t188).take ((wrap64 (x6_1 + 1)) : Int).toNat).drop (x6_1 : Int).toNat = y193 from Ny193.out.symm] at hr66
                     replace hr66 : Kd.C k33 _ A66 y193.length y193 := (by rw [hA66]; exact hr66)
                     rw [← hy66, ← hA66, ← hc66] at hcut66
                     have HR196 := Aside0.mk hr66
                     have HC196 := Aside0.mk (show y193.length ≤ c66 from by rw [hy66, hc66]; exact Nat.sub_le_sub_right (Nat.le_trans (by omega) hroom66) _)
                     clear hr66 hC66 hroom66 hi066 hsz66 hc66
                     have KY66 := Aside0.mk hy66
                     have KA66 := Aside0.mk hA66
                     clear hy66 hA66
                     have KL66 := Aside0.mk (show ((wrap64 (x6_1 + 1)) : Int).toNat ≤ t188.length from by omega)
                     have KM66 := Aside0.mk (show (x6_1 : Int).toNat ≤ ((wrap64 (x6_1 + 1)) : Int).toNat from by omega)
                     replace q66 := eq_true q66
                     go_wp2_with (first | ((with_reducible refine gate_callee (f := 17) rfl ?_); refine goesL_ (some 27) rfl rfl Try.func17 (by kernel_rfl) rfl #[.slice A66 y193.length c66, .int .i64 t187] rfl (by (try simp only [List.map_toArray, List.map_cons, List.map_nil]); first | done | rfl | (simp only [List.length_drop, List.length_take]; rfl)) ?_; (with_reducible refine (lots_Left.calls k1 _ _ y193 t187 t197 _ ?side1 ?side2 A13.out).mono ?_); (case side1 => repeat (first | exact (by repeat (first | (with_reducible exact HR196.out) | (with_reducible refine Kd.C_alloc ?_ _) | (with_reducible refine Kd.C_drewN ?_ _) | (with_reducible refine Kd.C_drew ?_) | exact HR196.out)) | (with_reducible refine Kd.C_alloc ?_ _) | (with_reducible refine Kd.C_drewN ?_ _) | (with_reducible refine Kd.C_drew ?_))); (case side2 => exact HC196.out); rintro e w67 ⟨rfl, hb⟩; refine ⟨_, rfl, ?_⟩; have n0_ := Aside0.mk (Kd.R_below (by (with_reducible repeat (first | apply Kd.R_alloc | apply Kd.R_drewN | apply Kd.R_drew)); exact HO_0.out) hb); have n1_ := Aside0.mk (Kd.C_below (by repeat (first | (with_reducible exact HR196.out) | (with_reducible refine Kd.C_alloc ?_ _) | (with_reducible refine Kd.C_drewN ?_ _) | (with_reducible refine Kd.C_drew ?_) | exact HR196.out)) hb); have n2_ := Aside0.mk (below_step (by repeat (first | (with_reducible first | exact HB.out | apply below_alloc | apply pw_below_drewN | apply below_drew1) | exact HB.out)) hb); clear HO_0; clear HR196; clear HB; have HO_0 := n0_; have HR196 := n1_; have HB := n2_; clear n0_ n1_ n2_; (try clear hb); (try clear hb2); (try clear hk); (try clear hi); have p202 : 0 ≤ (x6_1 : Int) := of_decide_eq_true (by first | (with_reducible assumption) | assumption); have q202 : x6_1 < (t188.length : Int) := of_decide_eq_true (by first | (with_reducible assumption) | assumption); obtain ⟨ad202, e202, hx202_0, hx202_1, hx202_2, hx202_3, hx202_4, hx202_5, hx202_6, hx202_7, hx202_8⟩ := at_T33 (Kd.R_reads' HO_0.out).2.2 x6_1 p202 q202; cases e202; replace p202 := eq_true p202; replace q202 := eq_true q202; have p203 : 0 ≤ (x6_1 : Int) := of_decide_eq_true (by first | (with_reducible assumption) | assumption); have q203 : x6_1 < (t188.length : Int) := of_decide_eq_true (by first | (with_reducible assumption) | assumption); obtain ⟨ad203, e203, hx203_0, hx203_1, hx203_2, hx203_3, hx203_4, hx203_5, hx203_6, hx203_7, hx203_8⟩ := at_T33 (Kd.R_reads' HO_0.out).2.2 x6_1 p203 q203; obtain rfl : ad202 = ad203 := (by injection e203); replace p203 := eq_true p203; replace q203 := eq_true q203; have p204 : 0 ≤ (x6_1 : Int) := of_decide_eq_true (by first | (with_reducible assumption) | assumption); have q204 : x6_1 < (t188.length : Int) := of_decide_eq_true (by first | (with_reducible assumption) | assumption); obtain ⟨ad204, e204, hx204_0, hx204_1, hx204_2, hx204_3, hx204_4, hx204_5, hx204_6, hx204_7, hx204_8⟩ := at_T33 (Kd.R_reads' HO_0.out).2.2 x6_1 p204 q204; obtain rfl : ad202 = ad204 := (by injection e204); replace p204 := eq_true p204; replace q204 := eq_true q204) | (go_at_call 18; (with_reducible refine (lots_Rest.calls ((rd_T33 t188 x6_1).f0) ((rd_T33 t188 x6_1).f1) ((rd_T33 t188 x6_1).f2) ((rd_T33 t188 x6_1).f3) ((rd_T33 t188 x6_1).f4) ((rd_T33 t188 x6_1).f5) ((rd_T33 t188 x6_1).f6) ((rd_T33 t188 x6_1).f7) ((rd_T33 t188 x6_1).f8) t205 _ A41.out).mono ?_); rintro e w68 ⟨rfl, hb⟩; have n0_ := Aside0.mk (Kd.R_below (by (with_reducible repeat (first | apply Kd.R_alloc | apply Kd.R_drewN | apply Kd.R_drew)); exact HO_0.out) hb); have n1_ := Aside0.mk (Kd.C_below (by repeat (first | (with_reducible exact HR196.out) | (with_reducible refine Kd.C_alloc ?_ _) | (with_reducible refine Kd.C_drewN ?_ _) | (with_reducible refine Kd.C_drew ?_) | exact HR196.out)) hb); have n2_ := Aside0.mk (below_step (by repeat (first | (with_reducible first | exact HB.out | apply below_alloc | apply pw_below_drewN | apply below_drew1) | exact HB.out)) hb); clear HO_0; clear HR196; clear HB; have HO_0 := n0_; have HR196 := n1_; have HB := n2_; clear n0_ n1_ n2_; (try clear hb); (try clear hb2); (try clear hk); (try clear hi)))
                     go_ret
                     exact ⟨by first | rfl | (simp [errW_none, errW_some] <;> rfl) | (simp [*, errW_none, errW_some] <;> rfl), by repeat (first | (with_reducible first | exact HB.out | apply below_alloc | apply pw_below_drewN | apply below_drew1) | exact HB.out)⟩
           · rw [if_neg c12] at H
             exact absurd H (by simp)
         · rw [if_neg c11] at H
           exact absurd H (by simp)
       · rw [if_neg c10] at H
         exact absurd H (by simp)
     · rw [if_neg c9] at H
       have c9b0 : decide (x6_1 < (t188.length : Int)) = false := decide_eq_false c9
       clear c9
       replace H := Option.bind_eq_some_iff.mp H
       obtain ⟨t191, A690, H⟩ := H
       replace H : (if t191 = x5_1 then ((lots_Left.f k1 ([] : List (S33)) t187).bind fun t192 => (some (t192 == 0))) else (some false)) = some r := H
       have A69 := Aside0.mk A690
       clear A690
       by_cases c70 : t191 = x5_1
       · rw [if_pos c70] at H
         have c70b0 : (t191 == x5_1) = true := beq_iff_eq.mpr c70
         have c70b1 : (t191 != x5_1) = false := bne_eq_false_iff_eq.mpr c70
         clear c70
         replace H := Option.bind_eq_some_iff.mp H
         obtain ⟨t192, A710, H⟩ := H
         replace H : (some (t192 == 0)) = some r := H
         have A71 := Aside0.mk A710
         clear A710
         obtain rfl := Option.some.inj H
         obtain ⟨Ao72, co72, eo72⟩ := Kd.R_slice HO_0.out
         subst eo72
         go_wp2_with (first | ((with_reducible refine gate_callee (f := 17) rfl ?_); refine goesL_ (some 93) rfl rfl Try.func17 (by kernel_rfl) rfl #[.slice Ao72 t188.length co72, .int .i64 t187] rfl (by (try simp only [List.map_toArray, List.map_cons, List.map_nil]); first | done | rfl | (simp only [List.length_drop, List.length_take]; rfl)) ?_; (with_reducible refine (lots_Left.calls k1 _ _ t188 t187 t191 _ ?side1 ?side2 A69.out).mono ?_); (case side1 => repeat (first | exact (Kd.R_reads' HO_0.out).2.2 | (with_reducible refine Kd.C_alloc ?_ _) | (with_reducible refine Kd.C_drewN ?_ _) | (with_reducible refine Kd.C_drew ?_))); (case side2 => exact (Kd.R_reads' HO_0.out).2.1); rintro e w73 ⟨rfl, hb⟩; refine ⟨_, rfl, ?_⟩; have n0_ := Aside0.mk (Kd.R_below (by (with_reducible repeat (first | apply Kd.R_alloc | apply Kd.R_drewN | apply Kd.R_drew)); exact HO_0.out) hb); have n1_ := Aside0.mk (below_step (by repeat (first | (with_reducible first | exact HB.out | apply below_alloc | apply pw_below_drewN | apply below_drew1) | exact HB.out)) hb); clear HO_0; clear HB; have HO_0 := n0_; have HB := n1_; clear n0_ n1_; (try clear hb); (try clear hb2); (try clear hk); (try clear hi)) | (go_at_call 17; (refine (lots_Left.calls k1 _ _ ([] : List (S33)) t187 t192 _ ?side1 ?side2 A71.out).mono ?_); (case side1 => exact Kd.C_nil _ _); (case side2 => exact Nat.le_refl _); rintro e w74 ⟨rfl, hb⟩; have n0_ := Aside0.mk (Kd.R_below (by (with_reducible repeat (first | apply Kd.R_alloc | apply Kd.R_drewN | apply Kd.R_drew)); exact HO_0.out) hb); have n1_ := Aside0.mk (below_step (by repeat (first | (with_reducible first | exact HB.out | apply below_alloc | apply pw_below_drewN | apply below_drew1) | exact HB.out)) hb); clear HO_0; clear HB; have HO_0 := n0_; have HB := n1_; clear n0_ n1_; (try clear hb); (try clear hb2); (try clear hk); (try clear hi)))
         go_ret
         exact ⟨by first | rfl | (simp [errW_none, errW_some] <;> rfl) | (simp [*, errW_none, errW_some] <;> rfl), by repeat (first | (with_reducible first | exact HB.out | apply below_alloc | apply pw_below_drewN | apply below_drew1) | exact HB.out)⟩
       · rw [if_neg c70] at H
         have c70b0 : (t191 == x5_1) = false := beq_eq_false_iff_ne.mpr c70
         have c70b1 : (t191 != x5_1) = true := bne_iff_ne.mpr c70
         obtain rfl := Option.some.inj H
         obtain ⟨Ao75, co75, eo75⟩ := Kd.R_slice HO_0.out
         subst eo75
         go_wp2_with (first | ((with_reducible refine gate_callee (f := 17) rfl ?_); refine goesL_ (some 93) rfl rfl Try.func17 (by kernel_rfl) rfl #[.slice Ao75 t188.length co75, .int .i64 t187] rfl (by (try simp only [List.map_toArray, List.map_cons, List.map_nil]); first | done | rfl | (simp only [List.length_drop, List.length_take]; rfl)) ?_; (with_reducible refine (lots_Left.calls k1 _ _ t188 t187 t191 _ ?side1 ?side2 A69.out).mono ?_); (case side1 => repeat (first | exact (Kd.R_reads' HO_0.out).2.2 | (with_reducible refine Kd.C_alloc ?_ _) | (with_reducible refine Kd.C_drewN ?_ _) | (with_reducible refine Kd.C_drew ?_))); (case side2 => exact (Kd.R_reads' HO_0.out).2.1); rintro e w76 ⟨rfl, hb⟩; refine ⟨_, rfl, ?_⟩; have n0_ := Aside0.mk (Kd.R_below (by (with_reducible repeat (first | apply Kd.R_alloc | apply Kd.R_drewN | apply Kd.R_drew)); exact HO_0.out) hb); have n1_ := Aside0.mk (below_step (by repeat (first | (with_reducible first | exact HB.out | apply below_alloc | apply pw_below_drewN | apply below_drew1) | exact HB.out)) hb); clear HO_0; clear HB; have HO_0 := n0_; have HB := n1_; clear n0_ n1_; (try clear hb); (try clear hb2); (try clear hk); (try clear hi)))
         go_ret
         exact ⟨by first | rfl | (simp [errW_none, errW_some] <;> rfl) | (simp [*, errW_none, errW_some] <;> rfl), by repeat (first | (with_reducible first | exact HB.out | apply below_alloc | apply pw_below_drewN | apply below_drew1) | exact HB.out)⟩
 · replace c4 := Bool.eq_false_iff.mpr c4
   subst c4
   have H1 : (some false) = some r := by rw [if_neg (show ¬ (false = true) by decide)] at H; exact H
   clear H
   have H := H1
   clear H1
   obtain rfl := Option.some.inj H
   go_enter Try.func5, Try.ntmps5
   go_wp2_with (first | ((with_reducible refine gate_callee (f := 12) rfl ?_); refine goesL_ (some 8) rfl rfl Try.func12 (by kernel_rfl) rfl #[] rfl (by (try simp only [List.map_toArray, List.map_cons, List.map_nil]); first | done | rfl | (simp only [List.length_drop, List.length_take]; rfl)) ?_; (with_reducible refine (tolllaw10_known.calls  false _ A3.out).mono ?_); rintro e w77 ⟨rfl, hb⟩; refine ⟨_, rfl, ?_⟩; have n0_ := Aside0.mk (below_step (by repeat (first | (with_reducible first | exact HB.out | apply below_alloc | apply pw_below_drewN | apply below_drew1) | exact HB.out)) hb); clear HB; have HB := n0_; clear n0_; (try clear hb); (try clear hb2); (try clear hk); (try clear hi)))
   go_ret
   exact ⟨by first | rfl | (simp [errW_none, errW_some] <;> rfl) | (simp [*, errW_none, errW_some] <;> rfl), by repeat (first | (with_reducible first | exact HB.out | apply below_alloc | apply pw_below_drewN | apply below_drew1) | exact HB.out)⟩

end Go.Proofs.Ytjoimapgmocoeaa.Xa
