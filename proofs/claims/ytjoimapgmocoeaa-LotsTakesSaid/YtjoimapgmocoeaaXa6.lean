/- What Go functions of this seat compute, as plain Lean functions; the machine's calls do what these say, under the conditions that each theorem names. Written by a program of this session (xprint, over print.py of the kit). -/
import Derived.Test.YtjoimapgmocoeaaXa0
import Derived.Test.YtjoimapgmocoeaaXa5
namespace Go.Proofs.Ytjoimapgmocoeaa.Xa
open Go.RowKit Go.Proofs.YtjoimapgmocoeaaW.PrintWords Go.Proofs.YtjoimapgmocoeaaW.PrintLast Go.Proofs.YtjoimapgmocoeaaW.PrintMore
attribute [local go_sem] max2_int min2_int max_two min_two max_three min_three max_four min_four   -- for this text's walks alone
set_option linter.unusedVariables false
set_option linter.unusedSimpArgs false

/-! ### tolllaw10_Good: function 14 -/
mutual
def tolllaw10_Good.l0 : Nat → List (S33) → Int → List (S33) → Int → Int → Option ((List (S33)))
 | 0, _, _, _, _, _ => none
 | k + 1, x0, x1, x5, x6, x7 => if x7 < (x0.length : Int) then (tolllaw10_Good.j1 k x0 x1 x5 x6 x7 (decide (x7 < 14))) else (tolllaw10_Good.j1 k x0 x1 x5 x6 x7 false)
def tolllaw10_Good.j1 : Nat → List (S33) → Int → List (S33) → Int → Int → Bool → Option ((List (S33)))
 | 0, _, _, _, _, _, _ => none
 | k + 1, x0, x1, x5, x6, x7, x16 => if x16 = true then (if 0 ≤ x7 then (if x7 < (x0.length : Int) then ((tolllaw10_within.f ((rd_T33 x0 x7).f0) 3).bind fun t115 => ((tolllaw10_within.f ((rd_T33 x0 x7).f1) 3).bind fun t116 => ((tolllaw10_within.f ((rd_T33 x0 x7).f2) 8).bind fun t117 => ((tolllaw10_within.f ((rd_T33 x0 x7).f3) 9).bind fun t118 => ((tolllaw10_within.f ((rd_T33 x0 x7).f5) 1000).bind fun t119 => ((tolllaw10_within.f ((rd_T33 x0 x7).f7) 9).bind fun t120 => ((tolllaw10_within.f ((rd_T33 x0 x7).f8) 9).bind fun t121 => ((tolllaw10_within.f ((rd_T33 x0 x7).f4) 1000).bind fun t122 => (if x5.length < 1954687338268 then (tolllaw10_Good.l0 k x0 x1 (x5 ++ [(⟨wrap64 ((wrap64 (x6 + 1)) + t115), t116, mx 0 (wrap64 ((wrap64 (x1 - 5)) + t117)), wrap64 ((wrap64 ((mx 0 (wrap64 ((wrap64 (x1 - 5)) + t117))) + 1)) + t118), wrap64 ((wrap64 ((wrap64 (t119 + t120)) + t121)) + t122), t119, 0, t120, t121⟩ : S33)]) (wrap64 ((wrap64 (x6 + 1)) + t115)) (wrap64 (x7 + 1))) else (none)))))))))) else (none)) else (none)) else (some x5)
end
def tolllaw10_Good.f (k : Nat) (l0 : List (S33)) (a1 : Int) : Option ((List (S33))) := tolllaw10_Good.l0 k l0 a1 ([] : List (S33)) 0 0
theorem tolllaw10_Good.mono_l : ∀ k, (∀ y0 y1 y2 y3 y4, LeO (tolllaw10_Good.l0 k y0 y1 y2 y3 y4) (tolllaw10_Good.l0 (k + 1) y0 y1 y2 y3 y4)) ∧ (∀ y0 y1 y2 y3 y4 y5, LeO (tolllaw10_Good.j1 k y0 y1 y2 y3 y4 y5) (tolllaw10_Good.j1 (k + 1) y0 y1 y2 y3 y4 y5))
 | 0 => ⟨fun _ _ _ _ _ r h => by simp [tolllaw10_Good.l0] at h, fun _ _ _ _ _ _ r h => by simp [tolllaw10_Good.j1] at h⟩
 | k + 1 => by
  obtain ⟨ih0, ih1⟩ := tolllaw10_Good.mono_l k
  refine ⟨?_, ?_⟩
  · intro y0 y1 y2 y3 y4
    unfold tolllaw10_Good.l0
    repeat' first
    | (with_reducible exact ih0 _ _ _ _ _)
    | (with_reducible exact ih1 _ _ _ _ _ _)
    | (with_reducible exact LeO.refl _)
    | (with_reducible exact LeO.none _)
    | (with_reducible refine LeO.ite ?_ ?_)
    | (with_reducible refine LeO.bind ?_ (fun _ => ?_))
    | exact ih0 _ _ _ _ _
    | exact ih1 _ _ _ _ _ _
    | exact LeO.none _
    | refine LeO.ite ?_ ?_
    | refine LeO.bind ?_ (fun _ => ?_)
  · intro y0 y1 y2 y3 y4 y5
    unfold tolllaw10_Good.j1
    repeat' first
    | (with_reducible exact ih0 _ _ _ _ _)
    | (with_reducible exact ih1 _ _ _ _ _ _)
    | (with_reducible exact LeO.refl _)
    | (with_reducible exact LeO.none _)
    | (with_reducible refine LeO.ite ?_ ?_)
    | (with_reducible refine LeO.bind ?_ (fun _ => ?_))
    | exact ih0 _ _ _ _ _
    | exact ih1 _ _ _ _ _ _
    | exact LeO.none _
    | refine LeO.ite ?_ ?_
    | refine LeO.bind ?_ (fun _ => ?_)
theorem tolllaw10_Good.mono : ∀ a0 a1 k, LeO (tolllaw10_Good.f k a0 a1) (tolllaw10_Good.f (k + 1) a0 a1) := by
 intro a0 a1 k
 obtain ⟨ih0, ih1⟩ := tolllaw10_Good.mono_l k
 unfold tolllaw10_Good.f
 repeat' first
  | (with_reducible exact ih0 _ _ _ _ _)
  | (with_reducible exact ih1 _ _ _ _ _ _)
  | (with_reducible exact LeO.refl _)
  | (with_reducible exact LeO.none _)
  | (with_reducible refine LeO.ite ?_ ?_)
  | (with_reducible refine LeO.bind ?_ (fun _ => ?_))
  | exact ih0 _ _ _ _ _
  | exact ih1 _ _ _ _ _ _
  | exact LeO.none _
  | refine LeO.ite ?_ ?_
  | refine LeO.bind ?_ (fun _ => ?_)
def tolllaw10_Good.T11 : Bool × List (List Nat × List Nat) := (true, [([], []), ([0], [0]), ([1], [1]), ([], []), ([3], [3]), ([4], [4]), ([2, 5], [2, 5]), ([0, 1, 2, 3, 4, 5, 6], []), ([7, 6, 5, 0, 1, 2, 3, 4, 5, 6], [6, 7])])
def tolllaw10_Good.B11 : List Nat := [0, 1, 3, 0, 8, 24, 63, 127, 255]
theorem tolllaw10_Good.tab11 : rtab .any (opsOf Try.f14 11) = tolllaw10_Good.T11 := by kernel_rfl
theorem tolllaw10_Good.bits11 : waitsOk tolllaw10_Good.T11.2 tolllaw10_Good.B11 = true := by kernel_rfl
def tolllaw10_Good.T12 : Bool × List (List Nat × List Nat) := (true, [([], []), ([0], [0]), ([1], [1]), ([], []), ([3], [3]), ([4, 2], [4]), ([], []), ([6], [6]), ([7, 5], [7]), ([0, 1, 2, 3, 4, 6, 7], []), ([9, 2, 8, 0, 1, 2, 3, 4, 6, 7], [2, 9]), ([0, 1, 2, 3, 4, 6, 7, 9, 10], []), ([11, 10, 0, 1, 2, 3, 4, 6, 7, 9, 10], [11]), ([0, 1, 2, 3, 4, 5, 6, 7, 9, 10, 11, 12], []), ([13, 5, 12, 0, 1, 2, 3, 4, 5, 6, 7, 9, 10, 11, 12], [5, 13]), ([0, 1, 2, 3, 4, 5, 6, 7, 8, 9, 10, 11, 12, 13, 14], []), ([15, 8, 14, 0, 1, 2, 3, 4, 5, 6, 7, 8, 9, 10, 11, 12, 13, 14], [8, 15])])
def tolllaw10_Good.B12 : List Nat := [0, 1, 3, 0, 8, 31, 0, 64, 255, 223, 1023, 2047, 4095, 8191, 16383, 32767, 65535]
theorem tolllaw10_Good.tab12 : rtab .any (opsOf Try.f14 12) = tolllaw10_Good.T12 := by kernel_rfl
theorem tolllaw10_Good.bits12 : waitsOk tolllaw10_Good.T12.2 tolllaw10_Good.B12 = true := by kernel_rfl
def tolllaw10_Good.T13 : Bool × List (List Nat × List Nat) := (true, [([], []), ([0], [0]), ([], []), ([2], [2]), ([1, 3], [1, 3]), ([], []), ([5], [5]), ([4, 6], [4, 6]), ([], []), ([8], [8]), ([9], [9]), ([7, 10], [7, 10]), ([0, 1, 2, 3, 4, 5, 6, 7, 8, 9, 10, 11], []), ([12, 11, 10, 0, 1, 2, 3, 4, 5, 6, 7, 8, 9, 10, 11], [11, 12])])
def tolllaw10_Good.B13 : List Nat := [0, 1, 0, 4, 15, 0, 32, 127, 0, 256, 768, 2047, 4095, 8191]
theorem tolllaw10_Good.tab13 : rtab .any (opsOf Try.f14 13) = tolllaw10_Good.T13 := by kernel_rfl
theorem tolllaw10_Good.bits13 : waitsOk tolllaw10_Good.T13.2 tolllaw10_Good.B13 = true := by kernel_rfl
set_option maxHeartbeats 8000000 in
set_option maxRecDepth 100000 in
theorem tolllaw10_Good.calls (k : Nat) (A0 : Option Addr) (c0 : Nat) (l0 : List (S33)) (a1 : Int) (r : List (S33)) (w : World) (hr0 : Kd.C k33 w A0 l0.length l0) (hc0 : l0.length ≤ c0) (h : tolllaw10_Good.f k l0 a1 = some r) :
 Calls Try.prog 14 #[.slice A0 l0.length c0, .int .i64 a1] w fun e w' => ∃ v0_ : Value, e = .returned (v0_) ∧ Kd.R k33 33 w' w.heap.size (fun _ => True) v0_ r ∧ Below w.heap.size w w' := by
 have hu33 := Try.underlying33
 have HR0 := Aside0.mk hr0
 have HC0 := Aside0.mk hc0
 clear hr0 hc0
 have HB := Aside0.mk (Below.refl w.heap.size w)
 have H : (tolllaw10_Good.l0 k l0 a1 ([] : List (S33)) 0 0) = some r := h
 clear h
 have H' := Aside0.mk H
 clear H
 go_enter Try.func14, Try.ntmps14
 go_wp2
 go_loopg [5, 6, 7] k (fun kq v5 v6 v7 w' => ∃ (x5_1 : List (S33)) (x6_1 : Int) (x7_1 : Int), v6 = .int .i64 x6_1 ∧ v7 = .int .i64 x7_1 ∧ Aside0 (tolllaw10_Good.l0 kq l0 a1 x5_1 x6_1 x7_1 = some r) ∧ Aside0 (kq ≤ k) ∧ Aside0 (Kd.R k33 33 w' w.heap.size (fun _ => True) v5 x5_1) ∧ Aside0 (Below w.heap.size w w'))
 case atStart => exact ⟨(([] : List (S33))), (0), (0), (by first | rfl | (simp; done) | (simp [*]; done)), (by first | rfl | (simp; done) | (simp [*]; done)), H', ⟨Nat.le_refl _⟩, ⟨by first | exact Kd.R_nil _ _ _ _ _ | exact Kd.N_nil _ _ _ _ _ | exact Kd.V_nil _ _ _ _ _ | exact Kd.Q_nil _ _ _ _ _ | exact Kd.S_nil _ _ _ _ _⟩, ⟨by repeat (first | (with_reducible first | exact HB.out | apply below_alloc | apply pw_below_drewN | apply below_drew1) | exact HB.out)⟩⟩
 case round =>
  clear H'
  try clear c1
  try clear p2
  obtain ⟨x5_1, x6_1, x7_1, rfl, rfl, HA, HK1, HO_5, HB⟩ := hrel
  cases gk with
  | zero => exact absurd HA.out (by simp [tolllaw10_Good.l0])
  | succ k1 =>
   have H := HA.out
   clear HA
   simp only [tolllaw10_Good.l0] at H
   have HC3 := Aside0.mk H
   clear H
   go_upto_region 4 with (fail)
   go_cut [16] (fun v16 wc => ∃ (kq : Nat) (x16_2 : Bool), v16 = .bool x16_2 ∧ Aside0 (tolllaw10_Good.j1 kq l0 a1 x5_1 x6_1 x7_1 x16_2 = some r) ∧ Aside0 (kq ≤ k1) ∧ Aside0 (Kd.R k33 33 wc w.heap.size (fun _ => True) u5 x5_1) ∧ Aside0 (Below w.heap.size w wc))
   case first =>
    have H := HC3.out
    clear HC3
    by_cases c4 : x7_1 < (l0.length : Int)
    · rw [if_pos c4] at H
      have c4b0 : decide (x7_1 < (l0.length : Int)) = true := decide_eq_true c4
      clear c4
      (first | rw [c4b0] | (simp only [i64_w, i32_w]; rw [c4b0]) | skip)
      have H' := Aside0.mk H
      clear H
      go_wp2
      go_meet
      case rel => exact ⟨_, (decide (x7_1 < 14)), (by first | rfl | (simp; done) | (simp [*]; done)), H', ⟨by have := HK1.out; first | omega | exact Nat.le_refl _⟩, ⟨by (with_reducible repeat (first | apply Kd.R_alloc | apply Kd.R_drewN | apply Kd.R_drew)); exact HO_5.out⟩, ⟨by repeat (first | (with_reducible first | exact HB.out | apply below_alloc | apply pw_below_drewN | apply below_drew1) | exact HB.out)⟩⟩
    · rw [if_neg c4] at H
      have c4b0 : decide (x7_1 < (l0.length : Int)) = false := decide_eq_false c4
      clear c4
      (first | rw [c4b0] | (simp only [i64_w, i32_w]; rw [c4b0]) | skip)
      have H' := Aside0.mk H
      clear H
      go_wp2
      go_meet
      case rel => exact ⟨_, (false), (by first | rfl | (simp; done) | (simp [*]; done)), H', ⟨by have := HK1.out; first | omega | exact Nat.le_refl _⟩, ⟨by (with_reducible repeat (first | apply Kd.R_alloc | apply Kd.R_drewN | apply Kd.R_drew)); exact HO_5.out⟩, ⟨by repeat (first | (with_reducible first | exact HB.out | apply below_alloc | apply pw_below_drewN | apply below_drew1) | exact HB.out)⟩⟩
   case rest =>
    clear HC3
    try clear c1
    try clear p2
    try clear c4
    try clear c4b0
    try clear p2
    obtain ⟨kq, x16_2, rfl, HA, HJ2, HO_5, HB⟩ := hcut
    cases kq with
    | zero => exact absurd HA.out (by simp [tolllaw10_Good.j1])
    | succ kj2 =>
     have H := HA.out
     clear HA
     simp only [tolllaw10_Good.j1] at H
     by_cases c5 : x16_2 = true
     · subst c5
       have H1 : (if 0 ≤ x7_1 then (if x7_1 < (l0.length : Int) then ((tolllaw10_within.f ((rd_T33 l0 x7_1).f0) 3).bind fun t115 => ((tolllaw10_within.f ((rd_T33 l0 x7_1).f1) 3).bind fun t116 => ((tolllaw10_within.f ((rd_T33 l0 x7_1).f2) 8).bind fun t117 => ((tolllaw10_within.f ((rd_T33 l0 x7_1).f3) 9).bind fun t118 => ((tolllaw10_within.f ((rd_T33 l0 x7_1).f5) 1000).bind fun t119 => ((tolllaw10_within.f ((rd_T33 l0 x7_1).f7) 9).bind fun t120 => ((tolllaw10_within.f ((rd_T33 l0 x7_1).f8) 9).bind fun t121 => ((tolllaw10_within.f ((rd_T33 l0 x7_1).f4) 1000).bind fun t122 => (if x5_1.length < 1954687338268 then (tolllaw10_Good.l0 kj2 l0 a1 (x5_1 ++ [(⟨wrap64 ((wrap64 (x6_1 + 1)) + t115), t116, mx 0 (wrap64 ((wrap64 (a1 - 5)) + t117)), wrap64 ((wrap64 ((mx 0 (wrap64 ((wrap64 (a1 - 5)) + t117))) + 1)) + t118), wrap64 ((wrap64 ((wrap64 (t119 + t120)) + t121)) + t122), t119, 0, t120, t121⟩ : S33)]) (wrap64 ((wrap64 (x6_1 + 1)) + t115)) (wrap64 (x7_1 + 1))) else (none)))))))))) else (none)) else (none)) = some r := by rw [if_pos rfl] at H; exact H
       clear H
       have H := H1
       clear H1
       by_cases c6 : 0 ≤ x7_1
       · rw [if_pos c6] at H
         have c6b0 : decide (0 ≤ x7_1) = true := decide_eq_true c6
         clear c6
         by_cases c7 : x7_1 < (l0.length : Int)
         · rw [if_pos c7] at H
           have c7b0 : decide (x7_1 < (l0.length : Int)) = true := decide_eq_true c7
           clear c7
           replace H := Option.bind_eq_some_iff.mp H
           obtain ⟨t115, A80, H⟩ := H
           replace H : ((tolllaw10_within.f ((rd_T33 l0 x7_1).f1) 3).bind fun t116 => ((tolllaw10_within.f ((rd_T33 l0 x7_1).f2) 8).bind fun t117 => ((tolllaw10_within.f ((rd_T33 l0 x7_1).f3) 9).bind fun t118 => ((tolllaw10_within.f ((rd_T33 l0 x7_1).f5) 1000).bind fun t119 => ((tolllaw10_within.f ((rd_T33 l0 x7_1).f7) 9).bind fun t120 => ((tolllaw10_within.f ((rd_T33 l0 x7_1).f8) 9).bind fun t121 => ((tolllaw10_within.f ((rd_T33 l0 x7_1).f4) 1000).bind fun t122 => (if x5_1.length < 1954687338268 then (tolllaw10_Good.l0 kj2 l0 a1 (x5_1 ++ [(⟨wrap64 ((wrap64 (x6_1 + 1)) + t115), t116, mx 0 (wrap64 ((wrap64 (a1 - 5)) + t117)), wrap64 ((wrap64 ((mx 0 (wrap64 ((wrap64 (a1 - 5)) + t117))) + 1)) + t118), wrap64 ((wrap64 ((wrap64 (t119 + t120)) + t121)) + t122), t119, 0, t120, t121⟩ : S33)]) (wrap64 ((wrap64 (x6_1 + 1)) + t115)) (wrap64 (x7_1 + 1))) else (none))))))))) = some r := H
           have A8 := Aside0.mk A80
           clear A80
           replace H := Option.bind_eq_some_iff.mp H
           obtain ⟨t116, A90, H⟩ := H
           replace H : ((tolllaw10_within.f ((rd_T33 l0 x7_1).f2) 8).bind fun t117 => ((tolllaw10_within.f ((rd_T33 l0 x7_1).f3) 9).bind fun t118 => ((tolllaw10_within.f ((rd_T33 l0 x7_1).f5) 1000).bind fun t119 => ((tolllaw10_within.f ((rd_T33 l0 x7_1).f7) 9).bind fun t120 => ((tolllaw10_within.f ((rd_T33 l0 x7_1).f8) 9).bind fun t121 => ((tolllaw10_within.f ((rd_T33 l0 x7_1).f4) 1000).bind fun t122 => (if x5_1.length < 1954687338268 then (tolllaw10_Good.l0 kj2 l0 a1 (x5_1 ++ [(⟨wrap64 ((wrap64 (x6_1 + 1)) + t115), t116, mx 0 (wrap64 ((wrap64 (a1 - 5)) + t117)), wrap64 ((wrap64 ((mx 0 (wrap64 ((wrap64 (a1 - 5)) + t117))) + 1)) + t118), wrap64 ((wrap64 ((wrap64 (t119 + t120)) + t121)) + t122), t119, 0, t120, t121⟩ : S33)]) (wrap64 ((wrap64 (x6_1 + 1)) + t115)) (wrap64 (x7_1 + 1))) else (none)))))))) = some r := H
           have A9 := Aside0.mk A90
           clear A90
           replace H := Option.bind_eq_some_iff.mp H
           obtain ⟨t117, A100, H⟩ := H
           replace H : ((tolllaw10_within.f ((rd_T33 l0 x7_1).f3) 9).bind fun t118 => ((tolllaw10_within.f ((rd_T33 l0 x7_1).f5) 1000).bind fun t119 => ((tolllaw10_within.f ((rd_T33 l0 x7_1).f7) 9).bind fun t120 => ((tolllaw10_within.f ((rd_T33 l0 x7_1).f8) 9).bind fun t121 => ((tolllaw10_within.f ((rd_T33 l0 x7_1).f4) 1000).bind fun t122 => (if x5_1.length < 1954687338268 then (tolllaw10_Good.l0 kj2 l0 a1 (x5_1 ++ [(⟨wrap64 ((wrap64 (x6_1 + 1)) + t115), t116, mx 0 (wrap64 ((wrap64 (a1 - 5)) + t117)), wrap64 ((wrap64 ((mx 0 (wrap64 ((wrap64 (a1 - 5)) + t117))) + 1)) + t118), wrap64 ((wrap64 ((wrap64 (t119 + t120)) + t121)) + t122), t119, 0, t120, t121⟩ : S33)]) (wrap64 ((wrap64 (x6_1 + 1)) + t115)) (wrap64 (x7_1 + 1))) else (none))))))) = some r := H
           have A10 := Aside0.mk A100
           clear A100
           obtain ⟨ji11, hji11⟩ : ∃ j_ : Int, (mx 0 (wrap64 ((wrap64 (a1 - 5)) + t117))) = j_ := ⟨_, rfl⟩
           replace H : ((tolllaw10_within.f ((rd_T33 l0 x7_1).f3) 9).bind fun t118 => ((tolllaw10_within.f ((rd_T33 l0 x7_1).f5) 1000).bind fun t119 => ((tolllaw10_within.f ((rd_T33 l0 x7_1).f7) 9).bind fun t120 => ((tolllaw10_within.f ((rd_T33 l0 x7_1).f8) 9).bind fun t121 => ((tolllaw10_within.f ((rd_T33 l0 x7_1).f4) 1000).bind fun t122 => (if x5_1.length < 1954687338268 then (tolllaw10_Good.l0 kj2 l0 a1 (x5_1 ++ [(⟨wrap64 ((wrap64 (x6_1 + 1)) + t115), t116, ji11, wrap64 ((wrap64 ((ji11) + 1)) + t118), wrap64 ((wrap64 ((wrap64 (t119 + t120)) + t121)) + t122), t119, 0, t120, t121⟩ : S33)]) (wrap64 ((wrap64 (x6_1 + 1)) + t115)) (wrap64 (x7_1 + 1))) else (none))))))) = some r := by first | (rw [hji11] at H; exact H) | (simp only [hji11] at H ⊢; exact H)
           (try rw [hji11] at A8)
           (try rw [hji11] at A9)
           (try rw [hji11] at A10)
           have hji11_ : (if 0 < (wrap64 ((wrap64 (a1 - 5)) + t117)) then (wrap64 ((wrap64 (a1 - 5)) + t117)) else 0) = ji11 := hji11
           replace H := Option.bind_eq_some_iff.mp H
           obtain ⟨t118, A120, H⟩ := H
           replace H : ((tolllaw10_within.f ((rd_T33 l0 x7_1).f5) 1000).bind fun t119 => ((tolllaw10_within.f ((rd_T33 l0 x7_1).f7) 9).bind fun t120 => ((tolllaw10_within.f ((rd_T33 l0 x7_1).f8) 9).bind fun t121 => ((tolllaw10_within.f ((rd_T33 l0 x7_1).f4) 1000).bind fun t122 => (if x5_1.length < 1954687338268 then (tolllaw10_Good.l0 kj2 l0 a1 (x5_1 ++ [(⟨wrap64 ((wrap64 (x6_1 + 1)) + t115), t116, ji11, wrap64 ((wrap64 ((ji11) + 1)) + t118), wrap64 ((wrap64 ((wrap64 (t119 + t120)) + t121)) + t122), t119, 0, t120, t121⟩ : S33)]) (wrap64 ((wrap64 (x6_1 + 1)) + t115)) (wrap64 (x7_1 + 1))) else (none)))))) = some r := H
           have A12 := Aside0.mk A120
           clear A120
           replace H := Option.bind_eq_some_iff.mp H
           obtain ⟨t119, A130, H⟩ := H
           replace H : ((tolllaw10_within.f ((rd_T33 l0 x7_1).f7) 9).bind fun t120 => ((tolllaw10_within.f ((rd_T33 l0 x7_1).f8) 9).bind fun t121 => ((tolllaw10_within.f ((rd_T33 l0 x7_1).f4) 1000).bind fun t122 => (if x5_1.length < 1954687338268 then (tolllaw10_Good.l0 kj2 l0 a1 (x5_1 ++ [(⟨wrap64 ((wrap64 (x6_1 + 1)) + t115), t116, ji11, wrap64 ((wrap64 ((ji11) + 1)) + t118), wrap64 ((wrap64 ((wrap64 (t119 + t120)) + t121)) + t122), t119, 0, t120, t121⟩ : S33)]) (wrap64 ((wrap64 (x6_1 + 1)) + t115)) (wrap64 (x7_1 + 1))) else (none))))) = some r := H
           have A13 := Aside0.mk A130
           clear A130
           replace H := Option.bind_eq_some_iff.mp H
           obtain ⟨t120, A140, H⟩ := H
           replace H : ((tolllaw10_within.f ((rd_T33 l0 x7_1).f8) 9).bind fun t121 => ((tolllaw10_within.f ((rd_T33 l0 x7_1).f4) 1000).bind fun t122 => (if x5_1.length < 1954687338268 then (tolllaw10_Good.l0 kj2 l0 a1 (x5_1 ++ [(⟨wrap64 ((wrap64 (x6_1 + 1)) + t115), t116, ji11, wrap64 ((wrap64 ((ji11) + 1)) + t118), wrap64 ((wrap64 ((wrap64 (t119 + t120)) + t121)) + t122), t119, 0, t120, t121⟩ : S33)]) (wrap64 ((wrap64 (x6_1 + 1)) + t115)) (wrap64 (x7_1 + 1))) else (none)))) = some r := H
           have A14 := Aside0.mk A140
           clear A140
           replace H := Option.bind_eq_some_iff.mp H
           obtain ⟨t121, A150, H⟩ := H
           replace H : ((tolllaw10_within.f ((rd_T33 l0 x7_1).f4) 1000).bind fun t122 => (if x5_1.length < 1954687338268 then (tolllaw10_Good.l0 kj2 l0 a1 (x5_1 ++ [(⟨wrap64 ((wrap64 (x6_1 + 1)) + t115), t116, ji11, wrap64 ((wrap64 ((ji11) + 1)) + t118), wrap64 ((wrap64 ((wrap64 (t119 + t120)) + t121)) + t122), t119, 0, t120, t121⟩ : S33)]) (wrap64 ((wrap64 (x6_1 + 1)) + t115)) (wrap64 (x7_1 + 1))) else (none))) = some r := H
           have A15 := Aside0.mk A150
           clear A150
           replace H := Option.bind_eq_some_iff.mp H
           obtain ⟨t122, A160, H⟩ := H
           replace H : (if x5_1.length < 1954687338268 then (tolllaw10_Good.l0 kj2 l0 a1 (x5_1 ++ [(⟨wrap64 ((wrap64 (x6_1 + 1)) + t115), t116, ji11, wrap64 ((wrap64 ((ji11) + 1)) + t118), wrap64 ((wrap64 ((wrap64 (t119 + t120)) + t121)) + t122), t119, 0, t120, t121⟩ : S33)]) (wrap64 ((wrap64 (x6_1 + 1)) + t115)) (wrap64 (x7_1 + 1))) else (none)) = some r := H
           have A16 := Aside0.mk A160
           clear A160
           by_cases c17 : x5_1.length < 1954687338268
           · rw [if_pos c17] at H
             have LMc17 := Aside0.mk c17
             clear c17
             obtain ⟨y123, hy123⟩ : ∃ y_ : List (S33), y_ = (x5_1 ++ [(⟨wrap64 ((wrap64 (x6_1 + 1)) + t115), t116, ji11, wrap64 ((wrap64 ((ji11) + 1)) + t118), wrap64 ((wrap64 ((wrap64 (t119 + t120)) + t121)) + t122), t119, 0, t120, t121⟩ : S33)]) := ⟨_, rfl⟩
             replace H : (tolllaw10_Good.l0 kj2 l0 a1 y123 (wrap64 ((wrap64 (x6_1 + 1)) + t115)) (wrap64 (x7_1 + 1))) = some r := by first | (rw [hy123]; with_reducible exact H) | (have H2_ := (Option.bind_some _ _).symm.trans H; rw [hy123]; with_reducible exact H2_) | (have H2_ := (Option.bind_some _ _).symm.trans H; with_reducible exact H2_) | with_reducible exact H | (rw [hy123]; exact H) | exact H
             have Ny123 := Aside0.mk hy123
             clear hy123
             have H' := Aside0.mk H
             clear H
             have p113 : 0 ≤ (x7_1 : Int) := of_decide_eq_true (by first | (with_reducible assumption) | assumption)
             have q113 : x7_1 < (l0.length : Int) := of_decide_eq_true (by first | (with_reducible assumption) | assumption)
             obtain ⟨ad113, e113, hx113_0, hx113_1, hx113_2, hx113_3, hx113_4, hx113_5, hx113_6, hx113_7, hx113_8⟩ := at_T33 HR0.out x7_1 p113 q113
             cases e113
             replace hx113_0 := (HB.out.cell (World.block_lt_of_cell? w _ hx113_0)).trans hx113_0
             replace hx113_1 := (HB.out.cell (World.block_lt_of_cell? w _ hx113_1)).trans hx113_1
             replace hx113_2 := (HB.out.cell (World.block_lt_of_cell? w _ hx113_2)).trans hx113_2
             replace hx113_3 := (HB.out.cell (World.block_lt_of_cell? w _ hx113_3)).trans hx113_3
             replace hx113_4 := (HB.out.cell (World.block_lt_of_cell? w _ hx113_4)).trans hx113_4
             replace hx113_5 := (HB.out.cell (World.block_lt_of_cell? w _ hx113_5)).trans hx113_5
             replace hx113_6 := (HB.out.cell (World.block_lt_of_cell? w _ hx113_6)).trans hx113_6
             replace hx113_7 := (HB.out.cell (World.block_lt_of_cell? w _ hx113_7)).trans hx113_7
             replace hx113_8 := (HB.out.cell (World.block_lt_of_cell? w _ hx113_8)).trans hx113_8
             replace p113 := eq_true p113
             replace q113 := eq_true q113
             try go_wp2_with (first | ((with_reducible refine gate_dst (N := 8) rfl ?_); refine box_event ?hg (N := 8) ?hd (cs := #[.int .i64 0, .int .i64 0, .int .i64 0, .int .i64 0, .int .i64 0, .int .i64 0, .int .i64 0, .int .i64 0, .int .i64 0]) (t := 33) ?hr ?_; (case hd => rfl); (case hg => rfl); (case hr => first | (go_simp; done) | (go_simp; rfl)); intro gb114 hg w18 hbox hb; have n0_ := Aside0.mk (Kd.R_below (Kd.R_elderB (by (with_reducible repeat (first | apply Kd.R_alloc | apply Kd.R_drewN | apply Kd.R_drew)); exact HO_5.out) gb114 (Nat.le_of_eq hg.symm)) hb); have n1_ := Aside0.mk (below_step (by repeat (first | (with_reducible first | exact HB.out | apply below_alloc | apply pw_below_drewN | apply below_drew1) | exact HB.out)) hb); have n2_ := Aside0.mk (hbox); have n3_ := Aside0.mk ((by rw [hg]; exact (below_size (by repeat (first | (with_reducible first | exact HB.out | apply below_alloc | apply pw_below_drewN | apply below_drew1) | exact HB.out))) : w.heap.size ≤ gb114)); have n4_ := Aside0.mk ((by rw [hg]; exact (below_size (by repeat (first | (with_reducible first | exact HB.out | apply below_alloc | apply pw_below_drewN | apply below_drew1) | exact HB.out))) : w.heap.size ≤ gb114)); clear HO_5; clear HB; have HO_5 := n0_; have HB := n1_; have BK114 := n2_; have GW114 := n3_; have GE114 := n4_; clear n0_ n1_ n2_ n3_ n4_; clear hb hbox hg; have hcz19_0 : w18.cell? ⟨gb114, 0, none⟩ = some (.int .i64 0) := (blk_cell BK114.out 0).trans rfl; have hcz19_1 : w18.cell? ⟨gb114, 1, none⟩ = some (.int .i64 0) := (blk_cell BK114.out 1).trans rfl; have hcz19_2 : w18.cell? ⟨gb114, 2, none⟩ = some (.int .i64 0) := (blk_cell BK114.out 2).trans rfl; have hcz19_3 : w18.cell? ⟨gb114, 3, none⟩ = some (.int .i64 0) := (blk_cell BK114.out 3).trans rfl; have hcz19_4 : w18.cell? ⟨gb114, 4, none⟩ = some (.int .i64 0) := (blk_cell BK114.out 4).trans rfl; have hcz19_5 : w18.cell? ⟨gb114, 5, none⟩ = some (.int .i64 0) := (blk_cell BK114.out 5).trans rfl; have hcz19_6 : w18.cell? ⟨gb114, 6, none⟩ = some (.int .i64 0) := (blk_cell BK114.out 6).trans rfl; have hcz19_7 : w18.cell? ⟨gb114, 7, none⟩ = some (.int .i64 0) := (blk_cell BK114.out 7).trans rfl; have hcz19_8 : w18.cell? ⟨gb114, 8, none⟩ = some (.int .i64 0) := (blk_cell BK114.out 8).trans rfl; have hfz19_0 := blk_frozen BK114.out 0; have hfz19_1 := blk_frozen BK114.out 1; have hfz19_2 := blk_frozen BK114.out 2; have hfz19_3 := blk_frozen BK114.out 3; have hfz19_4 := blk_frozen BK114.out 4; have hfz19_5 := blk_frozen BK114.out 5; have hfz19_6 := blk_frozen BK114.out 6; have hfz19_7 := blk_frozen BK114.out 7; have hfz19_8 := blk_frozen BK114.out 8) | ((with_reducible refine gate_callee (f := 13) rfl ?_); have n0_ : Aside0 (Kd.R k33 33 (((((((((w18.setCell ⟨gb114, 0, none⟩ (.int .i64 ((rd_T33 l0 x7_1).f0))).setCell ⟨gb114, 1, none⟩ (.int .i64 ((rd_T33 l0 x7_1).f1))).setCell ⟨gb114, 2, none⟩ (.int .i64 ((rd_T33 l0 x7_1).f2))).setCell ⟨gb114, 3, none⟩ (.int .i64 ((rd_T33 l0 x7_1).f3))).setCell ⟨gb114, 4, none⟩ (.int .i64 ((rd_T33 l0 x7_1).f4))).setCell ⟨gb114, 5, none⟩ (.int .i64 ((rd_T33 l0 x7_1).f5))).setCell ⟨gb114, 6, none⟩ (.int .i64 ((rd_T33 l0 x7_1).f6))).setCell ⟨gb114, 7, none⟩ (.int .i64 ((rd_T33 l0 x7_1).f7))).setCell ⟨gb114, 8, none⟩ (.int .i64 ((rd_T33 l0 x7_1).f8))) w.heap.size (fun k_ => k_ ≠ gb114) u5 x5_1) := ⟨by (with_reducible repeat (first | apply Kd.R_alloc | apply Kd.R_drewN | apply Kd.R_drew)); exact Kd.R_mono (Kd.R_far (p := ⟨gb114, 8, none⟩) (Kd.R_far (p := ⟨gb114, 7, none⟩) (Kd.R_far (p := ⟨gb114, 6, none⟩) (Kd.R_far (p := ⟨gb114, 5, none⟩) (Kd.R_far (p := ⟨gb114, 4, none⟩) (Kd.R_far (p := ⟨gb114, 3, none⟩) (Kd.R_far (p := ⟨gb114, 2, none⟩) (Kd.R_far (p := ⟨gb114, 1, none⟩) (Kd.R_far (p := ⟨gb114, 0, none⟩) (Kd.R_mono HO_5.out (fun k_ hk => (⟨hk, hk.2⟩ : _ ∧ k_ ≠ gb114))) (fun _ hk => hk.2) (.int .i64 ((rd_T33 l0 x7_1).f0))) (fun _ hk => hk.2) (.int .i64 ((rd_T33 l0 x7_1).f1))) (fun _ hk => hk.2) (.int .i64 ((rd_T33 l0 x7_1).f2))) (fun _ hk => hk.2) (.int .i64 ((rd_T33 l0 x7_1).f3))) (fun _ hk => hk.2) (.int .i64 ((rd_T33 l0 x7_1).f4))) (fun _ hk => hk.2) (.int .i64 ((rd_T33 l0 x7_1).f5))) (fun _ hk => hk.2) (.int .i64 ((rd_T33 l0 x7_1).f6))) (fun _ hk => hk.2) (.int .i64 ((rd_T33 l0 x7_1).f7))) (fun _ hk => hk.2) (.int .i64 ((rd_T33 l0 x7_1).f8))) (fun _ hk => hk.1.2)⟩; have n1_ : Aside0 ((((((((((w18.setCell ⟨gb114, 0, none⟩ (.int .i64 ((rd_T33 l0 x7_1).f0))).setCell ⟨gb114, 1, none⟩ (.int .i64 ((rd_T33 l0 x7_1).f1))).setCell ⟨gb114, 2, none⟩ (.int .i64 ((rd_T33 l0 x7_1).f2))).setCell ⟨gb114, 3, none⟩ (.int .i64 ((rd_T33 l0 x7_1).f3))).setCell ⟨gb114, 4, none⟩ (.int .i64 ((rd_T33 l0 x7_1).f4))).setCell ⟨gb114, 5, none⟩ (.int .i64 ((rd_T33 l0 x7_1).f5))).setCell ⟨gb114, 6, none⟩ (.int .i64 ((rd_T33 l0 x7_1).f6))).setCell ⟨gb114, 7, none⟩ (.int .i64 ((rd_T33 l0 x7_1).f7))).setCell ⟨gb114, 8, none⟩ (.int .i64 ((rd_T33 l0 x7_1).f8))).heap[gb114]? = some (.cells #[.int .i64 ((rd_T33 l0 x7_1).f0), .int .i64 ((rd_T33 l0 x7_1).f1), .int .i64 ((rd_T33 l0 x7_1).f2), .int .i64 ((rd_T33 l0 x7_1).f3), .int .i64 ((rd_T33 l0 x7_1).f4), .int .i64 ((rd_T33 l0 x7_1).f5), .int .i64 ((rd_T33 l0 x7_1).f6), .int .i64 ((rd_T33 l0 x7_1).f7), .int .i64 ((rd_T33 l0 x7_1).f8)] 33 (0, 0))) := ⟨by (with_reducible repeat (first | refine blk_drewN ?_ _ | refine blk_drew ?_ | refine blk_alloc ?_ _)); refine blk_put (cs := #[.int .i64 ((rd_T33 l0 x7_1).f0), .int .i64 ((rd_T33 l0 x7_1).f1), .int .i64 ((rd_T33 l0 x7_1).f2), .int .i64 ((rd_T33 l0 x7_1).f3), .int .i64 ((rd_T33 l0 x7_1).f4), .int .i64 ((rd_T33 l0 x7_1).f5), .int .i64 ((rd_T33 l0 x7_1).f6), .int .i64 ((rd_T33 l0 x7_1).f7), .int .i64 0]) ?_ 8 _ rfl; (with_reducible repeat (first | refine blk_drewN ?_ _ | refine blk_drew ?_ | refine blk_alloc ?_ _)); refine blk_put (cs := #[.int .i64 ((rd_T33 l0 x7_1).f0), .int .i64 ((rd_T33 l0 x7_1).f1), .int .i64 ((rd_T33 l0 x7_1).f2), .int .i64 ((rd_T33 l0 x7_1).f3), .int .i64 ((rd_T33 l0 x7_1).f4), .int .i64 ((rd_T33 l0 x7_1).f5), .int .i64 ((rd_T33 l0 x7_1).f6), .int .i64 0, .int .i64 0]) ?_ 7 _ rfl; (with_reducible repeat (first | refine blk_drewN ?_ _ | refine blk_drew ?_ | refine blk_alloc ?_ _)); refine blk_put (cs := #[.int .i64 ((rd_T33 l0 x7_1).f0), .int .i64 ((rd_T33 l0 x7_1).f1), .int .i64 ((rd_T33 l0 x7_1).f2), .int .i64 ((rd_T33 l0 x7_1).f3), .int .i64 ((rd_T33 l0 x7_1).f4), .int .i64 ((rd_T33 l0 x7_1).f5), .int .i64 0, .int .i64 0, .int .i64 0]) ?_ 6 _ rfl; (with_reducible repeat (first | refine blk_drewN ?_ _ | refine blk_drew ?_ | refine blk_alloc ?_ _)); refine blk_put (cs := #[.int .i64 ((rd_T33 l0 x7_1).f0), .int .i64 ((rd_T33 l0 x7_1).f1), .int .i64 ((rd_T33 l0 x7_1).f2), .int .i64 ((rd_T33 l0 x7_1).f3), .int .i64 ((rd_T33 l0 x7_1).f4), .int .i64 0, .int .i64 0, .int .i64 0, .int .i64 0]) ?_ 5 _ rfl; (with_reducible repeat (first | refine blk_drewN ?_ _ | refine blk_drew ?_ | refine blk_alloc ?_ _)); refine blk_put (cs := #[.int .i64 ((rd_T33 l0 x7_1).f0), .int .i64 ((rd_T33 l0 x7_1).f1), .int .i64 ((rd_T33 l0 x7_1).f2), .int .i64 ((rd_T33 l0 x7_1).f3), .int .i64 0, .int .i64 0, .int .i64 0, .int .i64 0, .int .i64 0]) ?_ 4 _ rfl; (with_reducible repeat (first | refine blk_drewN ?_ _ | refine blk_drew ?_ | refine blk_alloc ?_ _)); refine blk_put (cs := #[.int .i64 ((rd_T33 l0 x7_1).f0), .int .i64 ((rd_T33 l0 x7_1).f1), .int .i64 ((rd_T33 l0 x7_1).f2), .int .i64 0, .int .i64 0, .int .i64 0, .int .i64 0, .int .i64 0, .int .i64 0]) ?_ 3 _ rfl; (with_reducible repeat (first | refine blk_drewN ?_ _ | refine blk_drew ?_ | refine blk_alloc ?_ _)); refine blk_put (cs := #[.int .i64 ((rd_T33 l0 x7_1).f0), .int .i64 ((rd_T33 l0 x7_1).f1), .int .i64 0, .int .i64 0, .int .i64 0, .int .i64 0, .int .i64 0, .int .i64 0, .int .i64 0]) ?_ 2 _ rfl; (with_reducible repeat (first | refine blk_drewN ?_ _ | refine blk_drew ?_ | refine blk_alloc ?_ _)); refine blk_put (cs := #[.int .i64 ((rd_T33 l0 x7_1).f0), .int .i64 0, .int .i64 0, .int .i64 0, .int .i64 0, .int .i64 0, .int .i64 0, .int .i64 0, .int .i64 0]) ?_ 1 _ rfl; (with_reducible repeat (first | refine blk_drewN ?_ _ | refine blk_drew ?_ | refine blk_alloc ?_ _)); refine blk_put (cs := #[.int .i64 0, .int .i64 0, .int .i64 0, .int .i64 0, .int .i64 0, .int .i64 0, .int .i64 0, .int .i64 0, .int .i64 0]) ?_ 0 _ rfl; (with_reducible repeat (first | refine blk_drewN ?_ _ | refine blk_drew ?_ | refine blk_alloc ?_ _)); exact BK114.out⟩; have n2_ : Aside0 (Below w.heap.size w (((((((((w18.setCell ⟨gb114, 0, none⟩ (.int .i64 ((rd_T33 l0 x7_1).f0))).setCell ⟨gb114, 1, none⟩ (.int .i64 ((rd_T33 l0 x7_1).f1))).setCell ⟨gb114, 2, none⟩ (.int .i64 ((rd_T33 l0 x7_1).f2))).setCell ⟨gb114, 3, none⟩ (.int .i64 ((rd_T33 l0 x7_1).f3))).setCell ⟨gb114, 4, none⟩ (.int .i64 ((rd_T33 l0 x7_1).f4))).setCell ⟨gb114, 5, none⟩ (.int .i64 ((rd_T33 l0 x7_1).f5))).setCell ⟨gb114, 6, none⟩ (.int .i64 ((rd_T33 l0 x7_1).f6))).setCell ⟨gb114, 7, none⟩ (.int .i64 ((rd_T33 l0 x7_1).f7))).setCell ⟨gb114, 8, none⟩ (.int .i64 ((rd_T33 l0 x7_1).f8)))) := ⟨by repeat (first | (with_reducible first | exact HB.out | apply below_alloc | apply pw_below_drewN | apply below_drew1 | refine below_set ?_ GE114.out) | exact HB.out)⟩; (try clear HO_5); (try clear BK114); (try clear HB); generalize (((((((((w18.setCell ⟨gb114, 0, none⟩ (.int .i64 ((rd_T33 l0 x7_1).f0))).setCell ⟨gb114, 1, none⟩ (.int .i64 ((rd_T33 l0 x7_1).f1))).setCell ⟨gb114, 2, none⟩ (.int .i64 ((rd_T33 l0 x7_1).f2))).setCell ⟨gb114, 3, none⟩ (.int .i64 ((rd_T33 l0 x7_1).f3))).setCell ⟨gb114, 4, none⟩ (.int .i64 ((rd_T33 l0 x7_1).f4))).setCell ⟨gb114, 5, none⟩ (.int .i64 ((rd_T33 l0 x7_1).f5))).setCell ⟨gb114, 6, none⟩ (.int .i64 ((rd_T33 l0 x7_1).f6))).setCell ⟨gb114, 7, none⟩ (.int .i64 ((rd_T33 l0 x7_1).f7))).setCell ⟨gb114, 8, none⟩ (.int .i64 ((rd_T33 l0 x7_1).f8))) = w20 at n0_ n1_ n2_ ⊢; have HO_5 := n0_; have BK114 := n1_; have HB := n2_; clear n0_ n1_ n2_; refine goesL_ (some 27) rfl rfl Try.func13 (by kernel_rfl) rfl #[.int .i64 ((rd_T33 l0 x7_1).f0), .int .i64 3] rfl (by (try simp only [List.map_toArray, List.map_cons, List.map_nil]); first | done | rfl | (simp only [List.length_drop, List.length_take]; rfl)) ?_; (with_reducible refine (tolllaw10_within.calls ((rd_T33 l0 x7_1).f0) 3 t115 _ A8.out).mono ?_); rintro e w' ⟨rfl, rfl⟩; refine ⟨_, rfl, ?_⟩; (try (rw [drewN_self w20]; generalize hq_ : World.drewN w20 _ = w20; have n0_ : Aside0 (Kd.R k33 33 w20 w.heap.size (fun k_ => k_ ≠ gb114) u5 x5_1) := ⟨by rw [← hq_]; exact (by (with_reducible repeat (first | apply Kd.R_alloc | apply Kd.R_drewN | apply Kd.R_drew)); exact HO_5.out)⟩; have n1_ : Aside0 (w20.heap[gb114]? = some (.cells #[.int .i64 ((rd_T33 l0 x7_1).f0), .int .i64 ((rd_T33 l0 x7_1).f1), .int .i64 ((rd_T33 l0 x7_1).f2), .int .i64 ((rd_T33 l0 x7_1).f3), .int .i64 ((rd_T33 l0 x7_1).f4), .int .i64 ((rd_T33 l0 x7_1).f5), .int .i64 ((rd_T33 l0 x7_1).f6), .int .i64 ((rd_T33 l0 x7_1).f7), .int .i64 ((rd_T33 l0 x7_1).f8)] 33 (0, 0))) := ⟨by rw [← hq_]; exact (by (with_reducible repeat (first | refine blk_drewN ?_ _ | refine blk_drew ?_ | refine blk_alloc ?_ _)); exact BK114.out)⟩; have n2_ : Aside0 (Below w.heap.size w w20) := ⟨by rw [← hq_]; exact (by repeat (first | (with_reducible first | exact HB.out | apply below_alloc | apply pw_below_drewN | apply below_drew1 | refine below_set ?_ GE114.out) | exact HB.out))⟩; clear HO_5 BK114 HB hq_; have HO_5 := n0_; have BK114 := n1_; have HB := n2_; clear n0_ n1_ n2_)); have hcz21_0 : w20.cell? ⟨gb114, 0, none⟩ = some (.int .i64 ((rd_T33 l0 x7_1).f0)) := (blk_cell BK114.out 0).trans rfl; have hcz21_1 : w20.cell? ⟨gb114, 1, none⟩ = some (.int .i64 ((rd_T33 l0 x7_1).f1)) := (blk_cell BK114.out 1).trans rfl; have hcz21_2 : w20.cell? ⟨gb114, 2, none⟩ = some (.int .i64 ((rd_T33 l0 x7_1).f2)) := (blk_cell BK114.out 2).trans rfl; have hcz21_3 : w20.cell? ⟨gb114, 3, none⟩ = some (.int .i64 ((rd_T33 l0 x7_1).f3)) := (blk_cell BK114.out 3).trans rfl; have hcz21_4 : w20.cell? ⟨gb114, 4, none⟩ = some (.int .i64 ((rd_T33 l0 x7_1).f4)) := (blk_cell BK114.out 4).trans rfl; have hcz21_5 : w20.cell? ⟨gb114, 5, none⟩ = some (.int .i64 ((rd_T33 l0 x7_1).f5)) := (blk_cell BK114.out 5).trans rfl; have hcz21_6 : w20.cell? ⟨gb114, 6, none⟩ = some (.int .i64 ((rd_T33 l0 x7_1).f6)) := (blk_cell BK114.out 6).trans rfl; have hcz21_7 : w20.cell? ⟨gb114, 7, none⟩ = some (.int .i64 ((rd_T33 l0 x7_1).f7)) := (blk_cell BK114.out 7).trans rfl; have hcz21_8 : w20.cell? ⟨gb114, 8, none⟩ = some (.int .i64 ((rd_T33 l0 x7_1).f8)) := (blk_cell BK114.out 8).trans rfl; have hfz21_0 := blk_frozen BK114.out 0; have hfz21_1 := blk_frozen BK114.out 1; have hfz21_2 := blk_frozen BK114.out 2; have hfz21_3 := blk_frozen BK114.out 3; have hfz21_4 := blk_frozen BK114.out 4; have hfz21_5 := blk_frozen BK114.out 5; have hfz21_6 := blk_frozen BK114.out 6; have hfz21_7 := blk_frozen BK114.out 7; have hfz21_8 := blk_frozen BK114.out 8) | ((with_reducible refine gate_callee (f := 13) rfl ?_); have n0_ : Aside0 (Kd.R k33 33 (w20.setCell ⟨gb114, 0, none⟩ (.int .i64 (wrap64 ((wrap64 (x6_1 + 1)) + t115)))) w.heap.size (fun k_ => k_ ≠ gb114) u5 x5_1) := ⟨by (with_reducible repeat (first | apply Kd.R_alloc | apply Kd.R_drewN | apply Kd.R_drew)); exact Kd.R_mono (Kd.R_far (p := ⟨gb114, 0, none⟩) (Kd.R_mono HO_5.out (fun k_ hk => (⟨hk, hk⟩ : _ ∧ k_ ≠ gb114))) (fun _ hk => hk.2) (.int .i64 (wrap64 ((wrap64 (x6_1 + 1)) + t115)))) (fun _ hk => hk.1)⟩; have n1_ : Aside0 ((w20.setCell ⟨gb114, 0, none⟩ (.int .i64 (wrap64 ((wrap64 (x6_1 + 1)) + t115)))).heap[gb114]? = some (.cells #[.int .i64 (wrap64 ((wrap64 (x6_1 + 1)) + t115)), .int .i64 ((rd_T33 l0 x7_1).f1), .int .i64 ((rd_T33 l0 x7_1).f2), .int .i64 ((rd_T33 l0 x7_1).f3), .int .i64 ((rd_T33 l0 x7_1).f4), .int .i64 ((rd_T33 l0 x7_1).f5), .int .i64 ((rd_T33 l0 x7_1).f6), .int .i64 ((rd_T33 l0 x7_1).f7), .int .i64 ((rd_T33 l0 x7_1).f8)] 33 (0, 0))) := ⟨by (with_reducible repeat (first | refine blk_drewN ?_ _ | refine blk_drew ?_ | refine blk_alloc ?_ _)); refine blk_put (cs := #[.int .i64 ((rd_T33 l0 x7_1).f0), .int .i64 ((rd_T33 l0 x7_1).f1), .int .i64 ((rd_T33 l0 x7_1).f2), .int .i64 ((rd_T33 l0 x7_1).f3), .int .i64 ((rd_T33 l0 x7_1).f4), .int .i64 ((rd_T33 l0 x7_1).f5), .int .i64 ((rd_T33 l0 x7_1).f6), .int .i64 ((rd_T33 l0 x7_1).f7), .int .i64 ((rd_T33 l0 x7_1).f8)]) ?_ 0 _ rfl; (with_reducible repeat (first | refine blk_drewN ?_ _ | refine blk_drew ?_ | refine blk_alloc ?_ _)); exact BK114.out⟩; have n2_ : Aside0 (Below w.heap.size w (w20.setCell ⟨gb114, 0, none⟩ (.int .i64 (wrap64 ((wrap64 (x6_1 + 1)) + t115))))) := ⟨by repeat (first | (with_reducible first | exact HB.out | apply below_alloc | apply pw_below_drewN | apply below_drew1 | refine below_set ?_ GE114.out) | exact HB.out)⟩; (try clear HO_5); (try clear BK114); (try clear HB); generalize (w20.setCell ⟨gb114, 0, none⟩ (.int .i64 (wrap64 ((wrap64 (x6_1 + 1)) + t115)))) = w22 at n0_ n1_ n2_ ⊢; have HO_5 := n0_; have BK114 := n1_; have HB := n2_; clear n0_ n1_ n2_; refine goesL_ (some 33) rfl rfl Try.func13 (by kernel_rfl) rfl #[.int .i64 ((rd_T33 l0 x7_1).f1), .int .i64 3] rfl (by (try simp only [List.map_toArray, List.map_cons, List.map_nil]); first | done | rfl | (simp only [List.length_drop, List.length_take]; rfl)) ?_; (with_reducible refine (tolllaw10_within.calls ((rd_T33 l0 x7_1).f1) 3 t116 _ A9.out).mono ?_); rintro e w' ⟨rfl, rfl⟩; refine ⟨_, rfl, ?_⟩; (try (rw [drewN_self w22]; generalize hq_ : World.drewN w22 _ = w22; have n0_ : Aside0 (Kd.R k33 33 w22 w.heap.size (fun k_ => k_ ≠ gb114) u5 x5_1) := ⟨by rw [← hq_]; exact (by (with_reducible repeat (first | apply Kd.R_alloc | apply Kd.R_drewN | apply Kd.R_drew)); exact HO_5.out)⟩; have n1_ : Aside0 (w22.heap[gb114]? = some (.cells #[.int .i64 (wrap64 ((wrap64 (x6_1 + 1)) + t115)), .int .i64 ((rd_T33 l0 x7_1).f1), .int .i64 ((rd_T33 l0 x7_1).f2), .int .i64 ((rd_T33 l0 x7_1).f3), .int .i64 ((rd_T33 l0 x7_1).f4), .int .i64 ((rd_T33 l0 x7_1).f5), .int .i64 ((rd_T33 l0 x7_1).f6), .int .i64 ((rd_T33 l0 x7_1).f7), .int .i64 ((rd_T33 l0 x7_1).f8)] 33 (0, 0))) := ⟨by rw [← hq_]; exact (by (with_reducible repeat (first | refine blk_drewN ?_ _ | refine blk_drew ?_ | refine blk_alloc ?_ _)); exact BK114.out)⟩; have n2_ : Aside0 (Below w.heap.size w w22) := ⟨by rw [← hq_]; exact (by repeat (first | (with_reducible first | exact HB.out | apply below_alloc | apply pw_below_drewN | apply below_drew1 | refine below_set ?_ GE114.out) | exact HB.out))⟩; clear HO_5 BK114 HB hq_; have HO_5 := n0_; have BK114 := n1_; have HB := n2_; clear n0_ n1_ n2_)); have hcz23_0 : w22.cell? ⟨gb114, 0, none⟩ = some (.int .i64 (wrap64 ((wrap64 (x6_1 + 1)) + t115))) := (blk_cell BK114.out 0).trans rfl; have hcz23_1 : w22.cell? ⟨gb114, 1, none⟩ = some (.int .i64 ((rd_T33 l0 x7_1).f1)) := (blk_cell BK114.out 1).trans rfl; have hcz23_2 : w22.cell? ⟨gb114, 2, none⟩ = some (.int .i64 ((rd_T33 l0 x7_1).f2)) := (blk_cell BK114.out 2).trans rfl; have hcz23_3 : w22.cell? ⟨gb114, 3, none⟩ = some (.int .i64 ((rd_T33 l0 x7_1).f3)) := (blk_cell BK114.out 3).trans rfl; have hcz23_4 : w22.cell? ⟨gb114, 4, none⟩ = some (.int .i64 ((rd_T33 l0 x7_1).f4)) := (blk_cell BK114.out 4).trans rfl; have hcz23_5 : w22.cell? ⟨gb114, 5, none⟩ = some (.int .i64 ((rd_T33 l0 x7_1).f5)) := (blk_cell BK114.out 5).trans rfl; have hcz23_6 : w22.cell? ⟨gb114, 6, none⟩ = some (.int .i64 ((rd_T33 l0 x7_1).f6)) := (blk_cell BK114.out 6).trans rfl; have hcz23_7 : w22.cell? ⟨gb114, 7, none⟩ = some (.int .i64 ((rd_T33 l0 x7_1).f7)) := (blk_cell BK114.out 7).trans rfl; have hcz23_8 : w22.cell? ⟨gb114, 8, none⟩ = some (.int .i64 ((rd_T33 l0 x7_1).f8)) := (blk_cell BK114.out 8).trans rfl; have hfz23_0 := blk_frozen BK114.out 0; have hfz23_1 := blk_frozen BK114.out 1; have hfz23_2 := blk_frozen BK114.out 2; have hfz23_3 := blk_frozen BK114.out 3; have hfz23_4 := blk_frozen BK114.out 4; have hfz23_5 := blk_frozen BK114.out 5; have hfz23_6 := blk_frozen BK114.out 6; have hfz23_7 := blk_frozen BK114.out 7; have hfz23_8 := blk_frozen BK114.out 8) | ((with_reducible refine gate_callee (f := 13) rfl ?_); have n0_ : Aside0 (Kd.R k33 33 (w22.setCell ⟨gb114, 1, none⟩ (.int .i64 t116)) w.heap.size (fun k_ => k_ ≠ gb114) u5 x5_1) := ⟨by (with_reducible repeat (first | apply Kd.R_alloc | apply Kd.R_drewN | apply Kd.R_drew)); exact Kd.R_mono (Kd.R_far (p := ⟨gb114, 1, none⟩) (Kd.R_mono HO_5.out (fun k_ hk => (⟨hk, hk⟩ : _ ∧ k_ ≠ gb114))) (fun _ hk => hk.2) (.int .i64 t116)) (fun _ hk => hk.1)⟩; have n1_ : Aside0 ((w22.setCell ⟨gb114, 1, none⟩ (.int .i64 t116)).heap[gb114]? = some (.cells #[.int .i64 (wrap64 ((wrap64 (x6_1 + 1)) + t115)), .int .i64 t116, .int .i64 ((rd_T33 l0 x7_1).f2), .int .i64 ((rd_T33 l0 x7_1).f3), .int .i64 ((rd_T33 l0 x7_1).f4), .int .i64 ((rd_T33 l0 x7_1).f5), .int .i64 ((rd_T33 l0 x7_1).f6), .int .i64 ((rd_T33 l0 x7_1).f7), .int .i64 ((rd_T33 l0 x7_1).f8)] 33 (0, 0))) := ⟨by (with_reducible repeat (first | refine blk_drewN ?_ _ | refine blk_drew ?_ | refine blk_alloc ?_ _)); refine blk_put (cs := #[.int .i64 (wrap64 ((wrap64 (x6_1 + 1)) + t115)), .int .i64 ((rd_T33 l0 x7_1).f1), .int .i64 ((rd_T33 l0 x7_1).f2), .int .i64 ((rd_T33 l0 x7_1).f3), .int .i64 ((rd_T33 l0 x7_1).f4), .int .i64 ((rd_T33 l0 x7_1).f5), .int .i64 ((rd_T33 l0 x7_1).f6), .int .i64 ((rd_T33 l0 x7_1).f7), .int .i64 ((rd_T33 l0 x7_1).f8)]) ?_ 1 _ rfl; (with_reducible repeat (first | refine blk_drewN ?_ _ | refine blk_drew ?_ | refine blk_alloc ?_ _)); exact BK114.out⟩; have n2_ : Aside0 (Below w.heap.size w (w22.setCell ⟨gb114, 1, none⟩ (.int .i64 t116))) := ⟨by repeat (first | (with_reducible first | exact HB.out | apply below_alloc | apply pw_below_drewN | apply below_drew1 | refine below_set ?_ GE114.out) | exact HB.out)⟩; (try clear HO_5); (try clear BK114); (try clear HB); generalize (w22.setCell ⟨gb114, 1, none⟩ (.int .i64 t116)) = w24 at n0_ n1_ n2_ ⊢; have HO_5 := n0_; have BK114 := n1_; have HB := n2_; clear n0_ n1_ n2_; refine goesL_ (some 39) rfl rfl Try.func13 (by kernel_rfl) rfl #[.int .i64 ((rd_T33 l0 x7_1).f2), .int .i64 8] rfl (by (try simp only [List.map_toArray, List.map_cons, List.map_nil]); first | done | rfl | (simp only [List.length_drop, List.length_take]; rfl)) ?_; (with_reducible refine (tolllaw10_within.calls ((rd_T33 l0 x7_1).f2) 8 t117 _ A10.out).mono ?_); rintro e w' ⟨rfl, rfl⟩; refine ⟨_, rfl, ?_⟩; (try (rw [drewN_self w24]; generalize hq_ : World.drewN w24 _ = w24; have n0_ : Aside0 (Kd.R k33 33 w24 w.heap.size (fun k_ => k_ ≠ gb114) u5 x5_1) := ⟨by rw [← hq_]; exact (by (with_reducible repeat (first | apply Kd.R_alloc | apply Kd.R_drewN | apply Kd.R_drew)); exact HO_5.out)⟩; have n1_ : Aside0 (w24.heap[gb114]? = some (.cells #[.int .i64 (wrap64 ((wrap64 (x6_1 + 1)) + t115)), .int .i64 t116, .int .i64 ((rd_T33 l0 x7_1).f2), .int .i64 ((rd_T33 l0 x7_1).f3), .int .i64 ((rd_T33 l0 x7_1).f4), .int .i64 ((rd_T33 l0 x7_1).f5), .int .i64 ((rd_T33 l0 x7_1).f6), .int .i64 ((rd_T33 l0 x7_1).f7), .int .i64 ((rd_T33 l0 x7_1).f8)] 33 (0, 0))) := ⟨by rw [← hq_]; exact (by (with_reducible repeat (first | refine blk_drewN ?_ _ | refine blk_drew ?_ | refine blk_alloc ?_ _)); exact BK114.out)⟩; have n2_ : Aside0 (Below w.heap.size w w24) := ⟨by rw [← hq_]; exact (by repeat (first | (with_reducible first | exact HB.out | apply below_alloc | apply pw_below_drewN | apply below_drew1 | refine below_set ?_ GE114.out) | exact HB.out))⟩; clear HO_5 BK114 HB hq_; have HO_5 := n0_; have BK114 := n1_; have HB := n2_; clear n0_ n1_ n2_)); have hcz25_0 : w24.cell? ⟨gb114, 0, none⟩ = some (.int .i64 (wrap64 ((wrap64 (x6_1 + 1)) + t115))) := (blk_cell BK114.out 0).trans rfl; have hcz25_1 : w24.cell? ⟨gb114, 1, none⟩ = some (.int .i64 t116) := (blk_cell BK114.out 1).trans rfl; have hcz25_2 : w24.cell? ⟨gb114, 2, none⟩ = some (.int .i64 ((rd_T33 l0 x7_1).f2)) := (blk_cell BK114.out 2).trans rfl; have hcz25_3 : w24.cell? ⟨gb114, 3, none⟩ = some (.int .i64 ((rd_T33 l0 x7_1).f3)) := (blk_cell BK114.out 3).trans rfl; have hcz25_4 : w24.cell? ⟨gb114, 4, none⟩ = some (.int .i64 ((rd_T33 l0 x7_1).f4)) := (blk_cell BK114.out 4).trans rfl; have hcz25_5 : w24.cell? ⟨gb114, 5, none⟩ = some (.int .i64 ((rd_T33 l0 x7_1).f5)) := (blk_cell BK114.out 5).trans rfl; have hcz25_6 : w24.cell? ⟨gb114, 6, none⟩ = some (.int .i64 ((rd_T33 l0 x7_1).f6)) := (blk_cell BK114.out 6).trans rfl; have hcz25_7 : w24.cell? ⟨gb114, 7, none⟩ = some (.int .i64 ((rd_T33 l0 x7_1).f7)) := (blk_cell BK114.out 7).trans rfl; have hcz25_8 : w24.cell? ⟨gb114, 8, none⟩ = some (.int .i64 ((rd_T33 l0 x7_1).f8)) := (blk_cell BK114.out 8).trans rfl; have hfz25_0 := blk_frozen BK114.out 0; have hfz25_1 := blk_frozen BK114.out 1; have hfz25_2 := blk_frozen BK114.out 2; have hfz25_3 := blk_frozen BK114.out 3; have hfz25_4 := blk_frozen BK114.out 4; have hfz25_5 := blk_frozen BK114.out 5; have hfz25_6 := blk_frozen BK114.out 6; have hfz25_7 := blk_frozen BK114.out 7; have hfz25_8 := blk_frozen BK114.out 8))
             have n0_ : Aside0 (Kd.R k33 33 (w24.setCell ⟨gb114, 2, none⟩ (.int .i64 ji11)) w.heap.size (fun k_ => k_ ≠ gb114) u5 x5_1) := ⟨by (with_reducible repeat (first | apply Kd.R_alloc | apply Kd.R_drewN | apply Kd.R_drew)); exact Kd.R_mono (Kd.R_far (p := ⟨gb114, 2, none⟩) (Kd.R_mono HO_5.out (fun k_ hk => (⟨hk, hk⟩ : _ ∧ k_ ≠ gb114))) (fun _ hk => hk.2) (.int .i64 ji11)) (fun _ hk => hk.1)⟩
             have n1_ : Aside0 ((w24.setCell ⟨gb114, 2, none⟩ (.int .i64 ji11)).heap[gb114]? = some (.cells #[.int .i64 (wrap64 ((wrap64 (x6_1 + 1)) + t115)), .int .i64 t116, .int .i64 ji11, .int .i64 ((rd_T33 l0 x7_1).f3), .int .i64 ((rd_T33 l0 x7_1).f4), .int .i64 ((rd_T33 l0 x7_1).f5), .int .i64 ((rd_T33 l0 x7_1).f6), .int .i64 ((rd_T33 l0 x7_1).f7), .int .i64 ((rd_T33 l0 x7_1).f8)] 33 (0, 0))) := ⟨by (with_reducible repeat (first | refine blk_drewN ?_ _ | refine blk_drew ?_ | refine blk_alloc ?_ _)); refine blk_put (cs := #[.int .i64 (wrap64 ((wrap64 (x6_1 + 1)) + t115)), .int .i64 t116, .int .i64 ((rd_T33 l0 x7_1).f2), .int .i64 ((rd_T33 l0 x7_1).f3), .int .i64 ((rd_T33 l0 x7_1).f4), .int .i64 ((rd_T33 l0 x7_1).f5), .int .i64 ((rd_T33 l0 x7_1).f6), .int .i64 ((rd_T33 l0 x7_1).f7), .int .i64 ((rd_T33 l0 x7_1).f8)]) ?_ 2 _ rfl; (with_reducible repeat (first | refine blk_drewN ?_ _ | refine blk_drew ?_ | refine blk_alloc ?_ _)); exact BK114.out⟩
             have n2_ : Aside0 (Below w.heap.size w (w24.setCell ⟨gb114, 2, none⟩ (.int .i64 ji11))) := ⟨by repeat (first | (with_reducible first | exact HB.out | apply below_alloc | apply pw_below_drewN | apply below_drew1 | refine below_set ?_ GE114.out) | exact HB.out)⟩
             (try clear HO_5)
             (try clear BK114)
             (try clear HB)
             generalize (w24.setCell ⟨gb114, 2, none⟩ (.int .i64 ji11)) = w26 at n0_ n1_ n2_ ⊢
             have HO_5 := n0_
             have BK114 := n1_
             have HB := n2_
             clear n0_ n1_ n2_
             have n0_ := Aside0.mk (Kd.R_drew HO_5.out)
             have n1_ := Aside0.mk (blk_drew BK114.out)
             have n2_ := Aside0.mk (below_drew1 HB.out)
             clear HO_5
             clear BK114
             clear HB
             have HO_5 := n0_
             have BK114 := n1_
             have HB := n2_
             clear n0_ n1_ n2_
             refine start_ (n := 9) (S := fun w' => w'.cell? ⟨gb114, 0, none⟩ = some (.int .i64 (wrap64 ((wrap64 (x6_1 + 1)) + t115))) ∧ w'.cell? ⟨gb114, 1, none⟩ = some (.int .i64 t116) ∧ w'.cell? ⟨gb114, 2, none⟩ = some (.int .i64 ji11) ∧ w'.cell? ⟨gb114, 3, none⟩ = some (.int .i64 ((rd_T33 l0 x7_1).f3)) ∧ w'.cell? ⟨gb114, 4, none⟩ = some (.int .i64 ((rd_T33 l0 x7_1).f4)) ∧ w'.cell? ⟨gb114, 5, none⟩ = some (.int .i64 ((rd_T33 l0 x7_1).f5)) ∧ w'.cell? ⟨gb114, 6, none⟩ = some (.int .i64 ((rd_T33 l0 x7_1).f6)) ∧ w'.cell? ⟨gb114, 7, none⟩ = some (.int .i64 ((rd_T33 l0 x7_1).f7)) ∧ w'.cell? ⟨gb114, 8, none⟩ = some (.int .i64 ((rd_T33 l0 x7_1).f8))) (ds := [8]) #[false, false, false, false, false, false, false, false, false] (by kernel_rfl) rfl rfl ⟨(blk_cell BK114.out 0).trans rfl, (blk_cell BK114.out 1).trans rfl, (blk_cell BK114.out 2).trans rfl, (blk_cell BK114.out 3).trans rfl, (blk_cell BK114.out 4).trans rfl, (blk_cell BK114.out 5).trans rfl, (blk_cell BK114.out 6).trans rfl, (blk_cell BK114.out 7).trans rfl, (blk_cell BK114.out 8).trans rfl⟩ (fun hHeld => ?_); refine with_tabW tolllaw10_Good.tab11 tolllaw10_Good.bits11 (fun HT_ HW_ => ?_)
             generalize w26.drew = w27 at HO_5 BK114 HB hHeld ⊢
             refine pure_ (i := 0) (N := some 43) (v := ?_) (a' := ?_) #[true, false, false, false, false, false, false, false, false] rfl rfl (any_of HT_.out (by kernel_rfl)) (fun _ _ _ h => h) (Or.inl ⟨by rfl, ?_⟩) ?_ ?_
             rotate_left
             · intro w'
               go_simp
               with_reducible rfl
             rotate_left
             · simp only [Act.put, List.setIfInBounds_toArray, List.set_cons_zero, List.set_cons_succ, i64_w, i32_w]
               rfl
             refine pure_ (i := 3) (N := some 46) (v := ?_) (a' := ?_) #[true, false, false, true, false, false, false, false, false] rfl rfl (any_of HT_.out (by kernel_rfl)) (fun _ _ _ h => h) (Or.inl ⟨by rfl, ?_⟩) ?_ ?_
             rotate_left
             · intro w'
               go_simp
               with_reducible rfl
             rotate_left
             · simp only [Act.put, List.setIfInBounds_toArray, List.set_cons_zero, List.set_cons_succ, i64_w, i32_w]
               rfl
             refine take_ (i := 1) (N := some 44) (v := ?_) (a' := ?_) #[true, true, false, true, false, false, false, false, false] rfl rfl (take_ofW HT_.out HW_.out (by kernel_rfl)) (fun _ _ _ h => h) (Or.inl ⟨by rfl, ?_⟩) hHeld ?_ ?_
             rotate_left
             · rintro w' ⟨s0, s1, s2, s3, s4, s5, s6, s7, s8⟩
               go_simp
               with_reducible rfl
             rotate_left
             · simp only [Act.put, List.setIfInBounds_toArray, List.set_cons_zero, List.set_cons_succ, i64_w, i32_w]
               rfl
             refine pure_ (i := 2) (N := some 45) (v := ?_) (a' := ?_) #[true, true, true, true, false, false, false, false, false] rfl rfl (any_of HT_.out (by kernel_rfl)) (fun _ _ _ h => h) (Or.inl ⟨by rfl, ?_⟩) ?_ ?_
             rotate_left
             · intro w'
               go_simp
               with_reducible rfl
             rotate_left
             · simp only [Act.put, List.setIfInBounds_toArray, List.set_cons_zero, List.set_cons_succ, i64_w, i32_w]
               rfl
             refine take_ (i := 4) (N := some 47) (v := ?_) (a' := ?_) #[true, true, true, true, true, false, false, false, false] rfl rfl (take_ofW HT_.out HW_.out (by kernel_rfl)) (fun _ _ _ h => h) (Or.inl ⟨by rfl, ?_⟩) hHeld ?_ ?_
             rotate_left
             · rintro w' ⟨s0, s1, s2, s3, s4, s5, s6, s7, s8⟩
               go_simp
               with_reducible rfl
             rotate_left
             · simp only [Act.put, List.setIfInBounds_toArray, List.set_cons_zero, List.set_cons_succ, i64_w, i32_w]
               rfl
             refine one_ (i := 5) (N := some 48) #[true, true, true, true, true, true, false, false, false] rfl rfl (one_of HT_.out (by kernel_rfl)) (by decide) (fun K hK => ?_)
             refine goes_ Try.func13 (by kernel_rfl) rfl #[.int .i64 ((rd_T33 l0 x7_1).f3), .int .i64 9] (by rfl) rfl rfl (by (try simp only [List.map_toArray, List.map_cons, List.map_nil]); first | done | rfl | (simp only [List.length_drop, List.length_take]; rfl)) ?_
             with_reducible refine (tolllaw10_within.calls ((rd_T33 l0 x7_1).f3) 9 t118 _ A12.out).mono ?_
             rintro e w' ⟨rfl, rfl⟩
             refine ⟨_, rfl, ?_⟩
             refine hK.out _ _ ⟨(blk_cell BK114.out 0).trans rfl, (blk_cell BK114.out 1).trans rfl, (blk_cell BK114.out 2).trans rfl, (blk_cell BK114.out 3).trans rfl, (blk_cell BK114.out 4).trans rfl, (blk_cell BK114.out 5).trans rfl, (blk_cell BK114.out 6).trans rfl, (blk_cell BK114.out 7).trans rfl, (blk_cell BK114.out 8).trans rfl⟩ (fun hHeld => ?_)
             clear hK K
             refine norm_ (a' := ?_) ?_ ?_
             rotate_left
             · show Act.put _ (some 48) _ = _
               simp only [Act.put, List.setIfInBounds_toArray, List.set_cons_zero, List.set_cons_succ, i64_w, i32_w]
               rfl
             refine pure_ (i := 6) (N := some 49) (v := ?_) (a' := ?_) #[true, true, true, true, true, true, true, false, false] rfl rfl (any_of HT_.out (by kernel_rfl)) (fun _ _ _ h => h) (Or.inl ⟨by rfl, ?_⟩) ?_ ?_
             rotate_left
             · intro w'
               go_simp
               with_reducible rfl
             rotate_left
             · simp only [Act.put, List.setIfInBounds_toArray, List.set_cons_zero, List.set_cons_succ, i64_w, i32_w]
               rfl
             refine pure_ (i := 7) (N := some 50) (v := ?_) (a' := ?_) #[true, true, true, true, true, true, true, true, false] rfl rfl (any_of HT_.out (by kernel_rfl)) (fun _ _ _ h => h) (Or.inl ⟨by rfl, ?_⟩) ?_ ?_
             rotate_left
             · intro w'
               go_simp
               with_reducible rfl
             rotate_left
             · simp only [Act.put, List.setIfInBounds_toArray, List.set_cons_zero, List.set_cons_succ, i64_w, i32_w]
               rfl
             refine last_ (i := 8) (N := none) #[true, true, true, true, true, true, true, true, true] rfl rfl (one_of HT_.out (by kernel_rfl)) (by decide) (fun K hK => ?_)
             have hs28 : w27.cell? ⟨gb114, 3, none⟩ = some (.int .i64 ((rd_T33 l0 x7_1).f3)) := (blk_cell BK114.out 3).trans rfl
             have hfs28 := blk_frozen BK114.out 3
             refine skip_ (w1 := ?_) (by rfl) rfl ?_ ?_
             rotate_left
             · go_simp
               rfl
             refine hK.out _ _ ?_
             clear hK K
             refine done_ (done_of HT_.out (by kernel_rfl)) ?_
             try go_wp2
             have n0_ : Aside0 (Kd.R k33 33 (w27.setCell ⟨gb114, 3, none⟩ (.int .i64 (wrap64 ((wrap64 ((ji11) + 1)) + t118)))) w.heap.size (fun k_ => k_ ≠ gb114) u5 x5_1) := ⟨by (with_reducible repeat (first | apply Kd.R_alloc | apply Kd.R_drewN | apply Kd.R_drew)); exact Kd.R_mono (Kd.R_far (p := ⟨gb114, 3, none⟩) (Kd.R_mono HO_5.out (fun k_ hk => (⟨hk, hk⟩ : _ ∧ k_ ≠ gb114))) (fun _ hk => hk.2) (.int .i64 (wrap64 ((wrap64 ((ji11) + 1)) + t118)))) (fun _ hk => hk.1)⟩
             have n1_ : Aside0 ((w27.setCell ⟨gb114, 3, none⟩ (.int .i64 (wrap64 ((wrap64 ((ji11) + 1)) + t118)))).heap[gb114]? = some (.cells #[.int .i64 (wrap64 ((wrap64 (x6_1 + 1)) + t115)), .int .i64 t116, .int .i64 ji11, .int .i64 (wrap64 ((wrap64 ((ji11) + 1)) + t118)), .int .i64 ((rd_T33 l0 x7_1).f4), .int .i64 ((rd_T33 l0 x7_1).f5), .int .i64 ((rd_T33 l0 x7_1).f6), .int .i64 ((rd_T33 l0 x7_1).f7), .int .i64 ((rd_T33 l0 x7_1).f8)] 33 (0, 0))) := ⟨by (with_reducible repeat (first | refine blk_drewN ?_ _ | refine blk_drew ?_ | refine blk_alloc ?_ _)); refine blk_put (cs := #[.int .i64 (wrap64 ((wrap64 (x6_1 + 1)) + t115)), .int .i64 t116, .int .i64 ji11, .int .i64 ((rd_T33 l0 x7_1).f3), .int .i64 ((rd_T33 l0 x7_1).f4), .int .i64 ((rd_T33 l0 x7_1).f5), .int .i64 ((rd_T33 l0 x7_1).f6), .int .i64 ((rd_T33 l0 x7_1).f7), .int .i64 ((rd_T33 l0 x7_1).f8)]) ?_ 3 _ rfl; (with_reducible repeat (first | refine blk_drewN ?_ _ | refine blk_drew ?_ | refine blk_alloc ?_ _)); exact BK114.out⟩
             have n2_ : Aside0 (Below w.heap.size w (w27.setCell ⟨gb114, 3, none⟩ (.int .i64 (wrap64 ((wrap64 ((ji11) + 1)) + t118))))) := ⟨by repeat (first | (with_reducible first | exact HB.out | apply below_alloc | apply pw_below_drewN | apply below_drew1 | refine below_set ?_ GE114.out) | exact HB.out)⟩
             (try clear HO_5)
             (try clear BK114)
             (try clear HB)
             generalize (w27.setCell ⟨gb114, 3, none⟩ (.int .i64 (wrap64 ((wrap64 ((ji11) + 1)) + t118)))) = w29 at n0_ n1_ n2_ ⊢
             have HO_5 := n0_
             have BK114 := n1_
             have HB := n2_
             clear n0_ n1_ n2_
             have n0_ := Aside0.mk (Kd.R_drew HO_5.out)
             have n1_ := Aside0.mk (blk_drew BK114.out)
             have n2_ := Aside0.mk (below_drew1 HB.out)
             clear HO_5
             clear BK114
             clear HB
             have HO_5 := n0_
             have BK114 := n1_
             have HB := n2_
             clear n0_ n1_ n2_
             refine start_ (n := 17) (S := fun w' => w'.cell? ⟨gb114, 0, none⟩ = some (.int .i64 (wrap64 ((wrap64 (x6_1 + 1)) + t115))) ∧ w'.cell? ⟨gb114, 1, none⟩ = some (.int .i64 t116) ∧ w'.cell? ⟨gb114, 2, none⟩ = some (.int .i64 ji11) ∧ w'.cell? ⟨gb114, 3, none⟩ = some (.int .i64 (wrap64 ((wrap64 ((ji11) + 1)) + t118))) ∧ w'.cell? ⟨gb114, 4, none⟩ = some (.int .i64 ((rd_T33 l0 x7_1).f4)) ∧ w'.cell? ⟨gb114, 5, none⟩ = some (.int .i64 ((rd_T33 l0 x7_1).f5)) ∧ w'.cell? ⟨gb114, 6, none⟩ = some (.int .i64 ((rd_T33 l0 x7_1).f6)) ∧ w'.cell? ⟨gb114, 7, none⟩ = some (.int .i64 ((rd_T33 l0 x7_1).f7)) ∧ w'.cell? ⟨gb114, 8, none⟩ = some (.int .i64 ((rd_T33 l0 x7_1).f8))) (ds := [10, 12, 14, 16]) #[false, false, false, false, false, false, false, false, false, false, false, false, false, false, false, false, false] (by kernel_rfl) rfl rfl ⟨(blk_cell BK114.out 0).trans rfl, (blk_cell BK114.out 1).trans rfl, (blk_cell BK114.out 2).trans rfl, (blk_cell BK114.out 3).trans rfl, (blk_cell BK114.out 4).trans rfl, (blk_cell BK114.out 5).trans rfl, (blk_cell BK114.out 6).trans rfl, (blk_cell BK114.out 7).trans rfl, (blk_cell BK114.out 8).trans rfl⟩ (fun hHeld => ?_); refine with_tabW tolllaw10_Good.tab12 tolllaw10_Good.bits12 (fun HT_ HW_ => ?_)
             generalize w29.drew = w30 at HO_5 BK114 HB hHeld ⊢
             refine pure_ (i := 0) (N := some 51) (v := ?_) (a' := ?_) (bA 17 1) rfl rfl (any_of HT_.out (by kernel_rfl)) (fun _ _ _ h => h) (Or.inl ⟨by rfl, ?_⟩) ?_ ?_
             rotate_left
             · intro w'
               go_simp
               with_reducible rfl
             rotate_left
             · simp only [Act.put, List.setIfInBounds_toArray, List.set_cons_zero, List.set_cons_succ, i64_w, i32_w]
               rfl
             refine pure_ (i := 3) (N := some 54) (v := ?_) (a' := ?_) (bA 17 9) rfl rfl (any_of HT_.out (by kernel_rfl)) (fun _ _ _ h => h) (Or.inl ⟨by rfl, ?_⟩) ?_ ?_
             rotate_left
             · intro w'
               go_simp
               with_reducible rfl
             rotate_left
             · simp only [Act.put, List.setIfInBounds_toArray, List.set_cons_zero, List.set_cons_succ, i64_w, i32_w]
               rfl
             refine pure_ (i := 6) (N := some 57) (v := ?_) (a' := ?_) (bA 17 73) rfl rfl (any_of HT_.out (by kernel_rfl)) (fun _ _ _ h => h) (Or.inl ⟨by rfl, ?_⟩) ?_ ?_
             rotate_left
             · intro w'
               go_simp
               with_reducible rfl
             rotate_left
             · simp only [Act.put, List.setIfInBounds_toArray, List.set_cons_zero, List.set_cons_succ, i64_w, i32_w]
               rfl
             refine take_ (i := 1) (N := some 52) (v := ?_) (a' := ?_) (bA 17 75) rfl rfl (take_ofW HT_.out HW_.out (by kernel_rfl)) (fun _ _ _ h => h) (Or.inl ⟨by rfl, ?_⟩) hHeld ?_ ?_
             rotate_left
             · rintro w' ⟨s0, s1, s2, s3, s4, s5, s6, s7, s8⟩
               go_simp
               with_reducible rfl
             rotate_left
             · simp only [Act.put, List.setIfInBounds_toArray, List.set_cons_zero, List.set_cons_succ, i64_w, i32_w]
               rfl
             refine take_ (i := 4) (N := some 55) (v := ?_) (a' := ?_) (bA 17 91) rfl rfl (take_ofW HT_.out HW_.out (by kernel_rfl)) (fun _ _ _ h => h) (Or.inl ⟨by rfl, ?_⟩) hHeld ?_ ?_
             rotate_left
             · rintro w' ⟨s0, s1, s2, s3, s4, s5, s6, s7, s8⟩
               go_simp
               with_reducible rfl
             rotate_left
             · simp only [Act.put, List.setIfInBounds_toArray, List.set_cons_zero, List.set_cons_succ, i64_w, i32_w]
               rfl
             refine take_ (i := 7) (N := some 58) (v := ?_) (a' := ?_) (bA 17 219) rfl rfl (take_ofW HT_.out HW_.out (by kernel_rfl)) (fun _ _ _ h => h) (Or.inl ⟨by rfl, ?_⟩) hHeld ?_ ?_
             rotate_left
             · rintro w' ⟨s0, s1, s2, s3, s4, s5, s6, s7, s8⟩
               go_simp
               with_reducible rfl
             rotate_left
             · simp only [Act.put, List.setIfInBounds_toArray, List.set_cons_zero, List.set_cons_succ, i64_w, i32_w]
               rfl
             refine one_ (i := 2) (N := some 53) (bA 17 223) rfl rfl (one_of HT_.out (by kernel_rfl)) (by decide) (fun K hK => ?_)
             refine goes_ Try.func13 (by kernel_rfl) rfl #[.int .i64 ((rd_T33 l0 x7_1).f5), .int .i64 1000] (by rfl) rfl rfl (by (try simp only [List.map_toArray, List.map_cons, List.map_nil]); first | done | rfl | (simp only [List.length_drop, List.length_take]; rfl)) ?_
             with_reducible refine (tolllaw10_within.calls ((rd_T33 l0 x7_1).f5) 1000 t119 _ A13.out).mono ?_
             rintro e w' ⟨rfl, rfl⟩
             refine ⟨_, rfl, ?_⟩
             refine hK.out _ _ ⟨(blk_cell BK114.out 0).trans rfl, (blk_cell BK114.out 1).trans rfl, (blk_cell BK114.out 2).trans rfl, (blk_cell BK114.out 3).trans rfl, (blk_cell BK114.out 4).trans rfl, (blk_cell BK114.out 5).trans rfl, (blk_cell BK114.out 6).trans rfl, (blk_cell BK114.out 7).trans rfl, (blk_cell BK114.out 8).trans rfl⟩ (fun hHeld => ?_)
             clear hK K
             refine norm_ (a' := ?_) ?_ ?_
             rotate_left
             · show Act.put _ (some 53) _ = _
               simp only [Act.put, List.setIfInBounds_toArray, List.set_cons_zero, List.set_cons_succ, i64_w, i32_w]
               rfl
             refine pure_ (i := 9) (N := some 60) (v := ?_) (a' := ?_) (bA 17 735) rfl rfl (any_of HT_.out (by kernel_rfl)) (fun _ _ _ h => h) (Or.inl ⟨by rfl, ?_⟩) ?_ ?_
             rotate_left
             · intro w'
               go_simp
               with_reducible rfl
             rotate_left
             · simp only [Act.put, List.setIfInBounds_toArray, List.set_cons_zero, List.set_cons_succ, i64_w, i32_w]
               rfl
             refine one_ (i := 5) (N := some 56) (bA 17 767) rfl rfl (one_of HT_.out (by kernel_rfl)) (by decide) (fun K hK => ?_)
             refine goes_ Try.func13 (by kernel_rfl) rfl #[.int .i64 ((rd_T33 l0 x7_1).f7), .int .i64 9] (by rfl) rfl rfl (by (try simp only [List.map_toArray, List.map_cons, List.map_nil]); first | done | rfl | (simp only [List.length_drop, List.length_take]; rfl)) ?_
             with_reducible refine (tolllaw10_within.calls ((rd_T33 l0 x7_1).f7) 9 t120 _ A14.out).mono ?_
             rintro e w' ⟨rfl, rfl⟩
             refine ⟨_, rfl, ?_⟩
             refine hK.out _ _ ⟨(blk_cell BK114.out 0).trans rfl, (blk_cell BK114.out 1).trans rfl, (blk_cell BK114.out 2).trans rfl, (blk_cell BK114.out 3).trans rfl, (blk_cell BK114.out 4).trans rfl, (blk_cell BK114.out 5).trans rfl, (blk_cell BK114.out 6).trans rfl, (blk_cell BK114.out 7).trans rfl, (blk_cell BK114.out 8).trans rfl⟩ (fun hHeld => ?_)
             clear hK K
             refine norm_ (a' := ?_) ?_ ?_
             rotate_left
             · show Act.put _ (some 56) _ = _
               simp only [Act.put, List.setIfInBounds_toArray, List.set_cons_zero, List.set_cons_succ, i64_w, i32_w]
               rfl
             refine one_ (i := 8) (N := some 59) (bA 17 1023) rfl rfl (one_of HT_.out (by kernel_rfl)) (by decide) (fun K hK => ?_)
             refine goes_ Try.func13 (by kernel_rfl) rfl #[.int .i64 ((rd_T33 l0 x7_1).f8), .int .i64 9] (by rfl) rfl rfl (by (try simp only [List.map_toArray, List.map_cons, List.map_nil]); first | done | rfl | (simp only [List.length_drop, List.length_take]; rfl)) ?_
             with_reducible refine (tolllaw10_within.calls ((rd_T33 l0 x7_1).f8) 9 t121 _ A15.out).mono ?_
             rintro e w' ⟨rfl, rfl⟩
             refine ⟨_, rfl, ?_⟩
             refine hK.out _ _ ⟨(blk_cell BK114.out 0).trans rfl, (blk_cell BK114.out 1).trans rfl, (blk_cell BK114.out 2).trans rfl, (blk_cell BK114.out 3).trans rfl, (blk_cell BK114.out 4).trans rfl, (blk_cell BK114.out 5).trans rfl, (blk_cell BK114.out 6).trans rfl, (blk_cell BK114.out 7).trans rfl, (blk_cell BK114.out 8).trans rfl⟩ (fun hHeld => ?_)
             clear hK K
             refine norm_ (a' := ?_) ?_ ?_
             rotate_left
             · show Act.put _ (some 59) _ = _
               simp only [Act.put, List.setIfInBounds_toArray, List.set_cons_zero, List.set_cons_succ, i64_w, i32_w]
               rfl
             refine last_ (i := 10) (N := none) (bA 17 2047) rfl rfl (one_of HT_.out (by kernel_rfl)) (by decide) (fun K hK => ?_)
             have hs31 : w30.cell? ⟨gb114, 5, none⟩ = some (.int .i64 ((rd_T33 l0 x7_1).f5)) := (blk_cell BK114.out 5).trans rfl
             have hfs31 := blk_frozen BK114.out 5
             refine skip_ (w1 := ?_) (by rfl) rfl ?_ ?_
             rotate_left
             · go_simp
               rfl
             refine hK.out _ _ ?_
             clear hK K
             refine pure_ (i := 11) (N := some 61) (v := ?_) (a' := ?_) (bA 17 4095) rfl rfl (any_of HT_.out (by kernel_rfl)) (fun _ _ _ h => h) (Or.inl ⟨by rfl, ?_⟩) ?_ ?_
             rotate_left
             · intro w'
               go_simp
               with_reducible rfl
             rotate_left
             · simp only [Act.put, List.setIfInBounds_toArray, List.set_cons_zero, List.set_cons_succ, i64_w, i32_w]
               rfl
             refine last_ (i := 12) (N := none) (bA 17 8191) rfl rfl (one_of HT_.out (by kernel_rfl)) (by decide) (fun K hK => ?_)
             have hs32 : w30.cell? ⟨gb114, 6, none⟩ = some (.int .i64 ((rd_T33 l0 x7_1).f6)) := (blk_cell BK114.out 6).trans rfl
             have hfs32 := blk_frozen BK114.out 6
             refine skip_ (w1 := ?_) (by rfl) rfl ?_ ?_
             rotate_left
             · go_simp
               rfl
             refine hK.out _ _ ?_
             clear hK K
             refine pure_ (i := 13) (N := some 62) (v := ?_) (a' := ?_) (bA 17 16383) rfl rfl (any_of HT_.out (by kernel_rfl)) (fun _ _ _ h => h) (Or.inl ⟨by rfl, ?_⟩) ?_ ?_
             rotate_left
             · intro w'
               go_simp
               with_reducible rfl
             rotate_left
             · simp only [Act.put, List.setIfInBounds_toArray, List.set_cons_zero, List.set_cons_succ, i64_w, i32_w]
               rfl
             refine last_ (i := 14) (N := none) (bA 17 32767) rfl rfl (one_of HT_.out (by kernel_rfl)) (by decide) (fun K hK => ?_)
             have hs33 : w30.cell? ⟨gb114, 7, none⟩ = some (.int .i64 ((rd_T33 l0 x7_1).f7)) := (blk_cell BK114.out 7).trans rfl
             have hfs33 := blk_frozen BK114.out 7
             refine skip_ (w1 := ?_) (by rfl) rfl ?_ ?_
             rotate_left
             · go_simp
               rfl
             refine hK.out _ _ ?_
             clear hK K
             refine pure_ (i := 15) (N := some 63) (v := ?_) (a' := ?_) (bA 17 65535) rfl rfl (any_of HT_.out (by kernel_rfl)) (fun _ _ _ h => h) (Or.inl ⟨by rfl, ?_⟩) ?_ ?_
             rotate_left
             · intro w'
               go_simp
               with_reducible rfl
             rotate_left
             · simp only [Act.put, List.setIfInBounds_toArray, List.set_cons_zero, List.set_cons_succ, i64_w, i32_w]
               rfl
             refine last_ (i := 16) (N := none) (bA 17 131071) rfl rfl (one_of HT_.out (by kernel_rfl)) (by decide) (fun K hK => ?_)
             have hs34 : w30.cell? ⟨gb114, 8, none⟩ = some (.int .i64 ((rd_T33 l0 x7_1).f8)) := (blk_cell BK114.out 8).trans rfl
             have hfs34 := blk_frozen BK114.out 8
             refine skip_ (w1 := ?_) (by rfl) rfl ?_ ?_
             rotate_left
             · go_simp
               rfl
             refine hK.out _ _ ?_
             clear hK K
             refine done_ (done_of HT_.out (by kernel_rfl)) ?_
             try go_wp2
             have n0_ : Aside0 (Kd.R k33 33 ((((w30.setCell ⟨gb114, 5, none⟩ (.int .i64 t119)).setCell ⟨gb114, 6, none⟩ (.int .i64 0)).setCell ⟨gb114, 7, none⟩ (.int .i64 t120)).setCell ⟨gb114, 8, none⟩ (.int .i64 t121)) w.heap.size (fun k_ => k_ ≠ gb114) u5 x5_1) := ⟨by (with_reducible repeat (first | apply Kd.R_alloc | apply Kd.R_drewN | apply Kd.R_drew)); exact Kd.R_mono (Kd.R_far (p := ⟨gb114, 8, none⟩) (Kd.R_far (p := ⟨gb114, 7, none⟩) (Kd.R_far (p := ⟨gb114, 6, none⟩) (Kd.R_far (p := ⟨gb114, 5, none⟩) (Kd.R_mono HO_5.out (fun k_ hk => (⟨hk, hk⟩ : _ ∧ k_ ≠ gb114))) (fun _ hk => hk.2) (.int .i64 t119)) (fun _ hk => hk.2) (.int .i64 0)) (fun _ hk => hk.2) (.int .i64 t120)) (fun _ hk => hk.2) (.int .i64 t121)) (fun _ hk => hk.1)⟩
             have n1_ : Aside0 (((((w30.setCell ⟨gb114, 5, none⟩ (.int .i64 t119)).setCell ⟨gb114, 6, none⟩ (.int .i64 0)).setCell ⟨gb114, 7, none⟩ (.int .i64 t120)).setCell ⟨gb114, 8, none⟩ (.int .i64 t121)).heap[gb114]? = some (.cells #[.int .i64 (wrap64 ((wrap64 (x6_1 + 1)) + t115)), .int .i64 t116, .int .i64 ji11, .int .i64 (wrap64 ((wrap64 ((ji11) + 1)) + t118)), .int .i64 ((rd_T33 l0 x7_1).f4), .int .i64 t119, .int .i64 0, .int .i64 t120, .int .i64 t121] 33 (0, 0))) := ⟨by (with_reducible repeat (first | refine blk_drewN ?_ _ | refine blk_drew ?_ | refine blk_alloc ?_ _)); refine blk_put (cs := #[.int .i64 (wrap64 ((wrap64 (x6_1 + 1)) + t115)), .int .i64 t116, .int .i64 ji11, .int .i64 (wrap64 ((wrap64 ((ji11) + 1)) + t118)), .int .i64 ((rd_T33 l0 x7_1).f4), .int .i64 t119, .int .i64 0, .int .i64 t120, .int .i64 ((rd_T33 l0 x7_1).f8)]) ?_ 8 _ rfl; (with_reducible repeat (first | refine blk_drewN ?_ _ | refine blk_drew ?_ | refine blk_alloc ?_ _)); refine blk_put (cs := #[.int .i64 (wrap64 ((wrap64 (x6_1 + 1)) + t115)), .int .i64 t116, .int .i64 ji11, .int .i64 (wrap64 ((wrap64 ((ji11) + 1)) + t118)), .int .i64 ((rd_T33 l0 x7_1).f4), .int .i64 t119, .int .i64 0, .int .i64 ((rd_T33 l0 x7_1).f7), .int .i64 ((rd_T33 l0 x7_1).f8)]) ?_ 7 _ rfl; (with_reducible repeat (first | refine blk_drewN ?_ _ | refine blk_drew ?_ | refine blk_alloc ?_ _)); refine blk_put (cs := #[.int .i64 (wrap64 ((wrap64 (x6_1 + 1)) + t115)), .int .i64 t116, .int .i64 ji11, .int .i64 (wrap64 ((wrap64 ((ji11) + 1)) + t118)), .int .i64 ((rd_T33 l0 x7_1).f4), .int .i64 t119, .int .i64 ((rd_T33 l0 x7_1).f6), .int .i64 ((rd_T33 l0 x7_1).f7), .int .i64 ((rd_T33 l0 x7_1).f8)]) ?_ 6 _ rfl; (with_reducible repeat (first | refine blk_drewN ?_ _ | refine blk_drew ?_ | refine blk_alloc ?_ _)); refine blk_put (cs := #[.int .i64 (wrap64 ((wrap64 (x6_1 + 1)) + t115)), .int .i64 t116, .int .i64 ji11, .int .i64 (wrap64 ((wrap64 ((ji11) + 1)) + t118)), .int .i64 ((rd_T33 l0 x7_1).f4), .int .i64 ((rd_T33 l0 x7_1).f5), .int .i64 ((rd_T33 l0 x7_1).f6), .int .i64 ((rd_T33 l0 x7_1).f7), .int .i64 ((rd_T33 l0 x7_1).f8)]) ?_ 5 _ rfl; (with_reducible repeat (first | refine blk_drewN ?_ _ | refine blk_drew ?_ | refine blk_alloc ?_ _)); exact BK114.out⟩
             have n2_ : Aside0 (Below w.heap.size w ((((w30.setCell ⟨gb114, 5, none⟩ (.int .i64 t119)).setCell ⟨gb114, 6, none⟩ (.int .i64 0)).setCell ⟨gb114, 7, none⟩ (.int .i64 t120)).setCell ⟨gb114, 8, none⟩ (.int .i64 t121))) := ⟨by repeat (first | (with_reducible first | exact HB.out | apply below_alloc | apply pw_below_drewN | apply below_drew1 | refine below_set ?_ GE114.out) | exact HB.out)⟩
             (try clear HO_5)
             (try clear BK114)
             (try clear HB)
             generalize ((((w30.setCell ⟨gb114, 5, none⟩ (.int .i64 t119)).setCell ⟨gb114, 6, none⟩ (.int .i64 0)).setCell ⟨gb114, 7, none⟩ (.int .i64 t120)).setCell ⟨gb114, 8, none⟩ (.int .i64 t121)) = w35 at n0_ n1_ n2_ ⊢
             have HO_5 := n0_
             have BK114 := n1_
             have HB := n2_
             clear n0_ n1_ n2_
             have n0_ := Aside0.mk (Kd.R_drew HO_5.out)
             have n1_ := Aside0.mk (blk_drew BK114.out)
             have n2_ := Aside0.mk (below_drew1 HB.out)
             clear HO_5
             clear BK114
             clear HB
             have HO_5 := n0_
             have BK114 := n1_
             have HB := n2_
             clear n0_ n1_ n2_
             refine start_ (n := 14) (S := fun w' => w'.cell? ⟨gb114, 0, none⟩ = some (.int .i64 (wrap64 ((wrap64 (x6_1 + 1)) + t115))) ∧ w'.cell? ⟨gb114, 1, none⟩ = some (.int .i64 t116) ∧ w'.cell? ⟨gb114, 2, none⟩ = some (.int .i64 ji11) ∧ w'.cell? ⟨gb114, 3, none⟩ = some (.int .i64 (wrap64 ((wrap64 ((ji11) + 1)) + t118))) ∧ w'.cell? ⟨gb114, 4, none⟩ = some (.int .i64 ((rd_T33 l0 x7_1).f4)) ∧ w'.cell? ⟨gb114, 5, none⟩ = some (.int .i64 t119) ∧ w'.cell? ⟨gb114, 6, none⟩ = some (.int .i64 0) ∧ w'.cell? ⟨gb114, 7, none⟩ = some (.int .i64 t120) ∧ w'.cell? ⟨gb114, 8, none⟩ = some (.int .i64 t121)) (ds := [13]) #[false, false, false, false, false, false, false, false, false, false, false, false, false, false] (by kernel_rfl) rfl rfl ⟨(blk_cell BK114.out 0).trans rfl, (blk_cell BK114.out 1).trans rfl, (blk_cell BK114.out 2).trans rfl, (blk_cell BK114.out 3).trans rfl, (blk_cell BK114.out 4).trans rfl, (blk_cell BK114.out 5).trans rfl, (blk_cell BK114.out 6).trans rfl, (blk_cell BK114.out 7).trans rfl, (blk_cell BK114.out 8).trans rfl⟩ (fun hHeld => ?_); refine with_tabW tolllaw10_Good.tab13 tolllaw10_Good.bits13 (fun HT_ HW_ => ?_)
             generalize w35.drew = w36 at HO_5 BK114 HB hHeld ⊢
             refine pure_ (i := 0) (N := some 64) (v := ?_) (a' := ?_) (bA 14 1) rfl rfl (any_of HT_.out (by kernel_rfl)) (fun _ _ _ h => h) (Or.inl ⟨by rfl, ?_⟩) ?_ ?_
             rotate_left
             · intro w'
               go_simp
               with_reducible rfl
             rotate_left
             · simp only [Act.put, List.setIfInBounds_toArray, List.set_cons_zero, List.set_cons_succ, i64_w, i32_w]
               rfl
             refine pure_ (i := 2) (N := some 66) (v := ?_) (a' := ?_) (bA 14 5) rfl rfl (any_of HT_.out (by kernel_rfl)) (fun _ _ _ h => h) (Or.inl ⟨by rfl, ?_⟩) ?_ ?_
             rotate_left
             · intro w'
               go_simp
               with_reducible rfl
             rotate_left
             · simp only [Act.put, List.setIfInBounds_toArray, List.set_cons_zero, List.set_cons_succ, i64_w, i32_w]
               rfl
             refine pure_ (i := 5) (N := some 69) (v := ?_) (a' := ?_) (bA 14 37) rfl rfl (any_of HT_.out (by kernel_rfl)) (fun _ _ _ h => h) (Or.inl ⟨by rfl, ?_⟩) ?_ ?_
             rotate_left
             · intro w'
               go_simp
               with_reducible rfl
             rotate_left
             · simp only [Act.put, List.setIfInBounds_toArray, List.set_cons_zero, List.set_cons_succ, i64_w, i32_w]
               rfl
             refine pure_ (i := 8) (N := some 72) (v := ?_) (a' := ?_) (bA 14 293) rfl rfl (any_of HT_.out (by kernel_rfl)) (fun _ _ _ h => h) (Or.inl ⟨by rfl, ?_⟩) ?_ ?_
             rotate_left
             · intro w'
               go_simp
               with_reducible rfl
             rotate_left
             · simp only [Act.put, List.setIfInBounds_toArray, List.set_cons_zero, List.set_cons_succ, i64_w, i32_w]
               rfl
             refine take_ (i := 1) (N := some 65) (v := ?_) (a' := ?_) (bA 14 295) rfl rfl (take_ofW HT_.out HW_.out (by kernel_rfl)) (fun _ _ _ h => h) (Or.inl ⟨by rfl, ?_⟩) hHeld ?_ ?_
             rotate_left
             · rintro w' ⟨s0, s1, s2, s3, s4, s5, s6, s7, s8⟩
               go_simp
               with_reducible rfl
             rotate_left
             · simp only [Act.put, List.setIfInBounds_toArray, List.set_cons_zero, List.set_cons_succ, i64_w, i32_w]
               rfl
             refine take_ (i := 3) (N := some 67) (v := ?_) (a' := ?_) (bA 14 303) rfl rfl (take_ofW HT_.out HW_.out (by kernel_rfl)) (fun _ _ _ h => h) (Or.inl ⟨by rfl, ?_⟩) hHeld ?_ ?_
             rotate_left
             · rintro w' ⟨s0, s1, s2, s3, s4, s5, s6, s7, s8⟩
               go_simp
               with_reducible rfl
             rotate_left
             · simp only [Act.put, List.setIfInBounds_toArray, List.set_cons_zero, List.set_cons_succ, i64_w, i32_w]
               rfl
             refine pure_ (i := 4) (N := some 68) (v := ?_) (a' := ?_) (bA 14 319) rfl rfl (any_of HT_.out (by kernel_rfl)) (fun _ _ _ h => h) (Or.inl ⟨by rfl, ?_⟩) ?_ ?_
             rotate_left
             · intro w'
               go_simp
               with_reducible rfl
             rotate_left
             · simp only [Act.put, List.setIfInBounds_toArray, List.set_cons_zero, List.set_cons_succ, i64_w, i32_w]
               rfl
             refine take_ (i := 6) (N := some 70) (v := ?_) (a' := ?_) (bA 14 383) rfl rfl (take_ofW HT_.out HW_.out (by kernel_rfl)) (fun _ _ _ h => h) (Or.inl ⟨by rfl, ?_⟩) hHeld ?_ ?_
             rotate_left
             · rintro w' ⟨s0, s1, s2, s3, s4, s5, s6, s7, s8⟩
               go_simp
               with_reducible rfl
             rotate_left
             · simp only [Act.put, List.setIfInBounds_toArray, List.set_cons_zero, List.set_cons_succ, i64_w, i32_w]
               rfl
             refine pure_ (i := 7) (N := some 71) (v := ?_) (a' := ?_) (bA 14 511) rfl rfl (any_of HT_.out (by kernel_rfl)) (fun _ _ _ h => h) (Or.inl ⟨by rfl, ?_⟩) ?_ ?_
             rotate_left
             · intro w'
               go_simp
               with_reducible rfl
             rotate_left
             · simp only [Act.put, List.setIfInBounds_toArray, List.set_cons_zero, List.set_cons_succ, i64_w, i32_w]
               rfl
             refine take_ (i := 9) (N := some 73) (v := ?_) (a' := ?_) (bA 14 1023) rfl rfl (take_ofW HT_.out HW_.out (by kernel_rfl)) (fun _ _ _ h => h) (Or.inl ⟨by rfl, ?_⟩) hHeld ?_ ?_
             rotate_left
             · rintro w' ⟨s0, s1, s2, s3, s4, s5, s6, s7, s8⟩
               go_simp
               with_reducible rfl
             rotate_left
             · simp only [Act.put, List.setIfInBounds_toArray, List.set_cons_zero, List.set_cons_succ, i64_w, i32_w]
               rfl
             refine one_ (i := 10) (N := some 74) (bA 14 2047) rfl rfl (one_of HT_.out (by kernel_rfl)) (by decide) (fun K hK => ?_)
             refine goes_ Try.func13 (by kernel_rfl) rfl #[.int .i64 ((rd_T33 l0 x7_1).f4), .int .i64 1000] (by rfl) rfl rfl (by (try simp only [List.map_toArray, List.map_cons, List.map_nil]); first | done | rfl | (simp only [List.length_drop, List.length_take]; rfl)) ?_
             with_reducible refine (tolllaw10_within.calls ((rd_T33 l0 x7_1).f4) 1000 t122 _ A16.out).mono ?_
             rintro e w' ⟨rfl, rfl⟩
             refine ⟨_, rfl, ?_⟩
             refine hK.out _ _ ⟨(blk_cell BK114.out 0).trans rfl, (blk_cell BK114.out 1).trans rfl, (blk_cell BK114.out 2).trans rfl, (blk_cell BK114.out 3).trans rfl, (blk_cell BK114.out 4).trans rfl, (blk_cell BK114.out 5).trans rfl, (blk_cell BK114.out 6).trans rfl, (blk_cell BK114.out 7).trans rfl, (blk_cell BK114.out 8).trans rfl⟩ (fun hHeld => ?_)
             clear hK K
             refine norm_ (a' := ?_) ?_ ?_
             rotate_left
             · show Act.put _ (some 74) _ = _
               simp only [Act.put, List.setIfInBounds_toArray, List.set_cons_zero, List.set_cons_succ, i64_w, i32_w]
               rfl
             refine pure_ (i := 11) (N := some 75) (v := ?_) (a' := ?_) (bA 14 4095) rfl rfl (any_of HT_.out (by kernel_rfl)) (fun _ _ _ h => h) (Or.inl ⟨by rfl, ?_⟩) ?_ ?_
             rotate_left
             · intro w'
               go_simp
               with_reducible rfl
             rotate_left
             · simp only [Act.put, List.setIfInBounds_toArray, List.set_cons_zero, List.set_cons_succ, i64_w, i32_w]
               rfl
             refine pure_ (i := 12) (N := some 76) (v := ?_) (a' := ?_) (bA 14 8191) rfl rfl (any_of HT_.out (by kernel_rfl)) (fun _ _ _ h => h) (Or.inl ⟨by rfl, ?_⟩) ?_ ?_
             rotate_left
             · intro w'
               go_simp
               with_reducible rfl
             rotate_left
             · simp only [Act.put, List.setIfInBounds_toArray, List.set_cons_zero, List.set_cons_succ, i64_w, i32_w]
               rfl
             refine last_ (i := 13) (N := none) (bA 14 16383) rfl rfl (one_of HT_.out (by kernel_rfl)) (by decide) (fun K hK => ?_)
             have hs37 : w36.cell? ⟨gb114, 4, none⟩ = some (.int .i64 ((rd_T33 l0 x7_1).f4)) := (blk_cell BK114.out 4).trans rfl
             have hfs37 := blk_frozen BK114.out 4
             refine skip_ (w1 := ?_) (by rfl) rfl ?_ ?_
             rotate_left
             · go_simp
               rfl
             refine hK.out _ _ ?_
             clear hK K
             refine done_ (done_of HT_.out (by kernel_rfl)) ?_
             have hcz38_0 : w36.cell? ⟨gb114, 0, none⟩ = some (.int .i64 (wrap64 ((wrap64 (x6_1 + 1)) + t115))) := (blk_cell BK114.out 0).trans rfl
             have hcz38_1 : w36.cell? ⟨gb114, 1, none⟩ = some (.int .i64 t116) := (blk_cell BK114.out 1).trans rfl
             have hcz38_2 : w36.cell? ⟨gb114, 2, none⟩ = some (.int .i64 ji11) := (blk_cell BK114.out 2).trans rfl
             have hcz38_3 : w36.cell? ⟨gb114, 3, none⟩ = some (.int .i64 (wrap64 ((wrap64 ((ji11) + 1)) + t118))) := (blk_cell BK114.out 3).trans rfl
             have hcz38_4 : w36.cell? ⟨gb114, 4, none⟩ = some (.int .i64 ((rd_T33 l0 x7_1).f4)) := (blk_cell BK114.out 4).trans rfl
             have hcz38_5 : w36.cell? ⟨gb114, 5, none⟩ = some (.int .i64 t119) := (blk_cell BK114.out 5).trans rfl
             have hcz38_6 : w36.cell? ⟨gb114, 6, none⟩ = some (.int .i64 0) := (blk_cell BK114.out 6).trans rfl
             have hcz38_7 : w36.cell? ⟨gb114, 7, none⟩ = some (.int .i64 t120) := (blk_cell BK114.out 7).trans rfl
             have hcz38_8 : w36.cell? ⟨gb114, 8, none⟩ = some (.int .i64 t121) := (blk_cell BK114.out 8).trans rfl
             have hfz38_0 := blk_frozen BK114.out 0
             have hfz38_1 := blk_frozen BK114.out 1
             have hfz38_2 := blk_frozen BK114.out 2
             have hfz38_3 := blk_frozen BK114.out 3
             have hfz38_4 := blk_frozen BK114.out 4
             have hfz38_5 := blk_frozen BK114.out 5
             have hfz38_6 := blk_frozen BK114.out 6
             have hfz38_7 := blk_frozen BK114.out 7
             have hfz38_8 := blk_frozen BK114.out 8
             try go_wp2_with (first | ((with_reducible refine gate_builtin (b := .append) (xs := #[.tmp 77, .tmp 79]) rfl ?_); at_builtin; refine Kd.R_append k33 (w0 := w) w.heap.size rfl (.tmp 77) (.tmp 79) 22 33 (.agg #[(.int .i64 0), (.int .i64 0), (.int .i64 0), (.int .i64 0), (.int .i64 0), (.int .i64 0), (.int .i64 0), (.int .i64 0), (.int .i64 0)]) 72 rfl Try.underlying22 info33 rfl (by decide) (by omega) u5 x5_1 (⟨wrap64 ((wrap64 (x6_1 + 1)) + t115), t116, ji11, wrap64 ((wrap64 ((ji11) + 1)) + t118), wrap64 ((wrap64 ((wrap64 (t119 + t120)) + t121)) + t122), t119, 0, t120, t121⟩ : S33) [.int .i64 (wrap64 ((wrap64 (x6_1 + 1)) + t115)), .int .i64 t116, .int .i64 ji11, .int .i64 (wrap64 ((wrap64 ((ji11) + 1)) + t118)), .int .i64 (wrap64 ((wrap64 ((wrap64 (t119 + t120)) + t121)) + t122)), .int .i64 t119, .int .i64 0, .int .i64 t120, .int .i64 t121] (fun k_ => k_ ≠ gb114) (fun _ => False) rfl (by first | (go_simp; done) | (go_simp; rfl)) ?aP (fun _ hk => hk.elim) ?aF ?aO ?aB ?aS ?aL ?_; (case aP => exact k33_mkM _ _ _ (⟨wrap64 ((wrap64 (x6_1 + 1)) + t115), t116, ji11, wrap64 ((wrap64 ((ji11) + 1)) + t118), wrap64 ((wrap64 ((wrap64 (t119 + t120)) + t121)) + t122), t119, 0, t120, t121⟩ : S33)); (case aB => exact (by repeat (first | (with_reducible first | exact HB.out | apply below_alloc | apply pw_below_drewN | apply below_drew1 | refine below_set ?_ GE114.out) | exact HB.out))); (case aF => exact (fun k_ hk => Kd.freshB (g := gb114) (o := .cells #[.int .i64 (wrap64 ((wrap64 (x6_1 + 1)) + t115)), .int .i64 t116, .int .i64 ji11, .int .i64 (wrap64 ((wrap64 ((ji11) + 1)) + t118)), .int .i64 (wrap64 ((wrap64 ((wrap64 (t119 + t120)) + t121)) + t122)), .int .i64 t119, .int .i64 0, .int .i64 t120, .int .i64 t121] 33 (0, 0)) (by (with_reducible repeat (first | refine blk_drewN ?_ _ | refine blk_drew ?_ | refine blk_alloc ?_ _)); refine blk_put (cs := #[.int .i64 (wrap64 ((wrap64 (x6_1 + 1)) + t115)), .int .i64 t116, .int .i64 ji11, .int .i64 (wrap64 ((wrap64 ((ji11) + 1)) + t118)), .int .i64 ((rd_T33 l0 x7_1).f4), .int .i64 t119, .int .i64 0, .int .i64 t120, .int .i64 t121]) ?_ 4 _ rfl; (with_reducible repeat (first | refine blk_drewN ?_ _ | refine blk_drew ?_ | refine blk_alloc ?_ _)); exact BK114.out) k_ hk)); (case aO => exact (by (with_reducible repeat (first | apply Kd.R_alloc | apply Kd.R_drewN | apply Kd.R_drew)); exact Kd.R_mono (Kd.R_far (p := ⟨gb114, 4, none⟩) (Kd.R_mono HO_5.out (fun k_ hk => (⟨hk, hk⟩ : _ ∧ k_ ≠ gb114))) (fun _ hk => hk.2) (.int .i64 (wrap64 ((wrap64 ((wrap64 (t119 + t120)) + t121)) + t122)))) (fun _ hk => hk.1))); (case aS => exact (below_size (by repeat (first | (with_reducible first | exact HB.out | apply below_alloc | apply pw_below_drewN | apply below_drew1 | refine below_set ?_ GE114.out) | exact HB.out)))); (case aL => have := LMc17.out; omega); intro v124 w39 ho hb hg hat; rw [← Ny123.out] at ho; have n0_ := Aside0.mk (blk_grown (g := gb114) (o := .cells #[.int .i64 (wrap64 ((wrap64 (x6_1 + 1)) + t115)), .int .i64 t116, .int .i64 ji11, .int .i64 (wrap64 ((wrap64 ((ji11) + 1)) + t118)), .int .i64 (wrap64 ((wrap64 ((wrap64 (t119 + t120)) + t121)) + t122)), .int .i64 t119, .int .i64 0, .int .i64 t120, .int .i64 t121] 33 (0, 0)) (by (with_reducible repeat (first | refine blk_drewN ?_ _ | refine blk_drew ?_ | refine blk_alloc ?_ _)); refine blk_put (cs := #[.int .i64 (wrap64 ((wrap64 (x6_1 + 1)) + t115)), .int .i64 t116, .int .i64 ji11, .int .i64 (wrap64 ((wrap64 ((ji11) + 1)) + t118)), .int .i64 ((rd_T33 l0 x7_1).f4), .int .i64 t119, .int .i64 0, .int .i64 t120, .int .i64 t121]) ?_ 4 _ rfl; (with_reducible repeat (first | refine blk_drewN ?_ _ | refine blk_drew ?_ | refine blk_alloc ?_ _)); exact BK114.out) hg (Kd.R_away HO_5.out (fun _ hk => hk))); have n1_ := Aside0.mk (hb); have n2_ := Aside0.mk (ho); clear BK114; clear HB; clear HO_5; have BK114 := n0_; have HB := n1_; have HO125 := n2_; clear n0_ n1_ n2_; clear ho hb hg hat))
             go_roundg kj2
             case measure => have := HK1.out; have := HJ2.out; omega
             case rel => exact ⟨(y123), (wrap64 ((wrap64 (x6_1 + 1)) + t115)), (wrap64 (x7_1 + 1)), (by first | rfl | (simp; done) | (simp [*]; done)), (by first | rfl | (simp; done) | (simp [*]; done)), H', ⟨by have := HK1.out; have := HJ2.out; omega⟩, ⟨by (with_reducible repeat (first | apply Kd.R_alloc | apply Kd.R_drewN | apply Kd.R_drew)); exact Kd.R_mono HO125.out (fun _ hk => trivial)⟩, ⟨by repeat (first | (with_reducible first | exact HB.out | apply below_alloc | apply pw_below_drewN | apply below_drew1 | refine below_set ?_ GE114.out) | exact HB.out)⟩⟩
           · rw [if_neg c17] at H
             exact absurd H (by simp)
         · rw [if_neg c7] at H
           exact absurd H (by simp)
       · rw [if_neg c6] at H
         exact absurd H (by simp)
     · replace c5 := Bool.eq_false_iff.mpr c5
       subst c5
       have H1 : (some x5_1) = some r := by rw [if_neg (show ¬ (false = true) by decide)] at H; exact H
       clear H
       have H := H1
       clear H1
       obtain rfl := Option.some.inj H
       go_wp2
       go_ret
       exact ⟨_, by first | rfl | (simp [errW_none, errW_some] <;> rfl) | (simp [*, errW_none, errW_some] <;> rfl), by (with_reducible repeat (first | apply Kd.R_alloc | apply Kd.R_drewN | apply Kd.R_drew)); exact HO_5.out, by repeat (first | (with_reducible first | exact HB.out | apply below_alloc | apply pw_below_drewN | apply below_drew1) | exact HB.out)⟩

end Go.Proofs.Ytjoimapgmocoeaa.Xa
