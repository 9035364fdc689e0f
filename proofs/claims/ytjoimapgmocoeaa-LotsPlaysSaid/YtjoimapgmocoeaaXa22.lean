/- What Go functions of this seat compute, as plain Lean functions; the machine's calls do what these say, under the conditions that each theorem names. Written by a program of this session (xprint, over print.py of the kit). -/
import Derived.Test.YtjoimapgmocoeaaXa0
import Derived.Test.YtjoimapgmocoeaaXa20
import Derived.Test.YtjoimapgmocoeaaXa21
namespace Go.Proofs.Ytjoimapgmocoeaa.Xa
open Go.RowKit Go.Proofs.YtjoimapgmocoeaaW.PrintWords Go.Proofs.YtjoimapgmocoeaaW.PrintLast Go.Proofs.YtjoimapgmocoeaaW.PrintMore
attribute [local go_sem] max2_int min2_int max_two min_two max_three min_three max_four min_four   -- for this text's walks alone
set_option linter.unusedVariables false
set_option linter.unusedSimpArgs false

/-! ### tollref10_first: function 33 -/
def tollref10_first.l0 : Nat → List (S33) → Int → Int → Int → Option (Int)
 | 0, _, _, _, _ => none
 | k + 1, x0, x1, x5, x6 => if x6 < (x0.length : Int) then (if 0 ≤ x6 then ((tollref10_Valid.f ((rd_T33 x0 x6).f0) ((rd_T33 x0 x6).f1) ((rd_T33 x0 x6).f2) ((rd_T33 x0 x6).f3) ((rd_T33 x0 x6).f4) ((rd_T33 x0 x6).f5) ((rd_T33 x0 x6).f6) ((rd_T33 x0 x6).f7) ((rd_T33 x0 x6).f8) x1).bind fun t275 => (if t275 = true then ((tollref10_Rest.f ((rd_T33 x0 x6).f0) ((rd_T33 x0 x6).f1) ((rd_T33 x0 x6).f2) ((rd_T33 x0 x6).f3) ((rd_T33 x0 x6).f4) ((rd_T33 x0 x6).f5) ((rd_T33 x0 x6).f6) ((rd_T33 x0 x6).f7) ((rd_T33 x0 x6).f8)).bind fun t277 => (if t277 > 0 then (if x5 < 0 then (tollref10_first.l0 k x0 x1 x6 (wrap64 (x6 + 1))) else (if 0 ≤ x5 then (if x5 < (x0.length : Int) then (if ((rd_T33 x0 x6).f3) < ((rd_T33 x0 x5).f3) then (tollref10_first.l0 k x0 x1 x6 (wrap64 (x6 + 1))) else (tollref10_first.l0 k x0 x1 x5 (wrap64 (x6 + 1)))) else (none)) else (none))) else (tollref10_first.l0 k x0 x1 x5 (wrap64 (x6 + 1))))) else (tollref10_first.l0 k x0 x1 x5 (wrap64 (x6 + 1))))) else (none)) else (some x5)
def tollref10_first.f (k : Nat) (l0 : List (S33)) (a1 : Int) : Option (Int) := tollref10_first.l0 k l0 a1 (-1) 0
theorem tollref10_first.mono_l : ∀ k, (∀ y0 y1 y2 y3, LeO (tollref10_first.l0 k y0 y1 y2 y3) (tollref10_first.l0 (k + 1) y0 y1 y2 y3))
 | 0 => fun _ _ _ _ r h => by simp [tollref10_first.l0] at h
 | k + 1 => by
  have ih0 := tollref10_first.mono_l k
  · intro y0 y1 y2 y3
    unfold tollref10_first.l0
    repeat' first
    | (with_reducible exact ih0 _ _ _ _)
    | (with_reducible exact LeO.refl _)
    | (with_reducible exact LeO.none _)
    | (with_reducible refine LeO.ite ?_ ?_)
    | (with_reducible refine LeO.bind ?_ (fun _ => ?_))
    | exact ih0 _ _ _ _
    | exact LeO.none _
    | refine LeO.ite ?_ ?_
    | refine LeO.bind ?_ (fun _ => ?_)
theorem tollref10_first.mono : ∀ a0 a1 k, LeO (tollref10_first.f k a0 a1) (tollref10_first.f (k + 1) a0 a1) := by
 intro a0 a1 k
 have ih0 := tollref10_first.mono_l k
 unfold tollref10_first.f
 repeat' first
  | (with_reducible exact ih0 _ _ _ _)
  | (with_reducible exact LeO.refl _)
  | (with_reducible exact LeO.none _)
  | (with_reducible refine LeO.ite ?_ ?_)
  | (with_reducible refine LeO.bind ?_ (fun _ => ?_))
  | exact ih0 _ _ _ _
  | exact LeO.none _
  | refine LeO.ite ?_ ?_
  | refine LeO.bind ?_ (fun _ => ?_)
def tollref10_first.T5 : Bool × List (List Nat × List Nat) := (true, [([], []), ([], []), ([0, 1], [0, 1]), ([2], [2]), ([], []), ([3, 4], [3, 4]), ([5, 5], [5]), ([6], [6]), ([6], [6]), ([7, 8, 6], [6, 7, 8]), ([9, 6], [6, 9]), ([10, 6, 6], [6, 10]), ([11, 6], [6, 11]), ([6, 12], [6, 12]), ([13, 11], [13]), ([14], [14]), ([15, 14], [14, 15]), ([16, 14, 14], [14, 16]), ([17], [17]), ([17], [17]), ([18, 19, 17], [17, 18, 19]), ([20, 17], [17, 20]), ([21, 17], [17, 21]), ([17], [17]), ([17], [17]), ([23, 24, 17], [17, 23, 24]), ([25, 17], [17, 25]), ([26, 17], [17, 26]), ([22, 27, 17], [17, 22, 27]), ([17, 28, 14], [14, 17, 28]), ([14, 29], [14, 29])])
def tollref10_first.B5 : List Nat := [0, 0, 3, 7, 0, 31, 63, 127, 127, 511, 1023, 2047, 4095, 8191, 16383, 32767, 65535, 131071, 262143, 262143, 1048575, 2097151, 4194303, 262143, 262143, 25427967, 58982399, 126091263, 268435455, 536870911, 1073741823]
theorem tollref10_first.tab5 : rtab .any (opsOf Try.f33 5) = tollref10_first.T5 := by kernel_rfl
theorem tollref10_first.bits5 : waitsOk tollref10_first.T5.2 tollref10_first.B5 = true := by kernel_rfl
set_option maxHeartbeats 8000000 in
set_option maxRecDepth 100000 in
theorem tollref10_first.calls (k : Nat) (A0 : Option Addr) (c0 : Nat) (l0 : List (S33)) (a1 : Int) (r : Int) (w : World) (hr0 : Kd.C k33 w A0 l0.length l0) (hc0 : l0.length ≤ c0) (h : tollref10_first.f k l0 a1 = some r) :
 Calls Try.prog 33 #[.slice A0 l0.length c0, .int .i64 a1] w fun e w' => e = .returned (.int .i64 r) ∧ Below w.heap.size w w' := by
 have hu33 := Try.underlying33
 have HR0 := Aside0.mk hr0
 have HC0 := Aside0.mk hc0
 clear hr0 hc0
 have HB := Aside0.mk (Below.refl w.heap.size w)
 have H : (tollref10_first.l0 k l0 a1 (-1) 0) = some r := h
 clear h
 have H' := Aside0.mk H
 clear H
 go_enter Try.func33, Try.ntmps33
 go_wp2
 go_loopg [5, 6] k (fun kq v5 v6 w' => ∃ (x5_1 : Int) (x6_1 : Int), v5 = .int .i64 x5_1 ∧ v6 = .int .i64 x6_1 ∧ Aside0 (tollref10_first.l0 kq l0 a1 x5_1 x6_1 = some r) ∧ Aside0 (kq ≤ k) ∧ Aside0 (Below w.heap.size w w'))
 case atStart => exact ⟨((-1)), (0), (by first | rfl | (simp; done) | (simp [*]; done)), (by first | rfl | (simp; done) | (simp [*]; done)), H', ⟨Nat.le_refl _⟩, ⟨by repeat (first | (with_reducible first | exact HB.out | apply below_alloc | apply pw_below_drewN | apply below_drew1) | exact HB.out)⟩⟩
 case round =>
  clear H'
  try clear p2
  obtain ⟨x5_1, x6_1, rfl, rfl, HA, HK1, HB⟩ := hrel
  cases gk with
  | zero => exact absurd HA.out (by simp [tollref10_first.l0])
  | succ k1 =>
   have H := HA.out
   clear HA
   simp only [tollref10_first.l0] at H
   by_cases c3 : x6_1 < (l0.length : Int)
   · rw [if_pos c3] at H
     have c3b0 : decide (x6_1 < (l0.length : Int)) = true := decide_eq_true c3
     clear c3
     by_cases c4 : 0 ≤ x6_1
     · rw [if_pos c4] at H
       have c4b0 : decide (0 ≤ x6_1) = true := decide_eq_true c4
       clear c4
       replace H := Option.bind_eq_some_iff.mp H
       obtain ⟨t275, A50, H⟩ := H
       replace H : (if t275 = true then ((tollref10_Rest.f ((rd_T33 l0 x6_1).f0) ((rd_T33 l0 x6_1).f1) ((rd_T33 l0 x6_1).f2) ((rd_T33 l0 x6_1).f3) ((rd_T33 l0 x6_1).f4) ((rd_T33 l0 x6_1).f5) ((rd_T33 l0 x6_1).f6) ((rd_T33 l0 x6_1).f7) ((rd_T33 l0 x6_1).f8)).bind fun t277 => (if t277 > 0 then (if x5_1 < 0 then (tollref10_first.l0 k1 l0 a1 x6_1 (wrap64 (x6_1 + 1))) else (if 0 ≤ x5_1 then (if x5_1 < (l0.length : Int) then (if ((rd_T33 l0 x6_1).f3) < ((rd_T33 l0 x5_1).f3) then (tollref10_first.l0 k1 l0 a1 x6_1 (wrap64 (x6_1 + 1))) else (tollref10_first.l0 k1 l0 a1 x5_1 (wrap64 (x6_1 + 1)))) else (none)) else (none))) else (tollref10_first.l0 k1 l0 a1 x5_1 (wrap64 (x6_1 + 1))))) else (tollref10_first.l0 k1 l0 a1 x5_1 (wrap64 (x6_1 + 1)))) = some r := H
       have A5 := Aside0.mk A50
       clear A50
       by_cases c6 : t275 = true
       · subst c6
         have H1 : ((tollref10_Rest.f ((rd_T33 l0 x6_1).f0) ((rd_T33 l0 x6_1).f1) ((rd_T33 l0 x6_1).f2) ((rd_T33 l0 x6_1).f3) ((rd_T33 l0 x6_1).f4) ((rd_T33 l0 x6_1).f5) ((rd_T33 l0 x6_1).f6) ((rd_T33 l0 x6_1).f7) ((rd_T33 l0 x6_1).f8)).bind fun t277 => (if t277 > 0 then (if x5_1 < 0 then (tollref10_first.l0 k1 l0 a1 x6_1 (wrap64 (x6_1 + 1))) else (if 0 ≤ x5_1 then (if x5_1 < (l0.length : Int) then (if ((rd_T33 l0 x6_1).f3) < ((rd_T33 l0 x5_1).f3) then (tollref10_first.l0 k1 l0 a1 x6_1 (wrap64 (x6_1 + 1))) else (tollref10_first.l0 k1 l0 a1 x5_1 (wrap64 (x6_1 + 1)))) else (none)) else (none))) else (tollref10_first.l0 k1 l0 a1 x5_1 (wrap64 (x6_1 + 1))))) = some r := by rw [if_pos rfl] at H; exact H
         clear H
         have H := H1
         clear H1
         replace H := Option.bind_eq_some_iff.mp H
         obtain ⟨t277, A70, H⟩ := H
         replace H : (if t277 > 0 then (if x5_1 < 0 then (tollref10_first.l0 k1 l0 a1 x6_1 (wrap64 (x6_1 + 1))) else (if 0 ≤ x5_1 then (if x5_1 < (l0.length : Int) then (if ((rd_T33 l0 x6_1).f3) < ((rd_T33 l0 x5_1).f3) then (tollref10_first.l0 k1 l0 a1 x6_1 (wrap64 (x6_1 + 1))) else (tollref10_first.l0 k1 l0 a1 x5_1 (wrap64 (x6_1 + 1)))) else (none)) else (none))) else (tollref10_first.l0 k1 l0 a1 x5_1 (wrap64 (x6_1 + 1)))) = some r := H
         have A7 := Aside0.mk A70
         clear A70
         by_cases c8 : t277 > 0
         · rw [if_pos c8] at H
           have c8b0 : decide (0 < t277) = true := decide_eq_true c8
           clear c8
           by_cases c9 : x5_1 < 0
           · rw [if_pos c9] at H
             have c9b0 : decide (x5_1 < 0) = true := decide_eq_true c9
             clear c9
             have H' := Aside0.mk H
             clear H
             try go_wp2
             have n0_ := Aside0.mk (below_drew1 HB.out)
             clear HB
             have HB := n0_
             clear n0_
             have p274 : 0 ≤ (x6_1 : Int) := of_decide_eq_true (by first | (with_reducible assumption) | assumption)
             have q274 : x6_1 < (l0.length : Int) := of_decide_eq_true (by first | (with_reducible assumption) | assumption)
             obtain ⟨ad274, e274, hx274_0, hx274_1, hx274_2, hx274_3, hx274_4, hx274_5, hx274_6, hx274_7, hx274_8⟩ := at_T33 HR0.out x6_1 p274 q274
             have hw274_8 := hx274_8
             have hw274_7 := hx274_7
             have hw274_6 := hx274_6
             have hw274_5 := hx274_5
             have hw274_4 := hx274_4
             have hw274_3 := hx274_3
             have hw274_2 := hx274_2
             have hw274_1 := hx274_1
             have hw274_0 := hx274_0
             cases e274
             replace hx274_0 := (HB.out.cell (World.block_lt_of_cell? w _ hx274_0)).trans hx274_0
             replace hx274_1 := (HB.out.cell (World.block_lt_of_cell? w _ hx274_1)).trans hx274_1
             replace hx274_2 := (HB.out.cell (World.block_lt_of_cell? w _ hx274_2)).trans hx274_2
             replace hx274_3 := (HB.out.cell (World.block_lt_of_cell? w _ hx274_3)).trans hx274_3
             replace hx274_4 := (HB.out.cell (World.block_lt_of_cell? w _ hx274_4)).trans hx274_4
             replace hx274_5 := (HB.out.cell (World.block_lt_of_cell? w _ hx274_5)).trans hx274_5
             replace hx274_6 := (HB.out.cell (World.block_lt_of_cell? w _ hx274_6)).trans hx274_6
             replace hx274_7 := (HB.out.cell (World.block_lt_of_cell? w _ hx274_7)).trans hx274_7
             replace hx274_8 := (HB.out.cell (World.block_lt_of_cell? w _ hx274_8)).trans hx274_8
             replace p274 := eq_true p274
             replace q274 := eq_true q274
             have p276 : 0 ≤ (x6_1 : Int) := of_decide_eq_true (by first | (with_reducible assumption) | assumption)
             have q276 : x6_1 < (l0.length : Int) := of_decide_eq_true (by first | (with_reducible assumption) | assumption)
             obtain ⟨ad276, e276, hx276_0, hx276_1, hx276_2, hx276_3, hx276_4, hx276_5, hx276_6, hx276_7, hx276_8⟩ := at_T33 HR0.out x6_1 p276 q276
             have hw276_8 := hx276_8
             have hw276_7 := hx276_7
             have hw276_6 := hx276_6
             have hw276_5 := hx276_5
             have hw276_4 := hx276_4
             have hw276_3 := hx276_3
             have hw276_2 := hx276_2
             have hw276_1 := hx276_1
             have hw276_0 := hx276_0
             obtain rfl : ad274 = ad276 := (by injection e276)
             replace hx276_0 := (HB.out.cell (World.block_lt_of_cell? w _ hx276_0)).trans hx276_0
             replace hx276_1 := (HB.out.cell (World.block_lt_of_cell? w _ hx276_1)).trans hx276_1
             replace hx276_2 := (HB.out.cell (World.block_lt_of_cell? w _ hx276_2)).trans hx276_2
             replace hx276_3 := (HB.out.cell (World.block_lt_of_cell? w _ hx276_3)).trans hx276_3
             replace hx276_4 := (HB.out.cell (World.block_lt_of_cell? w _ hx276_4)).trans hx276_4
             replace hx276_5 := (HB.out.cell (World.block_lt_of_cell? w _ hx276_5)).trans hx276_5
             replace hx276_6 := (HB.out.cell (World.block_lt_of_cell? w _ hx276_6)).trans hx276_6
             replace hx276_7 := (HB.out.cell (World.block_lt_of_cell? w _ hx276_7)).trans hx276_7
             replace hx276_8 := (HB.out.cell (World.block_lt_of_cell? w _ hx276_8)).trans hx276_8
             replace p276 := eq_true p276
             replace q276 := eq_true q276
             refine start_ (n := 31) (S := fun w' => w'.cell? (ad274.add ((x6_1).toNat * 9)) = some (.int .i64 ((rd_T33 l0 x6_1).f0)) ∧ w'.cell? ⟨(ad274.add ((x6_1).toNat * 9)).block, (ad274.add ((x6_1).toNat * 9)).off + 1, none⟩ = some (.int .i64 ((rd_T33 l0 x6_1).f1)) ∧ w'.cell? ⟨(ad274.add ((x6_1).toNat * 9)).block, (ad274.add ((x6_1).toNat * 9)).off + 2, none⟩ = some (.int .i64 ((rd_T33 l0 x6_1).f2)) ∧ w'.cell? ⟨(ad274.add ((x6_1).toNat * 9)).block, (ad274.add ((x6_1).toNat * 9)).off + 3, none⟩ = some (.int .i64 ((rd_T33 l0 x6_1).f3)) ∧ w'.cell? ⟨(ad274.add ((x6_1).toNat * 9)).block, (ad274.add ((x6_1).toNat * 9)).off + 4, none⟩ = some (.int .i64 ((rd_T33 l0 x6_1).f4)) ∧ w'.cell? ⟨(ad274.add ((x6_1).toNat * 9)).block, (ad274.add ((x6_1).toNat * 9)).off + 5, none⟩ = some (.int .i64 ((rd_T33 l0 x6_1).f5)) ∧ w'.cell? ⟨(ad274.add ((x6_1).toNat * 9)).block, (ad274.add ((x6_1).toNat * 9)).off + 6, none⟩ = some (.int .i64 ((rd_T33 l0 x6_1).f6)) ∧ w'.cell? ⟨(ad274.add ((x6_1).toNat * 9)).block, (ad274.add ((x6_1).toNat * 9)).off + 7, none⟩ = some (.int .i64 ((rd_T33 l0 x6_1).f7)) ∧ w'.cell? ⟨(ad274.add ((x6_1).toNat * 9)).block, (ad274.add ((x6_1).toNat * 9)).off + 8, none⟩ = some (.int .i64 ((rd_T33 l0 x6_1).f8)) ∧ w'.cell? (ad274.add ((x6_1).toNat * 9)) = some (.int .i64 ((rd_T33 l0 x6_1).f0)) ∧ w'.cell? ⟨(ad274.add ((x6_1).toNat * 9)).block, (ad274.add ((x6_1).toNat * 9)).off + 1, none⟩ = some (.int .i64 ((rd_T33 l0 x6_1).f1)) ∧ w'.cell? ⟨(ad274.add ((x6_1).toNat * 9)).block, (ad274.add ((x6_1).toNat * 9)).off + 2, none⟩ = some (.int .i64 ((rd_T33 l0 x6_1).f2)) ∧ w'.cell? ⟨(ad274.add ((x6_1).toNat * 9)).block, (ad274.add ((x6_1).toNat * 9)).off + 3, none⟩ = some (.int .i64 ((rd_T33 l0 x6_1).f3)) ∧ w'.cell? ⟨(ad274.add ((x6_1).toNat * 9)).block, (ad274.add ((x6_1).toNat * 9)).off + 4, none⟩ = some (.int .i64 ((rd_T33 l0 x6_1).f4)) ∧ w'.cell? ⟨(ad274.add ((x6_1).toNat * 9)).block, (ad274.add ((x6_1).toNat * 9)).off + 5, none⟩ = some (.int .i64 ((rd_T33 l0 x6_1).f5)) ∧ w'.cell? ⟨(ad274.add ((x6_1).toNat * 9)).block, (ad274.add ((x6_1).toNat * 9)).off + 6, none⟩ = some (.int .i64 ((rd_T33 l0 x6_1).f6)) ∧ w'.cell? ⟨(ad274.add ((x6_1).toNat * 9)).block, (ad274.add ((x6_1).toNat * 9)).off + 7, none⟩ = some (.int .i64 ((rd_T33 l0 x6_1).f7)) ∧ w'.cell? ⟨(ad274.add ((x6_1).toNat * 9)).block, (ad274.add ((x6_1).toNat * 9)).off + 8, none⟩ = some (.int .i64 ((rd_T33 l0 x6_1).f8))) (ds := []) #[false, false, false, false, false, false, false, false, false, false, false, false, false, false, false, false, false, false, false, false, false, false, false, false, false, false, false, false, false, false, false] (by kernel_rfl) rfl rfl ⟨((HB.out.cell (World.block_lt_of_cell? w _ hw274_0)).trans hw274_0), ((HB.out.cell (World.block_lt_of_cell? w _ hw274_1)).trans hw274_1), ((HB.out.cell (World.block_lt_of_cell? w _ hw274_2)).trans hw274_2), ((HB.out.cell (World.block_lt_of_cell? w _ hw274_3)).trans hw274_3), ((HB.out.cell (World.block_lt_of_cell? w _ hw274_4)).trans hw274_4), ((HB.out.cell (World.block_lt_of_cell? w _ hw274_5)).trans hw274_5), ((HB.out.cell (World.block_lt_of_cell? w _ hw274_6)).trans hw274_6), ((HB.out.cell (World.block_lt_of_cell? w _ hw274_7)).trans hw274_7), ((HB.out.cell (World.block_lt_of_cell? w _ hw274_8)).trans hw274_8), ((HB.out.cell (World.block_lt_of_cell? w _ hw276_0)).trans hw276_0), ((HB.out.cell (World.block_lt_of_cell? w _ hw276_1)).trans hw276_1), ((HB.out.cell (World.block_lt_of_cell? w _ hw276_2)).trans hw276_2), ((HB.out.cell (World.block_lt_of_cell? w _ hw276_3)).trans hw276_3), ((HB.out.cell (World.block_lt_of_cell? w _ hw276_4)).trans hw276_4), ((HB.out.cell (World.block_lt_of_cell? w _ hw276_5)).trans hw276_5), ((HB.out.cell (World.block_lt_of_cell? w _ hw276_6)).trans hw276_6), ((HB.out.cell (World.block_lt_of_cell? w _ hw276_7)).trans hw276_7), ((HB.out.cell (World.block_lt_of_cell? w _ hw276_8)).trans hw276_8)⟩ (fun hHeld => ?_); refine with_tabW tollref10_first.tab5 tollref10_first.bits5 (fun HT_ HW_ => ?_)
             generalize wr.drew = w10 at HB hx274_0 hx274_1 hx274_2 hx274_3 hx274_4 hx274_5 hx274_6 hx274_7 hx274_8 hx276_0 hx276_1 hx276_2 hx276_3 hx276_4 hx276_5 hx276_6 hx276_7 hx276_8 hHeld ⊢
             refine pure_ (i := 0) (N := some 13) (v := ?_) (a' := ?_) (bA 31 1) rfl rfl (any_of HT_.out (by kernel_rfl)) (fun _ _ _ h => h) (Or.inl ⟨by rfl, ?_⟩) ?_ ?_
             rotate_left
             · intro w'
               go_simp
               with_reducible rfl
             rotate_left
             · simp only [Act.put, List.setIfInBounds_toArray, List.set_cons_zero, List.set_cons_succ, i64_w, i32_w]
               rfl
             refine pure_ (i := 1) (N := some 14) (v := ?_) (a' := ?_) (bA 31 3) rfl rfl (any_of HT_.out (by kernel_rfl)) (fun _ _ _ h => h) (Or.inl ⟨by rfl, ?_⟩) ?_ ?_
             rotate_left
             · intro w'
               go_simp
               with_reducible rfl
             rotate_left
             · simp only [Act.put, List.setIfInBounds_toArray, List.set_cons_zero, List.set_cons_succ, i64_w, i32_w]
               rfl
             refine pure_ (i := 2) (N := some 15) (v := ?_) (a' := ?_) (bA 31 7) rfl rfl (any_of HT_.out (by kernel_rfl)) (fun _ _ _ h => h) (Or.inl ⟨by rfl, ?_⟩) ?_ ?_
             rotate_left
             · intro w'
               go_simp
               with_reducible rfl
             rotate_left
             · simp only [Act.put, List.setIfInBounds_toArray, List.set_cons_zero, List.set_cons_succ, i64_w, i32_w]
               rfl
             refine pure_ (i := 4) (N := some 17) (v := ?_) (a' := ?_) (bA 31 23) rfl rfl (any_of HT_.out (by kernel_rfl)) (fun _ _ _ h => h) (Or.inl ⟨by rfl, ?_⟩) ?_ ?_
             rotate_left
             · intro w'
               go_simp
               with_reducible rfl
             rotate_left
             · simp only [Act.put, List.setIfInBounds_toArray, List.set_cons_zero, List.set_cons_succ, i64_w, i32_w]
               rfl
             refine take_ (i := 3) (N := some 16) (v := ?_) (a' := ?_) (bA 31 31) rfl rfl (take_ofW HT_.out HW_.out (by kernel_rfl)) (fun _ _ _ h => h) (Or.inl ⟨by rfl, ?_⟩) hHeld ?_ ?_
             rotate_left
             · rintro w' ⟨s0, s1, s2, s3, s4, s5, s6, s7, s8, s9, s10, s11, s12, s13, s14, s15, s16, s17⟩
               go_simp
               with_reducible rfl
             rotate_left
             · simp only [Act.put, List.setIfInBounds_toArray, List.set_cons_zero, List.set_cons_succ, i64_w, i32_w]
               rfl
             refine one_ (i := 5) (N := some 18) (bA 31 63) rfl rfl (one_of HT_.out (by kernel_rfl)) (by decide) (fun K hK => ?_)
             refine goes_ Try.func27 (by kernel_rfl) rfl #[.agg #[.int .i64 ((rd_T33 l0 x6_1).f0), .int .i64 ((rd_T33 l0 x6_1).f1), .int .i64 ((rd_T33 l0 x6_1).f2), .int .i64 ((rd_T33 l0 x6_1).f3), .int .i64 ((rd_T33 l0 x6_1).f4), .int .i64 ((rd_T33 l0 x6_1).f5), .int .i64 ((rd_T33 l0 x6_1).f6), .int .i64 ((rd_T33 l0 x6_1).f7), .int .i64 ((rd_T33 l0 x6_1).f8)], .int .i64 a1] (by rfl) rfl rfl (by (try simp only [List.map_toArray, List.map_cons, List.map_nil]); first | done | rfl | (simp only [List.length_drop, List.length_take]; rfl)) ?_
             with_reducible refine (tollref10_Valid.calls ((rd_T33 l0 x6_1).f0) ((rd_T33 l0 x6_1).f1) ((rd_T33 l0 x6_1).f2) ((rd_T33 l0 x6_1).f3) ((rd_T33 l0 x6_1).f4) ((rd_T33 l0 x6_1).f5) ((rd_T33 l0 x6_1).f6) ((rd_T33 l0 x6_1).f7) ((rd_T33 l0 x6_1).f8) a1 true _ A5.out).mono ?_
             rintro e w11 ⟨rfl, hb⟩
             refine ⟨_, rfl, ?_⟩
             have n0_ := Aside0.mk (below_step (by repeat (first | (with_reducible first | exact HB.out | apply below_alloc | apply pw_below_drewN | apply below_drew1) | exact HB.out)) hb)
             clear HB
             have HB := n0_
             clear n0_
             (try clear hb)
             (try clear hb2)
             (try clear hk)
             (try clear hi)
             refine hK.out _ _ ⟨((HB.out.cell (World.block_lt_of_cell? w _ hw274_0)).trans hw274_0), ((HB.out.cell (World.block_lt_of_cell? w _ hw274_1)).trans hw274_1), ((HB.out.cell (World.block_lt_of_cell? w _ hw274_2)).trans hw274_2), ((HB.out.cell (World.block_lt_of_cell? w _ hw274_3)).trans hw274_3), ((HB.out.cell (World.block_lt_of_cell? w _ hw274_4)).trans hw274_4), ((HB.out.cell (World.block_lt_of_cell? w _ hw274_5)).trans hw274_5), ((HB.out.cell (World.block_lt_of_cell? w _ hw274_6)).trans hw274_6), ((HB.out.cell (World.block_lt_of_cell? w _ hw274_7)).trans hw274_7), ((HB.out.cell (World.block_lt_of_cell? w _ hw274_8)).trans hw274_8), ((HB.out.cell (World.block_lt_of_cell? w _ hw276_0)).trans hw276_0), ((HB.out.cell (World.block_lt_of_cell? w _ hw276_1)).trans hw276_1), ((HB.out.cell (World.block_lt_of_cell? w _ hw276_2)).trans hw276_2), ((HB.out.cell (World.block_lt_of_cell? w _ hw276_3)).trans hw276_3), ((HB.out.cell (World.block_lt_of_cell? w _ hw276_4)).trans hw276_4), ((HB.out.cell (World.block_lt_of_cell? w _ hw276_5)).trans hw276_5), ((HB.out.cell (World.block_lt_of_cell? w _ hw276_6)).trans hw276_6), ((HB.out.cell (World.block_lt_of_cell? w _ hw276_7)).trans hw276_7), ((HB.out.cell (World.block_lt_of_cell? w _ hw276_8)).trans hw276_8)⟩ (fun hHeld => ?_)
             clear hK K
             refine norm_ (a' := ?_) ?_ ?_
             rotate_left
             · show Act.put _ (some 18) _ = _
               simp only [Act.put, List.setIfInBounds_toArray, List.set_cons_zero, List.set_cons_succ, i64_w, i32_w]
               rfl
             refine pure_ (i := 6) (N := some 19) (v := ?_) (a' := ?_) (bA 31 127) rfl rfl (any_of HT_.out (by kernel_rfl)) (fun _ _ _ h => h) (Or.inl ⟨by rfl, ?_⟩) ?_ ?_
             rotate_left
             · intro w'
               go_simp
               with_reducible rfl
             rotate_left
             · simp only [Act.put, List.setIfInBounds_toArray, List.set_cons_zero, List.set_cons_succ, i64_w, i32_w]
               rfl
             refine pure_ (i := 7) (N := some 20) (v := ?_) (a' := ?_) (bA 31 255) rfl rfl (any_of HT_.out (by kernel_rfl)) (fun _ _ _ h => h) (Or.inl ⟨by rfl, ?_⟩) ?_ ?_
             rotate_left
             · intro w'
               go_simp
               with_reducible rfl
             rotate_left
             · simp only [Act.put, List.setIfInBounds_toArray, List.set_cons_zero, List.set_cons_succ, i64_w, i32_w]
               rfl
             refine pure_ (i := 8) (N := some 21) (v := ?_) (a' := ?_) (bA 31 511) rfl rfl (any_of HT_.out (by kernel_rfl)) (fun _ _ _ h => h) (Or.inl ⟨by rfl, ?_⟩) ?_ ?_
             rotate_left
             · intro w'
               go_simp
               with_reducible rfl
             rotate_left
             · simp only [Act.put, List.setIfInBounds_toArray, List.set_cons_zero, List.set_cons_succ, i64_w, i32_w]
               rfl
             refine pure_ (i := 9) (N := some 22) (v := ?_) (a' := ?_) (bA 31 1023) rfl rfl (any_of HT_.out (by kernel_rfl)) (fun _ _ _ h => h) (Or.inl ⟨by rfl, ?_⟩) ?_ ?_
             rotate_left
             · intro w'
               go_simp
               with_reducible rfl
             rotate_left
             · simp only [Act.put, List.setIfInBounds_toArray, List.set_cons_zero, List.set_cons_succ, i64_w, i32_w]
               rfl
             refine take_ (i := 10) (N := some 23) (v := ?_) (a' := ?_) (bA 31 2047) rfl rfl (take_ofW HT_.out HW_.out (by kernel_rfl)) (fun _ _ _ h => h) (Or.inl ⟨by rfl, ?_⟩) hHeld ?_ ?_
             rotate_left
             · rintro w' ⟨s0, s1, s2, s3, s4, s5, s6, s7, s8, s9, s10, s11, s12, s13, s14, s15, s16, s17⟩
               go_simp
               with_reducible rfl
             rotate_left
             · simp only [Act.put, List.setIfInBounds_toArray, List.set_cons_zero, List.set_cons_succ, i64_w, i32_w]
               rfl
             refine one_ (i := 11) (N := some 24) (bA 31 4095) rfl rfl (one_of HT_.out (by kernel_rfl)) (by decide) (fun K hK => ?_)
             refine goes_ Try.func26 (by kernel_rfl) rfl #[.agg #[.int .i64 ((rd_T33 l0 x6_1).f0), .int .i64 ((rd_T33 l0 x6_1).f1), .int .i64 ((rd_T33 l0 x6_1).f2), .int .i64 ((rd_T33 l0 x6_1).f3), .int .i64 ((rd_T33 l0 x6_1).f4), .int .i64 ((rd_T33 l0 x6_1).f5), .int .i64 ((rd_T33 l0 x6_1).f6), .int .i64 ((rd_T33 l0 x6_1).f7), .int .i64 ((rd_T33 l0 x6_1).f8)]] (by rfl) rfl rfl (by (try simp only [List.map_toArray, List.map_cons, List.map_nil]); first | done | rfl | (simp only [List.length_drop, List.length_take]; rfl)) ?_
             with_reducible refine (tollref10_Rest.calls ((rd_T33 l0 x6_1).f0) ((rd_T33 l0 x6_1).f1) ((rd_T33 l0 x6_1).f2) ((rd_T33 l0 x6_1).f3) ((rd_T33 l0 x6_1).f4) ((rd_T33 l0 x6_1).f5) ((rd_T33 l0 x6_1).f6) ((rd_T33 l0 x6_1).f7) ((rd_T33 l0 x6_1).f8) t277 _ A7.out).mono ?_
             rintro e w12 ⟨rfl, hb⟩
             refine ⟨_, rfl, ?_⟩
             have n0_ := Aside0.mk (below_step (by repeat (first | (with_reducible first | exact HB.out | apply below_alloc | apply pw_below_drewN | apply below_drew1) | exact HB.out)) hb)
             clear HB
             have HB := n0_
             clear n0_
             (try clear hb)
             (try clear hb2)
             (try clear hk)
             (try clear hi)
             refine hK.out _ _ ⟨((HB.out.cell (World.block_lt_of_cell? w _ hw274_0)).trans hw274_0), ((HB.out.cell (World.block_lt_of_cell? w _ hw274_1)).trans hw274_1), ((HB.out.cell (World.block_lt_of_cell? w _ hw274_2)).trans hw274_2), ((HB.out.cell (World.block_lt_of_cell? w _ hw274_3)).trans hw274_3), ((HB.out.cell (World.block_lt_of_cell? w _ hw274_4)).trans hw274_4), ((HB.out.cell (World.block_lt_of_cell? w _ hw274_5)).trans hw274_5), ((HB.out.cell (World.block_lt_of_cell? w _ hw274_6)).trans hw274_6), ((HB.out.cell (World.block_lt_of_cell? w _ hw274_7)).trans hw274_7), ((HB.out.cell (World.block_lt_of_cell? w _ hw274_8)).trans hw274_8), ((HB.out.cell (World.block_lt_of_cell? w _ hw276_0)).trans hw276_0), ((HB.out.cell (World.block_lt_of_cell? w _ hw276_1)).trans hw276_1), ((HB.out.cell (World.block_lt_of_cell? w _ hw276_2)).trans hw276_2), ((HB.out.cell (World.block_lt_of_cell? w _ hw276_3)).trans hw276_3), ((HB.out.cell (World.block_lt_of_cell? w _ hw276_4)).trans hw276_4), ((HB.out.cell (World.block_lt_of_cell? w _ hw276_5)).trans hw276_5), ((HB.out.cell (World.block_lt_of_cell? w _ hw276_6)).trans hw276_6), ((HB.out.cell (World.block_lt_of_cell? w _ hw276_7)).trans hw276_7), ((HB.out.cell (World.block_lt_of_cell? w _ hw276_8)).trans hw276_8)⟩ (fun hHeld => ?_)
             clear hK K
             refine norm_ (a' := ?_) ?_ ?_
             rotate_left
             · show Act.put _ (some 24) _ = _
               simp only [Act.put, List.setIfInBounds_toArray, List.set_cons_zero, List.set_cons_succ, i64_w, i32_w]
               rfl
             refine pure_ (i := 12) (N := some 25) (v := ?_) (a' := ?_) (bA 31 8191) rfl rfl (any_of HT_.out (by kernel_rfl)) (fun _ _ _ h => h) (Or.inl ⟨by rfl, ?_⟩) ?_ ?_
             rotate_left
             · intro w'
               go_simp
               with_reducible rfl
             rotate_left
             · simp only [Act.put, List.setIfInBounds_toArray, List.set_cons_zero, List.set_cons_succ, i64_w, i32_w]
               rfl
             refine pure_ (i := 13) (N := some 26) (v := ?_) (a' := ?_) (bA 31 16383) rfl rfl (any_of HT_.out (by kernel_rfl)) (fun _ _ _ h => h) (Or.inl ⟨by rfl, ?_⟩) ?_ ?_
             rotate_left
             · intro w'
               go_simp
               with_reducible rfl
             rotate_left
             · simp only [Act.put, List.setIfInBounds_toArray, List.set_cons_zero, List.set_cons_succ, i64_w, i32_w]
               rfl
             refine pure_ (i := 14) (N := some 27) (v := ?_) (a' := ?_) (bA 31 32767) rfl rfl (any_of HT_.out (by kernel_rfl)) (fun _ _ _ h => h) (Or.inl ⟨by rfl, ?_⟩) ?_ ?_
             rotate_left
             · intro w'
               go_simp
               with_reducible rfl
             rotate_left
             · simp only [Act.put, List.setIfInBounds_toArray, List.set_cons_zero, List.set_cons_succ, i64_w, i32_w]
               rfl
             refine pure_ (i := 15) (N := some 28) (v := ?_) (a' := ?_) (bA 31 65535) rfl rfl (any_of HT_.out (by kernel_rfl)) (fun _ _ _ h => h) (Or.inl ⟨by rfl, ?_⟩) ?_ ?_
             rotate_left
             · intro w'
               go_simp
               with_reducible rfl
             rotate_left
             · simp only [Act.put, List.setIfInBounds_toArray, List.set_cons_zero, List.set_cons_succ, i64_w, i32_w]
               rfl
             refine pure_ (i := 16) (N := some 29) (v := ?_) (a' := ?_) (bA 31 131071) rfl rfl (any_of HT_.out (by kernel_rfl)) (fun _ _ _ h => h) (Or.inl ⟨by rfl, ?_⟩) ?_ ?_
             rotate_left
             · intro w'
               go_simp
               with_reducible rfl
             rotate_left
             · simp only [Act.put, List.setIfInBounds_toArray, List.set_cons_zero, List.set_cons_succ, i64_w, i32_w]
               rfl
             refine pure_ (i := 17) (N := some 30) (v := ?_) (a' := ?_) (bA 31 262143) rfl rfl (any_of HT_.out (by kernel_rfl)) (fun _ _ _ h => h) (Or.inl ⟨by rfl, ?_⟩) ?_ ?_
             rotate_left
             · intro w'
               go_simp
               with_reducible rfl
             rotate_left
             · simp only [Act.put, List.setIfInBounds_toArray, List.set_cons_zero, List.set_cons_succ, i64_w, i32_w]
               rfl
             refine pure_ (i := 18) (N := some 31) (v := undef) (a' := ?_) (bA 31 524287) rfl rfl (any_of HT_.out (by kernel_rfl)) (fun _ _ _ h => h) (Or.inr ⟨by rfl, rfl⟩) ?_ ?_
             rotate_left
             · simp only [Act.put, List.setIfInBounds_toArray, List.set_cons_zero, List.set_cons_succ, i64_w, i32_w]
               rfl
             refine pure_ (i := 19) (N := some 32) (v := undef) (a' := ?_) (bA 31 1048575) rfl rfl (any_of HT_.out (by kernel_rfl)) (fun _ _ _ h => h) (Or.inr ⟨by rfl, rfl⟩) ?_ ?_
             rotate_left
             · simp only [Act.put, List.setIfInBounds_toArray, List.set_cons_zero, List.set_cons_succ, i64_w, i32_w]
               rfl
             refine pure_ (i := 20) (N := some 33) (v := undef) (a' := ?_) (bA 31 2097151) rfl rfl (any_of HT_.out (by kernel_rfl)) (fun _ _ _ h => h) (Or.inr ⟨by rfl, rfl⟩) ?_ ?_
             rotate_left
             · simp only [Act.put, List.setIfInBounds_toArray, List.set_cons_zero, List.set_cons_succ, i64_w, i32_w]
               rfl
             refine pure_ (i := 21) (N := some 34) (v := undef) (a' := ?_) (bA 31 4194303) rfl rfl (any_of HT_.out (by kernel_rfl)) (fun _ _ _ h => h) (Or.inr ⟨by rfl, rfl⟩) ?_ ?_
             rotate_left
             · simp only [Act.put, List.setIfInBounds_toArray, List.set_cons_zero, List.set_cons_succ, i64_w, i32_w]
               rfl
             refine pure_ (i := 22) (N := some 35) (v := undef) (a' := ?_) (bA 31 8388607) rfl rfl (any_of HT_.out (by kernel_rfl)) (fun _ _ _ h => h) (Or.inr ⟨by rfl, rfl⟩) ?_ ?_
             rotate_left
             · simp only [Act.put, List.setIfInBounds_toArray, List.set_cons_zero, List.set_cons_succ, i64_w, i32_w]
               rfl
             refine pure_ (i := 23) (N := some 36) (v := undef) (a' := ?_) (bA 31 16777215) rfl rfl (any_of HT_.out (by kernel_rfl)) (fun _ _ _ h => h) (Or.inr ⟨by rfl, rfl⟩) ?_ ?_
             rotate_left
             · simp only [Act.put, List.setIfInBounds_toArray, List.set_cons_zero, List.set_cons_succ, i64_w, i32_w]
               rfl
             refine pure_ (i := 24) (N := some 37) (v := undef) (a' := ?_) (bA 31 33554431) rfl rfl (any_of HT_.out (by kernel_rfl)) (fun _ _ _ h => h) (Or.inr ⟨by rfl, rfl⟩) ?_ ?_
             rotate_left
             · simp only [Act.put, List.setIfInBounds_toArray, List.set_cons_zero, List.set_cons_succ, i64_w, i32_w]
               rfl
             refine pure_ (i := 25) (N := some 38) (v := undef) (a' := ?_) (bA 31 67108863) rfl rfl (any_of HT_.out (by kernel_rfl)) (fun _ _ _ h => h) (Or.inr ⟨by rfl, rfl⟩) ?_ ?_
             rotate_left
             · simp only [Act.put, List.setIfInBounds_toArray, List.set_cons_zero, List.set_cons_succ, i64_w, i32_w]
               rfl
             refine pure_ (i := 26) (N := some 39) (v := undef) (a' := ?_) (bA 31 134217727) rfl rfl (any_of HT_.out (by kernel_rfl)) (fun _ _ _ h => h) (Or.inr ⟨by rfl, rfl⟩) ?_ ?_
             rotate_left
             · simp only [Act.put, List.setIfInBounds_toArray, List.set_cons_zero, List.set_cons_succ, i64_w, i32_w]
               rfl
             refine pure_ (i := 27) (N := some 40) (v := undef) (a' := ?_) (bA 31 268435455) rfl rfl (any_of HT_.out (by kernel_rfl)) (fun _ _ _ h => h) (Or.inr ⟨by rfl, rfl⟩) ?_ ?_
             rotate_left
             · simp only [Act.put, List.setIfInBounds_toArray, List.set_cons_zero, List.set_cons_succ, i64_w, i32_w]
               rfl
             refine pure_ (i := 28) (N := some 41) (v := undef) (a' := ?_) (bA 31 536870911) rfl rfl (any_of HT_.out (by kernel_rfl)) (fun _ _ _ h => h) (Or.inr ⟨by rfl, rfl⟩) ?_ ?_
             rotate_left
             · simp only [Act.put, List.setIfInBounds_toArray, List.set_cons_zero, List.set_cons_succ, i64_w, i32_w]
               rfl
             refine pure_ (i := 29) (N := some 42) (v := ?_) (a' := ?_) (bA 31 1073741823) rfl rfl (any_of HT_.out (by kernel_rfl)) (fun _ _ _ h => h) (Or.inl ⟨by rfl, ?_⟩) ?_ ?_
             rotate_left
             · intro w'
               go_simp
               with_reducible rfl
             rotate_left
             · simp only [Act.put, List.setIfInBounds_toArray, List.set_cons_zero, List.set_cons_succ, i64_w, i32_w]
               rfl
             refine pure_ (i := 30) (N := some 43) (v := ?_) (a' := ?_) (bA 31 2147483647) rfl rfl (any_of HT_.out (by kernel_rfl)) (fun _ _ _ h => h) (Or.inl ⟨by rfl, ?_⟩) ?_ ?_
             rotate_left
             · intro w'
               go_simp
               with_reducible rfl
             rotate_left
             · simp only [Act.put, List.setIfInBounds_toArray, List.set_cons_zero, List.set_cons_succ, i64_w, i32_w]
               rfl
             refine done_ (done_of HT_.out (by kernel_rfl)) ?_
             try go_wp2
             go_roundg k1
             case measure => have := HK1.out; omega
             case rel => exact ⟨(x6_1), (wrap64 (x6_1 + 1)), (by first | rfl | (simp; done) | (simp [*]; done)), (by first | rfl | (simp; done) | (simp [*]; done)), H', ⟨by have := HK1.out; omega⟩, ⟨by repeat (first | (with_reducible first | exact HB.out | apply below_alloc | apply pw_below_drewN | apply below_drew1) | exact HB.out)⟩⟩
           · rw [if_neg c9] at H
             have c9b0 : decide (x5_1 < 0) = false := decide_eq_false c9
             clear c9
             by_cases c13 : 0 ≤ x5_1
             · rw [if_pos c13] at H
               have c13b0 : decide (0 ≤ x5_1) = true := decide_eq_true c13
               clear c13
               by_cases c14 : x5_1 < (l0.length : Int)
               · rw [if_pos c14] at H
                 have c14b0 : decide (x5_1 < (l0.length : Int)) = true := decide_eq_true c14
                 clear c14
                 by_cases c15 : ((rd_T33 l0 x6_1).f3) < ((rd_T33 l0 x5_1).f3)
                 · rw [if_pos c15] at H
                   have c15b0 : decide (((rd_T33 l0 x6_1).f3) < ((rd_T33 l0 x5_1).f3)) = true := decide_eq_true c15
                   clear c15
                   have H' := Aside0.mk H
                   clear H
                   try go_wp2
                   have n0_ := Aside0.mk (below_drew1 HB.out)
                   clear HB
                   have HB := n0_
                   clear n0_
                   have p274 : 0 ≤ (x6_1 : Int) := of_decide_eq_true (by first | (with_reducible assumption) | assumption)
                   have q274 : x6_1 < (l0.length : Int) := of_decide_eq_true (by first | (with_reducible assumption) | assumption)
                   obtain ⟨ad274, e274, hx274_0, hx274_1, hx274_2, hx274_3, hx274_4, hx274_5, hx274_6, hx274_7, hx274_8⟩ := at_T33 HR0.out x6_1 p274 q274
                   have hw274_8 := hx274_8
                   have hw274_7 := hx274_7
                   have hw274_6 := hx274_6
                   have hw274_5 := hx274_5
                   have hw274_4 := hx274_4
                   have hw274_3 := hx274_3
                   have hw274_2 := hx274_2
                   have hw274_1 := hx274_1
                   have hw274_0 := hx274_0
                   cases e274
                   replace hx274_0 := (HB.out.cell (World.block_lt_of_cell? w _ hx274_0)).trans hx274_0
                   replace hx274_1 := (HB.out.cell (World.block_lt_of_cell? w _ hx274_1)).trans hx274_1
                   replace hx274_2 := (HB.out.cell (World.block_lt_of_cell? w _ hx274_2)).trans hx274_2
                   replace hx274_3 := (HB.out.cell (World.block_lt_of_cell? w _ hx274_3)).trans hx274_3
                   replace hx274_4 := (HB.out.cell (World.block_lt_of_cell? w _ hx274_4)).trans hx274_4
                   replace hx274_5 := (HB.out.cell (World.block_lt_of_cell? w _ hx274_5)).trans hx274_5
                   replace hx274_6 := (HB.out.cell (World.block_lt_of_cell? w _ hx274_6)).trans hx274_6
                   replace hx274_7 := (HB.out.cell (World.block_lt_of_cell? w _ hx274_7)).trans hx274_7
                   replace hx274_8 := (HB.out.cell (World.block_lt_of_cell? w _ hx274_8)).trans hx274_8
                   replace p274 := eq_true p274
                   replace q274 := eq_true q274
                   have p276 : 0 ≤ (x6_1 : Int) := of_decide_eq_true (by first | (with_reducible assumption) | assumption)
                   have q276 : x6_1 < (l0.length : Int) := of_decide_eq_true (by first | (with_reducible assumption) | assumption)
                   obtain ⟨ad276, e276, hx276_0, hx276_1, hx276_2, hx276_3, hx276_4, hx276_5, hx276_6, hx276_7, hx276_8⟩ := at_T33 HR0.out x6_1 p276 q276
                   have hw276_8 := hx276_8
                   have hw276_7 := hx276_7
                   have hw276_6 := hx276_6
                   have hw276_5 := hx276_5
                   have hw276_4 := hx276_4
                   have hw276_3 := hx276_3
                   have hw276_2 := hx276_2
                   have hw276_1 := hx276_1
                   have hw276_0 := hx276_0
                   obtain rfl : ad274 = ad276 := (by injection e276)
                   replace hx276_0 := (HB.out.cell (World.block_lt_of_cell? w _ hx276_0)).trans hx276_0
                   replace hx276_1 := (HB.out.cell (World.block_lt_of_cell? w _ hx276_1)).trans hx276_1
                   replace hx276_2 := (HB.out.cell (World.block_lt_of_cell? w _ hx276_2)).trans hx276_2
                   replace hx276_3 := (HB.out.cell (World.block_lt_of_cell? w _ hx276_3)).trans hx276_3
                   replace hx276_4 := (HB.out.cell (World.block_lt_of_cell? w _ hx276_4)).trans hx276_4
                   replace hx276_5 := (HB.out.cell (World.block_lt_of_cell? w _ hx276_5)).trans hx276_5
                   replace hx276_6 := (HB.out.cell (World.block_lt_of_cell? w _ hx276_6)).trans hx276_6
                   replace hx276_7 := (HB.out.cell (World.block_lt_of_cell? w _ hx276_7)).trans hx276_7
                   replace hx276_8 := (HB.out.cell (World.block_lt_of_cell? w _ hx276_8)).trans hx276_8
                   replace p276 := eq_true p276
                   replace q276 := eq_true q276
                   have p278 : 0 ≤ (x6_1 : Int) := of_decide_eq_true (by first | (with_reducible assumption) | assumption)
                   have q278 : x6_1 < (l0.length : Int) := of_decide_eq_true (by first | (with_reducible assumption) | assumption)
                   obtain ⟨ad278, e278, hx278_0, hx278_1, hx278_2, hx278_3, hx278_4, hx278_5, hx278_6, hx278_7, hx278_8⟩ := at_T33 HR0.out x6_1 p278 q278
                   have hw278_8 := hx278_8
                   have hw278_7 := hx278_7
                   have hw278_6 := hx278_6
                   have hw278_5 := hx278_5
                   have hw278_4 := hx278_4
                   have hw278_3 := hx278_3
                   have hw278_2 := hx278_2
                   have hw278_1 := hx278_1
                   have hw278_0 := hx278_0
                   obtain rfl : ad274 = ad278 := (by injection e278)
                   replace hx278_0 := (HB.out.cell (World.block_lt_of_cell? w _ hx278_0)).trans hx278_0
                   replace hx278_1 := (HB.out.cell (World.block_lt_of_cell? w _ hx278_1)).trans hx278_1
                   replace hx278_2 := (HB.out.cell (World.block_lt_of_cell? w _ hx278_2)).trans hx278_2
                   replace hx278_3 := (HB.out.cell (World.block_lt_of_cell? w _ hx278_3)).trans hx278_3
                   replace hx278_4 := (HB.out.cell (World.block_lt_of_cell? w _ hx278_4)).trans hx278_4
                   replace hx278_5 := (HB.out.cell (World.block_lt_of_cell? w _ hx278_5)).trans hx278_5
                   replace hx278_6 := (HB.out.cell (World.block_lt_of_cell? w _ hx278_6)).trans hx278_6
                   replace hx278_7 := (HB.out.cell (World.block_lt_of_cell? w _ hx278_7)).trans hx278_7
                   replace hx278_8 := (HB.out.cell (World.block_lt_of_cell? w _ hx278_8)).trans hx278_8
                   replace p278 := eq_true p278
                   replace q278 := eq_true q278
                   have p279 : 0 ≤ (x5_1 : Int) := of_decide_eq_true (by first | (with_reducible assumption) | assumption)
                   have q279 : x5_1 < (l0.length : Int) := of_decide_eq_true (by first | (with_reducible assumption) | assumption)
                   obtain ⟨ad279, e279, hx279_0, hx279_1, hx279_2, hx279_3, hx279_4, hx279_5, hx279_6, hx279_7, hx279_8⟩ := at_T33 HR0.out x5_1 p279 q279
                   have hw279_8 := hx279_8
                   have hw279_7 := hx279_7
                   have hw279_6 := hx279_6
                   have hw279_5 := hx279_5
                   have hw279_4 := hx279_4
                   have hw279_3 := hx279_3
                   have hw279_2 := hx279_2
                   have hw279_1 := hx279_1
                   have hw279_0 := hx279_0
                   obtain rfl : ad274 = ad279 := (by injection e279)
                   replace hx279_0 := (HB.out.cell (World.block_lt_of_cell? w _ hx279_0)).trans hx279_0
                   replace hx279_1 := (HB.out.cell (World.block_lt_of_cell? w _ hx279_1)).trans hx279_1
                   replace hx279_2 := (HB.out.cell (World.block_lt_of_cell? w _ hx279_2)).trans hx279_2
                   replace hx279_3 := (HB.out.cell (World.block_lt_of_cell? w _ hx279_3)).trans hx279_3
                   replace hx279_4 := (HB.out.cell (World.block_lt_of_cell? w _ hx279_4)).trans hx279_4
                   replace hx279_5 := (HB.out.cell (World.block_lt_of_cell? w _ hx279_5)).trans hx279_5
                   replace hx279_6 := (HB.out.cell (World.block_lt_of_cell? w _ hx279_6)).trans hx279_6
                   replace hx279_7 := (HB.out.cell (World.block_lt_of_cell? w _ hx279_7)).trans hx279_7
                   replace hx279_8 := (HB.out.cell (World.block_lt_of_cell? w _ hx279_8)).trans hx279_8
                   replace p279 := eq_true p279
                   replace q279 := eq_true q279
                   refine start_ (n := 31) (S := fun w' => w'.cell? (ad274.add ((x6_1).toNat * 9)) = some (.int .i64 ((rd_T33 l0 x6_1).f0)) ∧ w'.cell? ⟨(ad274.add ((x6_1).toNat * 9)).block, (ad274.add ((x6_1).toNat * 9)).off + 1, none⟩ = some (.int .i64 ((rd_T33 l0 x6_1).f1)) ∧ w'.cell? ⟨(ad274.add ((x6_1).toNat * 9)).block, (ad274.add ((x6_1).toNat * 9)).off + 2, none⟩ = some (.int .i64 ((rd_T33 l0 x6_1).f2)) ∧ w'.cell? ⟨(ad274.add ((x6_1).toNat * 9)).block, (ad274.add ((x6_1).toNat * 9)).off + 3, none⟩ = some (.int .i64 ((rd_T33 l0 x6_1).f3)) ∧ w'.cell? ⟨(ad274.add ((x6_1).toNat * 9)).block, (ad274.add ((x6_1).toNat * 9)).off + 4, none⟩ = some (.int .i64 ((rd_T33 l0 x6_1).f4)) ∧ w'.cell? ⟨(ad274.add ((x6_1).toNat * 9)).block, (ad274.add ((x6_1).toNat * 9)).off + 5, none⟩ = some (.int .i64 ((rd_T33 l0 x6_1).f5)) ∧ w'.cell? ⟨(ad274.add ((x6_1).toNat * 9)).block, (ad274.add ((x6_1).toNat * 9)).off + 6, none⟩ = some (.int .i64 ((rd_T33 l0 x6_1).f6)) ∧ w'.cell? ⟨(ad274.add ((x6_1).toNat * 9)).block, (ad274.add ((x6_1).toNat * 9)).off + 7, none⟩ = some (.int .i64 ((rd_T33 l0 x6_1).f7)) ∧ w'.cell? ⟨(ad274.add ((x6_1).toNat * 9)).block, (ad274.add ((x6_1).toNat * 9)).off + 8, none⟩ = some (.int .i64 ((rd_T33 l0 x6_1).f8)) ∧ w'.cell? (ad274.add ((x6_1).toNat * 9)) = some (.int .i64 ((rd_T33 l0 x6_1).f0)) ∧ w'.cell? ⟨(ad274.add ((x6_1).toNat * 9)).block, (ad274.add ((x6_1).toNat * 9)).off + 1, none⟩ = some (.int .i64 ((rd_T33 l0 x6_1).f1)) ∧ w'.cell? ⟨(ad274.add ((x6_1).toNat * 9)).block, (ad274.add ((x6_1).toNat * 9)).off + 2, none⟩ = some (.int .i64 ((rd_T33 l0 x6_1).f2)) ∧ w'.cell? ⟨(ad274.add ((x6_1).toNat * 9)).block, (ad274.add ((x6_1).toNat * 9)).off + 3, none⟩ = some (.int .i64 ((rd_T33 l0 x6_1).f3)) ∧ w'.cell? ⟨(ad274.add ((x6_1).toNat * 9)).block, (ad274.add ((x6_1).toNat * 9)).off + 4, none⟩ = some (.int .i64 ((rd_T33 l0 x6_1).f4)) ∧ w'.cell? ⟨(ad274.add ((x6_1).toNat * 9)).block, (ad274.add ((x6_1).toNat * 9)).off + 5, none⟩ = some (.int .i64 ((rd_T33 l0 x6_1).f5)) ∧ w'.cell? ⟨(ad274.add ((x6_1).toNat * 9)).block, (ad274.add ((x6_1).toNat * 9)).off + 6, none⟩ = some (.int .i64 ((rd_T33 l0 x6_1).f6)) ∧ w'.cell? ⟨(ad274.add ((x6_1).toNat * 9)).block, (ad274.add ((x6_1).toNat * 9)).off + 7, none⟩ = some (.int .i64 ((rd_T33 l0 x6_1).f7)) ∧ w'.cell? ⟨(ad274.add ((x6_1).toNat * 9)).block, (ad274.add ((x6_1).toNat * 9)).off + 8, none⟩ = some (.int .i64 ((rd_T33 l0 x6_1).f8)) ∧ w'.cell? (ad274.add ((x6_1).toNat * 9)) = some (.int .i64 ((rd_T33 l0 x6_1).f0)) ∧ w'.cell? ⟨(ad274.add ((x6_1).toNat * 9)).block, (ad274.add ((x6_1).toNat * 9)).off + 1, none⟩ = some (.int .i64 ((rd_T33 l0 x6_1).f1)) ∧ w'.cell? ⟨(ad274.add ((x6_1).toNat * 9)).block, (ad274.add ((x6_1).toNat * 9)).off + 2, none⟩ = some (.int .i64 ((rd_T33 l0 x6_1).f2)) ∧ w'.cell? ⟨(ad274.add ((x6_1).toNat * 9)).block, (ad274.add ((x6_1).toNat * 9)).off + 3, none⟩ = some (.int .i64 ((rd_T33 l0 x6_1).f3)) ∧ w'.cell? ⟨(ad274.add ((x6_1).toNat * 9)).block, (ad274.add ((x6_1).toNat * 9)).off + 4, none⟩ = some (.int .i64 ((rd_T33 l0 x6_1).f4)) ∧ w'.cell? ⟨(ad274.add ((x6_1).toNat * 9)).block, (ad274.add ((x6_1).toNat * 9)).off + 5, none⟩ = some (.int .i64 ((rd_T33 l0 x6_1).f5)) ∧ w'.cell? ⟨(ad274.add ((x6_1).toNat * 9)).block, (ad274.add ((x6_1).toNat * 9)).off + 6, none⟩ = some (.int .i64 ((rd_T33 l0 x6_1).f6)) ∧ w'.cell? ⟨(ad274.add ((x6_1).toNat * 9)).block, (ad274.add ((x6_1).toNat * 9)).off + 7, none⟩ = some (.int .i64 ((rd_T33 l0 x6_1).f7)) ∧ w'.cell? ⟨(ad274.add ((x6_1).toNat * 9)).block, (ad274.add ((x6_1).toNat * 9)).off + 8, none⟩ = some (.int .i64 ((rd_T33 l0 x6_1).f8)) ∧ w'.cell? (ad274.add ((x5_1).toNat * 9)) = some (.int .i64 ((rd_T33 l0 x5_1).f0)) ∧ w'.cell? ⟨(ad274.add ((x5_1).toNat * 9)).block, (ad274.add ((x5_1).toNat * 9)).off + 1, none⟩ = some (.int .i64 ((rd_T33 l0 x5_1).f1)) ∧ w'.cell? ⟨(ad274.add ((x5_1).toNat * 9)).block, (ad274.add ((x5_1).toNat * 9)).off + 2, none⟩ = some (.int .i64 ((rd_T33 l0 x5_1).f2)) ∧ w'.cell? ⟨(ad274.add ((x5_1).toNat * 9)).block, (ad274.add ((x5_1).toNat * 9)).off + 3, none⟩ = some (.int .i64 ((rd_T33 l0 x5_1).f3)) ∧ w'.cell? ⟨(ad274.add ((x5_1).toNat * 9)).block, (ad274.add ((x5_1).toNat * 9)).off + 4, none⟩ = some (.int .i64 ((rd_T33 l0 x5_1).f4)) ∧ w'.cell? ⟨(ad274.add ((x5_1).toNat * 9)).block, (ad274.add ((x5_1).toNat * 9)).off + 5, none⟩ = some (.int .i64 ((rd_T33 l0 x5_1).f5)) ∧ w'.cell? ⟨(ad274.add ((x5_1).toNat * 9)).block, (ad274.add ((x5_1).toNat * 9)).off + 6, none⟩ = some (.int .i64 ((rd_T33 l0 x5_1).f6)) ∧ w'.cell? ⟨(ad274.add ((x5_1).toNat * 9)).block, (ad274.add ((x5_1).toNat * 9)).off + 7, none⟩ = some (.int .i64 ((rd_T33 l0 x5_1).f7)) ∧ w'.cell? ⟨(ad274.add ((x5_1).toNat * 9)).block, (ad274.add ((x5_1).toNat * 9)).off + 8, none⟩ = some (.int .i64 ((rd_T33 l0 x5_1).f8))) (ds := []) #[false, false, false, false, false, false, false, false, false, false, false, false, false, false, false, false, false, false, false, false, false, false, false, false, false, false, false, false, false, false, false] (by kernel_rfl) rfl rfl ⟨((HB.out.cell (World.block_lt_of_cell? w _ hw274_0)).trans hw274_0), ((HB.out.cell (World.block_lt_of_cell? w _ hw274_1)).trans hw274_1), ((HB.out.cell (World.block_lt_of_cell? w _ hw274_2)).trans hw274_2), ((HB.out.cell (World.block_lt_of_cell? w _ hw274_3)).trans hw274_3), ((HB.out.cell (World.block_lt_of_cell? w _ hw274_4)).trans hw274_4), ((HB.out.cell (World.block_lt_of_cell? w _ hw274_5)).trans hw274_5), ((HB.out.cell (World.block_lt_of_cell? w _ hw274_6)).trans hw274_6), ((HB.out.cell (World.block_lt_of_cell? w _ hw274_7)).trans hw274_7), ((HB.out.cell (World.block_lt_of_cell? w _ hw274_8)).trans hw274_8), ((HB.out.cell (World.block_lt_of_cell? w _ hw276_0)).trans hw276_0), ((HB.out.cell (World.block_lt_of_cell? w _ hw276_1)).trans hw276_1), ((HB.out.cell (World.block_lt_of_cell? w _ hw276_2)).trans hw276_2), ((HB.out.cell (World.block_lt_of_cell? w _ hw276_3)).trans hw276_3), ((HB.out.cell (World.block_lt_of_cell? w _ hw276_4)).trans hw276_4), ((HB.out.cell (World.block_lt_of_cell? w _ hw276_5)).trans hw276_5), ((HB.out.cell (World.block_lt_of_cell? w _ hw276_6)).trans hw276_6), ((HB.out.cell (World.block_lt_of_cell? w _ hw276_7)).trans hw276_7), ((HB.out.cell (World.block_lt_of_cell? w _ hw276_8)).trans hw276_8), ((HB.out.cell (World.block_lt_of_cell? w _ hw278_0)).trans hw278_0), ((HB.out.cell (World.block_lt_of_cell? w _ hw278_1)).trans hw278_1), ((HB.out.cell (World.block_lt_of_cell? w _ hw278_2)).trans hw278_2), ((HB.out.cell (World.block_lt_of_cell? w _ hw278_3)).trans hw278_3), ((HB.out.cell (World.block_lt_of_cell? w _ hw278_4)).trans hw278_4), ((HB.out.cell (World.block_lt_of_cell? w _ hw278_5)).trans hw278_5), ((HB.out.cell (World.block_lt_of_cell? w _ hw278_6)).trans hw278_6), ((HB.out.cell (World.block_lt_of_cell? w _ hw278_7)).trans hw278_7), ((HB.out.cell (World.block_lt_of_cell? w _ hw278_8)).trans hw278_8), ((HB.out.cell (World.block_lt_of_cell? w _ hw279_0)).trans hw279_0), ((HB.out.cell (World.block_lt_of_cell? w _ hw279_1)).trans hw279_1), ((HB.out.cell (World.block_lt_of_cell? w _ hw279_2)).trans hw279_2), ((HB.out.cell (World.block_lt_of_cell? w _ hw279_3)).trans hw279_3), ((HB.out.cell (World.block_lt_of_cell? w _ hw279_4)).trans hw279_4), ((HB.out.cell (World.block_lt_of_cell? w _ hw279_5)).trans hw279_5), ((HB.out.cell (World.block_lt_of_cell? w _ hw279_6)).trans hw279_6), ((HB.out.cell (World.block_lt_of_cell? w _ hw279_7)).trans hw279_7), ((HB.out.cell (World.block_lt_of_cell? w _ hw279_8)).trans hw279_8)⟩ (fun hHeld => ?_); refine with_tabW tollref10_first.tab5 tollref10_first.bits5 (fun HT_ HW_ => ?_)
                   generalize wr.drew = w16 at HB hx274_0 hx274_1 hx274_2 hx274_3 hx274_4 hx274_5 hx274_6 hx274_7 hx274_8 hx276_0 hx276_1 hx276_2 hx276_3 hx276_4 hx276_5 hx276_6 hx276_7 hx276_8 hx278_0 hx278_1 hx278_2 hx278_3 hx278_4 hx278_5 hx278_6 hx278_7 hx278_8 hx279_0 hx279_1 hx279_2 hx279_3 hx279_4 hx279_5 hx279_6 hx279_7 hx279_8 hHeld ⊢
                   refine pure_ (i := 0) (N := some 13) (v := ?_) (a' := ?_) (bA 31 1) rfl rfl (any_of HT_.out (by kernel_rfl)) (fun _ _ _ h => h) (Or.inl ⟨by rfl, ?_⟩) ?_ ?_
                   rotate_left
                   · intro w'
                     go_simp
                     with_reducible rfl
                   rotate_left
                   · simp only [Act.put, List.setIfInBounds_toArray, List.set_cons_zero, List.set_cons_succ, i64_w, i32_w]
                     rfl
                   refine pure_ (i := 1) (N := some 14) (v := ?_) (a' := ?_) (bA 31 3) rfl rfl (any_of HT_.out (by kernel_rfl)) (fun _ _ _ h => h) (Or.inl ⟨by rfl, ?_⟩) ?_ ?_
                   rotate_left
                   · intro w'
                     go_simp
                     with_reducible rfl
                   rotate_left
                   · simp only [Act.put, List.setIfInBounds_toArray, List.set_cons_zero, List.set_cons_succ, i64_w, i32_w]
                     rfl
                   refine pure_ (i := 2) (N := some 15) (v := ?_) (a' := ?_) (bA 31 7) rfl rfl (any_of HT_.out (by kernel_rfl)) (fun _ _ _ h => h) (Or.inl ⟨by rfl, ?_⟩) ?_ ?_
                   rotate_left
                   · intro w'
                     go_simp
                     with_reducible rfl
                   rotate_left
                   · simp only [Act.put, List.setIfInBounds_toArray, List.set_cons_zero, List.set_cons_succ, i64_w, i32_w]
                     rfl
                   refine pure_ (i := 4) (N := some 17) (v := ?_) (a' := ?_) (bA 31 23) rfl rfl (any_of HT_.out (by kernel_rfl)) (fun _ _ _ h => h) (Or.inl ⟨by rfl, ?_⟩) ?_ ?_
                   rotate_left
                   · intro w'
                     go_simp
                     with_reducible rfl
                   rotate_left
                   · simp only [Act.put, List.setIfInBounds_toArray, List.set_cons_zero, List.set_cons_succ, i64_w, i32_w]
                     rfl
                   refine take_ (i := 3) (N := some 16) (v := ?_) (a' := ?_) (bA 31 31) rfl rfl (take_ofW HT_.out HW_.out (by kernel_rfl)) (fun _ _ _ h => h) (Or.inl ⟨by rfl, ?_⟩) hHeld ?_ ?_
                   rotate_left
                   · rintro w' ⟨s0, s1, s2, s3, s4, s5, s6, s7, s8, s9, s10, s11, s12, s13, s14, s15, s16, s17, s18, s19, s20, s21, s22, s23, s24, s25, s26, s27, s28, s29, s30, s31, s32, s33, s34, s35⟩
                     go_simp
                     with_reducible rfl
                   rotate_left
                   · simp only [Act.put, List.setIfInBounds_toArray, List.set_cons_zero, List.set_cons_succ, i64_w, i32_w]
                     rfl
                   refine one_ (i := 5) (N := some 18) (bA 31 63) rfl rfl (one_of HT_.out (by kernel_rfl)) (by decide) (fun K hK => ?_)
                   refine goes_ Try.func27 (by kernel_rfl) rfl #[.agg #[.int .i64 ((rd_T33 l0 x6_1).f0), .int .i64 ((rd_T33 l0 x6_1).f1), .int .i64 ((rd_T33 l0 x6_1).f2), .int .i64 ((rd_T33 l0 x6_1).f3), .int .i64 ((rd_T33 l0 x6_1).f4), .int .i64 ((rd_T33 l0 x6_1).f5), .int .i64 ((rd_T33 l0 x6_1).f6), .int .i64 ((rd_T33 l0 x6_1).f7), .int .i64 ((rd_T33 l0 x6_1).f8)], .int .i64 a1] (by rfl) rfl rfl (by (try simp only [List.map_toArray, List.map_cons, List.map_nil]); first | done | rfl | (simp only [List.length_drop, List.length_take]; rfl)) ?_
                   with_reducible refine (tollref10_Valid.calls ((rd_T33 l0 x6_1).f0) ((rd_T33 l0 x6_1).f1) ((rd_T33 l0 x6_1).f2) ((rd_T33 l0 x6_1).f3) ((rd_T33 l0 x6_1).f4) ((rd_T33 l0 x6_1).f5) ((rd_T33 l0 x6_1).f6) ((rd_T33 l0 x6_1).f7) ((rd_T33 l0 x6_1).f8) a1 true _ A5.out).mono ?_
                   rintro e w17 ⟨rfl, hb⟩
                   refine ⟨_, rfl, ?_⟩
                   have n0_ := Aside0.mk (below_step (by repeat (first | (with_reducible first | exact HB.out | apply below_alloc | apply pw_below_drewN | apply below_drew1) | exact HB.out)) hb)
                   clear HB
                   have HB := n0_
                   clear n0_
                   (try clear hb)
                   (try clear hb2)
                   (try clear hk)
                   (try clear hi)
                   refine hK.out _ _ ⟨((HB.out.cell (World.block_lt_of_cell? w _ hw274_0)).trans hw274_0), ((HB.out.cell (World.block_lt_of_cell? w _ hw274_1)).trans hw274_1), ((HB.out.cell (World.block_lt_of_cell? w _ hw274_2)).trans hw274_2), ((HB.out.cell (World.block_lt_of_cell? w _ hw274_3)).trans hw274_3), ((HB.out.cell (World.block_lt_of_cell? w _ hw274_4)).trans hw274_4), ((HB.out.cell (World.block_lt_of_cell? w _ hw274_5)).trans hw274_5), ((HB.out.cell (World.block_lt_of_cell? w _ hw274_6)).trans hw274_6), ((HB.out.cell (World.block_lt_of_cell? w _ hw274_7)).trans hw274_7), ((HB.out.cell (World.block_lt_of_cell? w _ hw274_8)).trans hw274_8), ((HB.out.cell (World.block_lt_of_cell? w _ hw276_0)).trans hw276_0), ((HB.out.cell (World.block_lt_of_cell? w _ hw276_1)).trans hw276_1), ((HB.out.cell (World.block_lt_of_cell? w _ hw276_2)).trans hw276_2), ((HB.out.cell (World.block_lt_of_cell? w _ hw276_3)).trans hw276_3), ((HB.out.cell (World.block_lt_of_cell? w _ hw276_4)).trans hw276_4), ((HB.out.cell (World.block_lt_of_cell? w _ hw276_5)).trans hw276_5), ((HB.out.cell (World.block_lt_of_cell? w _ hw276_6)).trans hw276_6), ((HB.out.cell (World.block_lt_of_cell? w _ hw276_7)).trans hw276_7), ((HB.out.cell (World.block_lt_of_cell? w _ hw276_8)).trans hw276_8), ((HB.out.cell (World.block_lt_of_cell? w _ hw278_0)).trans hw278_0), ((HB.out.cell (World.block_lt_of_cell? w _ hw278_1)).trans hw278_1), ((HB.out.cell (World.block_lt_of_cell? w _ hw278_2)).trans hw278_2), ((HB.out.cell (World.block_lt_of_cell? w _ hw278_3)).trans hw278_3), ((HB.out.cell (World.block_lt_of_cell? w _ hw278_4)).trans hw278_4), ((HB.out.cell (World.block_lt_of_cell? w _ hw278_5)).trans hw278_5), ((HB.out.cell (World.block_lt_of_cell? w _ hw278_6)).trans hw278_6), ((HB.out.cell (World.block_lt_of_cell? w _ hw278_7)).trans hw278_7), ((HB.out.cell (World.block_lt_of_cell? w _ hw278_8)).trans hw278_8), ((HB.out.cell (World.block_lt_of_cell? w _ hw279_0)).trans hw279_0), ((HB.out.cell (World.block_lt_of_cell? w _ hw279_1)).trans hw279_1), ((HB.out.cell (World.block_lt_of_cell? w _ hw279_2)).trans hw279_2), ((HB.out.cell (World.block_lt_of_cell? w _ hw279_3)).trans hw279_3), ((HB.out.cell (World.block_lt_of_cell? w _ hw279_4)).trans hw279_4), ((HB.out.cell (World.block_lt_of_cell? w _ hw279_5)).trans hw279_5), ((HB.out.cell (World.block_lt_of_cell? w _ hw279_6)).trans hw279_6), ((HB.out.cell (World.block_lt_of_cell? w _ hw279_7)).trans hw279_7), ((HB.out.cell (World.block_lt_of_cell? w _ hw279_8)).trans hw279_8)⟩ (fun hHeld => ?_)
                   clear hK K
                   refine norm_ (a' := ?_) ?_ ?_
                   rotate_left
                   · show Act.put _ (some 18) _ = _
                     simp only [Act.put, List.setIfInBounds_toArray, List.set_cons_zero, List.set_cons_succ, i64_w, i32_w]
                     rfl
                   refine pure_ (i := 6) (N := some 19) (v := ?_) (a' := ?_) (bA 31 127) rfl rfl (any_of HT_.out (by kernel_rfl)) (fun _ _ _ h => h) (Or.inl ⟨by rfl, ?_⟩) ?_ ?_
                   rotate_left
                   · intro w'
                     go_simp
                     with_reducible rfl
                   rotate_left
                   · simp only [Act.put, List.setIfInBounds_toArray, List.set_cons_zero, List.set_cons_succ, i64_w, i32_w]
                     rfl
                   refine pure_ (i := 7) (N := some 20) (v := ?_) (a' := ?_) (bA 31 255) rfl rfl (any_of HT_.out (by kernel_rfl)) (fun _ _ _ h => h) (Or.inl ⟨by rfl, ?_⟩) ?_ ?_
                   rotate_left
                   · intro w'
                     go_simp
                     with_reducible rfl
                   rotate_left
                   · simp only [Act.put, List.setIfInBounds_toArray, List.set_cons_zero, List.set_cons_succ, i64_w, i32_w]
                     rfl
                   refine pure_ (i := 8) (N := some 21) (v := ?_) (a' := ?_) (bA 31 511) rfl rfl (any_of HT_.out (by kernel_rfl)) (fun _ _ _ h => h) (Or.inl ⟨by rfl, ?_⟩) ?_ ?_
                   rotate_left
                   · intro w'
                     go_simp
                     with_reducible rfl
                   rotate_left
                   · simp only [Act.put, List.setIfInBounds_toArray, List.set_cons_zero, List.set_cons_succ, i64_w, i32_w]
                     rfl
                   refine pure_ (i := 9) (N := some 22) (v := ?_) (a' := ?_) (bA 31 1023) rfl rfl (any_of HT_.out (by kernel_rfl)) (fun _ _ _ h => h) (Or.inl ⟨by rfl, ?_⟩) ?_ ?_
                   rotate_left
                   · intro w'
                     go_simp
                     with_reducible rfl
                   rotate_left
                   · simp only [Act.put, List.setIfInBounds_toArray, List.set_cons_zero, List.set_cons_succ, i64_w, i32_w]
                     rfl
                   refine take_ (i := 10) (N := some 23) (v := ?_) (a' := ?_) (bA 31 2047) rfl rfl (take_ofW HT_.out HW_.out (by kernel_rfl)) (fun _ _ _ h => h) (Or.inl ⟨by rfl, ?_⟩) hHeld ?_ ?_
                   rotate_left
                   · rintro w' ⟨s0, s1, s2, s3, s4, s5, s6, s7, s8, s9, s10, s11, s12, s13, s14, s15, s16, s17, s18, s19, s20, s21, s22, s23, s24, s25, s26, s27, s28, s29, s30, s31, s32, s33, s34, s35⟩
                     go_simp
                     with_reducible rfl
                   rotate_left
                   · simp only [Act.put, List.setIfInBounds_toArray, List.set_cons_zero, List.set_cons_succ, i64_w, i32_w]
                     rfl
                   refine one_ (i := 11) (N := some 24) (bA 31 4095) rfl rfl (one_of HT_.out (by kernel_rfl)) (by decide) (fun K hK => ?_)
                   refine goes_ Try.func26 (by kernel_rfl) rfl #[.agg #[.int .i64 ((rd_T33 l0 x6_1).f0), .int .i64 ((rd_T33 l0 x6_1).f1), .int .i64 ((rd_T33 l0 x6_1).f2), .int .i64 ((rd_T33 l0 x6_1).f3), .int .i64 ((rd_T33 l0 x6_1).f4), .int .i64 ((rd_T33 l0 x6_1).f5), .int .i64 ((rd_T33 l0 x6_1).f6), .int .i64 ((rd_T33 l0 x6_1).f7), .int .i64 ((rd_T33 l0 x6_1).f8)]] (by rfl) rfl rfl (by (try simp only [List.map_toArray, List.map_cons, List.map_nil]); first | done | rfl | (simp only [List.length_drop, List.length_take]; rfl)) ?_
                   with_reducible refine (tollref10_Rest.calls ((rd_T33 l0 x6_1).f0) ((rd_T33 l0 x6_1).f1) ((rd_T33 l0 x6_1).f2) ((rd_T33 l0 x6_1).f3) ((rd_T33 l0 x6_1).f4) ((rd_T33 l0 x6_1).f5) ((rd_T33 l0 x6_1).f6) ((rd_T33 l0 x6_1).f7) ((rd_T33 l0 x6_1).f8) t277 _ A7.out).mono ?_
                   rintro e w18 ⟨rfl, hb⟩
                   refine ⟨_, rfl, ?_⟩
                   have n0_ := Aside0.mk (below_step (by repeat (first | (with_reducible first | exact HB.out | apply below_alloc | apply pw_below_drewN | apply below_drew1) | exact HB.out)) hb)
                   clear HB
                   have HB := n0_
                   clear n0_
                   (try clear hb)
                   (try clear hb2)
                   (try clear hk)
                   (try clear hi)
                   refine hK.out _ _ ⟨((HB.out.cell (World.block_lt_of_cell? w _ hw274_0)).trans hw274_0), ((HB.out.cell (World.block_lt_of_cell? w _ hw274_1)).trans hw274_1), ((HB.out.cell (World.block_lt_of_cell? w _ hw274_2)).trans hw274_2), ((HB.out.cell (World.block_lt_of_cell? w _ hw274_3)).trans hw274_3), ((HB.out.cell (World.block_lt_of_cell? w _ hw274_4)).trans hw274_4), ((HB.out.cell (World.block_lt_of_cell? w _ hw274_5)).trans hw274_5), ((HB.out.cell (World.block_lt_of_cell? w _ hw274_6)).trans hw274_6), ((HB.out.cell (World.block_lt_of_cell? w _ hw274_7)).trans hw274_7), ((HB.out.cell (World.block_lt_of_cell? w _ hw274_8)).trans hw274_8), ((HB.out.cell (World.block_lt_of_cell? w _ hw276_0)).trans hw276_0), ((HB.out.cell (World.block_lt_of_cell? w _ hw276_1)).trans hw276_1), ((HB.out.cell (World.block_lt_of_cell? w _ hw276_2)).trans hw276_2), ((HB.out.cell (World.block_lt_of_cell? w _ hw276_3)).trans hw276_3), ((HB.out.cell (World.block_lt_of_cell? w _ hw276_4)).trans hw276_4), ((HB.out.cell (World.block_lt_of_cell? w _ hw276_5)).trans hw276_5), ((HB.out.cell (World.block_lt_of_cell? w _ hw276_6)).trans hw276_6), ((HB.out.cell (World.block_lt_of_cell? w _ hw276_7)).trans hw276_7), ((HB.out.cell (World.block_lt_of_cell? w _ hw276_8)).trans hw276_8), ((HB.out.cell (World.block_lt_of_cell? w _ hw278_0)).trans hw278_0), ((HB.out.cell (World.block_lt_of_cell? w _ hw278_1)).trans hw278_1), ((HB.out.cell (World.block_lt_of_cell? w _ hw278_2)).trans hw278_2), ((HB.out.cell (World.block_lt_of_cell? w _ hw278_3)).trans hw278_3), ((HB.out.cell (World.block_lt_of_cell? w _ hw278_4)).trans hw278_4), ((HB.out.cell (World.block_lt_of_cell? w _ hw278_5)).trans hw278_5), ((HB.out.cell (World.block_lt_of_cell? w _ hw278_6)).trans hw278_6), ((HB.out.cell (World.block_lt_of_cell? w _ hw278_7)).trans hw278_7), ((HB.out.cell (World.block_lt_of_cell? w _ hw278_8)).trans hw278_8), ((HB.out.cell (World.block_lt_of_cell? w _ hw279_0)).trans hw279_0), ((HB.out.cell (World.block_lt_of_cell? w _ hw279_1)).trans hw279_1), ((HB.out.cell (World.block_lt_of_cell? w _ hw279_2)).trans hw279_2), ((HB.out.cell (World.block_lt_of_cell? w _ hw279_3)).trans hw279_3), ((HB.out.cell (World.block_lt_of_cell? w _ hw279_4)).trans hw279_4), ((HB.out.cell (World.block_lt_of_cell? w _ hw279_5)).trans hw279_5), ((HB.out.cell (World.block_lt_of_cell? w _ hw279_6)).trans hw279_6), ((HB.out.cell (World.block_lt_of_cell? w _ hw279_7)).trans hw279_7), ((HB.out.cell (World.block_lt_of_cell? w _ hw279_8)).trans hw279_8)⟩ (fun hHeld => ?_)
                   clear hK K
                   refine norm_ (a' := ?_) ?_ ?_
                   rotate_left
                   · show Act.put _ (some 24) _ = _
                     simp only [Act.put, List.setIfInBounds_toArray, List.set_cons_zero, List.set_cons_succ, i64_w, i32_w]
                     rfl
                   refine pure_ (i := 12) (N := some 25) (v := ?_) (a' := ?_) (bA 31 8191) rfl rfl (any_of HT_.out (by kernel_rfl)) (fun _ _ _ h => h) (Or.inl ⟨by rfl, ?_⟩) ?_ ?_
                   rotate_left
                   · intro w'
                     go_simp
                     with_reducible rfl
                   rotate_left
                   · simp only [Act.put, List.setIfInBounds_toArray, List.set_cons_zero, List.set_cons_succ, i64_w, i32_w]
                     rfl
                   refine pure_ (i := 13) (N := some 26) (v := ?_) (a' := ?_) (bA 31 16383) rfl rfl (any_of HT_.out (by kernel_rfl)) (fun _ _ _ h => h) (Or.inl ⟨by rfl, ?_⟩) ?_ ?_
                   rotate_left
                   · intro w'
                     go_simp
                     with_reducible rfl
                   rotate_left
                   · simp only [Act.put, List.setIfInBounds_toArray, List.set_cons_zero, List.set_cons_succ, i64_w, i32_w]
                     rfl
                   refine pure_ (i := 14) (N := some 27) (v := ?_) (a' := ?_) (bA 31 32767) rfl rfl (any_of HT_.out (by kernel_rfl)) (fun _ _ _ h => h) (Or.inl ⟨by rfl, ?_⟩) ?_ ?_
                   rotate_left
                   · intro w'
                     go_simp
                     with_reducible rfl
                   rotate_left
                   · simp only [Act.put, List.setIfInBounds_toArray, List.set_cons_zero, List.set_cons_succ, i64_w, i32_w]
                     rfl
                   refine pure_ (i := 15) (N := some 28) (v := ?_) (a' := ?_) (bA 31 65535) rfl rfl (any_of HT_.out (by kernel_rfl)) (fun _ _ _ h => h) (Or.inl ⟨by rfl, ?_⟩) ?_ ?_
                   rotate_left
                   · intro w'
                     go_simp
                     with_reducible rfl
                   rotate_left
                   · simp only [Act.put, List.setIfInBounds_toArray, List.set_cons_zero, List.set_cons_succ, i64_w, i32_w]
                     rfl
                   refine pure_ (i := 16) (N := some 29) (v := ?_) (a' := ?_) (bA 31 131071) rfl rfl (any_of HT_.out (by kernel_rfl)) (fun _ _ _ h => h) (Or.inl ⟨by rfl, ?_⟩) ?_ ?_
                   rotate_left
                   · intro w'
                     go_simp
                     with_reducible rfl
                   rotate_left
                   · simp only [Act.put, List.setIfInBounds_toArray, List.set_cons_zero, List.set_cons_succ, i64_w, i32_w]
                     rfl
                   refine pure_ (i := 17) (N := some 30) (v := ?_) (a' := ?_) (bA 31 262143) rfl rfl (any_of HT_.out (by kernel_rfl)) (fun _ _ _ h => h) (Or.inl ⟨by rfl, ?_⟩) ?_ ?_
                   rotate_left
                   · intro w'
                     go_simp
                     with_reducible rfl
                   rotate_left
                   · simp only [Act.put, List.setIfInBounds_toArray, List.set_cons_zero, List.set_cons_succ, i64_w, i32_w]
                     rfl
                   refine pure_ (i := 18) (N := some 31) (v := ?_) (a' := ?_) (bA 31 524287) rfl rfl (any_of HT_.out (by kernel_rfl)) (fun _ _ _ h => h) (Or.inl ⟨by rfl, ?_⟩) ?_ ?_
                   rotate_left
                   · intro w'
                     go_simp
                     with_reducible rfl
                   rotate_left
                   · simp only [Act.put, List.setIfInBounds_toArray, List.set_cons_zero, List.set_cons_succ, i64_w, i32_w]
                     rfl
                   refine pure_ (i := 19) (N := some 32) (v := ?_) (a' := ?_) (bA 31 1048575) rfl rfl (any_of HT_.out (by kernel_rfl)) (fun _ _ _ h => h) (Or.inl ⟨by rfl, ?_⟩) ?_ ?_
                   rotate_left
                   · intro w'
                     go_simp
                     with_reducible rfl
                   rotate_left
                   · simp only [Act.put, List.setIfInBounds_toArray, List.set_cons_zero, List.set_cons_succ, i64_w, i32_w]
                     rfl
                   refine pure_ (i := 20) (N := some 33) (v := ?_) (a' := ?_) (bA 31 2097151) rfl rfl (any_of HT_.out (by kernel_rfl)) (fun _ _ _ h => h) (Or.inl ⟨by rfl, ?_⟩) ?_ ?_
                   rotate_left
                   · intro w'
                     go_simp
                     with_reducible rfl
                   rotate_left
                   · simp only [Act.put, List.setIfInBounds_toArray, List.set_cons_zero, List.set_cons_succ, i64_w, i32_w]
                     rfl
                   refine pure_ (i := 21) (N := some 34) (v := ?_) (a' := ?_) (bA 31 4194303) rfl rfl (any_of HT_.out (by kernel_rfl)) (fun _ _ _ h => h) (Or.inl ⟨by rfl, ?_⟩) ?_ ?_
                   rotate_left
                   · intro w'
                     go_simp
                     with_reducible rfl
                   rotate_left
                   · simp only [Act.put, List.setIfInBounds_toArray, List.set_cons_zero, List.set_cons_succ, i64_w, i32_w]
                     rfl
                   refine pure_ (i := 23) (N := some 36) (v := ?_) (a' := ?_) (bA 31 12582911) rfl rfl (any_of HT_.out (by kernel_rfl)) (fun _ _ _ h => h) (Or.inl ⟨by rfl, ?_⟩) ?_ ?_
                   rotate_left
                   · intro w'
                     go_simp
                     with_reducible rfl
                   rotate_left
                   · simp only [Act.put, List.setIfInBounds_toArray, List.set_cons_zero, List.set_cons_succ, i64_w, i32_w]
                     rfl
                   refine pure_ (i := 24) (N := some 37) (v := ?_) (a' := ?_) (bA 31 29360127) rfl rfl (any_of HT_.out (by kernel_rfl)) (fun _ _ _ h => h) (Or.inl ⟨by rfl, ?_⟩) ?_ ?_
                   rotate_left
                   · intro w'
                     go_simp
                     with_reducible rfl
                   rotate_left
                   · simp only [Act.put, List.setIfInBounds_toArray, List.set_cons_zero, List.set_cons_succ, i64_w, i32_w]
                     rfl
                   refine pure_ (i := 25) (N := some 38) (v := ?_) (a' := ?_) (bA 31 62914559) rfl rfl (any_of HT_.out (by kernel_rfl)) (fun _ _ _ h => h) (Or.inl ⟨by rfl, ?_⟩) ?_ ?_
                   rotate_left
                   · intro w'
                     go_simp
                     with_reducible rfl
                   rotate_left
                   · simp only [Act.put, List.setIfInBounds_toArray, List.set_cons_zero, List.set_cons_succ, i64_w, i32_w]
                     rfl
                   refine pure_ (i := 26) (N := some 39) (v := ?_) (a' := ?_) (bA 31 130023423) rfl rfl (any_of HT_.out (by kernel_rfl)) (fun _ _ _ h => h) (Or.inl ⟨by rfl, ?_⟩) ?_ ?_
                   rotate_left
                   · intro w'
                     go_simp
                     with_reducible rfl
                   rotate_left
                   · simp only [Act.put, List.setIfInBounds_toArray, List.set_cons_zero, List.set_cons_succ, i64_w, i32_w]
                     rfl
                   refine take_ (i := 22) (N := some 35) (v := ?_) (a' := ?_) (bA 31 134217727) rfl rfl (take_ofW HT_.out HW_.out (by kernel_rfl)) (fun _ _ _ h => h) (Or.inl ⟨by rfl, ?_⟩) hHeld ?_ ?_
                   rotate_left
                   · rintro w' ⟨s0, s1, s2, s3, s4, s5, s6, s7, s8, s9, s10, s11, s12, s13, s14, s15, s16, s17, s18, s19, s20, s21, s22, s23, s24, s25, s26, s27, s28, s29, s30, s31, s32, s33, s34, s35⟩
                     go_simp
                     with_reducible rfl
                   rotate_left
                   · simp only [Act.put, List.setIfInBounds_toArray, List.set_cons_zero, List.set_cons_succ, i64_w, i32_w]
                     rfl
                   refine take_ (i := 27) (N := some 40) (v := ?_) (a' := ?_) (bA 31 268435455) rfl rfl (take_ofW HT_.out HW_.out (by kernel_rfl)) (fun _ _ _ h => h) (Or.inl ⟨by rfl, ?_⟩) hHeld ?_ ?_
                   rotate_left
                   · rintro w' ⟨s0, s1, s2, s3, s4, s5, s6, s7, s8, s9, s10, s11, s12, s13, s14, s15, s16, s17, s18, s19, s20, s21, s22, s23, s24, s25, s26, s27, s28, s29, s30, s31, s32, s33, s34, s35⟩
                     go_simp
                     with_reducible rfl
                   rotate_left
                   · simp only [Act.put, List.setIfInBounds_toArray, List.set_cons_zero, List.set_cons_succ, i64_w, i32_w]
                     rfl
                   refine pure_ (i := 28) (N := some 41) (v := ?_) (a' := ?_) (bA 31 536870911) rfl rfl (any_of HT_.out (by kernel_rfl)) (fun _ _ _ h => h) (Or.inl ⟨by rfl, ?_⟩) ?_ ?_
                   rotate_left
                   · intro w'
                     go_simp
                     with_reducible rfl
                   rotate_left
                   · simp only [Act.put, List.setIfInBounds_toArray, List.set_cons_zero, List.set_cons_succ, i64_w, i32_w]
                     rfl
                   refine pure_ (i := 29) (N := some 42) (v := ?_) (a' := ?_) (bA 31 1073741823) rfl rfl (any_of HT_.out (by kernel_rfl)) (fun _ _ _ h => h) (Or.inl ⟨by rfl, ?_⟩) ?_ ?_
                   rotate_left
                   · intro w'
                     go_simp
                     with_reducible rfl
                   rotate_left
                   · simp only [Act.put, List.setIfInBounds_toArray, List.set_cons_zero, List.set_cons_succ, i64_w, i32_w]
                     rfl
                   refine pure_ (i := 30) (N := some 43) (v := ?_) (a' := ?_) (bA 31 2147483647) rfl rfl (any_of HT_.out (by kernel_rfl)) (fun _ _ _ h => h) (Or.inl ⟨by rfl, ?_⟩) ?_ ?_
                   rotate_left
                   · intro w'
                     go_simp
                     with_reducible rfl
                   rotate_left
                   · simp only [Act.put, List.setIfInBounds_toArray, List.set_cons_zero, List.set_cons_succ, i64_w, i32_w]
                     rfl
                   refine done_ (done_of HT_.out (by kernel_rfl)) ?_
                   try go_wp2
                   go_roundg k1
                   case measure => have := HK1.out; omega
                   case rel => exact ⟨(x6_1), (wrap64 (x6_1 + 1)), (by first | rfl | (simp; done) | (simp [*]; done)), (by first | rfl | (simp; done) | (simp [*]; done)), H', ⟨by have := HK1.out; omega⟩, ⟨by repeat (first | (with_reducible first | exact HB.out | apply below_alloc | apply pw_below_drewN | apply below_drew1) | exact HB.out)⟩⟩
                 · rw [if_neg c15] at H
                   have c15b0 : decide (((rd_T33 l0 x6_1).f3) < ((rd_T33 l0 x5_1).f3)) = false := decide_eq_false c15
                   clear c15
                   have H' := Aside0.mk H
                   clear H
                   try go_wp2
                   have n0_ := Aside0.mk (below_drew1 HB.out)
                   clear HB
                   have HB := n0_
                   clear n0_
                   have p274 : 0 ≤ (x6_1 : Int) := of_decide_eq_true (by first | (with_reducible assumption) | assumption)
                   have q274 : x6_1 < (l0.length : Int) := of_decide_eq_true (by first | (with_reducible assumption) | assumption)
                   obtain ⟨ad274, e274, hx274_0, hx274_1, hx274_2, hx274_3, hx274_4, hx274_5, hx274_6, hx274_7, hx274_8⟩ := at_T33 HR0.out x6_1 p274 q274
                   have hw274_8 := hx274_8
                   have hw274_7 := hx274_7
                   have hw274_6 := hx274_6
                   have hw274_5 := hx274_5
                   have hw274_4 := hx274_4
                   have hw274_3 := hx274_3
                   have hw274_2 := hx274_2
                   have hw274_1 := hx274_1
                   have hw274_0 := hx274_0
                   cases e274
                   replace hx274_0 := (HB.out.cell (World.block_lt_of_cell? w _ hx274_0)).trans hx274_0
                   replace hx274_1 := (HB.out.cell (World.block_lt_of_cell? w _ hx274_1)).trans hx274_1
                   replace hx274_2 := (HB.out.cell (World.block_lt_of_cell? w _ hx274_2)).trans hx274_2
                   replace hx274_3 := (HB.out.cell (World.block_lt_of_cell? w _ hx274_3)).trans hx274_3
                   replace hx274_4 := (HB.out.cell (World.block_lt_of_cell? w _ hx274_4)).trans hx274_4
                   replace hx274_5 := (HB.out.cell (World.block_lt_of_cell? w _ hx274_5)).trans hx274_5
                   replace hx274_6 := (HB.out.cell (World.block_lt_of_cell? w _ hx274_6)).trans hx274_6
                   replace hx274_7 := (HB.out.cell (World.block_lt_of_cell? w _ hx274_7)).trans hx274_7
                   replace hx274_8 := (HB.out.cell (World.block_lt_of_cell? w _ hx274_8)).trans hx274_8
                   replace p274 := eq_true p274
                   replace q274 := eq_true q274
                   have p276 : 0 ≤ (x6_1 : Int) := of_decide_eq_true (by first | (with_reducible assumption) | assumption)
                   have q276 : x6_1 < (l0.length : Int) := of_decide_eq_true (by first | (with_reducible assumption) | assumption)
                   obtain ⟨ad276, e276, hx276_0, hx276_1, hx276_2, hx276_3, hx276_4, hx276_5, hx276_6, hx276_7, hx276_8⟩ := at_T33 HR0.out x6_1 p276 q276
                   have hw276_8 := hx276_8
                   have hw276_7 := hx276_7
                   have hw276_6 := hx276_6
                   have hw276_5 := hx276_5
                   have hw276_4 := hx276_4
                   have hw276_3 := hx276_3
                   have hw276_2 := hx276_2
                   have hw276_1 := hx276_1
                   have hw276_0 := hx276_0
                   obtain rfl : ad274 = ad276 := (by injection e276)
                   replace hx276_0 := (HB.out.cell (World.block_lt_of_cell? w _ hx276_0)).trans hx276_0
                   replace hx276_1 := (HB.out.cell (World.block_lt_of_cell? w _ hx276_1)).trans hx276_1
                   replace hx276_2 := (HB.out.cell (World.block_lt_of_cell? w _ hx276_2)).trans hx276_2
                   replace hx276_3 := (HB.out.cell (World.block_lt_of_cell? w _ hx276_3)).trans hx276_3
                   replace hx276_4 := (HB.out.cell (World.block_lt_of_cell? w _ hx276_4)).trans hx276_4
                   replace hx276_5 := (HB.out.cell (World.block_lt_of_cell? w _ hx276_5)).trans hx276_5
                   replace hx276_6 := (HB.out.cell (World.block_lt_of_cell? w _ hx276_6)).trans hx276_6
                   replace hx276_7 := (HB.out.cell (World.block_lt_of_cell? w _ hx276_7)).trans hx276_7
                   replace hx276_8 := (HB.out.cell (World.block_lt_of_cell? w _ hx276_8)).trans hx276_8
                   replace p276 := eq_true p276
                   replace q276 := eq_true q276
                   have p278 : 0 ≤ (x6_1 : Int) := of_decide_eq_true (by first | (with_reducible assumption) | assumption)
                   have q278 : x6_1 < (l0.length : Int) := of_decide_eq_true (by first | (with_reducible assumption) | assumption)
                   obtain ⟨ad278, e278, hx278_0, hx278_1, hx278_2, hx278_3, hx278_4, hx278_5, hx278_6, hx278_7, hx278_8⟩ := at_T33 HR0.out x6_1 p278 q278
                   have hw278_8 := hx278_8
                   have hw278_7 := hx278_7
                   have hw278_6 := hx278_6
                   have hw278_5 := hx278_5
                   have hw278_4 := hx278_4
                   have hw278_3 := hx278_3
                   have hw278_2 := hx278_2
                   have hw278_1 := hx278_1
                   have hw278_0 := hx278_0
                   obtain rfl : ad274 = ad278 := (by injection e278)
                   replace hx278_0 := (HB.out.cell (World.block_lt_of_cell? w _ hx278_0)).trans hx278_0
                   replace hx278_1 := (HB.out.cell (World.block_lt_of_cell? w _ hx278_1)).trans hx278_1
                   replace hx278_2 := (HB.out.cell (World.block_lt_of_cell? w _ hx278_2)).trans hx278_2
                   replace hx278_3 := (HB.out.cell (World.block_lt_of_cell? w _ hx278_3)).trans hx278_3
                   replace hx278_4 := (HB.out.cell (World.block_lt_of_cell? w _ hx278_4)).trans hx278_4
                   replace hx278_5 := (HB.out.cell (World.block_lt_of_cell? w _ hx278_5)).trans hx278_5
                   replace hx278_6 := (HB.out.cell (World.block_lt_of_cell? w _ hx278_6)).trans hx278_6
                   replace hx278_7 := (HB.out.cell (World.block_lt_of_cell? w _ hx278_7)).trans hx278_7
                   replace hx278_8 := (HB.out.cell (World.block_lt_of_cell? w _ hx278_8)).trans hx278_8
                   replace p278 := eq_true p278
                   replace q278 := eq_true q278
                   have p279 : 0 ≤ (x5_1 : Int) := of_decide_eq_true (by first | (with_reducible assumption) | assumption)
                   have q279 : x5_1 < (l0.length : Int) := of_decide_eq_true (by first | (with_reducible assumption) | assumption)
                   obtain ⟨ad279, e279, hx279_0, hx279_1, hx279_2, hx279_3, hx279_4, hx279_5, hx279_6, hx279_7, hx279_8⟩ := at_T33 HR0.out x5_1 p279 q279
                   have hw279_8 := hx279_8
                   have hw279_7 := hx279_7
                   have hw279_6 := hx279_6
                   have hw279_5 := hx279_5
                   have hw279_4 := hx279_4
                   have hw279_3 := hx279_3
                   have hw279_2 := hx279_2
                   have hw279_1 := hx279_1
                   have hw279_0 := hx279_0
                   obtain rfl : ad274 = ad279 := (by injection e279)
                   replace hx279_0 := (HB.out.cell (World.block_lt_of_cell? w _ hx279_0)).trans hx279_0
                   replace hx279_1 := (HB.out.cell (World.block_lt_of_cell? w _ hx279_1)).trans hx279_1
                   replace hx279_2 := (HB.out.cell (World.block_lt_of_cell? w _ hx279_2)).trans hx279_2
                   replace hx279_3 := (HB.out.cell (World.block_lt_of_cell? w _ hx279_3)).trans hx279_3
                   replace hx279_4 := (HB.out.cell (World.block_lt_of_cell? w _ hx279_4)).trans hx279_4
                   replace hx279_5 := (HB.out.cell (World.block_lt_of_cell? w _ hx279_5)).trans hx279_5
                   replace hx279_6 := (HB.out.cell (World.block_lt_of_cell? w _ hx279_6)).trans hx279_6
                   replace hx279_7 := (HB.out.cell (World.block_lt_of_cell? w _ hx279_7)).trans hx279_7
                   replace hx279_8 := (HB.out.cell (World.block_lt_of_cell? w _ hx279_8)).trans hx279_8
                   replace p279 := eq_true p279
                   replace q279 := eq_true q279
                   refine start_ (n := 31) (S := fun w' => w'.cell? (ad274.add ((x6_1).toNat * 9)) = some (.int .i64 ((rd_T33 l0 x6_1).f0)) ∧ w'.cell? ⟨(ad274.add ((x6_1).toNat * 9)).block, (ad274.add ((x6_1).toNat * 9)).off + 1, none⟩ = some (.int .i64 ((rd_T33 l0 x6_1).f1)) ∧ w'.cell? ⟨(ad274.add ((x6_1).toNat * 9)).block, (ad274.add ((x6_1).toNat * 9)).off + 2, none⟩ = some (.int .i64 ((rd_T33 l0 x6_1).f2)) ∧ w'.cell? ⟨(ad274.add ((x6_1).toNat * 9)).block, (ad274.add ((x6_1).toNat * 9)).off + 3, none⟩ = some (.int .i64 ((rd_T33 l0 x6_1).f3)) ∧ w'.cell? ⟨(ad274.add ((x6_1).toNat * 9)).block, (ad274.add ((x6_1).toNat * 9)).off + 4, none⟩ = some (.int .i64 ((rd_T33 l0 x6_1).f4)) ∧ w'.cell? ⟨(ad274.add ((x6_1).toNat * 9)).block, (ad274.add ((x6_1).toNat * 9)).off + 5, none⟩ = some (.int .i64 ((rd_T33 l0 x6_1).f5)) ∧ w'.cell? ⟨(ad274.add ((x6_1).toNat * 9)).block, (ad274.add ((x6_1).toNat * 9)).off + 6, none⟩ = some (.int .i64 ((rd_T33 l0 x6_1).f6)) ∧ w'.cell? ⟨(ad274.add ((x6_1).toNat * 9)).block, (ad274.add ((x6_1).toNat * 9)).off + 7, none⟩ = some (.int .i64 ((rd_T33 l0 x6_1).f7)) ∧ w'.cell? ⟨(ad274.add ((x6_1).toNat * 9)).block, (ad274.add ((x6_1).toNat * 9)).off + 8, none⟩ = some (.int .i64 ((rd_T33 l0 x6_1).f8)) ∧ w'.cell? (ad274.add ((x6_1).toNat * 9)) = some (.int .i64 ((rd_T33 l0 x6_1).f0)) ∧ w'.cell? ⟨(ad274.add ((x6_1).toNat * 9)).block, (ad274.add ((x6_1).toNat * 9)).off + 1, none⟩ = some (.int .i64 ((rd_T33 l0 x6_1).f1)) ∧ w'.cell? ⟨(ad274.add ((x6_1).toNat * 9)).block, (ad274.add ((x6_1).toNat * 9)).off + 2, none⟩ = some (.int .i64 ((rd_T33 l0 x6_1).f2)) ∧ w'.cell? ⟨(ad274.add ((x6_1).toNat * 9)).block, (ad274.add ((x6_1).toNat * 9)).off + 3, none⟩ = some (.int .i64 ((rd_T33 l0 x6_1).f3)) ∧ w'.cell? ⟨(ad274.add ((x6_1).toNat * 9)).block, (ad274.add ((x6_1).toNat * 9)).off + 4, none⟩ = some (.int .i64 ((rd_T33 l0 x6_1).f4)) ∧ w'.cell? ⟨(ad274.add ((x6_1).toNat * 9)).block, (ad274.add ((x6_1).toNat * 9)).off + 5, none⟩ = some (.int .i64 ((rd_T33 l0 x6_1).f5)) ∧ w'.cell? ⟨(ad274.add ((x6_1).toNat * 9)).block, (ad274.add ((x6_1).toNat * 9)).off + 6, none⟩ = some (.int .i64 ((rd_T33 l0 x6_1).f6)) ∧ w'.cell? ⟨(ad274.add ((x6_1).toNat * 9)).block, (ad274.add ((x6_1).toNat * 9)).off + 7, none⟩ = some (.int .i64 ((rd_T33 l0 x6_1).f7)) ∧ w'.cell? ⟨(ad274.add ((x6_1).toNat * 9)).block, (ad274.add ((x6_1).toNat * 9)).off + 8, none⟩ = some (.int .i64 ((rd_T33 l0 x6_1).f8)) ∧ w'.cell? (ad274.add ((x6_1).toNat * 9)) = some (.int .i64 ((rd_T33 l0 x6_1).f0)) ∧ w'.cell? ⟨(ad274.add ((x6_1).toNat * 9)).block, (ad274.add ((x6_1).toNat * 9)).off + 1, none⟩ = some (.int .i64 ((rd_T33 l0 x6_1).f1)) ∧ w'.cell? ⟨(ad274.add ((x6_1).toNat * 9)).block, (ad274.add ((x6_1).toNat * 9)).off + 2, none⟩ = some (.int .i64 ((rd_T33 l0 x6_1).f2)) ∧ w'.cell? ⟨(ad274.add ((x6_1).toNat * 9)).block, (ad274.add ((x6_1).toNat * 9)).off + 3, none⟩ = some (.int .i64 ((rd_T33 l0 x6_1).f3)) ∧ w'.cell? ⟨(ad274.add ((x6_1).toNat * 9)).block, (ad274.add ((x6_1).toNat * 9)).off + 4, none⟩ = some (.int .i64 ((rd_T33 l0 x6_1).f4)) ∧ w'.cell? ⟨(ad274.add ((x6_1).toNat * 9)).block, (ad274.add ((x6_1).toNat * 9)).off + 5, none⟩ = some (.int .i64 ((rd_T33 l0 x6_1).f5)) ∧ w'.cell? ⟨(ad274.add ((x6_1).toNat * 9)).block, (ad274.add ((x6_1).toNat * 9)).off + 6, none⟩ = some (.int .i64 ((rd_T33 l0 x6_1).f6)) ∧ w'.cell? ⟨(ad274.add ((x6_1).toNat * 9)).block, (ad274.add ((x6_1).toNat * 9)).off + 7, none⟩ = some (.int .i64 ((rd_T33 l0 x6_1).f7)) ∧ w'.cell? ⟨(ad274.add ((x6_1).toNat * 9)).block, (ad274.add ((x6_1).toNat * 9)).off + 8, none⟩ = some (.int .i64 ((rd_T33 l0 x6_1).f8)) ∧ w'.cell? (ad274.add ((x5_1).toNat * 9)) = some (.int .i64 ((rd_T33 l0 x5_1).f0)) ∧ w'.cell? ⟨(ad274.add ((x5_1).toNat * 9)).block, (ad274.add ((x5_1).toNat * 9)).off + 1, none⟩ = some (.int .i64 ((rd_T33 l0 x5_1).f1)) ∧ w'.cell? ⟨(ad274.add ((x5_1).toNat * 9)).block, (ad274.add ((x5_1).toNat * 9)).off + 2, none⟩ = some (.int .i64 ((rd_T33 l0 x5_1).f2)) ∧ w'.cell? ⟨(ad274.add ((x5_1).toNat * 9)).block, (ad274.add ((x5_1).toNat * 9)).off + 3, none⟩ = some (.int .i64 ((rd_T33 l0 x5_1).f3)) ∧ w'.cell? ⟨(ad274.add ((x5_1).toNat * 9)).block, (ad274.add ((x5_1).toNat * 9)).off + 4, none⟩ = some (.int .i64 ((rd_T33 l0 x5_1).f4)) ∧ w'.cell? ⟨(ad274.add ((x5_1).toNat * 9)).block, (ad274.add ((x5_1).toNat * 9)).off + 5, none⟩ = some (.int .i64 ((rd_T33 l0 x5_1).f5)) ∧ w'.cell? ⟨(ad274.add ((x5_1).toNat * 9)).block, (ad274.add ((x5_1).toNat * 9)).off + 6, none⟩ = some (.int .i64 ((rd_T33 l0 x5_1).f6)) ∧ w'.cell? ⟨(ad274.add ((x5_1).toNat * 9)).block, (ad274.add ((x5_1).toNat * 9)).off + 7, none⟩ = some (.int .i64 ((rd_T33 l0 x5_1).f7)) ∧ w'.cell? ⟨(ad274.add ((x5_1).toNat * 9)).block, (ad274.add ((x5_1).toNat * 9)).off + 8, none⟩ = some (.int .i64 ((rd_T33 l0 x5_1).f8))) (ds := []) #[false, false, false, false, false, false, false, false, false, false, false, false, false, false, false, false, false, false, false, false, false, false, false, false, false, false, false, false, false, false, false] (by kernel_rfl) rfl rfl ⟨((HB.out.cell (World.block_lt_of_cell? w _ hw274_0)).trans hw274_0), ((HB.out.cell (World.block_lt_of_cell? w _ hw274_1)).trans hw274_1), ((HB.out.cell (World.block_lt_of_cell? w _ hw274_2)).trans hw274_2), ((HB.out.cell (World.block_lt_of_cell? w _ hw274_3)).trans hw274_3), ((HB.out.cell (World.block_lt_of_cell? w _ hw274_4)).trans hw274_4), ((HB.out.cell (World.block_lt_of_cell? w _ hw274_5)).trans hw274_5), ((HB.out.cell (World.block_lt_of_cell? w _ hw274_6)).trans hw274_6), ((HB.out.cell (World.block_lt_of_cell? w _ hw274_7)).trans hw274_7), ((HB.out.cell (World.block_lt_of_cell? w _ hw274_8)).trans hw274_8), ((HB.out.cell (World.block_lt_of_cell? w _ hw276_0)).trans hw276_0), ((HB.out.cell (World.block_lt_of_cell? w _ hw276_1)).trans hw276_1), ((HB.out.cell (World.block_lt_of_cell? w _ hw276_2)).trans hw276_2), ((HB.out.cell (World.block_lt_of_cell? w _ hw276_3)).trans hw276_3), ((HB.out.cell (World.block_lt_of_cell? w _ hw276_4)).trans hw276_4), ((HB.out.cell (World.block_lt_of_cell? w _ hw276_5)).trans hw276_5), ((HB.out.cell (World.block_lt_of_cell? w _ hw276_6)).trans hw276_6), ((HB.out.cell (World.block_lt_of_cell? w _ hw276_7)).trans hw276_7), ((HB.out.cell (World.block_lt_of_cell? w _ hw276_8)).trans hw276_8), ((HB.out.cell (World.block_lt_of_cell? w _ hw278_0)).trans hw278_0), ((HB.out.cell (World.block_lt_of_cell? w _ hw278_1)).trans hw278_1), ((HB.out.cell (World.block_lt_of_cell? w _ hw278_2)).trans hw278_2), ((HB.out.cell (World.block_lt_of_cell? w _ hw278_3)).trans hw278_3), ((HB.out.cell (World.block_lt_of_cell? w _ hw278_4)).trans hw278_4), ((HB.out.cell (World.block_lt_of_cell? w _ hw278_5)).trans hw278_5), ((HB.out.cell (World.block_lt_of_cell? w _ hw278_6)).trans hw278_6), ((HB.out.cell (World.block_lt_of_cell? w _ hw278_7)).trans hw278_7), ((HB.out.cell (World.block_lt_of_cell? w _ hw278_8)).trans hw278_8), ((HB.out.cell (World.block_lt_of_cell? w _ hw279_0)).trans hw279_0), ((HB.out.cell (World.block_lt_of_cell? w _ hw279_1)).trans hw279_1), ((HB.out.cell (World.block_lt_of_cell? w _ hw279_2)).trans hw279_2), ((HB.out.cell (World.block_lt_of_cell? w _ hw279_3)).trans hw279_3), ((HB.out.cell (World.block_lt_of_cell? w _ hw279_4)).trans hw279_4), ((HB.out.cell (World.block_lt_of_cell? w _ hw279_5)).trans hw279_5), ((HB.out.cell (World.block_lt_of_cell? w _ hw279_6)).trans hw279_6), ((HB.out.cell (World.block_lt_of_cell? w _ hw279_7)).trans hw279_7), ((HB.out.cell (World.block_lt_of_cell? w _ hw279_8)).trans hw279_8)⟩ (fun hHeld => ?_); refine with_tabW tollref10_first.tab5 tollref10_first.bits5 (fun HT_ HW_ => ?_)
                   generalize wr.drew = w19 at HB hx274_0 hx274_1 hx274_2 hx274_3 hx274_4 hx274_5 hx274_6 hx274_7 hx274_8 hx276_0 hx276_1 hx276_2 hx276_3 hx276_4 hx276_5 hx276_6 hx276_7 hx276_8 hx278_0 hx278_1 hx278_2 hx278_3 hx278_4 hx278_5 hx278_6 hx278_7 hx278_8 hx279_0 hx279_1 hx279_2 hx279_3 hx279_4 hx279_5 hx279_6 hx279_7 hx279_8 hHeld ⊢
                   refine pure_ (i := 0) (N := some 13) (v := ?_) (a' := ?_) (bA 31 1) rfl rfl (any_of HT_.out (by kernel_rfl)) (fun _ _ _ h => h) (Or.inl ⟨by rfl, ?_⟩) ?_ ?_
                   rotate_left
                   · intro w'
                     go_simp
                     with_reducible rfl
                   rotate_left
                   · simp only [Act.put, List.setIfInBounds_toArray, List.set_cons_zero, List.set_cons_succ, i64_w, i32_w]
                     rfl
                   refine pure_ (i := 1) (N := some 14) (v := ?_) (a' := ?_) (bA 31 3) rfl rfl (any_of HT_.out (by kernel_rfl)) (fun _ _ _ h => h) (Or.inl ⟨by rfl, ?_⟩) ?_ ?_
                   rotate_left
                   · intro w'
                     go_simp
                     with_reducible rfl
                   rotate_left
                   · simp only [Act.put, List.setIfInBounds_toArray, List.set_cons_zero, List.set_cons_succ, i64_w, i32_w]
                     rfl
                   refine pure_ (i := 2) (N := some 15) (v := ?_) (a' := ?_) (bA 31 7) rfl rfl (any_of HT_.out (by kernel_rfl)) (fun _ _ _ h => h) (Or.inl ⟨by rfl, ?_⟩) ?_ ?_
                   rotate_left
                   · intro w'
                     go_simp
                     with_reducible rfl
                   rotate_left
                   · simp only [Act.put, List.setIfInBounds_toArray, List.set_cons_zero, List.set_cons_succ, i64_w, i32_w]
                     rfl
                   refine pure_ (i := 4) (N := some 17) (v := ?_) (a' := ?_) (bA 31 23) rfl rfl (any_of HT_.out (by kernel_rfl)) (fun _ _ _ h => h) (Or.inl ⟨by rfl, ?_⟩) ?_ ?_
                   rotate_left
                   · intro w'
                     go_simp
                     with_reducible rfl
                   rotate_left
                   · simp only [Act.put, List.setIfInBounds_toArray, List.set_cons_zero, List.set_cons_succ, i64_w, i32_w]
                     rfl
                   refine take_ (i := 3) (N := some 16) (v := ?_) (a' := ?_) (bA 31 31) rfl rfl (take_ofW HT_.out HW_.out (by kernel_rfl)) (fun _ _ _ h => h) (Or.inl ⟨by rfl, ?_⟩) hHeld ?_ ?_
                   rotate_left
                   · rintro w' ⟨s0, s1, s2, s3, s4, s5, s6, s7, s8, s9, s10, s11, s12, s13, s14, s15, s16, s17, s18, s19, s20, s21, s22, s23, s24, s25, s26, s27, s28, s29, s30, s31, s32, s33, s34, s35⟩
                     go_simp
                     with_reducible rfl
                   rotate_left
                   · simp only [Act.put, List.setIfInBounds_toArray, List.set_cons_zero, List.set_cons_succ, i64_w, i32_w]
                     rfl
                   refine one_ (i := 5) (N := some 18) (bA 31 63) rfl rfl (one_of HT_.out (by kernel_rfl)) (by decide) (fun K hK => ?_)
                   refine goes_ Try.func27 (by kernel_rfl) rfl #[.agg #[.int .i64 ((rd_T33 l0 x6_1).f0), .int .i64 ((rd_T33 l0 x6_1).f1), .int .i64 ((rd_T33 l0 x6_1).f2), .int .i64 ((rd_T33 l0 x6_1).f3), .int .i64 ((rd_T33 l0 x6_1).f4), .int .i64 ((rd_T33 l0 x6_1).f5), .int .i64 ((rd_T33 l0 x6_1).f6), .int .i64 ((rd_T33 l0 x6_1).f7), .int .i64 ((rd_T33 l0 x6_1).f8)], .int .i64 a1] (by rfl) rfl rfl (by (try simp only [List.map_toArray, List.map_cons, List.map_nil]); first | done | rfl | (simp only [List.length_drop, List.length_take]; rfl)) ?_
                   with_reducible refine (tollref10_Valid.calls ((rd_T33 l0 x6_1).f0) ((rd_T33 l0 x6_1).f1) ((rd_T33 l0 x6_1).f2) ((rd_T33 l0 x6_1).f3) ((rd_T33 l0 x6_1).f4) ((rd_T33 l0 x6_1).f5) ((rd_T33 l0 x6_1).f6) ((rd_T33 l0 x6_1).f7) ((rd_T33 l0 x6_1).f8) a1 true _ A5.out).mono ?_
                   rintro e w20 ⟨rfl, hb⟩
                   refine ⟨_, rfl, ?_⟩
                   have n0_ := Aside0.mk (below_step (by repeat (first | (with_reducible first | exact HB.out | apply below_alloc | apply pw_below_drewN | apply below_drew1) | exact HB.out)) hb)
                   clear HB
                   have HB := n0_
                   clear n0_
                   (try clear hb)
                   (try clear hb2)
                   (try clear hk)
                   (try clear hi)
                   refine hK.out _ _ ⟨((HB.out.cell (World.block_lt_of_cell? w _ hw274_0)).trans hw274_0), ((HB.out.cell (World.block_lt_of_cell? w _ hw274_1)).trans hw274_1), ((HB.out.cell (World.block_lt_of_cell? w _ hw274_2)).trans hw274_2), ((HB.out.cell (World.block_lt_of_cell? w _ hw274_3)).trans hw274_3), ((HB.out.cell (World.block_lt_of_cell? w _ hw274_4)).trans hw274_4), ((HB.out.cell (World.block_lt_of_cell? w _ hw274_5)).trans hw274_5), ((HB.out.cell (World.block_lt_of_cell? w _ hw274_6)).trans hw274_6), ((HB.out.cell (World.block_lt_of_cell? w _ hw274_7)).trans hw274_7), ((HB.out.cell (World.block_lt_of_cell? w _ hw274_8)).trans hw274_8), ((HB.out.cell (World.block_lt_of_cell? w _ hw276_0)).trans hw276_0), ((HB.out.cell (World.block_lt_of_cell? w _ hw276_1)).trans hw276_1), ((HB.out.cell (World.block_lt_of_cell? w _ hw276_2)).trans hw276_2), ((HB.out.cell (World.block_lt_of_cell? w _ hw276_3)).trans hw276_3), ((HB.out.cell (World.block_lt_of_cell? w _ hw276_4)).trans hw276_4), ((HB.out.cell (World.block_lt_of_cell? w _ hw276_5)).trans hw276_5), ((HB.out.cell (World.block_lt_of_cell? w _ hw276_6)).trans hw276_6), ((HB.out.cell (World.block_lt_of_cell? w _ hw276_7)).trans hw276_7), ((HB.out.cell (World.block_lt_of_cell? w _ hw276_8)).trans hw276_8), ((HB.out.cell (World.block_lt_of_cell? w _ hw278_0)).trans hw278_0), ((HB.out.cell (World.block_lt_of_cell? w _ hw278_1)).trans hw278_1), ((HB.out.cell (World.block_lt_of_cell? w _ hw278_2)).trans hw278_2), ((HB.out.cell (World.block_lt_of_cell? w _ hw278_3)).trans hw278_3), ((HB.out.cell (World.block_lt_of_cell? w _ hw278_4)).trans hw278_4), ((HB.out.cell (World.block_lt_of_cell? w _ hw278_5)).trans hw278_5), ((HB.out.cell (World.block_lt_of_cell? w _ hw278_6)).trans hw278_6), ((HB.out.cell (World.block_lt_of_cell? w _ hw278_7)).trans hw278_7), ((HB.out.cell (World.block_lt_of_cell? w _ hw278_8)).trans hw278_8), ((HB.out.cell (World.block_lt_of_cell? w _ hw279_0)).trans hw279_0), ((HB.out.cell (World.block_lt_of_cell? w _ hw279_1)).trans hw279_1), ((HB.out.cell (World.block_lt_of_cell? w _ hw279_2)).trans hw279_2), ((HB.out.cell (World.block_lt_of_cell? w _ hw279_3)).trans hw279_3), ((HB.out.cell (World.block_lt_of_cell? w _ hw279_4)).trans hw279_4), ((HB.out.cell (World.block_lt_of_cell? w _ hw279_5)).trans hw279_5), ((HB.out.cell (World.block_lt_of_cell? w _ hw279_6)).trans hw279_6), ((HB.out.cell (World.block_lt_of_cell? w _ hw279_7)).trans hw279_7), ((HB.out.cell (World.block_lt_of_cell? w _ hw279_8)).trans hw279_8)⟩ (fun hHeld => ?_)
                   clear hK K
                   refine norm_ (a' := ?_) ?_ ?_
                   rotate_left
                   · show Act.put _ (some 18) _ = _
                     simp only [Act.put, List.setIfInBounds_toArray, List.set_cons_zero, List.set_cons_succ, i64_w, i32_w]
                     rfl
                   refine pure_ (i := 6) (N := some 19) (v := ?_) (a' := ?_) (bA 31 127) rfl rfl (any_of HT_.out (by kernel_rfl)) (fun _ _ _ h => h) (Or.inl ⟨by rfl, ?_⟩) ?_ ?_
                   rotate_left
                   · intro w'
                     go_simp
                     with_reducible rfl
                   rotate_left
                   · simp only [Act.put, List.setIfInBounds_toArray, List.set_cons_zero, List.set_cons_succ, i64_w, i32_w]
                     rfl
                   refine pure_ (i := 7) (N := some 20) (v := ?_) (a' := ?_) (bA 31 255) rfl rfl (any_of HT_.out (by kernel_rfl)) (fun _ _ _ h => h) (Or.inl ⟨by rfl, ?_⟩) ?_ ?_
                   rotate_left
                   · intro w'
                     go_simp
                     with_reducible rfl
                   rotate_left
                   · simp only [Act.put, List.setIfInBounds_toArray, List.set_cons_zero, List.set_cons_succ, i64_w, i32_w]
                     rfl
                   refine pure_ (i := 8) (N := some 21) (v := ?_) (a' := ?_) (bA 31 511) rfl rfl (any_of HT_.out (by kernel_rfl)) (fun _ _ _ h => h) (Or.inl ⟨by rfl, ?_⟩) ?_ ?_
                   rotate_left
                   · intro w'
                     go_simp
                     with_reducible rfl
                   rotate_left
                   · simp only [Act.put, List.setIfInBounds_toArray, List.set_cons_zero, List.set_cons_succ, i64_w, i32_w]
                     rfl
                   refine pure_ (i := 9) (N := some 22) (v := ?_) (a' := ?_) (bA 31 1023) rfl rfl (any_of HT_.out (by kernel_rfl)) (fun _ _ _ h => h) (Or.inl ⟨by rfl, ?_⟩) ?_ ?_
                   rotate_left
                   · intro w'
                     go_simp
                     with_reducible rfl
                   rotate_left
                   · simp only [Act.put, List.setIfInBounds_toArray, List.set_cons_zero, List.set_cons_succ, i64_w, i32_w]
                     rfl
                   refine take_ (i := 10) (N := some 23) (v := ?_) (a' := ?_) (bA 31 2047) rfl rfl (take_ofW HT_.out HW_.out (by kernel_rfl)) (fun _ _ _ h => h) (Or.inl ⟨by rfl, ?_⟩) hHeld ?_ ?_
                   rotate_left
                   · rintro w' ⟨s0, s1, s2, s3, s4, s5, s6, s7, s8, s9, s10, s11, s12, s13, s14, s15, s16, s17, s18, s19, s20, s21, s22, s23, s24, s25, s26, s27, s28, s29, s30, s31, s32, s33, s34, s35⟩
                     go_simp
                     with_reducible rfl
                   rotate_left
                   · simp only [Act.put, List.setIfInBounds_toArray, List.set_cons_zero, List.set_cons_succ, i64_w, i32_w]
                     rfl
                   refine one_ (i := 11) (N := some 24) (bA 31 4095) rfl rfl (one_of HT_.out (by kernel_rfl)) (by decide) (fun K hK => ?_)
                   refine goes_ Try.func26 (by kernel_rfl) rfl #[.agg #[.int .i64 ((rd_T33 l0 x6_1).f0), .int .i64 ((rd_T33 l0 x6_1).f1), .int .i64 ((rd_T33 l0 x6_1).f2), .int .i64 ((rd_T33 l0 x6_1).f3), .int .i64 ((rd_T33 l0 x6_1).f4), .int .i64 ((rd_T33 l0 x6_1).f5), .int .i64 ((rd_T33 l0 x6_1).f6), .int .i64 ((rd_T33 l0 x6_1).f7), .int .i64 ((rd_T33 l0 x6_1).f8)]] (by rfl) rfl rfl (by (try simp only [List.map_toArray, List.map_cons, List.map_nil]); first | done | rfl | (simp only [List.length_drop, List.length_take]; rfl)) ?_
                   with_reducible refine (tollref10_Rest.calls ((rd_T33 l0 x6_1).f0) ((rd_T33 l0 x6_1).f1) ((rd_T33 l0 x6_1).f2) ((rd_T33 l0 x6_1).f3) ((rd_T33 l0 x6_1).f4) ((rd_T33 l0 x6_1).f5) ((rd_T33 l0 x6_1).f6) ((rd_T33 l0 x6_1).f7) ((rd_T33 l0 x6_1).f8) t277 _ A7.out).mono ?_
                   rintro e w21 ⟨rfl, hb⟩
                   refine ⟨_, rfl, ?_⟩
                   have n0_ := Aside0.mk (below_step (by repeat (first | (with_reducible first | exact HB.out | apply below_alloc | apply pw_below_drewN | apply below_drew1) | exact HB.out)) hb)
                   clear HB
                   have HB := n0_
                   clear n0_
                   (try clear hb)
                   (try clear hb2)
                   (try clear hk)
                   (try clear hi)
                   refine hK.out _ _ ⟨((HB.out.cell (World.block_lt_of_cell? w _ hw274_0)).trans hw274_0), ((HB.out.cell (World.block_lt_of_cell? w _ hw274_1)).trans hw274_1), ((HB.out.cell (World.block_lt_of_cell? w _ hw274_2)).trans hw274_2), ((HB.out.cell (World.block_lt_of_cell? w _ hw274_3)).trans hw274_3), ((HB.out.cell (World.block_lt_of_cell? w _ hw274_4)).trans hw274_4), ((HB.out.cell (World.block_lt_of_cell? w _ hw274_5)).trans hw274_5), ((HB.out.cell (World.block_lt_of_cell? w _ hw274_6)).trans hw274_6), ((HB.out.cell (World.block_lt_of_cell? w _ hw274_7)).trans hw274_7), ((HB.out.cell (World.block_lt_of_cell? w _ hw274_8)).trans hw274_8), ((HB.out.cell (World.block_lt_of_cell? w _ hw276_0)).trans hw276_0), ((HB.out.cell (World.block_lt_of_cell? w _ hw276_1)).trans hw276_1), ((HB.out.cell (World.block_lt_of_cell? w _ hw276_2)).trans hw276_2), ((HB.out.cell (World.block_lt_of_cell? w _ hw276_3)).trans hw276_3), ((HB.out.cell (World.block_lt_of_cell? w _ hw276_4)).trans hw276_4), ((HB.out.cell (World.block_lt_of_cell? w _ hw276_5)).trans hw276_5), ((HB.out.cell (World.block_lt_of_cell? w _ hw276_6)).trans hw276_6), ((HB.out.cell (World.block_lt_of_cell? w _ hw276_7)).trans hw276_7), ((HB.out.cell (World.block_lt_of_cell? w _ hw276_8)).trans hw276_8), ((HB.out.cell (World.block_lt_of_cell? w _ hw278_0)).trans hw278_0), ((HB.out.cell (World.block_lt_of_cell? w _ hw278_1)).trans hw278_1), ((HB.out.cell (World.block_lt_of_cell? w _ hw278_2)).trans hw278_2), ((HB.out.cell (World.block_lt_of_cell? w _ hw278_3)).trans hw278_3), ((HB.out.cell (World.block_lt_of_cell? w _ hw278_4)).trans hw278_4), ((HB.out.cell (World.block_lt_of_cell? w _ hw278_5)).trans hw278_5), ((HB.out.cell (World.block_lt_of_cell? w _ hw278_6)).trans hw278_6), ((HB.out.cell (World.block_lt_of_cell? w _ hw278_7)).trans hw278_7), ((HB.out.cell (World.block_lt_of_cell? w _ hw278_8)).trans hw278_8), ((HB.out.cell (World.block_lt_of_cell? w _ hw279_0)).trans hw279_0), ((HB.out.cell (World.block_lt_of_cell? w _ hw279_1)).trans hw279_1), ((HB.out.cell (World.block_lt_of_cell? w _ hw279_2)).trans hw279_2), ((HB.out.cell (World.block_lt_of_cell? w _ hw279_3)).trans hw279_3), ((HB.out.cell (World.block_lt_of_cell? w _ hw279_4)).trans hw279_4), ((HB.out.cell (World.block_lt_of_cell? w _ hw279_5)).trans hw279_5), ((HB.out.cell (World.block_lt_of_cell? w _ hw279_6)).trans hw279_6), ((HB.out.cell (World.block_lt_of_cell? w _ hw279_7)).trans hw279_7), ((HB.out.cell (World.block_lt_of_cell? w _ hw279_8)).trans hw279_8)⟩ (fun hHeld => ?_)
                   clear hK K
                   refine norm_ (a' := ?_) ?_ ?_
                   rotate_left
                   · show Act.put _ (some 24) _ = _
                     simp only [Act.put, List.setIfInBounds_toArray, List.set_cons_zero, List.set_cons_succ, i64_w, i32_w]
                     rfl
                   refine pure_ (i := 12) (N := some 25) (v := ?_) (a' := ?_) (bA 31 8191) rfl rfl (any_of HT_.out (by kernel_rfl)) (fun _ _ _ h => h) (Or.inl ⟨by rfl, ?_⟩) ?_ ?_
                   rotate_left
                   · intro w'
                     go_simp
                     with_reducible rfl
                   rotate_left
                   · simp only [Act.put, List.setIfInBounds_toArray, List.set_cons_zero, List.set_cons_succ, i64_w, i32_w]
                     rfl
                   refine pure_ (i := 13) (N := some 26) (v := ?_) (a' := ?_) (bA 31 16383) rfl rfl (any_of HT_.out (by kernel_rfl)) (fun _ _ _ h => h) (Or.inl ⟨by rfl, ?_⟩) ?_ ?_
                   rotate_left
                   · intro w'
                     go_simp
                     with_reducible rfl
                   rotate_left
                   · simp only [Act.put, List.setIfInBounds_toArray, List.set_cons_zero, List.set_cons_succ, i64_w, i32_w]
                     rfl
                   refine pure_ (i := 14) (N := some 27) (v := ?_) (a' := ?_) (bA 31 32767) rfl rfl (any_of HT_.out (by kernel_rfl)) (fun _ _ _ h => h) (Or.inl ⟨by rfl, ?_⟩) ?_ ?_
                   rotate_left
                   · intro w'
                     go_simp
                     with_reducible rfl
                   rotate_left
                   · simp only [Act.put, List.setIfInBounds_toArray, List.set_cons_zero, List.set_cons_succ, i64_w, i32_w]
                     rfl
                   refine pure_ (i := 15) (N := some 28) (v := ?_) (a' := ?_) (bA 31 65535) rfl rfl (any_of HT_.out (by kernel_rfl)) (fun _ _ _ h => h) (Or.inl ⟨by rfl, ?_⟩) ?_ ?_
                   rotate_left
                   · intro w'
                     go_simp
                     with_reducible rfl
                   rotate_left
                   · simp only [Act.put, List.setIfInBounds_toArray, List.set_cons_zero, List.set_cons_succ, i64_w, i32_w]
                     rfl
                   refine pure_ (i := 16) (N := some 29) (v := ?_) (a' := ?_) (bA 31 131071) rfl rfl (any_of HT_.out (by kernel_rfl)) (fun _ _ _ h => h) (Or.inl ⟨by rfl, ?_⟩) ?_ ?_
                   rotate_left
                   · intro w'
                     go_simp
                     with_reducible rfl
                   rotate_left
                   · simp only [Act.put, List.setIfInBounds_toArray, List.set_cons_zero, List.set_cons_succ, i64_w, i32_w]
                     rfl
                   refine pure_ (i := 17) (N := some 30) (v := ?_) (a' := ?_) (bA 31 262143) rfl rfl (any_of HT_.out (by kernel_rfl)) (fun _ _ _ h => h) (Or.inl ⟨by rfl, ?_⟩) ?_ ?_
                   rotate_left
                   · intro w'
                     go_simp
                     with_reducible rfl
                   rotate_left
                   · simp only [Act.put, List.setIfInBounds_toArray, List.set_cons_zero, List.set_cons_succ, i64_w, i32_w]
                     rfl
                   refine pure_ (i := 18) (N := some 31) (v := ?_) (a' := ?_) (bA 31 524287) rfl rfl (any_of HT_.out (by kernel_rfl)) (fun _ _ _ h => h) (Or.inl ⟨by rfl, ?_⟩) ?_ ?_
                   rotate_left
                   · intro w'
                     go_simp
                     with_reducible rfl
                   rotate_left
                   · simp only [Act.put, List.setIfInBounds_toArray, List.set_cons_zero, List.set_cons_succ, i64_w, i32_w]
                     rfl
                   refine pure_ (i := 19) (N := some 32) (v := ?_) (a' := ?_) (bA 31 1048575) rfl rfl (any_of HT_.out (by kernel_rfl)) (fun _ _ _ h => h) (Or.inl ⟨by rfl, ?_⟩) ?_ ?_
                   rotate_left
                   · intro w'
                     go_simp
                     with_reducible rfl
                   rotate_left
                   · simp only [Act.put, List.setIfInBounds_toArray, List.set_cons_zero, List.set_cons_succ, i64_w, i32_w]
                     rfl
                   refine pure_ (i := 20) (N := some 33) (v := ?_) (a' := ?_) (bA 31 2097151) rfl rfl (any_of HT_.out (by kernel_rfl)) (fun _ _ _ h => h) (Or.inl ⟨by rfl, ?_⟩) ?_ ?_
                   rotate_left
                   · intro w'
                     go_simp
                     with_reducible rfl
                   rotate_left
                   · simp only [Act.put, List.setIfInBounds_toArray, List.set_cons_zero, List.set_cons_succ, i64_w, i32_w]
                     rfl
                   refine pure_ (i := 21) (N := some 34) (v := ?_) (a' := ?_) (bA 31 4194303) rfl rfl (any_of HT_.out (by kernel_rfl)) (fun _ _ _ h => h) (Or.inl ⟨by rfl, ?_⟩) ?_ ?_
                   rotate_left
                   · intro w'
                     go_simp
                     with_reducible rfl
                   rotate_left
                   · simp only [Act.put, List.setIfInBounds_toArray, List.set_cons_zero, List.set_cons_succ, i64_w, i32_w]
                     rfl
                   refine pure_ (i := 23) (N := some 36) (v := ?_) (a' := ?_) (bA 31 12582911) rfl rfl (any_of HT_.out (by kernel_rfl)) (fun _ _ _ h => h) (Or.inl ⟨by rfl, ?_⟩) ?_ ?_
                   rotate_left
                   · intro w'
                     go_simp
                     with_reducible rfl
                   rotate_left
                   · simp only [Act.put, List.setIfInBounds_toArray, List.set_cons_zero, List.set_cons_succ, i64_w, i32_w]
                     rfl
                   refine pure_ (i := 24) (N := some 37) (v := ?_) (a' := ?_) (bA 31 29360127) rfl rfl (any_of HT_.out (by kernel_rfl)) (fun _ _ _ h => h) (Or.inl ⟨by rfl, ?_⟩) ?_ ?_
                   rotate_left
                   · intro w'
                     go_simp
                     with_reducible rfl
                   rotate_left
                   · simp only [Act.put, List.setIfInBounds_toArray, List.set_cons_zero, List.set_cons_succ, i64_w, i32_w]
                     rfl
                   refine pure_ (i := 25) (N := some 38) (v := ?_) (a' := ?_) (bA 31 62914559) rfl rfl (any_of HT_.out (by kernel_rfl)) (fun _ _ _ h => h) (Or.inl ⟨by rfl, ?_⟩) ?_ ?_
                   rotate_left
                   · intro w'
                     go_simp
                     with_reducible rfl
                   rotate_left
                   · simp only [Act.put, List.setIfInBounds_toArray, List.set_cons_zero, List.set_cons_succ, i64_w, i32_w]
                     rfl
                   refine pure_ (i := 26) (N := some 39) (v := ?_) (a' := ?_) (bA 31 130023423) rfl rfl (any_of HT_.out (by kernel_rfl)) (fun _ _ _ h => h) (Or.inl ⟨by rfl, ?_⟩) ?_ ?_
                   rotate_left
                   · intro w'
                     go_simp
                     with_reducible rfl
                   rotate_left
                   · simp only [Act.put, List.setIfInBounds_toArray, List.set_cons_zero, List.set_cons_succ, i64_w, i32_w]
                     rfl
                   refine take_ (i := 22) (N := some 35) (v := ?_) (a' := ?_) (bA 31 134217727) rfl rfl (take_ofW HT_.out HW_.out (by kernel_rfl)) (fun _ _ _ h => h) (Or.inl ⟨by rfl, ?_⟩) hHeld ?_ ?_
                   rotate_left
                   · rintro w' ⟨s0, s1, s2, s3, s4, s5, s6, s7, s8, s9, s10, s11, s12, s13, s14, s15, s16, s17, s18, s19, s20, s21, s22, s23, s24, s25, s26, s27, s28, s29, s30, s31, s32, s33, s34, s35⟩
                     go_simp
                     with_reducible rfl
                   rotate_left
                   · simp only [Act.put, List.setIfInBounds_toArray, List.set_cons_zero, List.set_cons_succ, i64_w, i32_w]
                     rfl
                   refine take_ (i := 27) (N := some 40) (v := ?_) (a' := ?_) (bA 31 268435455) rfl rfl (take_ofW HT_.out HW_.out (by kernel_rfl)) (fun _ _ _ h => h) (Or.inl ⟨by rfl, ?_⟩) hHeld ?_ ?_
                   rotate_left
                   · rintro w' ⟨s0, s1, s2, s3, s4, s5, s6, s7, s8, s9, s10, s11, s12, s13, s14, s15, s16, s17, s18, s19, s20, s21, s22, s23, s24, s25, s26, s27, s28, s29, s30, s31, s32, s33, s34, s35⟩
                     go_simp
                     with_reducible rfl
                   rotate_left
                   · simp only [Act.put, List.setIfInBounds_toArray, List.set_cons_zero, List.set_cons_succ, i64_w, i32_w]
                     rfl
                   refine pure_ (i := 28) (N := some 41) (v := ?_) (a' := ?_) (bA 31 536870911) rfl rfl (any_of HT_.out (by kernel_rfl)) (fun _ _ _ h => h) (Or.inl ⟨by rfl, ?_⟩) ?_ ?_
                   rotate_left
                   · intro w'
                     go_simp
                     with_reducible rfl
                   rotate_left
                   · simp only [Act.put, List.setIfInBounds_toArray, List.set_cons_zero, List.set_cons_succ, i64_w, i32_w]
                     rfl
                   refine pure_ (i := 29) (N := some 42) (v := ?_) (a' := ?_) (bA 31 1073741823) rfl rfl (any_of HT_.out (by kernel_rfl)) (fun _ _ _ h => h) (Or.inl ⟨by rfl, ?_⟩) ?_ ?_
                   rotate_left
                   · intro w'
                     go_simp
                     with_reducible rfl
                   rotate_left
                   · simp only [Act.put, List.setIfInBounds_toArray, List.set_cons_zero, List.set_cons_succ, i64_w, i32_w]
                     rfl
                   refine pure_ (i := 30) (N := some 43) (v := ?_) (a' := ?_) (bA 31 2147483647) rfl rfl (any_of HT_.out (by kernel_rfl)) (fun _ _ _ h => h) (Or.inl ⟨by rfl, ?_⟩) ?_ ?_
                   rotate_left
                   · intro w'
                     go_simp
                     with_reducible rfl
                   rotate_left
                   · simp only [Act.put, List.setIfInBounds_toArray, List.set_cons_zero, List.set_cons_succ, i64_w, i32_w]
                     rfl
                   refine done_ (done_of HT_.out (by kernel_rfl)) ?_
                   try go_wp2
                   go_roundg k1
                   case measure => have := HK1.out; omega
                   case rel => exact ⟨(x5_1), (wrap64 (x6_1 + 1)), (by first | rfl | (simp; done) | (simp [*]; done)), (by first | rfl | (simp; done) | (simp [*]; done)), H', ⟨by have := HK1.out; omega⟩, ⟨by repeat (first | (with_reducible first | exact HB.out | apply below_alloc | apply pw_below_drewN | apply below_drew1) | exact HB.out)⟩⟩
               · rw [if_neg c14] at H
                 exact absurd H (by simp)
             · rw [if_neg c13] at H
               exact absurd H (by simp)
         · rw [if_neg c8] at H
           have c8b0 : decide (0 < t277) = false := decide_eq_false c8
           clear c8
           have H' := Aside0.mk H
           clear H
           try go_wp2
           have n0_ := Aside0.mk (below_drew1 HB.out)
           clear HB
           have HB := n0_
           clear n0_
           have p274 : 0 ≤ (x6_1 : Int) := of_decide_eq_true (by first | (with_reducible assumption) | assumption)
           have q274 : x6_1 < (l0.length : Int) := of_decide_eq_true (by first | (with_reducible assumption) | assumption)
           obtain ⟨ad274, e274, hx274_0, hx274_1, hx274_2, hx274_3, hx274_4, hx274_5, hx274_6, hx274_7, hx274_8⟩ := at_T33 HR0.out x6_1 p274 q274
           have hw274_8 := hx274_8
           have hw274_7 := hx274_7
           have hw274_6 := hx274_6
           have hw274_5 := hx274_5
           have hw274_4 := hx274_4
           have hw274_3 := hx274_3
           have hw274_2 := hx274_2
           have hw274_1 := hx274_1
           have hw274_0 := hx274_0
           cases e274
           replace hx274_0 := (HB.out.cell (World.block_lt_of_cell? w _ hx274_0)).trans hx274_0
           replace hx274_1 := (HB.out.cell (World.block_lt_of_cell? w _ hx274_1)).trans hx274_1
           replace hx274_2 := (HB.out.cell (World.block_lt_of_cell? w _ hx274_2)).trans hx274_2
           replace hx274_3 := (HB.out.cell (World.block_lt_of_cell? w _ hx274_3)).trans hx274_3
           replace hx274_4 := (HB.out.cell (World.block_lt_of_cell? w _ hx274_4)).trans hx274_4
           replace hx274_5 := (HB.out.cell (World.block_lt_of_cell? w _ hx274_5)).trans hx274_5
           replace hx274_6 := (HB.out.cell (World.block_lt_of_cell? w _ hx274_6)).trans hx274_6
           replace hx274_7 := (HB.out.cell (World.block_lt_of_cell? w _ hx274_7)).trans hx274_7
           replace hx274_8 := (HB.out.cell (World.block_lt_of_cell? w _ hx274_8)).trans hx274_8
           replace p274 := eq_true p274
           replace q274 := eq_true q274
           have p276 : 0 ≤ (x6_1 : Int) := of_decide_eq_true (by first | (with_reducible assumption) | assumption)
           have q276 : x6_1 < (l0.length : Int) := of_decide_eq_true (by first | (with_reducible assumption) | assumption)
           obtain ⟨ad276, e276, hx276_0, hx276_1, hx276_2, hx276_3, hx276_4, hx276_5, hx276_6, hx276_7, hx276_8⟩ := at_T33 HR0.out x6_1 p276 q276
           have hw276_8 := hx276_8
           have hw276_7 := hx276_7
           have hw276_6 := hx276_6
           have hw276_5 := hx276_5
           have hw276_4 := hx276_4
           have hw276_3 := hx276_3
           have hw276_2 := hx276_2
           have hw276_1 := hx276_1
           have hw276_0 := hx276_0
           obtain rfl : ad274 = ad276 := (by injection e276)
           replace hx276_0 := (HB.out.cell (World.block_lt_of_cell? w _ hx276_0)).trans hx276_0
           replace hx276_1 := (HB.out.cell (World.block_lt_of_cell? w _ hx276_1)).trans hx276_1
           replace hx276_2 := (HB.out.cell (World.block_lt_of_cell? w _ hx276_2)).trans hx276_2
           replace hx276_3 := (HB.out.cell (World.block_lt_of_cell? w _ hx276_3)).trans hx276_3
           replace hx276_4 := (HB.out.cell (World.block_lt_of_cell? w _ hx276_4)).trans hx276_4
           replace hx276_5 := (HB.out.cell (World.block_lt_of_cell? w _ hx276_5)).trans hx276_5
           replace hx276_6 := (HB.out.cell (World.block_lt_of_cell? w _ hx276_6)).trans hx276_6
           replace hx276_7 := (HB.out.cell (World.block_lt_of_cell? w _ hx276_7)).trans hx276_7
           replace hx276_8 := (HB.out.cell (World.block_lt_of_cell? w _ hx276_8)).trans hx276_8
           replace p276 := eq_true p276
           replace q276 := eq_true q276
           refine start_ (n := 31) (S := fun w' => w'.cell? (ad274.add ((x6_1).toNat * 9)) = some (.int .i64 ((rd_T33 l0 x6_1).f0)) ∧ w'.cell? ⟨(ad274.add ((x6_1).toNat * 9)).block, (ad274.add ((x6_1).toNat * 9)).off + 1, none⟩ = some (.int .i64 ((rd_T33 l0 x6_1).f1)) ∧ w'.cell? ⟨(ad274.add ((x6_1).toNat * 9)).block, (ad274.add ((x6_1).toNat * 9)).off + 2, none⟩ = some (.int .i64 ((rd_T33 l0 x6_1).f2)) ∧ w'.cell? ⟨(ad274.add ((x6_1).toNat * 9)).block, (ad274.add ((x6_1).toNat * 9)).off + 3, none⟩ = some (.int .i64 ((rd_T33 l0 x6_1).f3)) ∧ w'.cell? ⟨(ad274.add ((x6_1).toNat * 9)).block, (ad274.add ((x6_1).toNat * 9)).off + 4, none⟩ = some (.int .i64 ((rd_T33 l0 x6_1).f4)) ∧ w'.cell? ⟨(ad274.add ((x6_1).toNat * 9)).block, (ad274.add ((x6_1).toNat * 9)).off + 5, none⟩ = some (.int .i64 ((rd_T33 l0 x6_1).f5)) ∧ w'.cell? ⟨(ad274.add ((x6_1).toNat * 9)).block, (ad274.add ((x6_1).toNat * 9)).off + 6, none⟩ = some (.int .i64 ((rd_T33 l0 x6_1).f6)) ∧ w'.cell? ⟨(ad274.add ((x6_1).toNat * 9)).block, (ad274.add ((x6_1).toNat * 9)).off + 7, none⟩ = some (.int .i64 ((rd_T33 l0 x6_1).f7)) ∧ w'.cell? ⟨(ad274.add ((x6_1).toNat * 9)).block, (ad274.add ((x6_1).toNat * 9)).off + 8, none⟩ = some (.int .i64 ((rd_T33 l0 x6_1).f8)) ∧ w'.cell? (ad274.add ((x6_1).toNat * 9)) = some (.int .i64 ((rd_T33 l0 x6_1).f0)) ∧ w'.cell? ⟨(ad274.add ((x6_1).toNat * 9)).block, (ad274.add ((x6_1).toNat * 9)).off + 1, none⟩ = some (.int .i64 ((rd_T33 l0 x6_1).f1)) ∧ w'.cell? ⟨(ad274.add ((x6_1).toNat * 9)).block, (ad274.add ((x6_1).toNat * 9)).off + 2, none⟩ = some (.int .i64 ((rd_T33 l0 x6_1).f2)) ∧ w'.cell? ⟨(ad274.add ((x6_1).toNat * 9)).block, (ad274.add ((x6_1).toNat * 9)).off + 3, none⟩ = some (.int .i64 ((rd_T33 l0 x6_1).f3)) ∧ w'.cell? ⟨(ad274.add ((x6_1).toNat * 9)).block, (ad274.add ((x6_1).toNat * 9)).off + 4, none⟩ = some (.int .i64 ((rd_T33 l0 x6_1).f4)) ∧ w'.cell? ⟨(ad274.add ((x6_1).toNat * 9)).block, (ad274.add ((x6_1).toNat * 9)).off + 5, none⟩ = some (.int .i64 ((rd_T33 l0 x6_1).f5)) ∧ w'.cell? ⟨(ad274.add ((x6_1).toNat * 9)).block, (ad274.add ((x6_1).toNat * 9)).off + 6, none⟩ = some (.int .i64 ((rd_T33 l0 x6_1).f6)) ∧ w'.cell? ⟨(ad274.add ((x6_1).toNat * 9)).block, (ad274.add ((x6_1).toNat * 9)).off + 7, none⟩ = some (.int .i64 ((rd_T33 l0 x6_1).f7)) ∧ w'.cell? ⟨(ad274.add ((x6_1).toNat * 9)).block, (ad274.add ((x6_1).toNat * 9)).off + 8, none⟩ = some (.int .i64 ((rd_T33 l0 x6_1).f8))) (ds := []) #[false, false, false, false, false, false, false, false, false, false, false, false, false, false, false, false, false, false, false, false, false, false, false, false, false, false, false, false, false, false, false] (by kernel_rfl) rfl rfl ⟨((HB.out.cell (World.block_lt_of_cell? w _ hw274_0)).trans hw274_0), ((HB.out.cell (World.block_lt_of_cell? w _ hw274_1)).trans hw274_1), ((HB.out.cell (World.block_lt_of_cell? w _ hw274_2)).trans hw274_2), ((HB.out.cell (World.block_lt_of_cell? w _ hw274_3)).trans hw274_3), ((HB.out.cell (World.block_lt_of_cell? w _ hw274_4)).trans hw274_4), ((HB.out.cell (World.block_lt_of_cell? w _ hw274_5)).trans hw274_5), ((HB.out.cell (World.block_lt_of_cell? w _ hw274_6)).trans hw274_6), ((HB.out.cell (World.block_lt_of_cell? w _ hw274_7)).trans hw274_7), ((HB.out.cell (World.block_lt_of_cell? w _ hw274_8)).trans hw274_8), ((HB.out.cell (World.block_lt_of_cell? w _ hw276_0)).trans hw276_0), ((HB.out.cell (World.block_lt_of_cell? w _ hw276_1)).trans hw276_1), ((HB.out.cell (World.block_lt_of_cell? w _ hw276_2)).trans hw276_2), ((HB.out.cell (World.block_lt_of_cell? w _ hw276_3)).trans hw276_3), ((HB.out.cell (World.block_lt_of_cell? w _ hw276_4)).trans hw276_4), ((HB.out.cell (World.block_lt_of_cell? w _ hw276_5)).trans hw276_5), ((HB.out.cell (World.block_lt_of_cell? w _ hw276_6)).trans hw276_6), ((HB.out.cell (World.block_lt_of_cell? w _ hw276_7)).trans hw276_7), ((HB.out.cell (World.block_lt_of_cell? w _ hw276_8)).trans hw276_8)⟩ (fun hHeld => ?_); refine with_tabW tollref10_first.tab5 tollref10_first.bits5 (fun HT_ HW_ => ?_)
           generalize wr.drew = w22 at HB hx274_0 hx274_1 hx274_2 hx274_3 hx274_4 hx274_5 hx274_6 hx274_7 hx274_8 hx276_0 hx276_1 hx276_2 hx276_3 hx276_4 hx276_5 hx276_6 hx276_7 hx276_8 hHeld ⊢
           refine pure_ (i := 0) (N := some 13) (v := ?_) (a' := ?_) (bA 31 1) rfl rfl (any_of HT_.out (by kernel_rfl)) (fun _ _ _ h => h) (Or.inl ⟨by rfl, ?_⟩) ?_ ?_
           rotate_left
           · intro w'
             go_simp
             with_reducible rfl
           rotate_left
           · simp only [Act.put, List.setIfInBounds_toArray, List.set_cons_zero, List.set_cons_succ, i64_w, i32_w]
             rfl
           refine pure_ (i := 1) (N := some 14) (v := ?_) (a' := ?_) (bA 31 3) rfl rfl (any_of HT_.out (by kernel_rfl)) (fun _ _ _ h => h) (Or.inl ⟨by rfl, ?_⟩) ?_ ?_
           rotate_left
           · intro w'
             go_simp
             with_reducible rfl
           rotate_left
           · simp only [Act.put, List.setIfInBounds_toArray, List.set_cons_zero, List.set_cons_succ, i64_w, i32_w]
             rfl
           refine pure_ (i := 2) (N := some 15) (v := ?_) (a' := ?_) (bA 31 7) rfl rfl (any_of HT_.out (by kernel_rfl)) (fun _ _ _ h => h) (Or.inl ⟨by rfl, ?_⟩) ?_ ?_
           rotate_left
           · intro w'
             go_simp
             with_reducible rfl
           rotate_left
           · simp only [Act.put, List.setIfInBounds_toArray, List.set_cons_zero, List.set_cons_succ, i64_w, i32_w]
             rfl
           refine pure_ (i := 4) (N := some 17) (v := ?_) (a' := ?_) (bA 31 23) rfl rfl (any_of HT_.out (by kernel_rfl)) (fun _ _ _ h => h) (Or.inl ⟨by rfl, ?_⟩) ?_ ?_
           rotate_left
           · intro w'
             go_simp
             with_reducible rfl
           rotate_left
           · simp only [Act.put, List.setIfInBounds_toArray, List.set_cons_zero, List.set_cons_succ, i64_w, i32_w]
             rfl
           refine take_ (i := 3) (N := some 16) (v := ?_) (a' := ?_) (bA 31 31) rfl rfl (take_ofW HT_.out HW_.out (by kernel_rfl)) (fun _ _ _ h => h) (Or.inl ⟨by rfl, ?_⟩) hHeld ?_ ?_
           rotate_left
           · rintro w' ⟨s0, s1, s2, s3, s4, s5, s6, s7, s8, s9, s10, s11, s12, s13, s14, s15, s16, s17⟩
             go_simp
             with_reducible rfl
           rotate_left
           · simp only [Act.put, List.setIfInBounds_toArray, List.set_cons_zero, List.set_cons_succ, i64_w, i32_w]
             rfl
           refine one_ (i := 5) (N := some 18) (bA 31 63) rfl rfl (one_of HT_.out (by kernel_rfl)) (by decide) (fun K hK => ?_)
           refine goes_ Try.func27 (by kernel_rfl) rfl #[.agg #[.int .i64 ((rd_T33 l0 x6_1).f0), .int .i64 ((rd_T33 l0 x6_1).f1), .int .i64 ((rd_T33 l0 x6_1).f2), .int .i64 ((rd_T33 l0 x6_1).f3), .int .i64 ((rd_T33 l0 x6_1).f4), .int .i64 ((rd_T33 l0 x6_1).f5), .int .i64 ((rd_T33 l0 x6_1).f6), .int .i64 ((rd_T33 l0 x6_1).f7), .int .i64 ((rd_T33 l0 x6_1).f8)], .int .i64 a1] (by rfl) rfl rfl (by (try simp only [List.map_toArray, List.map_cons, List.map_nil]); first | done | rfl | (simp only [List.length_drop, List.length_take]; rfl)) ?_
           with_reducible refine (tollref10_Valid.calls ((rd_T33 l0 x6_1).f0) ((rd_T33 l0 x6_1).f1) ((rd_T33 l0 x6_1).f2) ((rd_T33 l0 x6_1).f3) ((rd_T33 l0 x6_1).f4) ((rd_T33 l0 x6_1).f5) ((rd_T33 l0 x6_1).f6) ((rd_T33 l0 x6_1).f7) ((rd_T33 l0 x6_1).f8) a1 true _ A5.out).mono ?_
           rintro e w23 ⟨rfl, hb⟩
           refine ⟨_, rfl, ?_⟩
           have n0_ := Aside0.mk (below_step (by repeat (first | (with_reducible first | exact HB.out | apply below_alloc | apply pw_below_drewN | apply below_drew1) | exact HB.out)) hb)
           clear HB
           have HB := n0_
           clear n0_
           (try clear hb)
           (try clear hb2)
           (try clear hk)
           (try clear hi)
           refine hK.out _ _ ⟨((HB.out.cell (World.block_lt_of_cell? w _ hw274_0)).trans hw274_0), ((HB.out.cell (World.block_lt_of_cell? w _ hw274_1)).trans hw274_1), ((HB.out.cell (World.block_lt_of_cell? w _ hw274_2)).trans hw274_2), ((HB.out.cell (World.block_lt_of_cell? w _ hw274_3)).trans hw274_3), ((HB.out.cell (World.block_lt_of_cell? w _ hw274_4)).trans hw274_4), ((HB.out.cell (World.block_lt_of_cell? w _ hw274_5)).trans hw274_5), ((HB.out.cell (World.block_lt_of_cell? w _ hw274_6)).trans hw274_6), ((HB.out.cell (World.block_lt_of_cell? w _ hw274_7)).trans hw274_7), ((HB.out.cell (World.block_lt_of_cell? w _ hw274_8)).trans hw274_8), ((HB.out.cell (World.block_lt_of_cell? w _ hw276_0)).trans hw276_0), ((HB.out.cell (World.block_lt_of_cell? w _ hw276_1)).trans hw276_1), ((HB.out.cell (World.block_lt_of_cell? w _ hw276_2)).trans hw276_2), ((HB.out.cell (World.block_lt_of_cell? w _ hw276_3)).trans hw276_3), ((HB.out.cell (World.block_lt_of_cell? w _ hw276_4)).trans hw276_4), ((HB.out.cell (World.block_lt_of_cell? w _ hw276_5)).trans hw276_5), ((HB.out.cell (World.block_lt_of_cell? w _ hw276_6)).trans hw276_6), ((HB.out.cell (World.block_lt_of_cell? w _ hw276_7)).trans hw276_7), ((HB.out.cell (World.block_lt_of_cell? w _ hw276_8)).trans hw276_8)⟩ (fun hHeld => ?_)
           clear hK K
           refine norm_ (a' := ?_) ?_ ?_
           rotate_left
           · show Act.put _ (some 18) _ = _
             simp only [Act.put, List.setIfInBounds_toArray, List.set_cons_zero, List.set_cons_succ, i64_w, i32_w]
             rfl
           refine pure_ (i := 6) (N := some 19) (v := ?_) (a' := ?_) (bA 31 127) rfl rfl (any_of HT_.out (by kernel_rfl)) (fun _ _ _ h => h) (Or.inl ⟨by rfl, ?_⟩) ?_ ?_
           rotate_left
           · intro w'
             go_simp
             with_reducible rfl
           rotate_left
           · simp only [Act.put, List.setIfInBounds_toArray, List.set_cons_zero, List.set_cons_succ, i64_w, i32_w]
             rfl
           refine pure_ (i := 7) (N := some 20) (v := ?_) (a' := ?_) (bA 31 255) rfl rfl (any_of HT_.out (by kernel_rfl)) (fun _ _ _ h => h) (Or.inl ⟨by rfl, ?_⟩) ?_ ?_
           rotate_left
           · intro w'
             go_simp
             with_reducible rfl
           rotate_left
           · simp only [Act.put, List.setIfInBounds_toArray, List.set_cons_zero, List.set_cons_succ, i64_w, i32_w]
             rfl
           refine pure_ (i := 8) (N := some 21) (v := ?_) (a' := ?_) (bA 31 511) rfl rfl (any_of HT_.out (by kernel_rfl)) (fun _ _ _ h => h) (Or.inl ⟨by rfl, ?_⟩) ?_ ?_
           rotate_left
           · intro w'
             go_simp
             with_reducible rfl
           rotate_left
           · simp only [Act.put, List.setIfInBounds_toArray, List.set_cons_zero, List.set_cons_succ, i64_w, i32_w]
             rfl
           refine pure_ (i := 9) (N := some 22) (v := ?_) (a' := ?_) (bA 31 1023) rfl rfl (any_of HT_.out (by kernel_rfl)) (fun _ _ _ h => h) (Or.inl ⟨by rfl, ?_⟩) ?_ ?_
           rotate_left
           · intro w'
             go_simp
             with_reducible rfl
           rotate_left
           · simp only [Act.put, List.setIfInBounds_toArray, List.set_cons_zero, List.set_cons_succ, i64_w, i32_w]
             rfl
           refine take_ (i := 10) (N := some 23) (v := ?_) (a' := ?_) (bA 31 2047) rfl rfl (take_ofW HT_.out HW_.out (by kernel_rfl)) (fun _ _ _ h => h) (Or.inl ⟨by rfl, ?_⟩) hHeld ?_ ?_
           rotate_left
           · rintro w' ⟨s0, s1, s2, s3, s4, s5, s6, s7, s8, s9, s10, s11, s12, s13, s14, s15, s16, s17⟩
             go_simp
             with_reducible rfl
           rotate_left
           · simp only [Act.put, List.setIfInBounds_toArray, List.set_cons_zero, List.set_cons_succ, i64_w, i32_w]
             rfl
           refine one_ (i := 11) (N := some 24) (bA 31 4095) rfl rfl (one_of HT_.out (by kernel_rfl)) (by decide) (fun K hK => ?_)
           refine goes_ Try.func26 (by kernel_rfl) rfl #[.agg #[.int .i64 ((rd_T33 l0 x6_1).f0), .int .i64 ((rd_T33 l0 x6_1).f1), .int .i64 ((rd_T33 l0 x6_1).f2), .int .i64 ((rd_T33 l0 x6_1).f3), .int .i64 ((rd_T33 l0 x6_1).f4), .int .i64 ((rd_T33 l0 x6_1).f5), .int .i64 ((rd_T33 l0 x6_1).f6), .int .i64 ((rd_T33 l0 x6_1).f7), .int .i64 ((rd_T33 l0 x6_1).f8)]] (by rfl) rfl rfl (by (try simp only [List.map_toArray, List.map_cons, List.map_nil]); first | done | rfl | (simp only [List.length_drop, List.length_take]; rfl)) ?_
           with_reducible refine (tollref10_Rest.calls ((rd_T33 l0 x6_1).f0) ((rd_T33 l0 x6_1).f1) ((rd_T33 l0 x6_1).f2) ((rd_T33 l0 x6_1).f3) ((rd_T33 l0 x6_1).f4) ((rd_T33 l0 x6_1).f5) ((rd_T33 l0 x6_1).f6) ((rd_T33 l0 x6_1).f7) ((rd_T33 l0 x6_1).f8) t277 _ A7.out).mono ?_
           rintro e w24 ⟨rfl, hb⟩
           refine ⟨_, rfl, ?_⟩
           have n0_ := Aside0.mk (below_step (by repeat (first | (with_reducible first | exact HB.out | apply below_alloc | apply pw_below_drewN | apply below_drew1) | exact HB.out)) hb)
           clear HB
           have HB := n0_
           clear n0_
           (try clear hb)
           (try clear hb2)
           (try clear hk)
           (try clear hi)
           refine hK.out _ _ ⟨((HB.out.cell (World.block_lt_of_cell? w _ hw274_0)).trans hw274_0), ((HB.out.cell (World.block_lt_of_cell? w _ hw274_1)).trans hw274_1), ((HB.out.cell (World.block_lt_of_cell? w _ hw274_2)).trans hw274_2), ((HB.out.cell (World.block_lt_of_cell? w _ hw274_3)).trans hw274_3), ((HB.out.cell (World.block_lt_of_cell? w _ hw274_4)).trans hw274_4), ((HB.out.cell (World.block_lt_of_cell? w _ hw274_5)).trans hw274_5), ((HB.out.cell (World.block_lt_of_cell? w _ hw274_6)).trans hw274_6), ((HB.out.cell (World.block_lt_of_cell? w _ hw274_7)).trans hw274_7), ((HB.out.cell (World.block_lt_of_cell? w _ hw274_8)).trans hw274_8), ((HB.out.cell (World.block_lt_of_cell? w _ hw276_0)).trans hw276_0), ((HB.out.cell (World.block_lt_of_cell? w _ hw276_1)).trans hw276_1), ((HB.out.cell (World.block_lt_of_cell? w _ hw276_2)).trans hw276_2), ((HB.out.cell (World.block_lt_of_cell? w _ hw276_3)).trans hw276_3), ((HB.out.cell (World.block_lt_of_cell? w _ hw276_4)).trans hw276_4), ((HB.out.cell (World.block_lt_of_cell? w _ hw276_5)).trans hw276_5), ((HB.out.cell (World.block_lt_of_cell? w _ hw276_6)).trans hw276_6), ((HB.out.cell (World.block_lt_of_cell? w _ hw276_7)).trans hw276_7), ((HB.out.cell (World.block_lt_of_cell? w _ hw276_8)).trans hw276_8)⟩ (fun hHeld => ?_)
           clear hK K
           refine norm_ (a' := ?_) ?_ ?_
           rotate_left
           · show Act.put _ (some 24) _ = _
             simp only [Act.put, List.setIfInBounds_toArray, List.set_cons_zero, List.set_cons_succ, i64_w, i32_w]
             rfl
           refine pure_ (i := 12) (N := some 25) (v := ?_) (a' := ?_) (bA 31 8191) rfl rfl (any_of HT_.out (by kernel_rfl)) (fun _ _ _ h => h) (Or.inl ⟨by rfl, ?_⟩) ?_ ?_
           rotate_left
           · intro w'
             go_simp
             with_reducible rfl
           rotate_left
           · simp only [Act.put, List.setIfInBounds_toArray, List.set_cons_zero, List.set_cons_succ, i64_w, i32_w]
             rfl
           refine pure_ (i := 13) (N := some 26) (v := ?_) (a' := ?_) (bA 31 16383) rfl rfl (any_of HT_.out (by kernel_rfl)) (fun _ _ _ h => h) (Or.inl ⟨by rfl, ?_⟩) ?_ ?_
           rotate_left
           · intro w'
             go_simp
             with_reducible rfl
           rotate_left
           · simp only [Act.put, List.setIfInBounds_toArray, List.set_cons_zero, List.set_cons_succ, i64_w, i32_w]
             rfl
           refine pure_ (i := 14) (N := some 27) (v := ?_) (a' := ?_) (bA 31 32767) rfl rfl (any_of HT_.out (by kernel_rfl)) (fun _ _ _ h => h) (Or.inl ⟨by rfl, ?_⟩) ?_ ?_
           rotate_left
           · intro w'
             go_simp
             with_reducible rfl
           rotate_left
           · simp only [Act.put, List.setIfInBounds_toArray, List.set_cons_zero, List.set_cons_succ, i64_w, i32_w]
             rfl
           refine pure_ (i := 15) (N := some 28) (v := undef) (a' := ?_) (bA 31 65535) rfl rfl (any_of HT_.out (by kernel_rfl)) (fun _ _ _ h => h) (Or.inr ⟨by rfl, rfl⟩) ?_ ?_
           rotate_left
           · simp only [Act.put, List.setIfInBounds_toArray, List.set_cons_zero, List.set_cons_succ, i64_w, i32_w]
             rfl
           refine pure_ (i := 16) (N := some 29) (v := undef) (a' := ?_) (bA 31 131071) rfl rfl (any_of HT_.out (by kernel_rfl)) (fun _ _ _ h => h) (Or.inr ⟨by rfl, rfl⟩) ?_ ?_
           rotate_left
           · simp only [Act.put, List.setIfInBounds_toArray, List.set_cons_zero, List.set_cons_succ, i64_w, i32_w]
             rfl
           refine pure_ (i := 17) (N := some 30) (v := undef) (a' := ?_) (bA 31 262143) rfl rfl (any_of HT_.out (by kernel_rfl)) (fun _ _ _ h => h) (Or.inr ⟨by rfl, rfl⟩) ?_ ?_
           rotate_left
           · simp only [Act.put, List.setIfInBounds_toArray, List.set_cons_zero, List.set_cons_succ, i64_w, i32_w]
             rfl
           refine pure_ (i := 18) (N := some 31) (v := undef) (a' := ?_) (bA 31 524287) rfl rfl (any_of HT_.out (by kernel_rfl)) (fun _ _ _ h => h) (Or.inr ⟨by rfl, rfl⟩) ?_ ?_
           rotate_left
           · simp only [Act.put, List.setIfInBounds_toArray, List.set_cons_zero, List.set_cons_succ, i64_w, i32_w]
             rfl
           refine pure_ (i := 19) (N := some 32) (v := undef) (a' := ?_) (bA 31 1048575) rfl rfl (any_of HT_.out (by kernel_rfl)) (fun _ _ _ h => h) (Or.inr ⟨by rfl, rfl⟩) ?_ ?_
           rotate_left
           · simp only [Act.put, List.setIfInBounds_toArray, List.set_cons_zero, List.set_cons_succ, i64_w, i32_w]
             rfl
           refine pure_ (i := 20) (N := some 33) (v := undef) (a' := ?_) (bA 31 2097151) rfl rfl (any_of HT_.out (by kernel_rfl)) (fun _ _ _ h => h) (Or.inr ⟨by rfl, rfl⟩) ?_ ?_
           rotate_left
           · simp only [Act.put, List.setIfInBounds_toArray, List.set_cons_zero, List.set_cons_succ, i64_w, i32_w]
             rfl
           refine pure_ (i := 21) (N := some 34) (v := undef) (a' := ?_) (bA 31 4194303) rfl rfl (any_of HT_.out (by kernel_rfl)) (fun _ _ _ h => h) (Or.inr ⟨by rfl, rfl⟩) ?_ ?_
           rotate_left
           · simp only [Act.put, List.setIfInBounds_toArray, List.set_cons_zero, List.set_cons_succ, i64_w, i32_w]
             rfl
           refine pure_ (i := 22) (N := some 35) (v := undef) (a' := ?_) (bA 31 8388607) rfl rfl (any_of HT_.out (by kernel_rfl)) (fun _ _ _ h => h) (Or.inr ⟨by rfl, rfl⟩) ?_ ?_
           rotate_left
           · simp only [Act.put, List.setIfInBounds_toArray, List.set_cons_zero, List.set_cons_succ, i64_w, i32_w]
             rfl
           refine pure_ (i := 23) (N := some 36) (v := undef) (a' := ?_) (bA 31 16777215) rfl rfl (any_of HT_.out (by kernel_rfl)) (fun _ _ _ h => h) (Or.inr ⟨by rfl, rfl⟩) ?_ ?_
           rotate_left
           · simp only [Act.put, List.setIfInBounds_toArray, List.set_cons_zero, List.set_cons_succ, i64_w, i32_w]
             rfl
           refine pure_ (i := 24) (N := some 37) (v := undef) (a' := ?_) (bA 31 33554431) rfl rfl (any_of HT_.out (by kernel_rfl)) (fun _ _ _ h => h) (Or.inr ⟨by rfl, rfl⟩) ?_ ?_
           rotate_left
           · simp only [Act.put, List.setIfInBounds_toArray, List.set_cons_zero, List.set_cons_succ, i64_w, i32_w]
             rfl
           refine pure_ (i := 25) (N := some 38) (v := undef) (a' := ?_) (bA 31 67108863) rfl rfl (any_of HT_.out (by kernel_rfl)) (fun _ _ _ h => h) (Or.inr ⟨by rfl, rfl⟩) ?_ ?_
           rotate_left
           · simp only [Act.put, List.setIfInBounds_toArray, List.set_cons_zero, List.set_cons_succ, i64_w, i32_w]
             rfl
           refine pure_ (i := 26) (N := some 39) (v := undef) (a' := ?_) (bA 31 134217727) rfl rfl (any_of HT_.out (by kernel_rfl)) (fun _ _ _ h => h) (Or.inr ⟨by rfl, rfl⟩) ?_ ?_
           rotate_left
           · simp only [Act.put, List.setIfInBounds_toArray, List.set_cons_zero, List.set_cons_succ, i64_w, i32_w]
             rfl
           refine pure_ (i := 27) (N := some 40) (v := undef) (a' := ?_) (bA 31 268435455) rfl rfl (any_of HT_.out (by kernel_rfl)) (fun _ _ _ h => h) (Or.inr ⟨by rfl, rfl⟩) ?_ ?_
           rotate_left
           · simp only [Act.put, List.setIfInBounds_toArray, List.set_cons_zero, List.set_cons_succ, i64_w, i32_w]
             rfl
           refine pure_ (i := 28) (N := some 41) (v := undef) (a' := ?_) (bA 31 536870911) rfl rfl (any_of HT_.out (by kernel_rfl)) (fun _ _ _ h => h) (Or.inr ⟨by rfl, rfl⟩) ?_ ?_
           rotate_left
           · simp only [Act.put, List.setIfInBounds_toArray, List.set_cons_zero, List.set_cons_succ, i64_w, i32_w]
             rfl
           refine pure_ (i := 29) (N := some 42) (v := undef) (a' := ?_) (bA 31 1073741823) rfl rfl (any_of HT_.out (by kernel_rfl)) (fun _ _ _ h => h) (Or.inr ⟨by rfl, rfl⟩) ?_ ?_
           rotate_left
           · simp only [Act.put, List.setIfInBounds_toArray, List.set_cons_zero, List.set_cons_succ, i64_w, i32_w]
             rfl
           refine pure_ (i := 30) (N := some 43) (v := ?_) (a' := ?_) (bA 31 2147483647) rfl rfl (any_of HT_.out (by kernel_rfl)) (fun _ _ _ h => h) (Or.inl ⟨by rfl, ?_⟩) ?_ ?_
           rotate_left
           · intro w'
             go_simp
             with_reducible rfl
           rotate_left
           · simp only [Act.put, List.setIfInBounds_toArray, List.set_cons_zero, List.set_cons_succ, i64_w, i32_w]
             rfl
           refine done_ (done_of HT_.out (by kernel_rfl)) ?_
           try go_wp2
           go_roundg k1
           case measure => have := HK1.out; omega
           case rel => exact ⟨(x5_1), (wrap64 (x6_1 + 1)), (by first | rfl | (simp; done) | (simp [*]; done)), (by first | rfl | (simp; done) | (simp [*]; done)), H', ⟨by have := HK1.out; omega⟩, ⟨by repeat (first | (with_reducible first | exact HB.out | apply below_alloc | apply pw_below_drewN | apply below_drew1) | exact HB.out)⟩⟩
       · replace c6 := Bool.eq_false_iff.mpr c6
         subst c6
         have H1 : (tollref10_first.l0 k1 l0 a1 x5_1 (wrap64 (x6_1 + 1))) = some r := by rw [if_neg (show ¬ (false = true) by decide)] at H; exact H
         clear H
         have H := H1
         clear H1
         have H' := Aside0.mk H
         clear H
         try go_wp2
         have n0_ := Aside0.mk (below_drew1 HB.out)
         clear HB
         have HB := n0_
         clear n0_
         have p274 : 0 ≤ (x6_1 : Int) := of_decide_eq_true (by first | (with_reducible assumption) | assumption)
         have q274 : x6_1 < (l0.length : Int) := of_decide_eq_true (by first | (with_reducible assumption) | assumption)
         obtain ⟨ad274, e274, hx274_0, hx274_1, hx274_2, hx274_3, hx274_4, hx274_5, hx274_6, hx274_7, hx274_8⟩ := at_T33 HR0.out x6_1 p274 q274
         have hw274_8 := hx274_8
         have hw274_7 := hx274_7
         have hw274_6 := hx274_6
         have hw274_5 := hx274_5
         have hw274_4 := hx274_4
         have hw274_3 := hx274_3
         have hw274_2 := hx274_2
         have hw274_1 := hx274_1
         have hw274_0 := hx274_0
         cases e274
         replace hx274_0 := (HB.out.cell (World.block_lt_of_cell? w _ hx274_0)).trans hx274_0
         replace hx274_1 := (HB.out.cell (World.block_lt_of_cell? w _ hx274_1)).trans hx274_1
         replace hx274_2 := (HB.out.cell (World.block_lt_of_cell? w _ hx274_2)).trans hx274_2
         replace hx274_3 := (HB.out.cell (World.block_lt_of_cell? w _ hx274_3)).trans hx274_3
         replace hx274_4 := (HB.out.cell (World.block_lt_of_cell? w _ hx274_4)).trans hx274_4
         replace hx274_5 := (HB.out.cell (World.block_lt_of_cell? w _ hx274_5)).trans hx274_5
         replace hx274_6 := (HB.out.cell (World.block_lt_of_cell? w _ hx274_6)).trans hx274_6
         replace hx274_7 := (HB.out.cell (World.block_lt_of_cell? w _ hx274_7)).trans hx274_7
         replace hx274_8 := (HB.out.cell (World.block_lt_of_cell? w _ hx274_8)).trans hx274_8
         replace p274 := eq_true p274
         replace q274 := eq_true q274
         refine start_ (n := 31) (S := fun w' => w'.cell? (ad274.add ((x6_1).toNat * 9)) = some (.int .i64 ((rd_T33 l0 x6_1).f0)) ∧ w'.cell? ⟨(ad274.add ((x6_1).toNat * 9)).block, (ad274.add ((x6_1).toNat * 9)).off + 1, none⟩ = some (.int .i64 ((rd_T33 l0 x6_1).f1)) ∧ w'.cell? ⟨(ad274.add ((x6_1).toNat * 9)).block, (ad274.add ((x6_1).toNat * 9)).off + 2, none⟩ = some (.int .i64 ((rd_T33 l0 x6_1).f2)) ∧ w'.cell? ⟨(ad274.add ((x6_1).toNat * 9)).block, (ad274.add ((x6_1).toNat * 9)).off + 3, none⟩ = some (.int .i64 ((rd_T33 l0 x6_1).f3)) ∧ w'.cell? ⟨(ad274.add ((x6_1).toNat * 9)).block, (ad274.add ((x6_1).toNat * 9)).off + 4, none⟩ = some (.int .i64 ((rd_T33 l0 x6_1).f4)) ∧ w'.cell? ⟨(ad274.add ((x6_1).toNat * 9)).block, (ad274.add ((x6_1).toNat * 9)).off + 5, none⟩ = some (.int .i64 ((rd_T33 l0 x6_1).f5)) ∧ w'.cell? ⟨(ad274.add ((x6_1).toNat * 9)).block, (ad274.add ((x6_1).toNat * 9)).off + 6, none⟩ = some (.int .i64 ((rd_T33 l0 x6_1).f6)) ∧ w'.cell? ⟨(ad274.add ((x6_1).toNat * 9)).block, (ad274.add ((x6_1).toNat * 9)).off + 7, none⟩ = some (.int .i64 ((rd_T33 l0 x6_1).f7)) ∧ w'.cell? ⟨(ad274.add ((x6_1).toNat * 9)).block, (ad274.add ((x6_1).toNat * 9)).off + 8, none⟩ = some (.int .i64 ((rd_T33 l0 x6_1).f8))) (ds := []) #[false, false, false, false, false, false, false, false, false, false, false, false, false, false, false, false, false, false, false, false, false, false, false, false, false, false, false, false, false, false, false] (by kernel_rfl) rfl rfl ⟨((HB.out.cell (World.block_lt_of_cell? w _ hw274_0)).trans hw274_0), ((HB.out.cell (World.block_lt_of_cell? w _ hw274_1)).trans hw274_1), ((HB.out.cell (World.block_lt_of_cell? w _ hw274_2)).trans hw274_2), ((HB.out.cell (World.block_lt_of_cell? w _ hw274_3)).trans hw274_3), ((HB.out.cell (World.block_lt_of_cell? w _ hw274_4)).trans hw274_4), ((HB.out.cell (World.block_lt_of_cell? w _ hw274_5)).trans hw274_5), ((HB.out.cell (World.block_lt_of_cell? w _ hw274_6)).trans hw274_6), ((HB.out.cell (World.block_lt_of_cell? w _ hw274_7)).trans hw274_7), ((HB.out.cell (World.block_lt_of_cell? w _ hw274_8)).trans hw274_8)⟩ (fun hHeld => ?_); refine with_tabW tollref10_first.tab5 tollref10_first.bits5 (fun HT_ HW_ => ?_)
         generalize wr.drew = w25 at HB hx274_0 hx274_1 hx274_2 hx274_3 hx274_4 hx274_5 hx274_6 hx274_7 hx274_8 hHeld ⊢
         refine pure_ (i := 0) (N := some 13) (v := ?_) (a' := ?_) (bA 31 1) rfl rfl (any_of HT_.out (by kernel_rfl)) (fun _ _ _ h => h) (Or.inl ⟨by rfl, ?_⟩) ?_ ?_
         rotate_left
         · intro w'
           go_simp
           with_reducible rfl
         rotate_left
         · simp only [Act.put, List.setIfInBounds_toArray, List.set_cons_zero, List.set_cons_succ, i64_w, i32_w]
           rfl
         refine pure_ (i := 1) (N := some 14) (v := ?_) (a' := ?_) (bA 31 3) rfl rfl (any_of HT_.out (by kernel_rfl)) (fun _ _ _ h => h) (Or.inl ⟨by rfl, ?_⟩) ?_ ?_
         rotate_left
         · intro w'
           go_simp
           with_reducible rfl
         rotate_left
         · simp only [Act.put, List.setIfInBounds_toArray, List.set_cons_zero, List.set_cons_succ, i64_w, i32_w]
           rfl
         refine pure_ (i := 2) (N := some 15) (v := ?_) (a' := ?_) (bA 31 7) rfl rfl (any_of HT_.out (by kernel_rfl)) (fun _ _ _ h => h) (Or.inl ⟨by rfl, ?_⟩) ?_ ?_
         rotate_left
         · intro w'
           go_simp
           with_reducible rfl
         rotate_left
         · simp only [Act.put, List.setIfInBounds_toArray, List.set_cons_zero, List.set_cons_succ, i64_w, i32_w]
           rfl
         refine pure_ (i := 4) (N := some 17) (v := ?_) (a' := ?_) (bA 31 23) rfl rfl (any_of HT_.out (by kernel_rfl)) (fun _ _ _ h => h) (Or.inl ⟨by rfl, ?_⟩) ?_ ?_
         rotate_left
         · intro w'
           go_simp
           with_reducible rfl
         rotate_left
         · simp only [Act.put, List.setIfInBounds_toArray, List.set_cons_zero, List.set_cons_succ, i64_w, i32_w]
           rfl
         refine take_ (i := 3) (N := some 16) (v := ?_) (a' := ?_) (bA 31 31) rfl rfl (take_ofW HT_.out HW_.out (by kernel_rfl)) (fun _ _ _ h => h) (Or.inl ⟨by rfl, ?_⟩) hHeld ?_ ?_
         rotate_left
         · rintro w' ⟨s0, s1, s2, s3, s4, s5, s6, s7, s8⟩
           go_simp
           with_reducible rfl
         rotate_left
         · simp only [Act.put, List.setIfInBounds_toArray, List.set_cons_zero, List.set_cons_succ, i64_w, i32_w]
           rfl
         refine one_ (i := 5) (N := some 18) (bA 31 63) rfl rfl (one_of HT_.out (by kernel_rfl)) (by decide) (fun K hK => ?_)
         refine goes_ Try.func27 (by kernel_rfl) rfl #[.agg #[.int .i64 ((rd_T33 l0 x6_1).f0), .int .i64 ((rd_T33 l0 x6_1).f1), .int .i64 ((rd_T33 l0 x6_1).f2), .int .i64 ((rd_T33 l0 x6_1).f3), .int .i64 ((rd_T33 l0 x6_1).f4), .int .i64 ((rd_T33 l0 x6_1).f5), .int .i64 ((rd_T33 l0 x6_1).f6), .int .i64 ((rd_T33 l0 x6_1).f7), .int .i64 ((rd_T33 l0 x6_1).f8)], .int .i64 a1] (by rfl) rfl rfl (by (try simp only [List.map_toArray, List.map_cons, List.map_nil]); first | done | rfl | (simp only [List.length_drop, List.length_take]; rfl)) ?_
         with_reducible refine (tollref10_Valid.calls ((rd_T33 l0 x6_1).f0) ((rd_T33 l0 x6_1).f1) ((rd_T33 l0 x6_1).f2) ((rd_T33 l0 x6_1).f3) ((rd_T33 l0 x6_1).f4) ((rd_T33 l0 x6_1).f5) ((rd_T33 l0 x6_1).f6) ((rd_T33 l0 x6_1).f7) ((rd_T33 l0 x6_1).f8) a1 false _ A5.out).mono ?_
         rintro e w26 ⟨rfl, hb⟩
         refine ⟨_, rfl, ?_⟩
         have n0_ := Aside0.mk (below_step (by repeat (first | (with_reducible first | exact HB.out | apply below_alloc | apply pw_below_drewN | apply below_drew1) | exact HB.out)) hb)
         clear HB
         have HB := n0_
         clear n0_
         (try clear hb)
         (try clear hb2)
         (try clear hk)
         (try clear hi)
         refine hK.out _ _ ⟨((HB.out.cell (World.block_lt_of_cell? w _ hw274_0)).trans hw274_0), ((HB.out.cell (World.block_lt_of_cell? w _ hw274_1)).trans hw274_1), ((HB.out.cell (World.block_lt_of_cell? w _ hw274_2)).trans hw274_2), ((HB.out.cell (World.block_lt_of_cell? w _ hw274_3)).trans hw274_3), ((HB.out.cell (World.block_lt_of_cell? w _ hw274_4)).trans hw274_4), ((HB.out.cell (World.block_lt_of_cell? w _ hw274_5)).trans hw274_5), ((HB.out.cell (World.block_lt_of_cell? w _ hw274_6)).trans hw274_6), ((HB.out.cell (World.block_lt_of_cell? w _ hw274_7)).trans hw274_7), ((HB.out.cell (World.block_lt_of_cell? w _ hw274_8)).trans hw274_8)⟩ (fun hHeld => ?_)
         clear hK K
         refine norm_ (a' := ?_) ?_ ?_
         rotate_left
         · show Act.put _ (some 18) _ = _
           simp only [Act.put, List.setIfInBounds_toArray, List.set_cons_zero, List.set_cons_succ, i64_w, i32_w]
           rfl
         refine pure_ (i := 6) (N := some 19) (v := ?_) (a' := ?_) (bA 31 127) rfl rfl (any_of HT_.out (by kernel_rfl)) (fun _ _ _ h => h) (Or.inl ⟨by rfl, ?_⟩) ?_ ?_
         rotate_left
         · intro w'
           go_simp
           with_reducible rfl
         rotate_left
         · simp only [Act.put, List.setIfInBounds_toArray, List.set_cons_zero, List.set_cons_succ, i64_w, i32_w]
           rfl
         refine pure_ (i := 7) (N := some 20) (v := undef) (a' := ?_) (bA 31 255) rfl rfl (any_of HT_.out (by kernel_rfl)) (fun _ _ _ h => h) (Or.inr ⟨by rfl, rfl⟩) ?_ ?_
         rotate_left
         · simp only [Act.put, List.setIfInBounds_toArray, List.set_cons_zero, List.set_cons_succ, i64_w, i32_w]
           rfl
         refine pure_ (i := 8) (N := some 21) (v := undef) (a' := ?_) (bA 31 511) rfl rfl (any_of HT_.out (by kernel_rfl)) (fun _ _ _ h => h) (Or.inr ⟨by rfl, rfl⟩) ?_ ?_
         rotate_left
         · simp only [Act.put, List.setIfInBounds_toArray, List.set_cons_zero, List.set_cons_succ, i64_w, i32_w]
           rfl
         refine pure_ (i := 9) (N := some 22) (v := undef) (a' := ?_) (bA 31 1023) rfl rfl (any_of HT_.out (by kernel_rfl)) (fun _ _ _ h => h) (Or.inr ⟨by rfl, rfl⟩) ?_ ?_
         rotate_left
         · simp only [Act.put, List.setIfInBounds_toArray, List.set_cons_zero, List.set_cons_succ, i64_w, i32_w]
           rfl
         refine pure_ (i := 10) (N := some 23) (v := undef) (a' := ?_) (bA 31 2047) rfl rfl (any_of HT_.out (by kernel_rfl)) (fun _ _ _ h => h) (Or.inr ⟨by rfl, rfl⟩) ?_ ?_
         rotate_left
         · simp only [Act.put, List.setIfInBounds_toArray, List.set_cons_zero, List.set_cons_succ, i64_w, i32_w]
           rfl
         refine pure_ (i := 11) (N := some 24) (v := undef) (a' := ?_) (bA 31 4095) rfl rfl (any_of HT_.out (by kernel_rfl)) (fun _ _ _ h => h) (Or.inr ⟨by rfl, rfl⟩) ?_ ?_
         rotate_left
         · simp only [Act.put, List.setIfInBounds_toArray, List.set_cons_zero, List.set_cons_succ, i64_w, i32_w]
           rfl
         refine pure_ (i := 12) (N := some 25) (v := undef) (a' := ?_) (bA 31 8191) rfl rfl (any_of HT_.out (by kernel_rfl)) (fun _ _ _ h => h) (Or.inr ⟨by rfl, rfl⟩) ?_ ?_
         rotate_left
         · simp only [Act.put, List.setIfInBounds_toArray, List.set_cons_zero, List.set_cons_succ, i64_w, i32_w]
           rfl
         refine pure_ (i := 13) (N := some 26) (v := ?_) (a' := ?_) (bA 31 16383) rfl rfl (any_of HT_.out (by kernel_rfl)) (fun _ _ _ h => h) (Or.inl ⟨by rfl, ?_⟩) ?_ ?_
         rotate_left
         · intro w'
           go_simp
           with_reducible rfl
         rotate_left
         · simp only [Act.put, List.setIfInBounds_toArray, List.set_cons_zero, List.set_cons_succ, i64_w, i32_w]
           rfl
         refine pure_ (i := 14) (N := some 27) (v := ?_) (a' := ?_) (bA 31 32767) rfl rfl (any_of HT_.out (by kernel_rfl)) (fun _ _ _ h => h) (Or.inl ⟨by rfl, ?_⟩) ?_ ?_
         rotate_left
         · intro w'
           go_simp
           with_reducible rfl
         rotate_left
         · simp only [Act.put, List.setIfInBounds_toArray, List.set_cons_zero, List.set_cons_succ, i64_w, i32_w]
           rfl
         refine pure_ (i := 15) (N := some 28) (v := undef) (a' := ?_) (bA 31 65535) rfl rfl (any_of HT_.out (by kernel_rfl)) (fun _ _ _ h => h) (Or.inr ⟨by rfl, rfl⟩) ?_ ?_
         rotate_left
         · simp only [Act.put, List.setIfInBounds_toArray, List.set_cons_zero, List.set_cons_succ, i64_w, i32_w]
           rfl
         refine pure_ (i := 16) (N := some 29) (v := undef) (a' := ?_) (bA 31 131071) rfl rfl (any_of HT_.out (by kernel_rfl)) (fun _ _ _ h => h) (Or.inr ⟨by rfl, rfl⟩) ?_ ?_
         rotate_left
         · simp only [Act.put, List.setIfInBounds_toArray, List.set_cons_zero, List.set_cons_succ, i64_w, i32_w]
           rfl
         refine pure_ (i := 17) (N := some 30) (v := undef) (a' := ?_) (bA 31 262143) rfl rfl (any_of HT_.out (by kernel_rfl)) (fun _ _ _ h => h) (Or.inr ⟨by rfl, rfl⟩) ?_ ?_
         rotate_left
         · simp only [Act.put, List.setIfInBounds_toArray, List.set_cons_zero, List.set_cons_succ, i64_w, i32_w]
           rfl
         refine pure_ (i := 18) (N := some 31) (v := undef) (a' := ?_) (bA 31 524287) rfl rfl (any_of HT_.out (by kernel_rfl)) (fun _ _ _ h => h) (Or.inr ⟨by rfl, rfl⟩) ?_ ?_
         rotate_left
         · simp only [Act.put, List.setIfInBounds_toArray, List.set_cons_zero, List.set_cons_succ, i64_w, i32_w]
           rfl
         refine pure_ (i := 19) (N := some 32) (v := undef) (a' := ?_) (bA 31 1048575) rfl rfl (any_of HT_.out (by kernel_rfl)) (fun _ _ _ h => h) (Or.inr ⟨by rfl, rfl⟩) ?_ ?_
         rotate_left
         · simp only [Act.put, List.setIfInBounds_toArray, List.set_cons_zero, List.set_cons_succ, i64_w, i32_w]
           rfl
         refine pure_ (i := 20) (N := some 33) (v := undef) (a' := ?_) (bA 31 2097151) rfl rfl (any_of HT_.out (by kernel_rfl)) (fun _ _ _ h => h) (Or.inr ⟨by rfl, rfl⟩) ?_ ?_
         rotate_left
         · simp only [Act.put, List.setIfInBounds_toArray, List.set_cons_zero, List.set_cons_succ, i64_w, i32_w]
           rfl
         refine pure_ (i := 21) (N := some 34) (v := undef) (a' := ?_) (bA 31 4194303) rfl rfl (any_of HT_.out (by kernel_rfl)) (fun _ _ _ h => h) (Or.inr ⟨by rfl, rfl⟩) ?_ ?_
         rotate_left
         · simp only [Act.put, List.setIfInBounds_toArray, List.set_cons_zero, List.set_cons_succ, i64_w, i32_w]
           rfl
         refine pure_ (i := 22) (N := some 35) (v := undef) (a' := ?_) (bA 31 8388607) rfl rfl (any_of HT_.out (by kernel_rfl)) (fun _ _ _ h => h) (Or.inr ⟨by rfl, rfl⟩) ?_ ?_
         rotate_left
         · simp only [Act.put, List.setIfInBounds_toArray, List.set_cons_zero, List.set_cons_succ, i64_w, i32_w]
           rfl
         refine pure_ (i := 23) (N := some 36) (v := undef) (a' := ?_) (bA 31 16777215) rfl rfl (any_of HT_.out (by kernel_rfl)) (fun _ _ _ h => h) (Or.inr ⟨by rfl, rfl⟩) ?_ ?_
         rotate_left
         · simp only [Act.put, List.setIfInBounds_toArray, List.set_cons_zero, List.set_cons_succ, i64_w, i32_w]
           rfl
         refine pure_ (i := 24) (N := some 37) (v := undef) (a' := ?_) (bA 31 33554431) rfl rfl (any_of HT_.out (by kernel_rfl)) (fun _ _ _ h => h) (Or.inr ⟨by rfl, rfl⟩) ?_ ?_
         rotate_left
         · simp only [Act.put, List.setIfInBounds_toArray, List.set_cons_zero, List.set_cons_succ, i64_w, i32_w]
           rfl
         refine pure_ (i := 25) (N := some 38) (v := undef) (a' := ?_) (bA 31 67108863) rfl rfl (any_of HT_.out (by kernel_rfl)) (fun _ _ _ h => h) (Or.inr ⟨by rfl, rfl⟩) ?_ ?_
         rotate_left
         · simp only [Act.put, List.setIfInBounds_toArray, List.set_cons_zero, List.set_cons_succ, i64_w, i32_w]
           rfl
         refine pure_ (i := 26) (N := some 39) (v := undef) (a' := ?_) (bA 31 134217727) rfl rfl (any_of HT_.out (by kernel_rfl)) (fun _ _ _ h => h) (Or.inr ⟨by rfl, rfl⟩) ?_ ?_
         rotate_left
         · simp only [Act.put, List.setIfInBounds_toArray, List.set_cons_zero, List.set_cons_succ, i64_w, i32_w]
           rfl
         refine pure_ (i := 27) (N := some 40) (v := undef) (a' := ?_) (bA 31 268435455) rfl rfl (any_of HT_.out (by kernel_rfl)) (fun _ _ _ h => h) (Or.inr ⟨by rfl, rfl⟩) ?_ ?_
         rotate_left
         · simp only [Act.put, List.setIfInBounds_toArray, List.set_cons_zero, List.set_cons_succ, i64_w, i32_w]
           rfl
         refine pure_ (i := 28) (N := some 41) (v := undef) (a' := ?_) (bA 31 536870911) rfl rfl (any_of HT_.out (by kernel_rfl)) (fun _ _ _ h => h) (Or.inr ⟨by rfl, rfl⟩) ?_ ?_
         rotate_left
         · simp only [Act.put, List.setIfInBounds_toArray, List.set_cons_zero, List.set_cons_succ, i64_w, i32_w]
           rfl
         refine pure_ (i := 29) (N := some 42) (v := undef) (a' := ?_) (bA 31 1073741823) rfl rfl (any_of HT_.out (by kernel_rfl)) (fun _ _ _ h => h) (Or.inr ⟨by rfl, rfl⟩) ?_ ?_
         rotate_left
         · simp only [Act.put, List.setIfInBounds_toArray, List.set_cons_zero, List.set_cons_succ, i64_w, i32_w]
           rfl
         refine pure_ (i := 30) (N := some 43) (v := ?_) (a' := ?_) (bA 31 2147483647) rfl rfl (any_of HT_.out (by kernel_rfl)) (fun _ _ _ h => h) (Or.inl ⟨by rfl, ?_⟩) ?_ ?_
         rotate_left
         · intro w'
           go_simp
           with_reducible rfl
         rotate_left
         · simp only [Act.put, List.setIfInBounds_toArray, List.set_cons_zero, List.set_cons_succ, i64_w, i32_w]
           rfl
         refine done_ (done_of HT_.out (by kernel_rfl)) ?_
         try go_wp2
         go_roundg k1
         case measure => have := HK1.out; omega
         case rel => exact ⟨(x5_1), (wrap64 (x6_1 + 1)), (by first | rfl | (simp; done) | (simp [*]; done)), (by first | rfl | (simp; done) | (simp [*]; done)), H', ⟨by have := HK1.out; omega⟩, ⟨by repeat (first | (with_reducible first | exact HB.out | apply below_alloc | apply pw_below_drewN | apply below_drew1) | exact HB.out)⟩⟩
     · rw [if_neg c4] at H
       exact absurd H (by simp)
   · rw [if_neg c3] at H
     have c3b0 : decide (x6_1 < (l0.length : Int)) = false := decide_eq_false c3
     clear c3
     obtain rfl := Option.some.inj H
     go_wp2
     go_ret
     exact ⟨by first | rfl | (simp [errW_none, errW_some] <;> rfl) | (simp [*, errW_none, errW_some] <;> rfl), by repeat (first | (with_reducible first | exact HB.out | apply below_alloc | apply pw_below_drewN | apply below_drew1) | exact HB.out)⟩

end Go.Proofs.Ytjoimapgmocoeaa.Xa
