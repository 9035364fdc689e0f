/- What Go functions of this seat compute, as plain Lean functions; the machine's calls do what these say, under the conditions that each theorem names. Written by a program of this session (xprint, over print.py of the kit). -/
import Derived.Test.YtjoimapgmocoeaaXa0
import Derived.Test.YtjoimapgmocoeaaXa20
import Derived.Test.YtjoimapgmocoeaaXa22
namespace Go.Proofs.Ytjoimapgmocoeaa.Xa
open Go.RowKit Go.Proofs.YtjoimapgmocoeaaW.PrintWords Go.Proofs.YtjoimapgmocoeaaW.PrintLast Go.Proofs.YtjoimapgmocoeaaW.PrintMore
attribute [local go_sem] max2_int min2_int max_two min_two max_three min_three max_four min_four   -- for this text's walks alone
set_option linter.unusedVariables false
set_option linter.unusedSimpArgs false

/-! ### tollref10_Take: function 21 -/
def tollref10_Take.l0 : Nat → List (S33) → Int → Int → List (S35) → Option ((List (S33)) × (List (S35)) × Int)
 | 0, _, _, _, _ => none
 | k + 1, x0, x1, x2, x9 => if x1 > 0 then ((tollref10_first.f k x0 x2).bind fun t286 => (if t286 < 0 then (some (x0, x9, x1)) else (if 0 ≤ t286 then (if t286 < (x0.length : Int) then ((tollref10_Rest.f ((rd_T33 x0 t286).f0) ((rd_T33 x0 t286).f1) ((rd_T33 x0 t286).f2) ((rd_T33 x0 t286).f3) ((rd_T33 x0 t286).f4) ((rd_T33 x0 t286).f5) ((rd_T33 x0 t286).f6) ((rd_T33 x0 t286).f7) ((rd_T33 x0 t286).f8)).bind fun t288 => ((some (x0.set (t286 : Int).toNat (⟨(rd_T33 x0 t286).f0, (rd_T33 x0 t286).f1, (rd_T33 x0 t286).f2, (rd_T33 x0 t286).f3, (rd_T33 x0 t286).f4, (rd_T33 x0 t286).f5, wrap64 (((rd_T33 x0 t286).f6) + (mn x1 t288)), (rd_T33 x0 t286).f7, (rd_T33 x0 t286).f8⟩ : S33) : List (S33))).bind fun y290 => (if x9.length < 8796093022208 then (tollref10_Take.l0 k y290 (wrap64 (x1 - (mn x1 t288))) x2 (x9 ++ [(⟨(rd_T33 y290 t286).f0, mn x1 t288⟩ : S35)])) else (none)))) else (none)) else (none)))) else (some (x0, x9, x1))
def tollref10_Take.f (k : Nat) (l0 : List (S33)) (a1 : Int) (a2 : Int) : Option ((List (S33)) × (List (S35)) × Int) := (some (([] : List (S33)) : List (S33))).bind fun y280 => (if y280.length + l0.length < 1954687338268 then (tollref10_Take.l0 k (y280 ++ l0) a1 a2 ([] : List (S35))) else (none))
theorem tollref10_Take.mono_l : ∀ k, (∀ y0 y1 y2 y3, LeO (tollref10_Take.l0 k y0 y1 y2 y3) (tollref10_Take.l0 (k + 1) y0 y1 y2 y3))
 | 0 => fun _ _ _ _ r h => by simp [tollref10_Take.l0] at h
 | k + 1 => by
  have ih0 := tollref10_Take.mono_l k
  · intro y0 y1 y2 y3
    unfold tollref10_Take.l0
    repeat' first
    | (with_reducible exact ih0 _ _ _ _)
    | (with_reducible exact tollref10_first.mono _ _ _)
    | (with_reducible exact LeO.refl _)
    | (with_reducible exact LeO.none _)
    | (with_reducible refine LeO.ite ?_ ?_)
    | (with_reducible refine LeO.bind ?_ (fun _ => ?_))
    | exact ih0 _ _ _ _
    | exact tollref10_first.mono _ _ _
    | exact LeO.none _
    | refine LeO.ite ?_ ?_
    | refine LeO.bind ?_ (fun _ => ?_)
theorem tollref10_Take.mono : ∀ a0 a1 a2 k, LeO (tollref10_Take.f k a0 a1 a2) (tollref10_Take.f (k + 1) a0 a1 a2) := by
 intro a0 a1 a2 k
 have ih0 := tollref10_Take.mono_l k
 unfold tollref10_Take.f
 repeat' first
  | (with_reducible exact ih0 _ _ _ _)
  | (with_reducible exact tollref10_first.mono _ _ _)
  | (with_reducible exact LeO.refl _)
  | (with_reducible exact LeO.none _)
  | (with_reducible refine LeO.ite ?_ ?_)
  | (with_reducible refine LeO.bind ?_ (fun _ => ?_))
  | exact ih0 _ _ _ _
  | exact tollref10_first.mono _ _ _
  | exact LeO.none _
  | refine LeO.ite ?_ ?_
  | refine LeO.bind ?_ (fun _ => ?_)
set_option maxHeartbeats 8000000 in
set_option maxRecDepth 100000 in
theorem tollref10_Take.calls (k : Nat) (A0 : Option Addr) (c0 : Nat) (l0 : List (S33)) (a1 : Int) (a2 : Int) (r1 : List (S33)) (r2 : List (S35)) (r3 : Int) (w : World) (hr0 : Kd.C k33 w A0 l0.length l0) (hc0 : l0.length ≤ c0) (h : tollref10_Take.f k l0 a1 a2 = some (r1, r2, r3)) :
 Calls Try.prog 21 #[.slice A0 l0.length c0, .int .i64 a1, .int .i64 a2] w fun e w' => ∃ v0_ v1_ : Value, e = .returned (.tuple #[v0_, v1_, .int .i64 r3]) ∧ Kd.R k33 33 w' w.heap.size (fun _ => True) v0_ r1 ∧ Kd.R k35 35 w' w.heap.size (fun _ => True) v1_ r2 ∧ Below w.heap.size w w' := by
 have hu33 := Try.underlying33
 have hu35 := Try.underlying35
 have HR0 := Aside0.mk hr0
 have HC0 := Aside0.mk hc0
 clear hr0 hc0
 have HB := Aside0.mk (Below.refl w.heap.size w)
 have H : ((some (([] : List (S33)) : List (S33))).bind fun y280 => (if y280.length + l0.length < 1954687338268 then (tollref10_Take.l0 k (y280 ++ l0) a1 a2 ([] : List (S35))) else (none))) = some (r1, r2, r3) := h
 clear h
 obtain ⟨y280, hy280⟩ : ∃ y_ : List (S33), y_ = (([] : List (S33))) := ⟨_, rfl⟩
 replace H : (if y280.length + l0.length < 1954687338268 then (tollref10_Take.l0 k (y280 ++ l0) a1 a2 ([] : List (S35))) else (none)) = some (r1, r2, r3) := by first | (rw [hy280]; with_reducible exact H) | (have H2_ := (Option.bind_some _ _).symm.trans H; rw [hy280]; with_reducible exact H2_) | (have H2_ := (Option.bind_some _ _).symm.trans H; with_reducible exact H2_) | with_reducible exact H | (rw [hy280]; exact H) | exact H
 have Ny280 := Aside0.mk hy280
 clear hy280
 by_cases c4 : y280.length + l0.length < 1954687338268
 · rw [if_pos c4] at H
   have LMc4 := Aside0.mk c4
   clear c4
   obtain ⟨y283, hy283⟩ : ∃ y_ : List (S33), y_ = (y280 ++ l0) := ⟨_, rfl⟩
   replace H : (tollref10_Take.l0 k y283 a1 a2 ([] : List (S35))) = some (r1, r2, r3) := by first | (rw [hy283]; with_reducible exact H) | (have H2_ := (Option.bind_some _ _).symm.trans H; rw [hy283]; with_reducible exact H2_) | (have H2_ := (Option.bind_some _ _).symm.trans H; with_reducible exact H2_) | with_reducible exact H | (rw [hy283]; exact H) | exact H
   have Ny283 := Aside0.mk hy283
   clear hy283
   have H' := Aside0.mk H
   clear H
   go_enter Try.func21, Try.ntmps21
   go_wp2_with (first | ((with_reducible refine gate_dst (N := 12) rfl ?_); refine Kd.R_lit k33 _ 33 ?hg (N := 12) ?hd (xs := ([] : List (S33))) (inner := []) (ok := fun _ => True) (okp := fun _ => True) ?hr ?hp (fun _ hk => hk) trivial (Below.refl _ _) (Nat.le_refl _) (by simp) ?_; (case hd => rfl); (case hg => rfl); (case hr => first | (go_simp; done) | (go_simp; rfl)); (case hp => exact (Reps.none _ _)); intro v281 w5 ho6 hb hg_ hnew_; clear hg_ hnew_; (first | rw [← Ny280.out] at ho6 | (simp only [Int.reduceToNat] at ho6; rw [← Ny280.out] at ho6)); have n0_ := Aside0.mk (Kd.R_lower ho6 (below_size (by repeat (first | (with_reducible first | exact HB.out | apply below_alloc | apply pw_below_drewN | apply below_drew1) | exact HB.out)))); have n1_ := Aside0.mk (below_step (by repeat (first | (with_reducible first | exact HB.out | apply below_alloc | apply pw_below_drewN | apply below_drew1) | exact HB.out)) hb); clear HB; have HO282 := n0_; have HB := n1_; clear n0_ n1_; clear hb ho6) | ((with_reducible refine gate_builtin (b := .append) (xs := #[.tmp 12, .tmp 13]) rfl ?_); at_builtin; refine Kd.R_append_rows k33 (w0 := w) w.heap.size rfl (.tmp 12) (.tmp 13) 22 33 (.agg #[(.int .i64 0), (.int .i64 0), (.int .i64 0), (.int .i64 0), (.int .i64 0), (.int .i64 0), (.int .i64 0), (.int .i64 0), (.int .i64 0)]) 72 rfl Try.underlying22 info33 rfl (by decide) (by omega) v281 y280 l0 _ _ _ (fun _ => True) (fun _ => False) rfl rfl ?aO ?aR (fun _ _ h => h) (fun _ h => h.elim) ?aF ?aB ?aS ?aL ?_; (case aR => repeat (first | exact (Kd.C_below HR0.out HB.out) | (with_reducible refine Kd.C_alloc ?_ _) | (with_reducible refine Kd.C_drewN ?_ _) | (with_reducible refine Kd.C_drew ?_))); (case aB => exact (by repeat (first | (with_reducible first | exact HB.out | apply below_alloc | apply pw_below_drewN | apply below_drew1) | exact HB.out))); (case aF => exact (fun _ _ => trivial)); (case aO => exact (by (with_reducible repeat (first | apply Kd.R_alloc | apply Kd.R_drewN | apply Kd.R_drew)); exact HO282.out)); (case aS => exact (below_size (by repeat (first | (with_reducible first | exact HB.out | apply below_alloc | apply pw_below_drewN | apply below_drew1) | exact HB.out)))); (case aL => have := LMc4.out; omega); intro v284 w7 ho hb hg hat; rw [← Ny283.out] at ho; have n0_ := Aside0.mk (hb); have n1_ := Aside0.mk (ho); clear HB; clear HO282; have HB := n0_; have HO285 := n1_; clear n0_ n1_; clear ho hb hg hat))
   go_loopg [1, 9] k (fun kq v1 v9 w' => ∃ (x0_1 : List (S33)) (x1_1 : Int) (x9_1 : List (S35)), v1 = .int .i64 x1_1 ∧ Aside0 (tollref10_Take.l0 kq x0_1 x1_1 a2 x9_1 = some (r1, r2, r3)) ∧ Aside0 (kq ≤ k) ∧ Aside0 (Kd.R k33 33 w' w.heap.size (fun _ => True) v284 x0_1) ∧ Aside0 (Kd.R k35 35 w' w.heap.size (fun _ => True) v9 x9_1) ∧ Aside0 (Below w.heap.size w w'))
   case atStart => exact ⟨(y283), (a1), (([] : List (S35))), (by first | rfl | (simp; done) | (simp [*]; done)), H', ⟨Nat.le_refl _⟩, ⟨by (with_reducible repeat (first | apply Kd.R_alloc | apply Kd.R_drewN | apply Kd.R_drew)); exact HO285.out⟩, ⟨by first | exact Kd.R_nil _ _ _ _ _ | exact Kd.N_nil _ _ _ _ _ | exact Kd.V_nil _ _ _ _ _ | exact Kd.Q_nil _ _ _ _ _ | exact Kd.S_nil _ _ _ _ _⟩, ⟨by repeat (first | (with_reducible first | exact HB.out | apply below_alloc | apply pw_below_drewN | apply below_drew1) | exact HB.out)⟩⟩
   case round =>
    clear H'
    try clear c2
    try clear p2
    try clear c4
    obtain ⟨x0_1, x1_1, x9_1, rfl, HA, HK1, HO_0, HO_9, HB⟩ := hrel
    cases gk with
    | zero => exact absurd HA.out (by simp [tollref10_Take.l0])
    | succ k1 =>
     have H := HA.out
     clear HA
     simp only [tollref10_Take.l0] at H
     by_cases c8 : x1_1 > 0
     · rw [if_pos c8] at H
       have c8b0 : decide (0 < x1_1) = true := decide_eq_true c8
       clear c8
       replace H := Option.bind_eq_some_iff.mp H
       obtain ⟨t286, A90, H⟩ := H
       replace H : (if t286 < 0 then (some (x0_1, x9_1, x1_1)) else (if 0 ≤ t286 then (if t286 < (x0_1.length : Int) then ((tollref10_Rest.f ((rd_T33 x0_1 t286).f0) ((rd_T33 x0_1 t286).f1) ((rd_T33 x0_1 t286).f2) ((rd_T33 x0_1 t286).f3) ((rd_T33 x0_1 t286).f4) ((rd_T33 x0_1 t286).f5) ((rd_T33 x0_1 t286).f6) ((rd_T33 x0_1 t286).f7) ((rd_T33 x0_1 t286).f8)).bind fun t288 => ((some (x0_1.set (t286 : Int).toNat (⟨(rd_T33 x0_1 t286).f0, (rd_T33 x0_1 t286).f1, (rd_T33 x0_1 t286).f2, (rd_T33 x0_1 t286).f3, (rd_T33 x0_1 t286).f4, (rd_T33 x0_1 t286).f5, wrap64 (((rd_T33 x0_1 t286).f6) + (mn x1_1 t288)), (rd_T33 x0_1 t286).f7, (rd_T33 x0_1 t286).f8⟩ : S33) : List (S33))).bind fun y290 => (if x9_1.length < 8796093022208 then (tollref10_Take.l0 k1 y290 (wrap64 (x1_1 - (mn x1_1 t288))) a2 (x9_1 ++ [(⟨(rd_T33 y290 t286).f0, mn x1_1 t288⟩ : S35)])) else (none)))) else (none)) else (none))) = some (r1, r2, r3) := H
       have A9 := Aside0.mk A90
       clear A90
       by_cases c10 : t286 < 0
       · rw [if_pos c10] at H
         have c10b0 : decide (t286 < 0) = true := decide_eq_true c10
         clear c10
         simp only [Option.some.injEq, Prod.mk.injEq] at H
         obtain ⟨rfl, rfl, rfl⟩ := H
         obtain ⟨Ao11, co11, eo11⟩ := Kd.R_slice HO_0.out
         subst eo11
         go_wp2_with (first | ((with_reducible refine gate_callee (f := 33) rfl ?_); refine goesL_ (some 19) rfl rfl Try.func33 (by kernel_rfl) rfl #[.slice Ao11 x0_1.length co11, .int .i64 a2] rfl (by (try simp only [List.map_toArray, List.map_cons, List.map_nil]); first | done | rfl | (simp only [List.length_drop, List.length_take]; rfl)) ?_; (with_reducible refine (tollref10_first.calls k1 _ _ x0_1 a2 t286 _ ?side1 ?side2 A9.out).mono ?_); (case side1 => repeat (first | exact (Kd.R_reads' HO_0.out).2.2 | (with_reducible refine Kd.C_alloc ?_ _) | (with_reducible refine Kd.C_drewN ?_ _) | (with_reducible refine Kd.C_drew ?_))); (case side2 => exact (Kd.R_reads' HO_0.out).2.1); rintro e w12 ⟨rfl, hb⟩; refine ⟨_, rfl, ?_⟩; have n0_ := Aside0.mk (Kd.R_below (by (with_reducible repeat (first | apply Kd.R_alloc | apply Kd.R_drewN | apply Kd.R_drew)); exact HO_0.out) hb); have n1_ := Aside0.mk (Kd.R_below (by (with_reducible repeat (first | apply Kd.R_alloc | apply Kd.R_drewN | apply Kd.R_drew)); exact HO_9.out) hb); have n2_ := Aside0.mk (below_step (by repeat (first | (with_reducible first | exact HB.out | apply below_alloc | apply pw_below_drewN | apply below_drew1) | exact HB.out)) hb); clear HO_0; clear HO_9; clear HB; have HO_0 := n0_; have HO_9 := n1_; have HB := n2_; clear n0_ n1_ n2_; (try clear hb); (try clear hb2); (try clear hk); (try clear hi)))
         go_ret3
         exact ⟨_, _, by first | rfl | (simp [errW_none, errW_some] <;> rfl) | (simp [*, errW_none, errW_some] <;> rfl), by (with_reducible repeat (first | apply Kd.R_alloc | apply Kd.R_drewN | apply Kd.R_drew)); exact HO_0.out, by (with_reducible repeat (first | apply Kd.R_alloc | apply Kd.R_drewN | apply Kd.R_drew)); exact HO_9.out, by repeat (first | (with_reducible first | exact HB.out | apply below_alloc | apply pw_below_drewN | apply below_drew1) | exact HB.out)⟩
       · rw [if_neg c10] at H
         have c10b0 : decide (t286 < 0) = false := decide_eq_false c10
         clear c10
         by_cases c13 : 0 ≤ t286
         · rw [if_pos c13] at H
           have c13b0 : decide (0 ≤ t286) = true := decide_eq_true c13
           clear c13
           by_cases c14 : t286 < (x0_1.length : Int)
           · rw [if_pos c14] at H
             have c14b0 : decide (t286 < (x0_1.length : Int)) = true := decide_eq_true c14
             clear c14
             replace H := Option.bind_eq_some_iff.mp H
             obtain ⟨t288, A150, H⟩ := H
             replace H : ((some (x0_1.set (t286 : Int).toNat (⟨(rd_T33 x0_1 t286).f0, (rd_T33 x0_1 t286).f1, (rd_T33 x0_1 t286).f2, (rd_T33 x0_1 t286).f3, (rd_T33 x0_1 t286).f4, (rd_T33 x0_1 t286).f5, wrap64 (((rd_T33 x0_1 t286).f6) + (mn x1_1 t288)), (rd_T33 x0_1 t286).f7, (rd_T33 x0_1 t286).f8⟩ : S33) : List (S33))).bind fun y290 => (if x9_1.length < 8796093022208 then (tollref10_Take.l0 k1 y290 (wrap64 (x1_1 - (mn x1_1 t288))) a2 (x9_1 ++ [(⟨(rd_T33 y290 t286).f0, mn x1_1 t288⟩ : S35)])) else (none))) = some (r1, r2, r3) := H
             have A15 := Aside0.mk A150
             clear A150
             obtain ⟨ji16, hji16⟩ : ∃ j_ : Int, (mn x1_1 t288) = j_ := ⟨_, rfl⟩
             replace H : ((some (x0_1.set (t286 : Int).toNat (⟨(rd_T33 x0_1 t286).f0, (rd_T33 x0_1 t286).f1, (rd_T33 x0_1 t286).f2, (rd_T33 x0_1 t286).f3, (rd_T33 x0_1 t286).f4, (rd_T33 x0_1 t286).f5, wrap64 (((rd_T33 x0_1 t286).f6) + (ji16)), (rd_T33 x0_1 t286).f7, (rd_T33 x0_1 t286).f8⟩ : S33) : List (S33))).bind fun y290 => (if x9_1.length < 8796093022208 then (tollref10_Take.l0 k1 y290 (wrap64 (x1_1 - (ji16))) a2 (x9_1 ++ [(⟨(rd_T33 y290 t286).f0, ji16⟩ : S35)])) else (none))) = some (r1, r2, r3) := by first | (rw [hji16] at H; exact H) | (simp only [hji16] at H ⊢; exact H)
             (try rw [hji16] at A9)
             (try rw [hji16] at A15)
             have hji16_ : (if t288 < x1_1 then t288 else x1_1) = ji16 := hji16
             obtain ⟨y290, hy290⟩ : ∃ y_ : List (S33), y_ = (x0_1.set (t286 : Int).toNat (⟨(rd_T33 x0_1 t286).f0, (rd_T33 x0_1 t286).f1, (rd_T33 x0_1 t286).f2, (rd_T33 x0_1 t286).f3, (rd_T33 x0_1 t286).f4, (rd_T33 x0_1 t286).f5, wrap64 (((rd_T33 x0_1 t286).f6) + (ji16)), (rd_T33 x0_1 t286).f7, (rd_T33 x0_1 t286).f8⟩ : S33)) := ⟨_, rfl⟩
             replace H : (if x9_1.length < 8796093022208 then (tollref10_Take.l0 k1 y290 (wrap64 (x1_1 - (ji16))) a2 (x9_1 ++ [(⟨(rd_T33 y290 t286).f0, ji16⟩ : S35)])) else (none)) = some (r1, r2, r3) := by first | (rw [hy290]; with_reducible exact H) | (have H2_ := (Option.bind_some _ _).symm.trans H; rw [hy290]; with_reducible exact H2_) | (have H2_ := (Option.bind_some _ _).symm.trans H; with_reducible exact H2_) | with_reducible exact H | (rw [hy290]; exact H) | exact H
             have Ny290 := Aside0.mk hy290
             clear hy290
             by_cases c18 : x9_1.length < 8796093022208
             · rw [if_pos c18] at H
               have LMc18 := Aside0.mk c18
               clear c18
               obtain ⟨y292, hy292⟩ : ∃ y_ : List (S35), y_ = (x9_1 ++ [(⟨(rd_T33 y290 t286).f0, ji16⟩ : S35)]) := ⟨_, rfl⟩
               replace H : (tollref10_Take.l0 k1 y290 (wrap64 (x1_1 - (ji16))) a2 y292) = some (r1, r2, r3) := by first | (rw [hy292]; with_reducible exact H) | (have H2_ := (Option.bind_some _ _).symm.trans H; rw [hy292]; with_reducible exact H2_) | (have H2_ := (Option.bind_some _ _).symm.trans H; with_reducible exact H2_) | with_reducible exact H | (rw [hy292]; exact H) | exact H
               have Ny292 := Aside0.mk hy292
               clear hy292
               have H' := Aside0.mk H
               clear H
               obtain ⟨Ao19, co19, eo19⟩ := Kd.R_slice HO_0.out
               subst eo19
               go_wp2_with (first | ((with_reducible refine gate_callee (f := 33) rfl ?_); refine goesL_ (some 19) rfl rfl Try.func33 (by kernel_rfl) rfl #[.slice Ao19 x0_1.length co19, .int .i64 a2] rfl (by (try simp only [List.map_toArray, List.map_cons, List.map_nil]); first | done | rfl | (simp only [List.length_drop, List.length_take]; rfl)) ?_; (with_reducible refine (tollref10_first.calls k1 _ _ x0_1 a2 t286 _ ?side1 ?side2 A9.out).mono ?_); (case side1 => repeat (first | exact (Kd.R_reads' HO_0.out).2.2 | (with_reducible refine Kd.C_alloc ?_ _) | (with_reducible refine Kd.C_drewN ?_ _) | (with_reducible refine Kd.C_drew ?_))); (case side2 => exact (Kd.R_reads' HO_0.out).2.1); rintro e w20 ⟨rfl, hb⟩; refine ⟨_, rfl, ?_⟩; have n0_ := Aside0.mk (Kd.R_below (by (with_reducible repeat (first | apply Kd.R_alloc | apply Kd.R_drewN | apply Kd.R_drew)); exact HO_0.out) hb); have n1_ := Aside0.mk (Kd.R_below (by (with_reducible repeat (first | apply Kd.R_alloc | apply Kd.R_drewN | apply Kd.R_drew)); exact HO_9.out) hb); have n2_ := Aside0.mk (below_step (by repeat (first | (with_reducible first | exact HB.out | apply below_alloc | apply pw_below_drewN | apply below_drew1) | exact HB.out)) hb); clear HO_0; clear HO_9; clear HB; have HO_0 := n0_; have HO_9 := n1_; have HB := n2_; clear n0_ n1_ n2_; (try clear hb); (try clear hb2); (try clear hk); (try clear hi); have p287 : 0 ≤ (t286 : Int) := of_decide_eq_true (by first | (with_reducible assumption) | assumption); have q287 : t286 < (x0_1.length : Int) := of_decide_eq_true (by first | (with_reducible assumption) | assumption); obtain ⟨ad287, e287, hx287_0, hx287_1, hx287_2, hx287_3, hx287_4, hx287_5, hx287_6, hx287_7, hx287_8⟩ := at_T33 (Kd.R_reads' HO_0.out).2.2 t286 p287 q287; cases e287; replace p287 := eq_true p287; replace q287 := eq_true q287) | ((with_reducible refine gate_callee (f := 26) rfl ?_); refine goesL_ (some 27) rfl rfl Try.func26 (by kernel_rfl) rfl #[.agg #[.int .i64 ((rd_T33 x0_1 t286).f0), .int .i64 ((rd_T33 x0_1 t286).f1), .int .i64 ((rd_T33 x0_1 t286).f2), .int .i64 ((rd_T33 x0_1 t286).f3), .int .i64 ((rd_T33 x0_1 t286).f4), .int .i64 ((rd_T33 x0_1 t286).f5), .int .i64 ((rd_T33 x0_1 t286).f6), .int .i64 ((rd_T33 x0_1 t286).f7), .int .i64 ((rd_T33 x0_1 t286).f8)]] rfl (by (try simp only [List.map_toArray, List.map_cons, List.map_nil]); first | done | rfl | (simp only [List.length_drop, List.length_take]; rfl)) ?_; (with_reducible refine (tollref10_Rest.calls ((rd_T33 x0_1 t286).f0) ((rd_T33 x0_1 t286).f1) ((rd_T33 x0_1 t286).f2) ((rd_T33 x0_1 t286).f3) ((rd_T33 x0_1 t286).f4) ((rd_T33 x0_1 t286).f5) ((rd_T33 x0_1 t286).f6) ((rd_T33 x0_1 t286).f7) ((rd_T33 x0_1 t286).f8) t288 _ A15.out).mono ?_); rintro e w21 ⟨rfl, hb⟩; refine ⟨_, rfl, ?_⟩; have n0_ := Aside0.mk (Kd.R_below (by (with_reducible repeat (first | apply Kd.R_alloc | apply Kd.R_drewN | apply Kd.R_drew)); exact HO_0.out) hb); have n1_ := Aside0.mk (Kd.R_below (by (with_reducible repeat (first | apply Kd.R_alloc | apply Kd.R_drewN | apply Kd.R_drew)); exact HO_9.out) hb); have n2_ := Aside0.mk (below_step (by repeat (first | (with_reducible first | exact HB.out | apply below_alloc | apply pw_below_drewN | apply below_drew1) | exact HB.out)) hb); clear HO_0; clear HO_9; clear HB; have HO_0 := n0_; have HO_9 := n1_; have HB := n2_; clear n0_ n1_ n2_; (try clear hb); (try clear hb2); (try clear hk); (try clear hi); have p289 : 0 ≤ (t286 : Int) := of_decide_eq_true (by first | (with_reducible assumption) | assumption); have q289 : t286 < (x0_1.length : Int) := of_decide_eq_true (by first | (with_reducible assumption) | assumption); obtain ⟨ad289, e289, hx289_0, hx289_1, hx289_2, hx289_3, hx289_4, hx289_5, hx289_6, hx289_7, hx289_8⟩ := at_T33 (Kd.R_reads' HO_0.out).2.2 t286 p289 q289; obtain rfl : ad287 = ad289 := (by injection e289); replace p289 := eq_true p289; replace q289 := eq_true q289; have p17 : 0 ≤ (t286 : Int) := of_decide_eq_true (by first | (with_reducible assumption) | assumption); have q17 : (t286 : Int) < ((x0_1.length : Int) : Int) := of_decide_eq_true (by first | (with_reducible assumption) | assumption); obtain ⟨go17, co17, eo17, gb17, gl17, cl17, HG17⟩ := Kd.R_form HO_0.out (by omega); (first | cases eo17 | (injection eo17 with ea_ en_ ec_; (first | subst ea_ | (injection ea_ with ea_; subst ea_)); subst ec_; clear en_)); have GB17 := Aside0.mk gb17; have GG17 := Aside0.mk HG17; clear gb17 gl17 HG17; (first | simp only [add_plain] at hx287_0 | skip); (first | simp only [add_plain] at hx287_1 | skip); (first | simp only [add_plain] at hx287_2 | skip); (first | simp only [add_plain] at hx287_3 | skip); (first | simp only [add_plain] at hx287_4 | skip); (first | simp only [add_plain] at hx287_5 | skip); (first | simp only [add_plain] at hx287_6 | skip); (first | simp only [add_plain] at hx287_7 | skip); (first | simp only [add_plain] at hx287_8 | skip); (first | simp only [add_plain] at hx289_0 | skip); (first | simp only [add_plain] at hx289_1 | skip); (first | simp only [add_plain] at hx289_2 | skip); (first | simp only [add_plain] at hx289_3 | skip); (first | simp only [add_plain] at hx289_4 | skip); (first | simp only [add_plain] at hx289_5 | skip); (first | simp only [add_plain] at hx289_6 | skip); (first | simp only [add_plain] at hx289_7 | skip); (first | simp only [add_plain] at hx289_8 | skip); obtain ⟨ce17, hcl17, hM17, hcc17, hfr17⟩ := Kd.R_elem HO_0.out z33 (t286 : Int) p17 q17; obtain rfl := k33_openM hM17; have hx17_0 : w21.cell? ⟨go17, (t286 : Int).toNat * 9, none⟩ = some (.int .i64 ((rd_T33 x0_1 t286).f0)) := hcc17 0 _ rfl; have hx17_1 : w21.cell? ⟨go17, (t286 : Int).toNat * 9 + 1, none⟩ = some (.int .i64 ((rd_T33 x0_1 t286).f1)) := hcc17 1 _ rfl; have hx17_2 : w21.cell? ⟨go17, (t286 : Int).toNat * 9 + 2, none⟩ = some (.int .i64 ((rd_T33 x0_1 t286).f2)) := hcc17 2 _ rfl; have hx17_3 : w21.cell? ⟨go17, (t286 : Int).toNat * 9 + 3, none⟩ = some (.int .i64 ((rd_T33 x0_1 t286).f3)) := hcc17 3 _ rfl; have hx17_4 : w21.cell? ⟨go17, (t286 : Int).toNat * 9 + 4, none⟩ = some (.int .i64 ((rd_T33 x0_1 t286).f4)) := hcc17 4 _ rfl; have hx17_5 : w21.cell? ⟨go17, (t286 : Int).toNat * 9 + 5, none⟩ = some (.int .i64 ((rd_T33 x0_1 t286).f5)) := hcc17 5 _ rfl; have hx17_6 : w21.cell? ⟨go17, (t286 : Int).toNat * 9 + 6, none⟩ = some (.int .i64 ((rd_T33 x0_1 t286).f6)) := hcc17 6 _ rfl; have hx17_7 : w21.cell? ⟨go17, (t286 : Int).toNat * 9 + 7, none⟩ = some (.int .i64 ((rd_T33 x0_1 t286).f7)) := hcc17 7 _ rfl; have hx17_8 : w21.cell? ⟨go17, (t286 : Int).toNat * 9 + 8, none⟩ = some (.int .i64 ((rd_T33 x0_1 t286).f8)) := hcc17 8 _ rfl; have hf17_0 : w21.frozen? ⟨go17, (t286 : Int).toNat * 9, none⟩ = false := hfr17 0; have hf17_1 : w21.frozen? ⟨go17, (t286 : Int).toNat * 9 + 1, none⟩ = false := hfr17 1; have hf17_2 : w21.frozen? ⟨go17, (t286 : Int).toNat * 9 + 2, none⟩ = false := hfr17 2; have hf17_3 : w21.frozen? ⟨go17, (t286 : Int).toNat * 9 + 3, none⟩ = false := hfr17 3; have hf17_4 : w21.frozen? ⟨go17, (t286 : Int).toNat * 9 + 4, none⟩ = false := hfr17 4; have hf17_5 : w21.frozen? ⟨go17, (t286 : Int).toNat * 9 + 5, none⟩ = false := hfr17 5; have hf17_6 : w21.frozen? ⟨go17, (t286 : Int).toNat * 9 + 6, none⟩ = false := hfr17 6; have hf17_7 : w21.frozen? ⟨go17, (t286 : Int).toNat * 9 + 7, none⟩ = false := hfr17 7; have hf17_8 : w21.frozen? ⟨go17, (t286 : Int).toNat * 9 + 8, none⟩ = false := hfr17 8; clear hcl17 hcc17 hfr17 hM17; replace p17 := eq_true p17; replace q17 := eq_true q17; have HX22 := Aside0.mk (show Kd.R k33 33 w21 w.heap.size (fun _ => True) (.slice (some ⟨go17, 0, none⟩) x0_1.length co19) x0_1 from (by (with_reducible repeat (first | apply Kd.R_alloc | apply Kd.R_drewN | apply Kd.R_drew)); exact HO_0.out)); obtain ⟨ce22, hcl22, hM22, hcc22, hfr22⟩ := Kd.R_elem HX22.out z33 (t286 : Int) (of_decide_eq_true (by first | (with_reducible assumption) | assumption)) (by have h_ : (t286 : Int) < ((x0_1.length : Int) : Int) := of_decide_eq_true (by first | (with_reducible assumption) | assumption); first | exact h_ | (have e_ := (Kd.R_reads' HO_0.out).1; omega) | simpa using h_); obtain rfl := k33_openM hM22; have HP22 := Kd.R_seg HX22.out (t286 : Int) (of_decide_eq_true (by first | (with_reducible assumption) | assumption)) (by have h_ : (t286 : Int) < ((x0_1.length : Int) : Int) := of_decide_eq_true (by first | (with_reducible assumption) | assumption); first | exact h_ | (have e_ := (Kd.R_reads' HO_0.out).1; omega) | simpa using h_) (seg := [.int .i64 (wrap64 (((rd_T33 x0_1 t286).f6) + (ji16)))]) (j := 6) hcl22 hcc22 (show 7 ≤ 9 from by decide) (x' := (⟨(rd_T33 x0_1 t286).f0, (rd_T33 x0_1 t286).f1, (rd_T33 x0_1 t286).f2, (rd_T33 x0_1 t286).f3, (rd_T33 x0_1 t286).f4, (rd_T33 x0_1 t286).f5, wrap64 (((rd_T33 x0_1 t286).f6) + (ji16)), (rd_T33 x0_1 t286).f7, (rd_T33 x0_1 t286).f8⟩ : S33)) (k33_mkM _ _ _ (⟨(rd_T33 x0_1 t286).f0, (rd_T33 x0_1 t286).f1, (rd_T33 x0_1 t286).f2, (rd_T33 x0_1 t286).f3, (rd_T33 x0_1 t286).f4, (rd_T33 x0_1 t286).f5, wrap64 (((rd_T33 x0_1 t286).f6) + (ji16)), (rd_T33 x0_1 t286).f7, (rd_T33 x0_1 t286).f8⟩ : S33) ) (fun _ hk => hk); have hx22_6 := hcc22 6 _ rfl; (try simp only [show (k33).sz = 9 from rfl, Nat.mul_one, Nat.add_zero] at hx22_6); have hf22_6 := hfr22 6; (try simp only [show (k33).sz = 9 from rfl, Nat.mul_one, Nat.add_zero] at hf22_6); clear hcl22 hcc22 hfr22 hM22) | ((with_reducible refine gate_store (t := 3) (p := 39) rfl ?_); refine store_event (t := 3) (p := 39) (v := ?vo_w23) (w1 := (w21.setCell ⟨go17, (t286 : Int).toNat * 9 + 6, none⟩ (.int .i64 (wrap64 (((rd_T33 x0_1 t286).f6) + (ji16)))))) ?hg ?ho ?hn ?hr ?_; (case ho => rfl); (case hg => rfl); (case hn => rfl); (case hr => first | (go_simp; done) | (go_simp; rfl)); intro w23 hw; have hg : w21.grownBy w23 (some go17) := (by rw [hw]; exact HP22.2); have hp_ : Kd.R k33 33 w23 w.heap.size (fun _ => True) (.slice (some ⟨go17, 0, none⟩) x0_1.length co19) y290 := (by rw [hw, Ny290.out]; exact HP22.1); clear HP22; have n0_ := Aside0.mk (hp_); have n1_ := Aside0.mk (Kd.R_over' (v := (.slice (some ⟨go17, 0, none⟩) x0_1.length co19)) (by (with_reducible repeat (first | apply Kd.R_alloc | apply Kd.R_drewN | apply Kd.R_drew)); exact HO_9.out) (Kd.R_typed HO_0.out) (by decide) hg); have n2_ := Aside0.mk ((by rw [hw]; exact below_set (HB.out) GB17.out : Below w.heap.size w w23)); clear HO_0; clear HO_9; clear HB; have HO_0 := n0_; have HO_9 := n1_; have HB := n2_; clear n0_ n1_ n2_; clear hg hw hp_; have p291 : 0 ≤ (t286 : Int) := of_decide_eq_true (by first | (with_reducible assumption) | assumption); have q291 : t286 < (y290.length : Int) := (by have h_ : (t286 : Int) < ((x0_1.length : Int) : Int) := of_decide_eq_true (by first | (with_reducible assumption) | assumption); first | (have e_ := (Kd.R_reads' HO_0.out).1; omega) | simpa only [Ny290.out, List.length_set] using h_); have ql291 : ((t286 : Int) < ((x0_1.length : Int) : Int)) = True := eq_true (of_decide_eq_true (by first | (with_reducible assumption) | assumption)); obtain ⟨ad291, e291, hx291_0, hx291_1, hx291_2, hx291_3, hx291_4, hx291_5, hx291_6, hx291_7, hx291_8⟩ := at_T33 (Kd.R_reads' HO_0.out).2.2 t286 p291 q291; obtain rfl : (⟨go17, 0, none⟩ : Addr) = ad291 := (by injection e291); (first | simp only [add_plain] at hx291_0 | simp only [add_at] at hx291_0 | simp only [Addr.add, Nat.zero_add] at hx291_0 | skip); (first | simp only [add_plain] at hx291_1 | simp only [add_at] at hx291_1 | simp only [Addr.add, Nat.zero_add] at hx291_1 | skip); (first | simp only [add_plain] at hx291_2 | simp only [add_at] at hx291_2 | simp only [Addr.add, Nat.zero_add] at hx291_2 | skip); (first | simp only [add_plain] at hx291_3 | simp only [add_at] at hx291_3 | simp only [Addr.add, Nat.zero_add] at hx291_3 | skip); (first | simp only [add_plain] at hx291_4 | simp only [add_at] at hx291_4 | simp only [Addr.add, Nat.zero_add] at hx291_4 | skip); (first | simp only [add_plain] at hx291_5 | simp only [add_at] at hx291_5 | simp only [Addr.add, Nat.zero_add] at hx291_5 | skip); (first | simp only [add_plain] at hx291_6 | simp only [add_at] at hx291_6 | simp only [Addr.add, Nat.zero_add] at hx291_6 | skip); (first | simp only [add_plain] at hx291_7 | simp only [add_at] at hx291_7 | simp only [Addr.add, Nat.zero_add] at hx291_7 | skip); (first | simp only [add_plain] at hx291_8 | simp only [add_at] at hx291_8 | simp only [Addr.add, Nat.zero_add] at hx291_8 | skip); replace p291 := eq_true p291; replace q291 := eq_true q291) | ((with_reducible refine gate_builtin (b := .append) (xs := #[.tmp 40, .tmp 48]) rfl ?_); at_builtin; refine Kd.R_append k35 (w0 := w) w.heap.size rfl (.tmp 40) (.tmp 48) 26 35 (.agg #[(.int .i64 0), (.int .i64 0)]) 16 rfl Try.underlying26 info35 rfl (by decide) (by omega) u9 x9_1 (⟨(rd_T33 y290 t286).f0, ji16⟩ : S35) [.int .i64 ((rd_T33 y290 t286).f0), .int .i64 ji16] (fun _ => True) (fun _ => False) rfl rfl ?aP (fun _ hk => hk.elim) ?aF ?aO ?aB ?aS ?aL ?_; (case aP => exact k35_mkM _ _ _ (⟨(rd_T33 y290 t286).f0, ji16⟩ : S35)); (case aB => exact (by repeat (first | (with_reducible first | exact HB.out | apply below_alloc | apply pw_below_drewN | apply below_drew1) | exact HB.out))); (case aF => exact (fun _ _ => trivial)); (case aO => exact (by (with_reducible repeat (first | apply Kd.R_alloc | apply Kd.R_drewN | apply Kd.R_drew)); exact HO_9.out)); (case aS => exact (below_size (by repeat (first | (with_reducible first | exact HB.out | apply below_alloc | apply pw_below_drewN | apply below_drew1) | exact HB.out)))); (case aL => have := LMc18.out; omega); intro v293 w24 ho hb hg hat; rw [← Ny292.out] at ho; have n0_ := Aside0.mk (Kd.R_over' (by (with_reducible repeat (first | apply Kd.R_alloc | apply Kd.R_drewN | apply Kd.R_drew)); exact HO_0.out) (Kd.R_typed (by (with_reducible repeat (first | apply Kd.R_alloc | apply Kd.R_drewN | apply Kd.R_drew)); exact HO_9.out)) (by decide) hg); have n1_ := Aside0.mk (hb); have n2_ := Aside0.mk (ho); clear HO_0; clear HB; clear HO_9; have HO_0 := n0_; have HB := n1_; have HO294 := n2_; clear n0_ n1_ n2_; clear ho hb hg hat))
               go_roundg k1
               case measure => have := HK1.out; omega
               case rel => exact ⟨(y290), (wrap64 (x1_1 - (ji16))), (y292), (by first | rfl | (simp; done) | (simp only [← hji16] <;> (first | rfl | simp)) | (simp [*]; done)), H', ⟨by have := HK1.out; omega⟩, ⟨by (with_reducible repeat (first | apply Kd.R_alloc | apply Kd.R_drewN | apply Kd.R_drew)); exact HO_0.out⟩, ⟨by (with_reducible repeat (first | apply Kd.R_alloc | apply Kd.R_drewN | apply Kd.R_drew)); exact HO294.out⟩, ⟨by repeat (first | (with_reducible first | exact HB.out | apply below_alloc | apply pw_below_drewN | apply below_drew1) | exact HB.out)⟩⟩
             · rw [if_neg c18] at H
               exact absurd H (by simp)
           · rw [if_neg c14] at H
             exact absurd H (by simp)
         · rw [if_neg c13] at H
           exact absurd H (by simp)
     · rw [if_neg c8] at H
       have c8b0 : decide (0 < x1_1) = false := decide_eq_false c8
       clear c8
       simp only [Option.some.injEq, Prod.mk.injEq] at H
       obtain ⟨rfl, rfl, rfl⟩ := H
       go_wp2
       go_ret3
       exact ⟨_, _, by first | rfl | (simp [errW_none, errW_some] <;> rfl) | (simp [*, errW_none, errW_some] <;> rfl), by (with_reducible repeat (first | apply Kd.R_alloc | apply Kd.R_drewN | apply Kd.R_drew)); exact HO_0.out, by (with_reducible repeat (first | apply Kd.R_alloc | apply Kd.R_drewN | apply Kd.R_drew)); exact HO_9.out, by repeat (first | (with_reducible first | exact HB.out | apply below_alloc | apply pw_below_drewN | apply below_drew1) | exact HB.out)⟩
 · rw [if_neg c4] at H
   exact absurd H (by simp)

end Go.Proofs.Ytjoimapgmocoeaa.Xa
