/- What Go functions of this seat compute, as plain Lean functions; the machine's calls do what these say, under the conditions that each theorem names. Written by a program of this session (xprint, over print.py of the kit). -/
import Derived.Test.YteafkpkghebnbaaXa0
import Derived.Test.YteafkpkghebnbaaXa2
import Derived.Test.YteafkpkghebnbaaXa4
import Derived.Test.YteafkpkghebnbaaXa5
namespace Go.Proofs.Yteafkpkghebnbaa.Xa
open Go.RowKit Go.Proofs.YteafkpkghebnbaaW.PrintWords Go.Proofs.YteafkpkghebnbaaW.PrintLast Go.Proofs.YteafkpkghebnbaaW.PrintMore
attribute [local go_sem] max2_int min2_int max_two min_two max_three min_three max_four min_four   -- for this text's walks alone
set_option linter.unusedVariables false
set_option linter.unusedSimpArgs false

/-! ### tolllaw8_TermErrors: function 8 -/
mutual
def tolllaw8_TermErrors.j0 : Nat → Int → Int → Int → Int → Int → Int → Bool → Option (Bool)
 | 0, _, _, _, _, _, _, _ => none
 | k + 1, x0, x1, x2, x10, x12, x13, x32 => if x32 = true then (if x10 = 3 then (if x1 ≥ 1 then (some ((x12 == 0) == (decide (x1 ≤ 31)))) else (some ((x12 == 0) == false))) else (some false)) else (if x0 = 0 then (if x1 < 1 then (tolllaw8_TermErrors.j1 k x0 x1 x2 x10 x12 x13 true) else (tolllaw8_TermErrors.j1 k x0 x1 x2 x10 x12 x13 (decide (x1 > 31)))) else (tolllaw8_TermErrors.j1 k x0 x1 x2 x10 x12 x13 false))
def tolllaw8_TermErrors.j1 : Nat → Int → Int → Int → Int → Int → Int → Bool → Option (Bool)
 | 0, _, _, _, _, _, _, _ => none
 | k + 1, x0, x1, x2, x10, x12, x13, x39 => if x39 = true then (if x10 = 1 then (if x1 ≥ 1 then (some ((x12 == 0) == (decide (x1 ≤ 31)))) else (some ((x12 == 0) == false))) else (some false)) else (if x0 = 1 then (if x2 < 1 then (if x10 = 1 then (if x1 ≥ 1 then (some ((x12 == 0) == (decide (x1 ≤ 31)))) else (some ((x12 == 0) == false))) else (some false)) else (if x2 > 366 then (if x10 = 1 then (if x1 ≥ 1 then (some ((x12 == 0) == (decide (x1 ≤ 31)))) else (some ((x12 == 0) == false))) else (some false)) else (if x10 = x13 then (if x1 ≥ 1 then (some ((x12 == 0) == (decide (x1 ≤ 31)))) else (some ((x12 == 0) == false))) else (some false)))) else (if x10 = x13 then (if x1 ≥ 1 then (some ((x12 == 0) == (decide (x1 ≤ 31)))) else (some ((x12 == 0) == false))) else (some false)))
end
def tolllaw8_TermErrors.f (k : Nat) (a0 : Int) (a1 : Int) (a2 : Int) (a3 : Int) : Option (Bool) := (tolllaw8_known.f k).bind fun t256 => (if t256 = true then ((tolllaw8_within.f a3 2900000).bind fun t257 => ((term_Next.f k a0 a1 a2 t257).bind fun bt258 => ((term_Last.f k a1 t257).bind fun bt260 => (if a0 = 0 then (tolllaw8_TermErrors.j0 k a0 a1 a2 bt258.2 bt260.2 0 false) else (tolllaw8_TermErrors.j0 k a0 a1 a2 bt258.2 bt260.2 0 (a0 != 1)))))) else (some false))
theorem tolllaw8_TermErrors.mono_l : ∀ k, (∀ y0 y1 y2 y3 y4 y5 y6, LeO (tolllaw8_TermErrors.j0 k y0 y1 y2 y3 y4 y5 y6) (tolllaw8_TermErrors.j0 (k + 1) y0 y1 y2 y3 y4 y5 y6)) ∧ (∀ y0 y1 y2 y3 y4 y5 y6, LeO (tolllaw8_TermErrors.j1 k y0 y1 y2 y3 y4 y5 y6) (tolllaw8_TermErrors.j1 (k + 1) y0 y1 y2 y3 y4 y5 y6))
 | 0 => ⟨fun _ _ _ _ _ _ _ r h => by simp [tolllaw8_TermErrors.j0] at h, fun _ _ _ _ _ _ _ r h => by simp [tolllaw8_TermErrors.j1] at h⟩
 | k + 1 => by
  obtain ⟨ih0, ih1⟩ := tolllaw8_TermErrors.mono_l k
  refine ⟨?_, ?_⟩
  · intro y0 y1 y2 y3 y4 y5 y6
    unfold tolllaw8_TermErrors.j0
    repeat' first
    | (with_reducible exact ih0 _ _ _ _ _ _ _)
    | (with_reducible exact ih1 _ _ _ _ _ _ _)
    | (with_reducible exact term_Last.mono _ _ _)
    | (with_reducible exact term_Next.mono _ _ _ _ _)
    | (with_reducible exact tolllaw8_known.mono _)
    | (with_reducible exact LeO.refl _)
    | (with_reducible exact LeO.none _)
    | (with_reducible refine LeO.ite ?_ ?_)
    | (with_reducible refine LeO.bind ?_ (fun _ => ?_))
    | exact ih0 _ _ _ _ _ _ _
    | exact ih1 _ _ _ _ _ _ _
    | exact term_Last.mono _ _ _
    | exact term_Next.mono _ _ _ _ _
    | exact tolllaw8_known.mono _
    | exact LeO.none _
    | refine LeO.ite ?_ ?_
    | refine LeO.bind ?_ (fun _ => ?_)
  · intro y0 y1 y2 y3 y4 y5 y6
    unfold tolllaw8_TermErrors.j1
    repeat' first
    | (with_reducible exact ih0 _ _ _ _ _ _ _)
    | (with_reducible exact ih1 _ _ _ _ _ _ _)
    | (with_reducible exact term_Last.mono _ _ _)
    | (with_reducible exact term_Next.mono _ _ _ _ _)
    | (with_reducible exact tolllaw8_known.mono _)
    | (with_reducible exact LeO.refl _)
    | (with_reducible exact LeO.none _)
    | (with_reducible refine LeO.ite ?_ ?_)
    | (with_reducible refine LeO.bind ?_ (fun _ => ?_))
    | exact ih0 _ _ _ _ _ _ _
    | exact ih1 _ _ _ _ _ _ _
    | exact term_Last.mono _ _ _
    | exact term_Next.mono _ _ _ _ _
    | exact tolllaw8_known.mono _
    | exact LeO.none _
    | refine LeO.ite ?_ ?_
    | refine LeO.bind ?_ (fun _ => ?_)
theorem tolllaw8_TermErrors.mono : ∀ a0 a1 a2 a3 k, LeO (tolllaw8_TermErrors.f k a0 a1 a2 a3) (tolllaw8_TermErrors.f (k + 1) a0 a1 a2 a3) := by
 intro a0 a1 a2 a3 k
 obtain ⟨ih0, ih1⟩ := tolllaw8_TermErrors.mono_l k
 unfold tolllaw8_TermErrors.f
 repeat' first
  | (with_reducible exact ih0 _ _ _ _ _ _ _)
  | (with_reducible exact ih1 _ _ _ _ _ _ _)
  | (with_reducible exact term_Last.mono _ _ _)
  | (with_reducible exact term_Next.mono _ _ _ _ _)
  | (with_reducible exact tolllaw8_known.mono _)
  | (with_reducible exact LeO.refl _)
  | (with_reducible exact LeO.none _)
  | (with_reducible refine LeO.ite ?_ ?_)
  | (with_reducible refine LeO.bind ?_ (fun _ => ?_))
  | exact ih0 _ _ _ _ _ _ _
  | exact ih1 _ _ _ _ _ _ _
  | exact term_Last.mono _ _ _
  | exact term_Next.mono _ _ _ _ _
  | exact tolllaw8_known.mono _
  | exact LeO.none _
  | refine LeO.ite ?_ ?_
  | refine LeO.bind ?_ (fun _ => ?_)
set_option maxHeartbeats 8000000 in
set_option maxRecDepth 100000 in
theorem tolllaw8_TermErrors.calls (k : Nat) (a0 : Int) (a1 : Int) (a2 : Int) (a3 : Int) (r : Bool) (w : World) (h : tolllaw8_TermErrors.f k a0 a1 a2 a3 = some r) :
 Calls Try.prog 8 #[.int .i64 a0, .int .i64 a1, .int .i64 a2, .int .i64 a3] w fun e w' => e = .returned (.bool r) ∧ Below w.heap.size w w' := by
 have HB := Aside0.mk (Below.refl w.heap.size w)
 have H : ((tolllaw8_known.f k).bind fun t256 => (if t256 = true then ((tolllaw8_within.f a3 2900000).bind fun t257 => ((term_Next.f k a0 a1 a2 t257).bind fun bt258 => ((term_Last.f k a1 t257).bind fun bt260 => (if a0 = 0 then (tolllaw8_TermErrors.j0 k a0 a1 a2 bt258.2 bt260.2 0 false) else (tolllaw8_TermErrors.j0 k a0 a1 a2 bt258.2 bt260.2 0 (a0 != 1)))))) else (some false))) = some r := h
 clear h
 replace H := Option.bind_eq_some_iff.mp H
 obtain ⟨t256, A50, H⟩ := H
 replace H : (if t256 = true then ((tolllaw8_within.f a3 2900000).bind fun t257 => ((term_Next.f k a0 a1 a2 t257).bind fun bt258 => ((term_Last.f k a1 t257).bind fun bt260 => (if a0 = 0 then (tolllaw8_TermErrors.j0 k a0 a1 a2 bt258.2 bt260.2 0 false) else (tolllaw8_TermErrors.j0 k a0 a1 a2 bt258.2 bt260.2 0 (a0 != 1)))))) else (some false)) = some r := H
 have A5 := Aside0.mk A50
 clear A50
 by_cases c6 : t256 = true
 · subst c6
   have H1 : ((tolllaw8_within.f a3 2900000).bind fun t257 => ((term_Next.f k a0 a1 a2 t257).bind fun bt258 => ((term_Last.f k a1 t257).bind fun bt260 => (if a0 = 0 then (tolllaw8_TermErrors.j0 k a0 a1 a2 bt258.2 bt260.2 0 false) else (tolllaw8_TermErrors.j0 k a0 a1 a2 bt258.2 bt260.2 0 (a0 != 1)))))) = some r := by rw [if_pos rfl] at H; exact H
   clear H
   have H := H1
   clear H1
   replace H := Option.bind_eq_some_iff.mp H
   obtain ⟨t257, A70, H⟩ := H
   replace H : ((term_Next.f k a0 a1 a2 t257).bind fun bt258 => ((term_Last.f k a1 t257).bind fun bt260 => (if a0 = 0 then (tolllaw8_TermErrors.j0 k a0 a1 a2 bt258.2 bt260.2 0 false) else (tolllaw8_TermErrors.j0 k a0 a1 a2 bt258.2 bt260.2 0 (a0 != 1))))) = some r := H
   have A7 := Aside0.mk A70
   clear A70
   replace H := Option.bind_eq_some_iff.mp H
   obtain ⟨⟨t258, t259⟩, A80, H⟩ := H
   replace H : ((term_Last.f k a1 t257).bind fun bt260 => (if a0 = 0 then (tolllaw8_TermErrors.j0 k a0 a1 a2 t259 bt260.2 0 false) else (tolllaw8_TermErrors.j0 k a0 a1 a2 t259 bt260.2 0 (a0 != 1)))) = some r := H
   have A8 := Aside0.mk A80
   clear A80
   replace H := Option.bind_eq_some_iff.mp H
   obtain ⟨⟨t260, t261⟩, A90, H⟩ := H
   replace H : (if a0 = 0 then (tolllaw8_TermErrors.j0 k a0 a1 a2 t259 t261 0 false) else (tolllaw8_TermErrors.j0 k a0 a1 a2 t259 t261 0 (a0 != 1))) = some r := H
   have A9 := Aside0.mk A90
   clear A90
   have HC10 := Aside0.mk H
   clear H
   go_enter Try.func8, Try.ntmps8
   go_upto_region 7 with (first | ((with_reducible refine gate_callee (f := 10) rfl ?_); refine goesL_ (some 14) rfl rfl Try.func10 (by kernel_rfl) rfl #[] rfl (by (try simp only [List.map_toArray, List.map_cons, List.map_nil]); first | done | rfl | (simp only [List.length_drop, List.length_take]; rfl)) ?_; (with_reducible refine (tolllaw8_known.calls k  true _ A5.out).mono ?_); rintro e w11 ⟨rfl, hb⟩; refine ⟨_, rfl, ?_⟩; have n0_ := Aside0.mk (below_step (by repeat (first | (with_reducible first | exact HB.out | apply below_alloc | apply pw_below_drewN | apply below_drew1) | exact HB.out)) hb); clear HB; have HB := n0_; clear n0_; (try clear hb); (try clear hb2); (try clear hk); (try clear hi)) | ((with_reducible refine gate_callee (f := 11) rfl ?_); refine goesL_ (some 17) rfl rfl Try.func11 (by kernel_rfl) rfl #[.int .i64 a3, .int .i64 2900000] rfl (by (try simp only [List.map_toArray, List.map_cons, List.map_nil]); first | done | rfl | (simp only [List.length_drop, List.length_take]; rfl)) ?_; (with_reducible refine (tolllaw8_within.calls a3 2900000 t257 _ A7.out).mono ?_); rintro e w' ⟨rfl, rfl⟩; refine ⟨_, rfl, ?_⟩) | ((with_reducible refine gate_callee (f := 12) rfl ?_); refine goesL_ (some 23) rfl rfl Try.func12 (by kernel_rfl) rfl #[.int .i64 a0, .int .i64 a1, .int .i64 a2, .int .i64 t257] rfl (by (try simp only [List.map_toArray, List.map_cons, List.map_nil]); first | done | rfl | (simp only [List.length_drop, List.length_take]; rfl)) ?_; (with_reducible refine (term_Next.calls k a0 a1 a2 t257 t258 t259 _ A8.out).mono ?_); rintro e w12 ⟨rfl, hb⟩; refine ⟨_, rfl, ?_⟩; have n0_ := Aside0.mk (below_step (by repeat (first | (with_reducible first | exact HB.out | apply below_alloc | apply pw_below_drewN | apply below_drew1) | exact HB.out)) hb); clear HB; have HB := n0_; clear n0_; (try clear hb); (try clear hb2); (try clear hk); (try clear hi)) | ((with_reducible refine gate_callee (f := 16) rfl ?_); refine goesL_ (some 29) rfl rfl Try.func16 (by kernel_rfl) rfl #[.int .i64 a1, .int .i64 t257] rfl (by (try simp only [List.map_toArray, List.map_cons, List.map_nil]); first | done | rfl | (simp only [List.length_drop, List.length_take]; rfl)) ?_; (with_reducible refine (term_Last.calls k a1 t257 t260 t261 _ A9.out).mono ?_); rintro e w13 ⟨rfl, hb⟩; refine ⟨_, rfl, ?_⟩; have n0_ := Aside0.mk (below_step (by repeat (first | (with_reducible first | exact HB.out | apply below_alloc | apply pw_below_drewN | apply below_drew1) | exact HB.out)) hb); clear HB; have HB := n0_; clear n0_; (try clear hb); (try clear hb2); (try clear hk); (try clear hi)))
   (try simp only [Act.put, List.setIfInBounds_toArray, List.set_cons_zero, List.set_cons_succ])
   go_cut [32] (fun v32 wc => ∃ (kq : Nat) (x32_9 : Bool), v32 = .bool x32_9 ∧ Aside0 (tolllaw8_TermErrors.j0 kq a0 a1 a2 t259 t261 0 x32_9 = some r) ∧ Aside0 (kq ≤ k) ∧ Aside0 (Below w.heap.size w wc))
   case first =>
    have H := HC10.out
    clear HC10
    by_cases c14 : a0 = 0
    · rw [if_pos c14] at H
      have c14b0 : (a0 == 0) = true := beq_iff_eq.mpr c14
      have c14b1 : (a0 != 0) = false := bne_eq_false_iff_eq.mpr c14
      clear c14
      (first | rw [c14b0] | (simp only [i64_w, i32_w]; rw [c14b0]) | skip)
      have H' := Aside0.mk H
      clear H
      go_wp2
      go_meet
      case rel => exact ⟨_, (false), (by first | rfl | (simp; done) | (simp [*]; done)), H', ⟨by first | omega | exact Nat.le_refl _⟩, ⟨by repeat (first | (with_reducible first | exact HB.out | apply below_alloc | apply pw_below_drewN | apply below_drew1) | exact HB.out)⟩⟩
    · rw [if_neg c14] at H
      have c14b0 : (a0 == 0) = false := beq_eq_false_iff_ne.mpr c14
      have c14b1 : (a0 != 0) = true := bne_iff_ne.mpr c14
      (first | rw [c14b0] | (simp only [i64_w, i32_w]; rw [c14b0]) | skip)
      have H' := Aside0.mk H
      clear H
      go_wp2
      go_meet
      case rel => exact ⟨_, ((a0 != 1)), (by first | rfl | (simp; done) | (simp [*]; done)), H', ⟨by first | omega | exact Nat.le_refl _⟩, ⟨by repeat (first | (with_reducible first | exact HB.out | apply below_alloc | apply pw_below_drewN | apply below_drew1) | exact HB.out)⟩⟩
   case rest =>
    clear HC10
    try clear c1
    try clear p2
    try clear c6
    try clear c8
    try clear c10
    try clear c11
    try clear c12
    try clear c14
    try clear c14b0
    try clear c14b1
    obtain ⟨kq, x32_9, rfl, HA, HJ9, HB⟩ := hcut
    cases kq with
    | zero => exact absurd HA.out (by simp [tolllaw8_TermErrors.j0])
    | succ kj9 =>
     have H := HA.out
     clear HA
     simp only [tolllaw8_TermErrors.j0] at H
     by_cases c15 : x32_9 = true
     · subst c15
       have H1 : (if t259 = 3 then (if a1 ≥ 1 then (some ((t261 == 0) == (decide (a1 ≤ 31)))) else (some ((t261 == 0) == false))) else (some false)) = some r := by rw [if_pos rfl] at H; exact H
       clear H
       have H := H1
       clear H1
       by_cases c16 : t259 = 3
       · rw [if_pos c16] at H
         have c16b0 : (t259 == 3) = true := beq_iff_eq.mpr c16
         have c16b1 : (t259 != 3) = false := bne_eq_false_iff_eq.mpr c16
         clear c16
         by_cases c17 : a1 ≥ 1
         · rw [if_pos c17] at H
           have c17b0 : decide (1 ≤ a1) = true := decide_eq_true c17
           clear c17
           obtain rfl := Option.some.inj H
           go_wp2
           go_ret
           exact ⟨by first | rfl | (simp [errW_none, errW_some] <;> rfl) | (simp [*, errW_none, errW_some] <;> rfl), by repeat (first | (with_reducible first | exact HB.out | apply below_alloc | apply pw_below_drewN | apply below_drew1) | exact HB.out)⟩
         · rw [if_neg c17] at H
           have c17b0 : decide (1 ≤ a1) = false := decide_eq_false c17
           clear c17
           obtain rfl := Option.some.inj H
           go_wp2
           go_ret
           exact ⟨by first | rfl | (simp [errW_none, errW_some] <;> rfl) | (simp [*, errW_none, errW_some] <;> rfl), by repeat (first | (with_reducible first | exact HB.out | apply below_alloc | apply pw_below_drewN | apply below_drew1) | exact HB.out)⟩
       · rw [if_neg c16] at H
         have c16b0 : (t259 == 3) = false := beq_eq_false_iff_ne.mpr c16
         have c16b1 : (t259 != 3) = true := bne_iff_ne.mpr c16
         obtain rfl := Option.some.inj H
         go_wp2
         go_ret
         exact ⟨by first | rfl | (simp [errW_none, errW_some] <;> rfl) | (simp [*, errW_none, errW_some] <;> rfl), by repeat (first | (with_reducible first | exact HB.out | apply below_alloc | apply pw_below_drewN | apply below_drew1) | exact HB.out)⟩
     · replace c15 := Bool.eq_false_iff.mpr c15
       subst c15
       have H1 : (if a0 = 0 then (if a1 < 1 then (tolllaw8_TermErrors.j1 kj9 a0 a1 a2 t259 t261 0 true) else (tolllaw8_TermErrors.j1 kj9 a0 a1 a2 t259 t261 0 (decide (a1 > 31)))) else (tolllaw8_TermErrors.j1 kj9 a0 a1 a2 t259 t261 0 false)) = some r := by rw [if_neg (show ¬ (false = true) by decide)] at H; exact H
       clear H
       have H := H1
       clear H1
       have HC18 := Aside0.mk H
       clear H
       go_upto_region 9 with (fail)
       go_cut [39] (fun v39 wc => ∃ (kq : Nat) (x39_17 : Bool), v39 = .bool x39_17 ∧ Aside0 (tolllaw8_TermErrors.j1 kq a0 a1 a2 t259 t261 0 x39_17 = some r) ∧ Aside0 (kq ≤ kj9) ∧ Aside0 (Below w.heap.size w wc))
       case first =>
        have H := HC18.out
        clear HC18
        by_cases c19 : a0 = 0
        · rw [if_pos c19] at H
          have c19b0 : (a0 == 0) = true := beq_iff_eq.mpr c19
          have c19b1 : (a0 != 0) = false := bne_eq_false_iff_eq.mpr c19
          clear c19
          (first | rw [c19b0] | (simp only [i64_w, i32_w]; rw [c19b0]) | skip)
          by_cases c20 : a1 < 1
          · rw [if_pos c20] at H
            have c20b0 : decide (a1 < 1) = true := decide_eq_true c20
            clear c20
            have H' := Aside0.mk H
            clear H
            go_wp2
            go_meet
            case rel => exact ⟨_, (true), (by first | rfl | (simp; done) | (simp [*]; done)), H', ⟨by have := HJ9.out; first | omega | exact Nat.le_refl _⟩, ⟨by repeat (first | (with_reducible first | exact HB.out | apply below_alloc | apply pw_below_drewN | apply below_drew1) | exact HB.out)⟩⟩
          · rw [if_neg c20] at H
            have c20b0 : decide (a1 < 1) = false := decide_eq_false c20
            clear c20
            have H' := Aside0.mk H
            clear H
            go_wp2
            go_meet
            case rel => exact ⟨_, (decide (a1 > 31)), (by first | rfl | (simp; done) | (simp [*]; done)), H', ⟨by have := HJ9.out; first | omega | exact Nat.le_refl _⟩, ⟨by repeat (first | (with_reducible first | exact HB.out | apply below_alloc | apply pw_below_drewN | apply below_drew1) | exact HB.out)⟩⟩
        · rw [if_neg c19] at H
          have c19b0 : (a0 == 0) = false := beq_eq_false_iff_ne.mpr c19
          have c19b1 : (a0 != 0) = true := bne_iff_ne.mpr c19
          (first | rw [c19b0] | (simp only [i64_w, i32_w]; rw [c19b0]) | skip)
          have H' := Aside0.mk H
          clear H
          go_wp2
          go_meet
          case rel => exact ⟨_, (false), (by first | rfl | (simp; done) | (simp [*]; done)), H', ⟨by have := HJ9.out; first | omega | exact Nat.le_refl _⟩, ⟨by repeat (first | (with_reducible first | exact HB.out | apply below_alloc | apply pw_below_drewN | apply below_drew1) | exact HB.out)⟩⟩
       case rest =>
        clear HC18
        try clear c1
        try clear c2
        try clear p2
        try clear c6
        try clear c8
        try clear c10
        try clear c11
        try clear c12
        try clear c14
        try clear c14b0
        try clear c14b1
        try clear c15
        try clear c16
        try clear c16b0
        try clear c16b1
        try clear c17
        try clear c17b0
        try clear c19
        try clear c19b0
        try clear c19b1
        try clear c20
        try clear c20b0
        try clear p2
        obtain ⟨kq, x39_17, rfl, HA, HJ17, HB⟩ := hcut
        cases kq with
        | zero => exact absurd HA.out (by simp [tolllaw8_TermErrors.j1])
        | succ kj17 =>
         have H := HA.out
         clear HA
         simp only [tolllaw8_TermErrors.j1] at H
         by_cases c21 : x39_17 = true
         · subst c21
           have H1 : (if t259 = 1 then (if a1 ≥ 1 then (some ((t261 == 0) == (decide (a1 ≤ 31)))) else (some ((t261 == 0) == false))) else (some false)) = some r := by rw [if_pos rfl] at H; exact H
           clear H
           have H := H1
           clear H1
           by_cases c22 : t259 = 1
           · rw [if_pos c22] at H
             have c22b0 : (t259 == 1) = true := beq_iff_eq.mpr c22
             have c22b1 : (t259 != 1) = false := bne_eq_false_iff_eq.mpr c22
             clear c22
             by_cases c23 : a1 ≥ 1
             · rw [if_pos c23] at H
               have c23b0 : decide (1 ≤ a1) = true := decide_eq_true c23
               clear c23
               obtain rfl := Option.some.inj H
               go_wp2
               go_ret
               exact ⟨by first | rfl | (simp [errW_none, errW_some] <;> rfl) | (simp [*, errW_none, errW_some] <;> rfl), by repeat (first | (with_reducible first | exact HB.out | apply below_alloc | apply pw_below_drewN | apply below_drew1) | exact HB.out)⟩
             · rw [if_neg c23] at H
               have c23b0 : decide (1 ≤ a1) = false := decide_eq_false c23
               clear c23
               obtain rfl := Option.some.inj H
               go_wp2
               go_ret
               exact ⟨by first | rfl | (simp [errW_none, errW_some] <;> rfl) | (simp [*, errW_none, errW_some] <;> rfl), by repeat (first | (with_reducible first | exact HB.out | apply below_alloc | apply pw_below_drewN | apply below_drew1) | exact HB.out)⟩
           · rw [if_neg c22] at H
             have c22b0 : (t259 == 1) = false := beq_eq_false_iff_ne.mpr c22
             have c22b1 : (t259 != 1) = true := bne_iff_ne.mpr c22
             obtain rfl := Option.some.inj H
             go_wp2
             go_ret
             exact ⟨by first | rfl | (simp [errW_none, errW_some] <;> rfl) | (simp [*, errW_none, errW_some] <;> rfl), by repeat (first | (with_reducible first | exact HB.out | apply below_alloc | apply pw_below_drewN | apply below_drew1) | exact HB.out)⟩
         · replace c21 := Bool.eq_false_iff.mpr c21
           subst c21
           have H1 : (if a0 = 1 then (if a2 < 1 then (if t259 = 1 then (if a1 ≥ 1 then (some ((t261 == 0) == (decide (a1 ≤ 31)))) else (some ((t261 == 0) == false))) else (some false)) else (if a2 > 366 then (if t259 = 1 then (if a1 ≥ 1 then (some ((t261 == 0) == (decide (a1 ≤ 31)))) else (some ((t261 == 0) == false))) else (some false)) else (if t259 = 0 then (if a1 ≥ 1 then (some ((t261 == 0) == (decide (a1 ≤ 31)))) else (some ((t261 == 0) == false))) else (some false)))) else (if t259 = 0 then (if a1 ≥ 1 then (some ((t261 == 0) == (decide (a1 ≤ 31)))) else (some ((t261 == 0) == false))) else (some false))) = some r := by rw [if_neg (show ¬ (false = true) by decide)] at H; exact H
           clear H
           have H := H1
           clear H1
           by_cases c24 : a0 = 1
           · rw [if_pos c24] at H
             have c24b0 : (a0 == 1) = true := beq_iff_eq.mpr c24
             have c24b1 : (a0 != 1) = false := bne_eq_false_iff_eq.mpr c24
             clear c24
             by_cases c25 : a2 < 1
             · rw [if_pos c25] at H
               have c25b0 : decide (a2 < 1) = true := decide_eq_true c25
               clear c25
               by_cases c26 : t259 = 1
               · rw [if_pos c26] at H
                 have c26b0 : (t259 == 1) = true := beq_iff_eq.mpr c26
                 have c26b1 : (t259 != 1) = false := bne_eq_false_iff_eq.mpr c26
                 clear c26
                 by_cases c27 : a1 ≥ 1
                 · rw [if_pos c27] at H
                   have c27b0 : decide (1 ≤ a1) = true := decide_eq_true c27
                   clear c27
                   obtain rfl := Option.some.inj H
                   go_wp2
                   go_ret
                   exact ⟨by first | rfl | (simp [errW_none, errW_some] <;> rfl) | (simp [*, errW_none, errW_some] <;> rfl), by repeat (first | (with_reducible first | exact HB.out | apply below_alloc | apply pw_below_drewN | apply below_drew1) | exact HB.out)⟩
                 · rw [if_neg c27] at H
                   have c27b0 : decide (1 ≤ a1) = false := decide_eq_false c27
                   clear c27
                   obtain rfl := Option.some.inj H
                   go_wp2
                   go_ret
                   exact ⟨by first | rfl | (simp [errW_none, errW_some] <;> rfl) | (simp [*, errW_none, errW_some] <;> rfl), by repeat (first | (with_reducible first | exact HB.out | apply below_alloc | apply pw_below_drewN | apply below_drew1) | exact HB.out)⟩
               · rw [if_neg c26] at H
                 have c26b0 : (t259 == 1) = false := beq_eq_false_iff_ne.mpr c26
                 have c26b1 : (t259 != 1) = true := bne_iff_ne.mpr c26
                 obtain rfl := Option.some.inj H
                 go_wp2
                 go_ret
                 exact ⟨by first | rfl | (simp [errW_none, errW_some] <;> rfl) | (simp [*, errW_none, errW_some] <;> rfl), by repeat (first | (with_reducible first | exact HB.out | apply below_alloc | apply pw_below_drewN | apply below_drew1) | exact HB.out)⟩
             · rw [if_neg c25] at H
               have c25b0 : decide (a2 < 1) = false := decide_eq_false c25
               clear c25
               by_cases c28 : a2 > 366
               · rw [if_pos c28] at H
                 have c28b0 : decide (366 < a2) = true := decide_eq_true c28
                 clear c28
                 by_cases c29 : t259 = 1
                 · rw [if_pos c29] at H
                   have c29b0 : (t259 == 1) = true := beq_iff_eq.mpr c29
                   have c29b1 : (t259 != 1) = false := bne_eq_false_iff_eq.mpr c29
                   clear c29
                   by_cases c30 : a1 ≥ 1
                   · rw [if_pos c30] at H
                     have c30b0 : decide (1 ≤ a1) = true := decide_eq_true c30
                     clear c30
                     obtain rfl := Option.some.inj H
                     go_wp2
                     go_ret
                     exact ⟨by first | rfl | (simp [errW_none, errW_some] <;> rfl) | (simp [*, errW_none, errW_some] <;> rfl), by repeat (first | (with_reducible first | exact HB.out | apply below_alloc | apply pw_below_drewN | apply below_drew1) | exact HB.out)⟩
                   · rw [if_neg c30] at H
                     have c30b0 : decide (1 ≤ a1) = false := decide_eq_false c30
                     clear c30
                     obtain rfl := Option.some.inj H
                     go_wp2
                     go_ret
                     exact ⟨by first | rfl | (simp [errW_none, errW_some] <;> rfl) | (simp [*, errW_none, errW_some] <;> rfl), by repeat (first | (with_reducible first | exact HB.out | apply below_alloc | apply pw_below_drewN | apply below_drew1) | exact HB.out)⟩
                 · rw [if_neg c29] at H
                   have c29b0 : (t259 == 1) = false := beq_eq_false_iff_ne.mpr c29
                   have c29b1 : (t259 != 1) = true := bne_iff_ne.mpr c29
                   obtain rfl := Option.some.inj H
                   go_wp2
                   go_ret
                   exact ⟨by first | rfl | (simp [errW_none, errW_some] <;> rfl) | (simp [*, errW_none, errW_some] <;> rfl), by repeat (first | (with_reducible first | exact HB.out | apply below_alloc | apply pw_below_drewN | apply below_drew1) | exact HB.out)⟩
               · rw [if_neg c28] at H
                 have c28b0 : decide (366 < a2) = false := decide_eq_false c28
                 clear c28
                 by_cases c31 : t259 = 0
                 · rw [if_pos c31] at H
                   have c31b0 : (t259 == 0) = true := beq_iff_eq.mpr c31
                   have c31b1 : (t259 != 0) = false := bne_eq_false_iff_eq.mpr c31
                   clear c31
                   by_cases c32 : a1 ≥ 1
                   · rw [if_pos c32] at H
                     have c32b0 : decide (1 ≤ a1) = true := decide_eq_true c32
                     clear c32
                     obtain rfl := Option.some.inj H
                     go_wp2
                     go_ret
                     exact ⟨by first | rfl | (simp [errW_none, errW_some] <;> rfl) | (simp [*, errW_none, errW_some] <;> rfl), by repeat (first | (with_reducible first | exact HB.out | apply below_alloc | apply pw_below_drewN | apply below_drew1) | exact HB.out)⟩
                   · rw [if_neg c32] at H
                     have c32b0 : decide (1 ≤ a1) = false := decide_eq_false c32
                     clear c32
                     obtain rfl := Option.some.inj H
                     go_wp2
                     go_ret
                     exact ⟨by first | rfl | (simp [errW_none, errW_some] <;> rfl) | (simp [*, errW_none, errW_some] <;> rfl), by repeat (first | (with_reducible first | exact HB.out | apply below_alloc | apply pw_below_drewN | apply below_drew1) | exact HB.out)⟩
                 · rw [if_neg c31] at H
                   have c31b0 : (t259 == 0) = false := beq_eq_false_iff_ne.mpr c31
                   have c31b1 : (t259 != 0) = true := bne_iff_ne.mpr c31
                   obtain rfl := Option.some.inj H
                   go_wp2
                   go_ret
                   exact ⟨by first | rfl | (simp [errW_none, errW_some] <;> rfl) | (simp [*, errW_none, errW_some] <;> rfl), by repeat (first | (with_reducible first | exact HB.out | apply below_alloc | apply pw_below_drewN | apply below_drew1) | exact HB.out)⟩
           · rw [if_neg c24] at H
             have c24b0 : (a0 == 1) = false := beq_eq_false_iff_ne.mpr c24
             have c24b1 : (a0 != 1) = true := bne_iff_ne.mpr c24
             by_cases c33 : t259 = 0
             · rw [if_pos c33] at H
               have c33b0 : (t259 == 0) = true := beq_iff_eq.mpr c33
               have c33b1 : (t259 != 0) = false := bne_eq_false_iff_eq.mpr c33
               clear c33
               by_cases c34 : a1 ≥ 1
               · rw [if_pos c34] at H
                 have c34b0 : decide (1 ≤ a1) = true := decide_eq_true c34
                 clear c34
                 obtain rfl := Option.some.inj H
                 go_wp2
                 go_ret
                 exact ⟨by first | rfl | (simp [errW_none, errW_some] <;> rfl) | (simp [*, errW_none, errW_some] <;> rfl), by repeat (first | (with_reducible first | exact HB.out | apply below_alloc | apply pw_below_drewN | apply below_drew1) | exact HB.out)⟩
               · rw [if_neg c34] at H
                 have c34b0 : decide (1 ≤ a1) = false := decide_eq_false c34
                 clear c34
                 obtain rfl := Option.some.inj H
                 go_wp2
                 go_ret
                 exact ⟨by first | rfl | (simp [errW_none, errW_some] <;> rfl) | (simp [*, errW_none, errW_some] <;> rfl), by repeat (first | (with_reducible first | exact HB.out | apply below_alloc | apply pw_below_drewN | apply below_drew1) | exact HB.out)⟩
             · rw [if_neg c33] at H
               have c33b0 : (t259 == 0) = false := beq_eq_false_iff_ne.mpr c33
               have c33b1 : (t259 != 0) = true := bne_iff_ne.mpr c33
               obtain rfl := Option.some.inj H
               go_wp2
               go_ret
               exact ⟨by first | rfl | (simp [errW_none, errW_some] <;> rfl) | (simp [*, errW_none, errW_some] <;> rfl), by repeat (first | (with_reducible first | exact HB.out | apply below_alloc | apply pw_below_drewN | apply below_drew1) | exact HB.out)⟩
 · replace c6 := Bool.eq_false_iff.mpr c6
   subst c6
   have H1 : (some false) = some r := by rw [if_neg (show ¬ (false = true) by decide)] at H; exact H
   clear H
   have H := H1
   clear H1
   obtain rfl := Option.some.inj H
   go_enter Try.func8, Try.ntmps8
   go_wp2_with (first | ((with_reducible refine gate_callee (f := 10) rfl ?_); refine goesL_ (some 14) rfl rfl Try.func10 (by kernel_rfl) rfl #[] rfl (by (try simp only [List.map_toArray, List.map_cons, List.map_nil]); first | done | rfl | (simp only [List.length_drop, List.length_take]; rfl)) ?_; (with_reducible refine (tolllaw8_known.calls k  false _ A5.out).mono ?_); rintro e w35 ⟨rfl, hb⟩; refine ⟨_, rfl, ?_⟩; have n0_ := Aside0.mk (below_step (by repeat (first | (with_reducible first | exact HB.out | apply below_alloc | apply pw_below_drewN | apply below_drew1) | exact HB.out)) hb); clear HB; have HB := n0_; clear n0_; (try clear hb); (try clear hb2); (try clear hk); (try clear hi)))
   go_ret
   exact ⟨by first | rfl | (simp [errW_none, errW_some] <;> rfl) | (simp [*, errW_none, errW_some] <;> rfl), by repeat (first | (with_reducible first | exact HB.out | apply below_alloc | apply pw_below_drewN | apply below_drew1) | exact HB.out)⟩

/-- THE ONE PURE STATEMENT of tolllaw8_TermErrors: yours. -/
def tolllaw8_TermErrors.Pure : Prop := ∀ (a0 : Int) (a1 : Int) (a2 : Int) (a3 : Int), (Lit.int .i64 a0).wf = true → (Lit.int .i64 a1).wf = true → (Lit.int .i64 a2).wf = true → (Lit.int .i64 a3).wf = true → ∃ k, tolllaw8_TermErrors.f k a0 a1 a2 a3 = some true
theorem tolllaw8_TermErrors.walk (P : tolllaw8_TermErrors.Pure) (a0 : Int) (a1 : Int) (a2 : Int) (a3 : Int) (w : World) (w0 : (Lit.int .i64 a0).wf = true) (w1 : (Lit.int .i64 a1).wf = true) (w2 : (Lit.int .i64 a2).wf = true) (w3 : (Lit.int .i64 a3).wf = true) :
 Calls Try.prog 8 #[.int .i64 a0, .int .i64 a1, .int .i64 a2, .int .i64 a3] w fun e w' => e = .returned (.bool true) ∧ Below w.heap.size w w' := by
 obtain ⟨k, h⟩ := P a0 a1 a2 a3 w0 w1 w2 w3
 refine (tolllaw8_TermErrors.calls k a0 a1 a2 a3 true w h).mono ?_
 rintro e w' ⟨rfl, hd⟩
 exact ⟨rfl, hd⟩

/-! ### tolllaw8_TermYears: function 9 -/
def tolllaw8_TermYears.l0 : Nat → Int → Int → Int → Int → Option (Bool)
 | 0, _, _, _, _ => none
 | k + 1, x0, x5, x7, x8 => if x8 < 12 then ((term_Next.f k 0 x0 0 x7).bind fun bt267 => (if bt267.2 = 0 then (tolllaw8_TermYears.l0 k x0 x5 bt267.1 (wrap64 (x8 + 1))) else (some false))) else ((term_Last.f k x0 (wrap64 (x5 + 365))).bind fun bt269 => (if bt269.2 = 0 then (if (wrap64 (x7 - x5)) ≥ 363 then (if (wrap64 (x7 - x5)) ≤ 368 then (some (decide (bt269.1 ≤ x7))) else (some false)) else (some false)) else (some false)))
def tolllaw8_TermYears.f (k : Nat) (a0 : Int) (a1 : Int) : Option (Bool) := (tolllaw8_known.f k).bind fun t262 => (if t262 = true then ((tolllaw8_within.f a0 31).bind fun t263 => ((tolllaw8_within.f a1 2800000).bind fun t264 => ((term_Last.f k (wrap64 (1 + t263)) (wrap64 (31 + t264))).bind fun bt265 => (if bt265.2 = 0 then (tolllaw8_TermYears.l0 k (wrap64 (1 + t263)) bt265.1 bt265.1 0) else (some false))))) else (some false))
theorem tolllaw8_TermYears.mono_l : ∀ k, (∀ y0 y1 y2 y3, LeO (tolllaw8_TermYears.l0 k y0 y1 y2 y3) (tolllaw8_TermYears.l0 (k + 1) y0 y1 y2 y3))
 | 0 => fun _ _ _ _ r h => by simp [tolllaw8_TermYears.l0] at h
 | k + 1 => by
  have ih0 := tolllaw8_TermYears.mono_l k
  · intro y0 y1 y2 y3
    unfold tolllaw8_TermYears.l0
    repeat' first
    | (with_reducible exact ih0 _ _ _ _)
    | (with_reducible exact term_Last.mono _ _ _)
    | (with_reducible exact term_Next.mono _ _ _ _ _)
    | (with_reducible exact tolllaw8_known.mono _)
    | (with_reducible exact LeO.refl _)
    | (with_reducible exact LeO.none _)
    | (with_reducible refine LeO.ite ?_ ?_)
    | (with_reducible refine LeO.bind ?_ (fun _ => ?_))
    | exact ih0 _ _ _ _
    | exact term_Last.mono _ _ _
    | exact term_Next.mono _ _ _ _ _
    | exact tolllaw8_known.mono _
    | exact LeO.none _
    | refine LeO.ite ?_ ?_
    | refine LeO.bind ?_ (fun _ => ?_)
theorem tolllaw8_TermYears.mono : ∀ a0 a1 k, LeO (tolllaw8_TermYears.f k a0 a1) (tolllaw8_TermYears.f (k + 1) a0 a1) := by
 intro a0 a1 k
 have ih0 := tolllaw8_TermYears.mono_l k
 unfold tolllaw8_TermYears.f
 repeat' first
  | (with_reducible exact ih0 _ _ _ _)
  | (with_reducible exact term_Last.mono _ _ _)
  | (with_reducible exact term_Next.mono _ _ _ _ _)
  | (with_reducible exact tolllaw8_known.mono _)
  | (with_reducible exact LeO.refl _)
  | (with_reducible exact LeO.none _)
  | (with_reducible refine LeO.ite ?_ ?_)
  | (with_reducible refine LeO.bind ?_ (fun _ => ?_))
  | exact ih0 _ _ _ _
  | exact term_Last.mono _ _ _
  | exact term_Next.mono _ _ _ _ _
  | exact tolllaw8_known.mono _
  | exact LeO.none _
  | refine LeO.ite ?_ ?_
  | refine LeO.bind ?_ (fun _ => ?_)
set_option maxHeartbeats 8000000 in
set_option maxRecDepth 100000 in
theorem tolllaw8_TermYears.calls (k : Nat) (a0 : Int) (a1 : Int) (r : Bool) (w : World) (h : tolllaw8_TermYears.f k a0 a1 = some r) :
 Calls Try.prog 9 #[.int .i64 a0, .int .i64 a1] w fun e w' => e = .returned (.bool r) ∧ Below w.heap.size w w' := by
 have HB := Aside0.mk (Below.refl w.heap.size w)
 have H : ((tolllaw8_known.f k).bind fun t262 => (if t262 = true then ((tolllaw8_within.f a0 31).bind fun t263 => ((tolllaw8_within.f a1 2800000).bind fun t264 => ((term_Last.f k (wrap64 (1 + t263)) (wrap64 (31 + t264))).bind fun bt265 => (if bt265.2 = 0 then (tolllaw8_TermYears.l0 k (wrap64 (1 + t263)) bt265.1 bt265.1 0) else (some false))))) else (some false))) = some r := h
 clear h
 replace H := Option.bind_eq_some_iff.mp H
 obtain ⟨t262, A30, H⟩ := H
 replace H : (if t262 = true then ((tolllaw8_within.f a0 31).bind fun t263 => ((tolllaw8_within.f a1 2800000).bind fun t264 => ((term_Last.f k (wrap64 (1 + t263)) (wrap64 (31 + t264))).bind fun bt265 => (if bt265.2 = 0 then (tolllaw8_TermYears.l0 k (wrap64 (1 + t263)) bt265.1 bt265.1 0) else (some false))))) else (some false)) = some r := H
 have A3 := Aside0.mk A30
 clear A30
 by_cases c4 : t262 = true
 · subst c4
   have H1 : ((tolllaw8_within.f a0 31).bind fun t263 => ((tolllaw8_within.f a1 2800000).bind fun t264 => ((term_Last.f k (wrap64 (1 + t263)) (wrap64 (31 + t264))).bind fun bt265 => (if bt265.2 = 0 then (tolllaw8_TermYears.l0 k (wrap64 (1 + t263)) bt265.1 bt265.1 0) else (some false))))) = some r := by rw [if_pos rfl] at H; exact H
   clear H
   have H := H1
   clear H1
   replace H := Option.bind_eq_some_iff.mp H
   obtain ⟨t263, A50, H⟩ := H
   replace H : ((tolllaw8_within.f a1 2800000).bind fun t264 => ((term_Last.f k (wrap64 (1 + t263)) (wrap64 (31 + t264))).bind fun bt265 => (if bt265.2 = 0 then (tolllaw8_TermYears.l0 k (wrap64 (1 + t263)) bt265.1 bt265.1 0) else (some false)))) = some r := H
   have A5 := Aside0.mk A50
   clear A50
   replace H := Option.bind_eq_some_iff.mp H
   obtain ⟨t264, A60, H⟩ := H
   replace H : ((term_Last.f k (wrap64 (1 + t263)) (wrap64 (31 + t264))).bind fun bt265 => (if bt265.2 = 0 then (tolllaw8_TermYears.l0 k (wrap64 (1 + t263)) bt265.1 bt265.1 0) else (some false))) = some r := H
   have A6 := Aside0.mk A60
   clear A60
   replace H := Option.bind_eq_some_iff.mp H
   obtain ⟨⟨t265, t266⟩, A70, H⟩ := H
   replace H : (if t266 = 0 then (tolllaw8_TermYears.l0 k (wrap64 (1 + t263)) t265 t265 0) else (some false)) = some r := H
   have A7 := Aside0.mk A70
   clear A70
   by_cases c8 : t266 = 0
   · rw [if_pos c8] at H
     have c8b0 : (t266 == 0) = true := beq_iff_eq.mpr c8
     have c8b1 : (t266 != 0) = false := bne_eq_false_iff_eq.mpr c8
     clear c8
     have H' := Aside0.mk H
     clear H
     go_enter Try.func9, Try.ntmps9
     go_wp2_with (first | ((with_reducible refine gate_callee (f := 10) rfl ?_); refine goesL_ (some 10) rfl rfl Try.func10 (by kernel_rfl) rfl #[] rfl (by (try simp only [List.map_toArray, List.map_cons, List.map_nil]); first | done | rfl | (simp only [List.length_drop, List.length_take]; rfl)) ?_; (with_reducible refine (tolllaw8_known.calls k  true _ A3.out).mono ?_); rintro e w9 ⟨rfl, hb⟩; refine ⟨_, rfl, ?_⟩; have n0_ := Aside0.mk (below_step (by repeat (first | (with_reducible first | exact HB.out | apply below_alloc | apply pw_below_drewN | apply below_drew1) | exact HB.out)) hb); clear HB; have HB := n0_; clear n0_; (try clear hb); (try clear hb2); (try clear hk); (try clear hi)) | ((with_reducible refine gate_callee (f := 11) rfl ?_); refine goesL_ (some 13) rfl rfl Try.func11 (by kernel_rfl) rfl #[.int .i64 a0, .int .i64 31] rfl (by (try simp only [List.map_toArray, List.map_cons, List.map_nil]); first | done | rfl | (simp only [List.length_drop, List.length_take]; rfl)) ?_; (with_reducible refine (tolllaw8_within.calls a0 31 t263 _ A5.out).mono ?_); rintro e w' ⟨rfl, rfl⟩; refine ⟨_, rfl, ?_⟩) | ((with_reducible refine gate_callee (f := 11) rfl ?_); refine goesL_ (some 16) rfl rfl Try.func11 (by kernel_rfl) rfl #[.int .i64 a1, .int .i64 2800000] rfl (by (try simp only [List.map_toArray, List.map_cons, List.map_nil]); first | done | rfl | (simp only [List.length_drop, List.length_take]; rfl)) ?_; (with_reducible refine (tolllaw8_within.calls a1 2800000 t264 _ A6.out).mono ?_); rintro e w' ⟨rfl, rfl⟩; refine ⟨_, rfl, ?_⟩) | ((with_reducible refine gate_callee (f := 16) rfl ?_); refine goesL_ (some 21) rfl rfl Try.func16 (by kernel_rfl) rfl #[.int .i64 (wrap64 (1 + t263)), .int .i64 (wrap64 (31 + t264))] rfl (by (try simp only [List.map_toArray, List.map_cons, List.map_nil]); first | done | rfl | (simp only [List.length_drop, List.length_take]; rfl)) ?_; (with_reducible refine (term_Last.calls k (wrap64 (1 + t263)) (wrap64 (31 + t264)) t265 t266 _ A7.out).mono ?_); rintro e w10 ⟨rfl, hb⟩; refine ⟨_, rfl, ?_⟩; have n0_ := Aside0.mk (below_step (by repeat (first | (with_reducible first | exact HB.out | apply below_alloc | apply pw_below_drewN | apply below_drew1) | exact HB.out)) hb); clear HB; have HB := n0_; clear n0_; (try clear hb); (try clear hb2); (try clear hk); (try clear hi)))
     go_loopg [7, 8] k (fun kq v7 v8 w' => ∃ (x7_1 : Int) (x8_1 : Int), v7 = .int .i64 x7_1 ∧ v8 = .int .i64 x8_1 ∧ Aside0 (tolllaw8_TermYears.l0 kq (wrap64 (1 + t263)) t265 x7_1 x8_1 = some r) ∧ Aside0 (kq ≤ k) ∧ Aside0 (Below w.heap.size w w'))
     case atStart => exact ⟨(t265), (0), (by first | rfl | (simp; done) | (simp [*]; done)), (by first | rfl | (simp; done) | (simp [*]; done)), H', ⟨Nat.le_refl _⟩, ⟨by repeat (first | (with_reducible first | exact HB.out | apply below_alloc | apply pw_below_drewN | apply below_drew1) | exact HB.out)⟩⟩
     case round =>
      clear H'
      try clear c1
      try clear p2
      try clear c4
      try clear p6
      try clear c8
      try clear c8b0
      try clear c8b1
      try clear c9
      try clear c10
      obtain ⟨x7_1, x8_1, rfl, rfl, HA, HK1, HB⟩ := hrel
      cases gk with
      | zero => exact absurd HA.out (by simp [tolllaw8_TermYears.l0])
      | succ k1 =>
       have H := HA.out
       clear HA
       simp only [tolllaw8_TermYears.l0] at H
       by_cases c11 : x8_1 < 12
       · rw [if_pos c11] at H
         have c11b0 : decide (x8_1 < 12) = true := decide_eq_true c11
         clear c11
         replace H := Option.bind_eq_some_iff.mp H
         obtain ⟨⟨t267, t268⟩, A120, H⟩ := H
         replace H : (if t268 = 0 then (tolllaw8_TermYears.l0 k1 (wrap64 (1 + t263)) t265 t267 (wrap64 (x8_1 + 1))) else (some false)) = some r := H
         have A12 := Aside0.mk A120
         clear A120
         by_cases c13 : t268 = 0
         · rw [if_pos c13] at H
           have c13b0 : (t268 == 0) = true := beq_iff_eq.mpr c13
           have c13b1 : (t268 != 0) = false := bne_eq_false_iff_eq.mpr c13
           clear c13
           have H' := Aside0.mk H
           clear H
           go_wp2_with (first | ((with_reducible refine gate_callee (f := 12) rfl ?_); refine goesL_ (some 34) rfl rfl Try.func12 (by kernel_rfl) rfl #[.int .i64 0, .int .i64 (wrap64 (1 + t263)), .int .i64 0, .int .i64 x7_1] rfl (by (try simp only [List.map_toArray, List.map_cons, List.map_nil]); first | done | rfl | (simp only [List.length_drop, List.length_take]; rfl)) ?_; (with_reducible refine (term_Next.calls k1 0 (wrap64 (1 + t263)) 0 x7_1 t267 t268 _ A12.out).mono ?_); rintro e w14 ⟨rfl, hb⟩; refine ⟨_, rfl, ?_⟩; have n0_ := Aside0.mk (below_step (by repeat (first | (with_reducible first | exact HB.out | apply below_alloc | apply pw_below_drewN | apply below_drew1) | exact HB.out)) hb); clear HB; have HB := n0_; clear n0_; (try clear hb); (try clear hb2); (try clear hk); (try clear hi)))
           go_roundg k1
           case measure => have := HK1.out; omega
           case rel => exact ⟨(t267), (wrap64 (x8_1 + 1)), (by first | rfl | (simp; done) | (simp [*]; done)), (by first | rfl | (simp; done) | (simp [*]; done)), H', ⟨by have := HK1.out; omega⟩, ⟨by repeat (first | (with_reducible first | exact HB.out | apply below_alloc | apply pw_below_drewN | apply below_drew1) | exact HB.out)⟩⟩
         · rw [if_neg c13] at H
           have c13b0 : (t268 == 0) = false := beq_eq_false_iff_ne.mpr c13
           have c13b1 : (t268 != 0) = true := bne_iff_ne.mpr c13
           obtain rfl := Option.some.inj H
           go_wp2_with (first | ((with_reducible refine gate_callee (f := 12) rfl ?_); refine goesL_ (some 34) rfl rfl Try.func12 (by kernel_rfl) rfl #[.int .i64 0, .int .i64 (wrap64 (1 + t263)), .int .i64 0, .int .i64 x7_1] rfl (by (try simp only [List.map_toArray, List.map_cons, List.map_nil]); first | done | rfl | (simp only [List.length_drop, List.length_take]; rfl)) ?_; (with_reducible refine (term_Next.calls k1 0 (wrap64 (1 + t263)) 0 x7_1 t267 t268 _ A12.out).mono ?_); rintro e w15 ⟨rfl, hb⟩; refine ⟨_, rfl, ?_⟩; have n0_ := Aside0.mk (below_step (by repeat (first | (with_reducible first | exact HB.out | apply below_alloc | apply pw_below_drewN | apply below_drew1) | exact HB.out)) hb); clear HB; have HB := n0_; clear n0_; (try clear hb); (try clear hb2); (try clear hk); (try clear hi)))
           go_ret
           exact ⟨by first | rfl | (simp [errW_none, errW_some] <;> rfl) | (simp [*, errW_none, errW_some] <;> rfl), by repeat (first | (with_reducible first | exact HB.out | apply below_alloc | apply pw_below_drewN | apply below_drew1) | exact HB.out)⟩
       · rw [if_neg c11] at H
         have c11b0 : decide (x8_1 < 12) = false := decide_eq_false c11
         clear c11
         replace H := Option.bind_eq_some_iff.mp H
         obtain ⟨⟨t269, t270⟩, A160, H⟩ := H
         replace H : (if t270 = 0 then (if (wrap64 (x7_1 - t265)) ≥ 363 then (if (wrap64 (x7_1 - t265)) ≤ 368 then (some (decide (t269 ≤ x7_1))) else (some false)) else (some false)) else (some false)) = some r := H
         have A16 := Aside0.mk A160
         clear A160
         by_cases c17 : t270 = 0
         · rw [if_pos c17] at H
           have c17b0 : (t270 == 0) = true := beq_iff_eq.mpr c17
           have c17b1 : (t270 != 0) = false := bne_eq_false_iff_eq.mpr c17
           clear c17
           by_cases c18 : (wrap64 (x7_1 - t265)) ≥ 363
           · rw [if_pos c18] at H
             have c18b0 : decide (363 ≤ (wrap64 (x7_1 - t265))) = true := decide_eq_true c18
             clear c18
             by_cases c19 : (wrap64 (x7_1 - t265)) ≤ 368
             · rw [if_pos c19] at H
               have c19b0 : decide ((wrap64 (x7_1 - t265)) ≤ 368) = true := decide_eq_true c19
               clear c19
               obtain rfl := Option.some.inj H
               go_wp2_with (first | ((with_reducible refine gate_callee (f := 16) rfl ?_); refine goesL_ (some 43) rfl rfl Try.func16 (by kernel_rfl) rfl #[.int .i64 (wrap64 (1 + t263)), .int .i64 (wrap64 (t265 + 365))] rfl (by (try simp only [List.map_toArray, List.map_cons, List.map_nil]); first | done | rfl | (simp only [List.length_drop, List.length_take]; rfl)) ?_; (with_reducible refine (term_Last.calls k1 (wrap64 (1 + t263)) (wrap64 (t265 + 365)) t269 t270 _ A16.out).mono ?_); rintro e w20 ⟨rfl, hb⟩; refine ⟨_, rfl, ?_⟩; have n0_ := Aside0.mk (below_step (by repeat (first | (with_reducible first | exact HB.out | apply below_alloc | apply pw_below_drewN | apply below_drew1) | exact HB.out)) hb); clear HB; have HB := n0_; clear n0_; (try clear hb); (try clear hb2); (try clear hk); (try clear hi)))
               go_ret
               exact ⟨by first | rfl | (simp [errW_none, errW_some] <;> rfl) | (simp [*, errW_none, errW_some] <;> rfl), by repeat (first | (with_reducible first | exact HB.out | apply below_alloc | apply pw_below_drewN | apply below_drew1) | exact HB.out)⟩
             · rw [if_neg c19] at H
               have c19b0 : decide ((wrap64 (x7_1 - t265)) ≤ 368) = false := decide_eq_false c19
               clear c19
               obtain rfl := Option.some.inj H
               go_wp2_with (first | ((with_reducible refine gate_callee (f := 16) rfl ?_); refine goesL_ (some 43) rfl rfl Try.func16 (by kernel_rfl) rfl #[.int .i64 (wrap64 (1 + t263)), .int .i64 (wrap64 (t265 + 365))] rfl (by (try simp only [List.map_toArray, List.map_cons, List.map_nil]); first | done | rfl | (simp only [List.length_drop, List.length_take]; rfl)) ?_; (with_reducible refine (term_Last.calls k1 (wrap64 (1 + t263)) (wrap64 (t265 + 365)) t269 t270 _ A16.out).mono ?_); rintro e w21 ⟨rfl, hb⟩; refine ⟨_, rfl, ?_⟩; have n0_ := Aside0.mk (below_step (by repeat (first | (with_reducible first | exact HB.out | apply below_alloc | apply pw_below_drewN | apply below_drew1) | exact HB.out)) hb); clear HB; have HB := n0_; clear n0_; (try clear hb); (try clear hb2); (try clear hk); (try clear hi)))
               go_ret
               exact ⟨by first | rfl | (simp [errW_none, errW_some] <;> rfl) | (simp [*, errW_none, errW_some] <;> rfl), by repeat (first | (with_reducible first | exact HB.out | apply below_alloc | apply pw_below_drewN | apply below_drew1) | exact HB.out)⟩
           · rw [if_neg c18] at H
             have c18b0 : decide (363 ≤ (wrap64 (x7_1 - t265))) = false := decide_eq_false c18
             clear c18
             obtain rfl := Option.some.inj H
             go_wp2_with (first | ((with_reducible refine gate_callee (f := 16) rfl ?_); refine goesL_ (some 43) rfl rfl Try.func16 (by kernel_rfl) rfl #[.int .i64 (wrap64 (1 + t263)), .int .i64 (wrap64 (t265 + 365))] rfl (by (try simp only [List.map_toArray, List.map_cons, List.map_nil]); first | done | rfl | (simp only [List.length_drop, List.length_take]; rfl)) ?_; (with_reducible refine (term_Last.calls k1 (wrap64 (1 + t263)) (wrap64 (t265 + 365)) t269 t270 _ A16.out).mono ?_); rintro e w22 ⟨rfl, hb⟩; refine ⟨_, rfl, ?_⟩; have n0_ := Aside0.mk (below_step (by repeat (first | (with_reducible first | exact HB.out | apply below_alloc | apply pw_below_drewN | apply below_drew1) | exact HB.out)) hb); clear HB; have HB := n0_; clear n0_; (try clear hb); (try clear hb2); (try clear hk); (try clear hi)))
             go_ret
             exact ⟨by first | rfl | (simp [errW_none, errW_some] <;> rfl) | (simp [*, errW_none, errW_some] <;> rfl), by repeat (first | (with_reducible first | exact HB.out | apply below_alloc | apply pw_below_drewN | apply below_drew1) | exact HB.out)⟩
         · rw [if_neg c17] at H
           have c17b0 : (t270 == 0) = false := beq_eq_false_iff_ne.mpr c17
           have c17b1 : (t270 != 0) = true := bne_iff_ne.mpr c17
           obtain rfl := Option.some.inj H
           go_wp2_with (first | ((with_reducible refine gate_callee (f := 16) rfl ?_); refine goesL_ (some 43) rfl rfl Try.func16 (by kernel_rfl) rfl #[.int .i64 (wrap64 (1 + t263)), .int .i64 (wrap64 (t265 + 365))] rfl (by (try simp only [List.map_toArray, List.map_cons, List.map_nil]); first | done | rfl | (simp only [List.length_drop, List.length_take]; rfl)) ?_; (with_reducible refine (term_Last.calls k1 (wrap64 (1 + t263)) (wrap64 (t265 + 365)) t269 t270 _ A16.out).mono ?_); rintro e w23 ⟨rfl, hb⟩; refine ⟨_, rfl, ?_⟩; have n0_ := Aside0.mk (below_step (by repeat (first | (with_reducible first | exact HB.out | apply below_alloc | apply pw_below_drewN | apply below_drew1) | exact HB.out)) hb); clear HB; have HB := n0_; clear n0_; (try clear hb); (try clear hb2); (try clear hk); (try clear hi)))
           go_ret
           exact ⟨by first | rfl | (simp [errW_none, errW_some] <;> rfl) | (simp [*, errW_none, errW_some] <;> rfl), by repeat (first | (with_reducible first | exact HB.out | apply below_alloc | apply pw_below_drewN | apply below_drew1) | exact HB.out)⟩
   · rw [if_neg c8] at H
     have c8b0 : (t266 == 0) = false := beq_eq_false_iff_ne.mpr c8
     have c8b1 : (t266 != 0) = true := bne_iff_ne.mpr c8
     obtain rfl := Option.some.inj H
     go_enter Try.func9, Try.ntmps9
     go_wp2_with (first | ((with_reducible refine gate_callee (f := 10) rfl ?_); refine goesL_ (some 10) rfl rfl Try.func10 (by kernel_rfl) rfl #[] rfl (by (try simp only [List.map_toArray, List.map_cons, List.map_nil]); first | done | rfl | (simp only [List.length_drop, List.length_take]; rfl)) ?_; (with_reducible refine (tolllaw8_known.calls k  true _ A3.out).mono ?_); rintro e w24 ⟨rfl, hb⟩; refine ⟨_, rfl, ?_⟩; have n0_ := Aside0.mk (below_step (by repeat (first | (with_reducible first | exact HB.out | apply below_alloc | apply pw_below_drewN | apply below_drew1) | exact HB.out)) hb); clear HB; have HB := n0_; clear n0_; (try clear hb); (try clear hb2); (try clear hk); (try clear hi)) | ((with_reducible refine gate_callee (f := 11) rfl ?_); refine goesL_ (some 13) rfl rfl Try.func11 (by kernel_rfl) rfl #[.int .i64 a0, .int .i64 31] rfl (by (try simp only [List.map_toArray, List.map_cons, List.map_nil]); first | done | rfl | (simp only [List.length_drop, List.length_take]; rfl)) ?_; (with_reducible refine (tolllaw8_within.calls a0 31 t263 _ A5.out).mono ?_); rintro e w' ⟨rfl, rfl⟩; refine ⟨_, rfl, ?_⟩) | ((with_reducible refine gate_callee (f := 11) rfl ?_); refine goesL_ (some 16) rfl rfl Try.func11 (by kernel_rfl) rfl #[.int .i64 a1, .int .i64 2800000] rfl (by (try simp only [List.map_toArray, List.map_cons, List.map_nil]); first | done | rfl | (simp only [List.length_drop, List.length_take]; rfl)) ?_; (with_reducible refine (tolllaw8_within.calls a1 2800000 t264 _ A6.out).mono ?_); rintro e w' ⟨rfl, rfl⟩; refine ⟨_, rfl, ?_⟩) | ((with_reducible refine gate_callee (f := 16) rfl ?_); refine goesL_ (some 21) rfl rfl Try.func16 (by kernel_rfl) rfl #[.int .i64 (wrap64 (1 + t263)), .int .i64 (wrap64 (31 + t264))] rfl (by (try simp only [List.map_toArray, List.map_cons, List.map_nil]); first | done | rfl | (simp only [List.length_drop, List.length_take]; rfl)) ?_; (with_reducible refine (term_Last.calls k (wrap64 (1 + t263)) (wrap64 (31 + t264)) t265 t266 _ A7.out).mono ?_); rintro e w25 ⟨rfl, hb⟩; refine ⟨_, rfl, ?_⟩; have n0_ := Aside0.mk (below_step (by repeat (first | (with_reducible first | exact HB.out | apply below_alloc | apply pw_below_drewN | apply below_drew1) | exact HB.out)) hb); clear HB; have HB := n0_; clear n0_; (try clear hb); (try clear hb2); (try clear hk); (try clear hi)))
     go_ret
     exact ⟨by first | rfl | (simp [errW_none, errW_some] <;> rfl) | (simp [*, errW_none, errW_some] <;> rfl), by repeat (first | (with_reducible first | exact HB.out | apply below_alloc | apply pw_below_drewN | apply below_drew1) | exact HB.out)⟩
 · replace c4 := Bool.eq_false_iff.mpr c4
   subst c4
   have H1 : (some false) = some r := by rw [if_neg (show ¬ (false = true) by decide)] at H; exact H
   clear H
   have H := H1
   clear H1
   obtain rfl := Option.some.inj H
   go_enter Try.func9, Try.ntmps9
   go_wp2_with (first | ((with_reducible refine gate_callee (f := 10) rfl ?_); refine goesL_ (some 10) rfl rfl Try.func10 (by kernel_rfl) rfl #[] rfl (by (try simp only [List.map_toArray, List.map_cons, List.map_nil]); first | done | rfl | (simp only [List.length_drop, List.length_take]; rfl)) ?_; (with_reducible refine (tolllaw8_known.calls k  false _ A3.out).mono ?_); rintro e w26 ⟨rfl, hb⟩; refine ⟨_, rfl, ?_⟩; have n0_ := Aside0.mk (below_step (by repeat (first | (with_reducible first | exact HB.out | apply below_alloc | apply pw_below_drewN | apply below_drew1) | exact HB.out)) hb); clear HB; have HB := n0_; clear n0_; (try clear hb); (try clear hb2); (try clear hk); (try clear hi)))
   go_ret
   exact ⟨by first | rfl | (simp [errW_none, errW_some] <;> rfl) | (simp [*, errW_none, errW_some] <;> rfl), by repeat (first | (with_reducible first | exact HB.out | apply below_alloc | apply pw_below_drewN | apply below_drew1) | exact HB.out)⟩

/-- THE ONE PURE STATEMENT of tolllaw8_TermYears: yours. -/
def tolllaw8_TermYears.Pure : Prop := ∀ (a0 : Int) (a1 : Int), (Lit.int .i64 a0).wf = true → (Lit.int .i64 a1).wf = true → ∃ k, tolllaw8_TermYears.f k a0 a1 = some true
theorem tolllaw8_TermYears.walk (P : tolllaw8_TermYears.Pure) (a0 : Int) (a1 : Int) (w : World) (w0 : (Lit.int .i64 a0).wf = true) (w1 : (Lit.int .i64 a1).wf = true) :
 Calls Try.prog 9 #[.int .i64 a0, .int .i64 a1] w fun e w' => e = .returned (.bool true) ∧ Below w.heap.size w w' := by
 obtain ⟨k, h⟩ := P a0 a1 w0 w1
 refine (tolllaw8_TermYears.calls k a0 a1 true w h).mono ?_
 rintro e w' ⟨rfl, hd⟩
 exact ⟨rfl, hd⟩

end Go.Proofs.Yteafkpkghebnbaa.Xa
