/- The chapter's example of holds; HoldAgain: its walk. -/
import Derived.Test.YtpjeklhidebmpaaPut
import Derived.Test.YtpjeklhidebmpaaSame
set_option linter.unusedVariables false
set_option linter.unusedSimpArgs false
namespace Go.Proofs.Ytpjeklhidebmpaa.Lk
open Go.RowKit Go.Proofs.YtpjeklhidebmpaaW.PrintWords Go.Proofs.YtpjeklhidebmpaaW.PrintWords.Kd Go.Proofs.YtpjeklhidebmpaaW.PrintLast Go.Proofs.YtpjeklhidebmpaaW.PrintMore Go.Proofs.Ytpjeklhidebmpaa.Xa Go.Proofs.Ytpjeklhidebmpaa.Own
theorem two_C {W : World} {g : Nat} {x y : HN} (H : W.heap[g]? = some (.cells #[.int .i64 x.id, .slice none 0 0, .int .i64 x.over, .int .i64 x.til, .int .i64 y.id, .slice none 0 0, .int .i64 y.over, .int .i64 y.til] 26 (0, 0))) : kH.C W (some ⟨g, 0, none⟩) 2 [x, y] := by
  refine ⟨rfl, by decide, fun _ => ⟨_, rfl, fun j p hj => ?_⟩⟩
  rcases j with _ | _ | j
  · simp at hj
    subst hj
    refine ⟨cellsH x, rfl, rfl, fun i u hi => ?_⟩
    rw [add_plain, cell_of_row W g _ _ _ (0, 0) H]
    have hi4 := (List.getElem?_eq_some_iff.1 hi).1
    have : i = 0 ∨ i = 1 ∨ i = 2 ∨ i = 3 := by simp [cellsH] at hi4; omega
    rcases this with rfl | rfl | rfl | rfl <;> simpa [cellsH, kH, kEnc] using hi
  · simp at hj
    subst hj
    refine ⟨cellsH y, rfl, rfl, fun i u hi => ?_⟩
    rw [add_plain, cell_of_row W g _ _ _ (0, 0) H]
    have hi4 := (List.getElem?_eq_some_iff.1 hi).1
    have : i = 0 ∨ i = 1 ∨ i = 2 ∨ i = 3 := by simp [cellsH] at hi4; omega
    rcases this with rfl | rfl | rfl | rfl <;> simpa [cellsH, kH, kEnc] using hi
  · simp at hj
theorem own_reads {w : World} {base : Nat} {v : Value} {xs : List HN} (h : Own w base v xs) : ∃ A c, v = .slice A xs.length c ∧ xs.length ≤ c ∧ kH.C w A xs.length xs := by
  obtain ⟨A, c, rfl, h3, _⟩ := R_reads h
  exact ⟨A, c, rfl, h3, (R_reads' h).2.2⟩
theorem own_at {w : World} {base : Nat} {v : Value} {xs : List HN} (h : Own w base v xs) (hp : 0 < xs.length) : ∃ g c, v = .slice (some ⟨g, 0, none⟩) xs.length c ∧ xs.length ≤ c ∧ base ≤ g ∧ kH.C w (some ⟨g, 0, none⟩) xs.length xs := by
  obtain ⟨A, c, rfl, h3, _⟩ := R_reads h
  have hC := (R_reads' h).2.2
  obtain ⟨_, inner, hown, _⟩ := h
  rcases hown.2 with ⟨h0, h1⟩ | ⟨g, cap, cur, he, hb, _⟩
  · exact absurd h1 (by omega)
  · injection he with he _ hc
    subst he
    exact ⟨g, c, rfl, h3, hb, hC⟩
theorem Own.below {w w' : World} {base : Nat} {v : Value} {xs : List HN} (h : Own w base v xs) (hb : Below w.heap.size w w') : Own w' base v xs := R_below h hb
theorem Own.lower {w : World} {base base' : Nat} {v : Value} {xs : List HN} (h : Own w base v xs) (hb : base' ≤ base) : Own w base' v xs := R_lower h hb
set_option maxHeartbeats 2000000 in
theorem known_calls (w : World) : Calls Try.prog 6 #[] w fun e w' => e = .returned (.bool true) ∧ Below w.heap.size w w' := by
  have hp : put [⟨3, 0, 0⟩, ⟨9, 0, 0⟩] ⟨5, 0, 0⟩ = [⟨3, 0, 0⟩, ⟨5, 0, 0⟩, ⟨9, 0, 0⟩] := by rfl
  have HP := Aside0.mk hp
  clear hp
  go_enter Try.func6, Try.ntmps6
  go_wp2_with fail
  refine (put_calls (some ⟨w.heap.size, 0, none⟩) 2 [⟨3, 0, 0⟩, ⟨9, 0, 0⟩] ⟨5, 0, 0⟩ _ (by simp [Srt]) (two_C (x := ⟨3, 0, 0⟩) (y := ⟨9, 0, 0⟩) (blk_new w _)) (by decide) (by decide)).mono ?_
  rintro e w1 ⟨v1, rfl, h1, hb1⟩
  rw [HP.out] at h1
  obtain ⟨g, c, rfl, hc, _, hC⟩ := own_at h1 (by decide)
  have HB := Aside0.mk (below_step (below_alloc (Below.refl _ _) _) hb1)
  clear hb1 h1 HP
  obtain ⟨ad, e, hx0, _⟩ := at_H hC 1 (by decide) (by decide)
  obtain ⟨ad', e', hy0, _⟩ := at_H hC 2 (by decide) (by decide)
  cases e
  cases e'
  have hx : w1.cell? ⟨g, 4, none⟩ = some (.int .i64 5) := hx0
  have hy : w1.cell? ⟨g, 8, none⟩ = some (.int .i64 9) := hy0
  clear hx0 hy0 hC
  go_wp2
  go_ret
  exact ⟨rfl, HB.out⟩
theorem own_nil (w : World) (base : Nat) : Own w base (.slice none 0 0) [] := R_nil _ _ _ _ _
theorem put_own {base : Nat} {v : Value} {xs : List HN} {w : World} (h : Own w base v xs) (hs : Srt xs) (hl : xs.length < 1000000) (x : HN) (hb : base ≤ w.heap.size) :
    Calls Try.prog 8 #[v, .agg #[.int .i64 x.id, .slice none 0 0, .int .i64 x.over, .int .i64 x.til]] w fun e w' => ∃ v1, e = .returned v1 ∧ Own w' base v1 (put xs x) ∧ Below w.heap.size w w' := by
  obtain ⟨A, c, rfl, hc, hC⟩ := own_reads h
  exact (put_calls A c xs x w hs hC hc hl).mono fun e w' ⟨v1, h1, h2, h3⟩ => ⟨v1, h1, h2.lower hb, h3⟩
theorem drop_own {base : Nat} {v : Value} {xs : List HN} {w : World} (h : Own w base v xs) (hs : Srt xs) (hl : xs.length < 1000000) (id : Int) (hb : base ≤ w.heap.size) :
    Calls Try.prog 9 #[v, .int .i64 id] w fun e w' => ∃ v1, e = .returned v1 ∧ Own w' base v1 (drp xs id) ∧ Below w.heap.size w w' := by
  obtain ⟨A, c, rfl, hc, hC⟩ := own_reads h
  exact (drop_calls A c xs id w hs hC hc hl).mono fun e w' ⟨v1, h1, h2, h3⟩ => ⟨v1, h1, h2.lower hb, h3⟩
theorem find_own {base : Nat} {v : Value} {xs : List HN} {w : World} (h : Own w base v xs) (hs : Srt xs) (hl : xs.length < 1000000) (id : Int) :
    Calls Try.prog 10 #[v, .int .i64 id] w fun e w' => e = .returned (.tuple #[.agg (aH (findH xs id)), .bool (hasB id xs)]) ∧ Below w.heap.size w w' := by
  obtain ⟨A, c, rfl, hc, hC⟩ := own_reads h
  exact find_calls A c xs id w hs hC hl
theorem same_own {base : Nat} {v v' : Value} {xs ys : List HN} {w : World} (h : Own w base v xs) (h' : Own w base v' ys) (e : xs = ys) (hl : xs.length < 1000000) :
    Calls Try.prog 11 #[v, v'] w fun e w' => e = .returned (.bool true) ∧ Below w.heap.size w w' := by
  subst e
  obtain ⟨A, c, rfl, hc, hC⟩ := own_reads h
  obtain ⟨A', c', rfl, hc', hC'⟩ := own_reads h'
  exact (same_calls A A' c c' xs w hC hC' hl).mono fun e w' ⟨h1, q, h2⟩ => ⟨h1, by rw [h2]; exact pw_below_drewN (Below.refl _ _) q⟩
theorem ways20 (i n : Int) : (i < n ∧ i < 20) ∨ (i < n ∧ ¬ i < 20) ∨ ¬ i < n := by omega
set_option maxHeartbeats 8000000 in
set_option maxRecDepth 100000 in
theorem again_calls (A0 : Option Addr) (c0 : Nat) (l0 : List Int) (id over : Int) (w : World) (hr0 : Kd.C (Kd.int .i64) w A0 l0.length l0) (hc0 : l0.length ≤ c0) :
    Calls Try.prog 5 #[.slice A0 l0.length c0, .int .i64 id, .int .i64 over] w fun e w' => e = .returned (.bool true) ∧ Below w.heap.size w w' := by
  have HR := Aside0.mk hr0
  have HC := Aside0.mk hc0
  clear hr0 hc0
  go_enter Try.func5, Try.ntmps5
  go_wp2_with fail
  refine (known_calls _).mono ?_
  rintro e w1 ⟨rfl, hb⟩
  have HB := Aside0.mk hb
  clear hb
  go_wp2_with fail
  go_loopg [7, 8] 21 (fun kq v7 v8 w' => ∃ (v : Value) (i : Int) (xs : List HN), v7 = v ∧ v8 = .int .i64 i ∧ Aside0 (0 ≤ i ∧ i ≤ 20 ∧ (kq : Int) + i = 21 ∧ (xs.length : Int) ≤ i) ∧ Aside0 (Srt xs) ∧ Aside0 (Own w' w.heap.size v xs) ∧ Aside0 (Below w.heap.size w w'))
  case atStart => exact ⟨_, 0, [], rfl, rfl, ⟨⟨by decide, by decide, rfl, by decide⟩⟩, ⟨List.Pairwise.nil⟩, ⟨own_nil _ _⟩, HB⟩
  case round =>
    clear HB
    obtain ⟨v, i, xs, rfl, rfl, HI, HS, HO, HB⟩ := hrel
    cases gk with
    | zero => exact absurd HI.out (by omega)
    | succ k1 =>
    have p : 0 ≤ i := HI.out.1
    rcases ways20 i (l0.length : Int) with ⟨h1, h2⟩ | ⟨h1, h2⟩ | h1
    · have c1b : decide (i < (l0.length : Int)) = true := decide_eq_true h1
      have c2b : decide (i < 20) = true := decide_eq_true h2
      obtain ⟨ad, e, hx⟩ := Kd.at_int HR.out i p h1
      cases e
      have hx1 := (HB.out.cell (World.block_lt_of_cell? w _ hx)).trans hx
      have hw5 : wrap64 (i + 1) = i + 1 := w64 (by omega) (by omega)
      obtain ⟨a, ha⟩ : ∃ a, a = rd l0 i := ⟨_, rfl⟩
      rw [← ha] at hx1
      clear hx ha
      go_wp2_with fail
      refine (put_own HO.out HS.out (by have := HI.out; omega) ⟨a, 1, 0⟩ (below_size HB.out)).mono ?_
      rintro e w2 ⟨v2, rfl, ho2, hb2⟩
      have HO2 := Aside0.mk ho2
      have HB2 := Aside0.mk (below_step HB.out hb2)
      clear ho2 hb2 hx1
      go_wp2_with fail
      go_roundg k1
      case measure => omega
      case rel => exact ⟨v2, i + 1, put xs ⟨a, 1, 0⟩, rfl, by first | rfl | rw [hw5], ⟨by have := HI.out; have := put_len (xs := xs) ⟨a, 1, 0⟩; omega⟩, ⟨put_srt HS.out _⟩, HO2, HB2⟩
    · have c1b : decide (i < (l0.length : Int)) = true := decide_eq_true h1
      have c2b : decide (i < 20) = false := decide_eq_false h2
      go_wp2_with fail
      refine (put_own HO.out HS.out (by have := HI.out; omega) ⟨id, 2, 0⟩ (below_size HB.out)).mono ?_
      rintro e w2 ⟨v2, rfl, ho2, hb2⟩
      have S2 := Aside0.mk (put_srt HS.out ⟨id, 2, 0⟩)
      have HL := Aside0.mk (show xs.length < 100 by have := HI.out; omega)
      have L2 := Aside0.mk (show (put xs ⟨id, 2, 0⟩).length < 200 by have := HI.out; have := put_len (xs := xs) ⟨id, 2, 0⟩; omega)
      have E2 := Aside0.mk (drp_put HS.out ⟨id, 2, 0⟩)
      obtain ⟨ys, hys⟩ : ∃ ys, ys = put xs ⟨id, 2, 0⟩ := ⟨_, rfl⟩
      rw [← hys] at ho2 S2 L2 E2
      have O2 := Aside0.mk ho2
      have B2 := Aside0.mk (below_step HB.out hb2)
      have HO2 := Aside0.mk (HO.out.below hb2)
      clear ho2 hb2 hys HO HB HI
      go_wp2_with fail
      refine (put_own O2.out S2.out (by have := L2.out; omega) ⟨id, over, 0⟩ (below_size B2.out)).mono ?_
      rintro e w3 ⟨v3, rfl, ho3, hb3⟩
      have S3 := Aside0.mk (put_srt S2.out ⟨id, over, 0⟩)
      have L3 := Aside0.mk (show (put ys ⟨id, over, 0⟩).length < 300 by have := L2.out; have := put_len (xs := ys) ⟨id, over, 0⟩; omega)
      have E3 := Aside0.mk (drp_put S2.out ⟨id, over, 0⟩)
      have F3 := Aside0.mk (put_find S2.out ⟨id, over, 0⟩)
      obtain ⟨zs, hzs⟩ : ∃ zs, zs = put ys ⟨id, over, 0⟩ := ⟨_, rfl⟩
      rw [← hzs] at ho3 S3 L3 E3 F3
      have O3 := Aside0.mk ho3
      have B3 := Aside0.mk (below_step B2.out hb3)
      have HO3 := Aside0.mk (HO2.out.below hb3)
      clear ho3 hb3 hzs HO2 B2 O2
      go_wp2_with fail
      refine (find_own O3.out S3.out (by have := L3.out; omega) id).mono ?_
      rintro e w4 ⟨rfl, hb4⟩
      have hq : findH zs id = ⟨id, over, 0⟩ := by unfold findH; rw [if_pos F3.out.1]; exact F3.out.2
      have hr : hasB id zs = true := F3.out.1
      rw [hq, hr, show aH ⟨id, over, 0⟩ = #[.int .i64 id, .slice none 0 0, .int .i64 over, .int .i64 0] from rfl]
      clear hq hr
      have O4 := Aside0.mk (O3.out.below hb4)
      have B4 := Aside0.mk (below_step B3.out hb4)
      have HO4 := Aside0.mk (HO3.out.below hb4)
      clear hb4 HO3 B3 O3
      go_wp2_with fail
      obtain ⟨w5, hw5⟩ : ∃ w5, w5 = w4.alloc (.cells #[.int .i64 id, .slice none 0 0, .int .i64 over, .int .i64 0] 26) := ⟨_, rfl⟩
      rw [← hw5]
      have hb5 : Below w4.heap.size w4 w5 := by rw [hw5]; exact below_alloc (Below.refl _ _) _
      have hk5 : w5.heap[w4.heap.size]? = some (.cells (aH ⟨id, over, 0⟩) 26 (0, 0)) := by rw [hw5]; exact blk_new w4 _
      have K5 := Aside0.mk hk5
      have O5 := Aside0.mk (O4.out.below hb5)
      have B5 := Aside0.mk (below_step B4.out hb5)
      have HO5 := Aside0.mk (HO4.out.below hb5)
      clear hb5 hk5 hw5 HO4 B4 O4
      refine (drop_own O5.out S3.out (by have := L3.out; omega) id (below_size B5.out)).mono ?_
      rintro e w6 ⟨v6, rfl, ho6, hb6⟩
      rw [E3.out, E2.out] at ho6
      have hk6 := blk_below K5.out hb6
      obtain ⟨_, _, hx2, _⟩ := cells_aH hk6
      have O6 := Aside0.mk ho6
      have S6 := Aside0.mk (drp_srt HS.out id)
      have L6 := Aside0.mk (show (drp xs id).length < 100 by have := HL.out; have := drp_len (xs := xs) id; omega)
      have B6 := Aside0.mk (below_step B5.out hb6)
      have HO6 := Aside0.mk (HO5.out.below hb6)
      have hov : (over == over) = true := beq_self_eq_true _
      clear ho6 hb6 hk6 K5 HO5 B5 O5
      go_wp2_with fail
      refine (drop_own O6.out S6.out (by have := L6.out; omega) id (below_size B6.out)).mono ?_
      rintro e w7 ⟨v7, rfl, ho7, hb7⟩
      rw [drp_drp HS.out] at ho7
      have O7 := Aside0.mk ho7
      have O7b := Aside0.mk (O6.out.below hb7)
      have B7 := Aside0.mk (below_step B6.out hb7)
      have HO7 := Aside0.mk (HO6.out.below hb7)
      clear ho7 hb7 HO6 B6 O6 hx2
      go_wp2_with fail
      refine (same_own O7.out O7b.out rfl (by have := L6.out; omega)).mono ?_
      rintro e w8 ⟨rfl, hb8⟩
      have O8 := Aside0.mk (O7b.out.below hb8)
      have B8 := Aside0.mk (below_step B7.out hb8)
      have HO8 := Aside0.mk (HO7.out.below hb8)
      clear hb8 HO7 B7 O7 O7b
      go_wp2_with fail
      refine (drop_own HO8.out HS.out (by have := HL.out; omega) id (below_size B8.out)).mono ?_
      rintro e w9 ⟨v9, rfl, ho9, hb9⟩
      have O9 := Aside0.mk ho9
      have O9b := Aside0.mk (O8.out.below hb9)
      have B9 := Aside0.mk (below_step B8.out hb9)
      clear ho9 hb9 HO8 B8 O8
      go_wp2_with fail
      refine (same_own O9b.out O9.out rfl (by have := L6.out; omega)).mono ?_
      rintro e w10 ⟨rfl, hb10⟩
      have B10 := Aside0.mk (below_step B9.out hb10)
      clear hb10 B9 O9 O9b
      go_wp2
      go_ret
      exact ⟨rfl, B10.out⟩
    · have c1b : decide (i < (l0.length : Int)) = false := decide_eq_false h1
      go_wp2_with fail
      refine (put_own HO.out HS.out (by have := HI.out; omega) ⟨id, 2, 0⟩ (below_size HB.out)).mono ?_
      rintro e w2 ⟨v2, rfl, ho2, hb2⟩
      have S2 := Aside0.mk (put_srt HS.out ⟨id, 2, 0⟩)
      have HL := Aside0.mk (show xs.length < 100 by have := HI.out; omega)
      have L2 := Aside0.mk (show (put xs ⟨id, 2, 0⟩).length < 200 by have := HI.out; have := put_len (xs := xs) ⟨id, 2, 0⟩; omega)
      have E2 := Aside0.mk (drp_put HS.out ⟨id, 2, 0⟩)
      obtain ⟨ys, hys⟩ : ∃ ys, ys = put xs ⟨id, 2, 0⟩ := ⟨_, rfl⟩
      rw [← hys] at ho2 S2 L2 E2
      have O2 := Aside0.mk ho2
      have B2 := Aside0.mk (below_step HB.out hb2)
      have HO2 := Aside0.mk (HO.out.below hb2)
      clear ho2 hb2 hys HO HB HI
      go_wp2_with fail
      refine (put_own O2.out S2.out (by have := L2.out; omega) ⟨id, over, 0⟩ (below_size B2.out)).mono ?_
      rintro e w3 ⟨v3, rfl, ho3, hb3⟩
      have S3 := Aside0.mk (put_srt S2.out ⟨id, over, 0⟩)
      have L3 := Aside0.mk (show (put ys ⟨id, over, 0⟩).length < 300 by have := L2.out; have := put_len (xs := ys) ⟨id, over, 0⟩; omega)
      have E3 := Aside0.mk (drp_put S2.out ⟨id, over, 0⟩)
      have F3 := Aside0.mk (put_find S2.out ⟨id, over, 0⟩)
      obtain ⟨zs, hzs⟩ : ∃ zs, zs = put ys ⟨id, over, 0⟩ := ⟨_, rfl⟩
      rw [← hzs] at ho3 S3 L3 E3 F3
      have O3 := Aside0.mk ho3
      have B3 := Aside0.mk (below_step B2.out hb3)
      have HO3 := Aside0.mk (HO2.out.below hb3)
      clear ho3 hb3 hzs HO2 B2 O2
      go_wp2_with fail
      refine (find_own O3.out S3.out (by have := L3.out; omega) id).mono ?_
      rintro e w4 ⟨rfl, hb4⟩
      have hq : findH zs id = ⟨id, over, 0⟩ := by unfold findH; rw [if_pos F3.out.1]; exact F3.out.2
      have hr : hasB id zs = true := F3.out.1
      rw [hq, hr, show aH ⟨id, over, 0⟩ = #[.int .i64 id, .slice none 0 0, .int .i64 over, .int .i64 0] from rfl]
      clear hq hr
      have O4 := Aside0.mk (O3.out.below hb4)
      have B4 := Aside0.mk (below_step B3.out hb4)
      have HO4 := Aside0.mk (HO3.out.below hb4)
      clear hb4 HO3 B3 O3
      go_wp2_with fail
      obtain ⟨w5, hw5⟩ : ∃ w5, w5 = w4.alloc (.cells #[.int .i64 id, .slice none 0 0, .int .i64 over, .int .i64 0] 26) := ⟨_, rfl⟩
      rw [← hw5]
      have hb5 : Below w4.heap.size w4 w5 := by rw [hw5]; exact below_alloc (Below.refl _ _) _
      have hk5 : w5.heap[w4.heap.size]? = some (.cells (aH ⟨id, over, 0⟩) 26 (0, 0)) := by rw [hw5]; exact blk_new w4 _
      have K5 := Aside0.mk hk5
      have O5 := Aside0.mk (O4.out.below hb5)
      have B5 := Aside0.mk (below_step B4.out hb5)
      have HO5 := Aside0.mk (HO4.out.below hb5)
      clear hb5 hk5 hw5 HO4 B4 O4
      refine (drop_own O5.out S3.out (by have := L3.out; omega) id (below_size B5.out)).mono ?_
      rintro e w6 ⟨v6, rfl, ho6, hb6⟩
      rw [E3.out, E2.out] at ho6
      have hk6 := blk_below K5.out hb6
      obtain ⟨_, _, hx2, _⟩ := cells_aH hk6
      have O6 := Aside0.mk ho6
      have S6 := Aside0.mk (drp_srt HS.out id)
      have L6 := Aside0.mk (show (drp xs id).length < 100 by have := HL.out; have := drp_len (xs := xs) id; omega)
      have B6 := Aside0.mk (below_step B5.out hb6)
      have HO6 := Aside0.mk (HO5.out.below hb6)
      have hov : (over == over) = true := beq_self_eq_true _
      clear ho6 hb6 hk6 K5 HO5 B5 O5
      go_wp2_with fail
      refine (drop_own O6.out S6.out (by have := L6.out; omega) id (below_size B6.out)).mono ?_
      rintro e w7 ⟨v7, rfl, ho7, hb7⟩
      rw [drp_drp HS.out] at ho7
      have O7 := Aside0.mk ho7
      have O7b := Aside0.mk (O6.out.below hb7)
      have B7 := Aside0.mk (below_step B6.out hb7)
      have HO7 := Aside0.mk (HO6.out.below hb7)
      clear ho7 hb7 HO6 B6 O6 hx2
      go_wp2_with fail
      refine (same_own O7.out O7b.out rfl (by have := L6.out; omega)).mono ?_
      rintro e w8 ⟨rfl, hb8⟩
      have O8 := Aside0.mk (O7b.out.below hb8)
      have B8 := Aside0.mk (below_step B7.out hb8)
      have HO8 := Aside0.mk (HO7.out.below hb8)
      clear hb8 HO7 B7 O7 O7b
      go_wp2_with fail
      refine (drop_own HO8.out HS.out (by have := HL.out; omega) id (below_size B8.out)).mono ?_
      rintro e w9 ⟨v9, rfl, ho9, hb9⟩
      have O9 := Aside0.mk ho9
      have O9b := Aside0.mk (O8.out.below hb9)
      have B9 := Aside0.mk (below_step B8.out hb9)
      clear ho9 hb9 HO8 B8 O8
      go_wp2_with fail
      refine (same_own O9b.out O9.out rfl (by have := L6.out; omega)).mono ?_
      rintro e w10 ⟨rfl, hb10⟩
      have B10 := Aside0.mk (below_step B9.out hb10)
      clear hb10 B9 O9 O9b
      go_wp2
      go_ret
      exact ⟨rfl, B10.out⟩
theorem again_walk (a0 : Option Addr) (len0 cap0 : Nat) (z0 : List Int) (a1 a2 : Int) (w : World) (w0 : (a0 = none ∧ len0 = 0 ∧ cap0 = 0 ∧ z0 = []) ∨ ∃ x, a0 = some x ∧ len0 ≤ cap0 ∧ cap0 ≤ maxLen ∧ z0.length = cap0 ∧ (∀ i, i < z0.length → w.cell? (x.add i) = some (.int .i64 (z0.getD i 0))) ∧ ∀ n ∈ z0, (Lit.int .i64 n).wf = true) (y0 : len0 * 8 ≤ 140737488351232) (w1 : (Lit.int .i64 a1).wf = true) (w2 : (Lit.int .i64 a2).wf = true) :
    Calls Try.prog 5 #[.slice a0 len0 cap0, .int .i64 a1, .int .i64 a2] w fun e w' => e = .returned (.bool true) ∧ Below w.heap.size w w' := by
  obtain ⟨l0, rfl, hr0, hm0, hw0, hc0⟩ := ReadsInt.ofRowC w0
  exact again_calls a0 cap0 l0 a1 a2 w (Kd.C_of_reads (d := (0 : Int)) (h1 := fun _ => rfl) hr0) hc0
end Go.Proofs.Ytpjeklhidebmpaa.Lk
