/- WindowFull: its walk. -/
import Derived.Test.YtndgpncdnbbneaaFullPlain
import Derived.Test.YtndgpncdnbbneaaWinCalls
set_option linter.unusedVariables false
set_option linter.unusedSimpArgs false
namespace Go.Proofs.Ytndgpncdnbbneaa.Lk
open Go.RowKit Go.Proofs.Ytndgpncdnbbneaa.Xa Go.Proofs.YtndgpncdnbbneaaW.PrintWords Go.Proofs.YtndgpncdnbbneaaW.PrintLast Go.Proofs.Ytndgpncdnbbneaa.Own
theorem three_ways (i n : Int) : (i < n ∧ i < 20) ∨ (i < n ∧ ¬ i < 20) ∨ ¬ i < n := by omega
theorem w64a (i : Int) (h0 : 0 ≤ i) (h : i < 20) : wrap64 (200000 + i) = 200000 + i := w64 (by omega) (by omega)
theorem w64b (i : Int) (h0 : 0 ≤ i) (h : i < 20) : wrap64 (i + 1) = i + 1 := w64 (by omega) (by omega)
theorem boxA (W : World) (a : SA) : ∃ W', (storeCells ⟨W.heap.size, 0, none⟩ (cellsA a).toList).run Try.prog (W.alloc (.cells #[.int .i64 0, .int .i64 0, .int .i64 0, .int .i64 0, .string ⟨#[]⟩, .int .i64 0, .int .i64 0, .int .i64 0, .int .i64 0, .int .i64 0, .int .i64 0, .int .i64 0, .int .i64 0] 32)) = .ok () W' ∧ W'.heap[W.heap.size]? = some (.cells (cellsA a) 32 (0, 0)) ∧ Below W.heap.size W W' :=
  box_store (P := Try.prog) W [.int .i64 0, .int .i64 0, .int .i64 0, .int .i64 0, .string ⟨#[]⟩, .int .i64 0, .int .i64 0, .int .i64 0, .int .i64 0, .int .i64 0, .int .i64 0, .int .i64 0, .int .i64 0] (cellsA a).toList 32 rfl (fun v hv => by simp only [cellsA, List.mem_cons, List.not_mem_nil, or_false] at hv; rcases hv with rfl | rfl | rfl | rfl | rfl | rfl | rfl | rfl | rfl | rfl | rfl | rfl | rfl <;> rfl)
set_option maxHeartbeats 8000000 in
set_option maxRecDepth 100000 in
theorem full_calls (a0 : Int) (A1 : Option Addr) (c1 : Nat) (l1 : List Int) (w : World) (hr1 : Kd.C (Kd.int .i64) w A1 l1.length l1) (hc1 : l1.length ≤ c1) :
    Calls Try.prog 5 #[.int .i64 a0, .slice A1 l1.length c1] w fun e w' => e = .returned (.bool true) ∧ Below w.heap.size w w' := by
  have HR := Aside0.mk hr1
  have HC := Aside0.mk hc1
  clear hr1 hc1
  obtain ⟨r, hr⟩ : ∃ r, r = a0 % 50 := ⟨_, rfl⟩
  obtain ⟨d, hd⟩ : ∃ d, d = 2 + r := ⟨_, rfl⟩
  have hd0 : 2 ≤ d := by omega
  have hd1 : d ≤ 51 := by omega
  have hwd : wrap64 (2 + r) = d := by rw [w64 (by omega) (by omega)]; exact hd.symm
  have HD := Aside0.mk (show 2 ≤ d ∧ d ≤ 51 from ⟨hd0, hd1⟩)
  have HRr := Aside0.mk hr
  clear hd0 hd1 hd hr
  go_enter Try.func5, Try.ntmps5
  go_wp2_with fail
  refine (known_calls _).mono ?_
  rintro e w1 ⟨rfl, hb⟩
  have HB := Aside0.mk hb
  clear hb
  go_wp2_with fail
  refine (within_calls _ 50 _ (by omega) (by omega)).mono ?_
  rintro e w' ⟨he, rfl⟩
  rw [← HRr.out] at he
  subst he
  go_wp2_with fail
  rw [hwd]
  go_loopg [5, 6] 13 (fun kq v5 v6 w' => ∃ (i c : Nat) (A : Option Addr), v5 = .slice A i c ∧ v6 = .int .i64 ((i : Int) + 1) ∧ Aside0 (i ≤ 12 ∧ kq + i = 13) ∧ Aside0 (Win w' w.heap.size A i c (winF d i)) ∧ Aside0 (Below w.heap.size w w'))
  case atStart => exact ⟨0, 0, none, rfl, rfl, ⟨⟨by omega, rfl⟩⟩, ⟨⟨Kd.Q_nil _ _ _ _ _, by simp [winF]⟩⟩, HB⟩
  case round =>
    clear HB
    obtain ⟨i, c, A, rfl, rfl, HI, HW, HB⟩ := hrel
    cases gk with
    | zero => exact absurd HI.out (by omega)
    | succ k1 =>
    by_cases c1 : i < 12
    · have c1b : decide ((i : Int) + 1 ≤ 12) = true := decide_eq_true (by omega)
      have hm := mul_mono (a := 1) (b := (i : Int) + 1) (d := d) (by have := HD.out; omega) (by omega)
      have hm2 := mul_mono (a := (i : Int) + 1) (b := 12) (d := d) (by have := HD.out; omega) (by omega)
      obtain ⟨m, hmm⟩ : ∃ m, m = ((i : Int) + 1) * d := ⟨_, rfl⟩
      rw [← hmm] at hm hm2
      have hw1 : wrap64 (((i : Int) + 1) * d) = m := by rw [← hmm]; exact w64 (by omega) (by have := HD.out; omega)
      have hw2 : wrap64 (100 + m) = 100 + m := w64 (by omega) (by have := HD.out; omega)
      have hw3 : wrap64 ((i : Int) + 1 + 1) = (i : Int) + 1 + 1 := w64 (by omega) (by omega)
      have HM := Aside0.mk hmm
      clear hmm hm hm2
      go_wp2_with fail
      refine (noteq_calls (winF d i) (100 + m) (nA ((i : Int) + 1)) _ _ _ _ _ HW.out).mono ?_
      rintro e w2 ⟨A2, c2, rfl, hq, hb⟩
      have hn := winF_note d i (by have := HD.out; omega) c1
      rw [← HM.out] at hn
      rw [hn] at hq
      rw [hn, winF_len]
      have HQ := Aside0.mk hq
      have HB2 := Aside0.mk hb
      clear hn hq hb
      go_wp2
      go_roundg k1
      case measure => have := HI.out; omega
      case rel => exact ⟨i + 1, c2, A2, rfl, by first | rfl | simp, ⟨⟨by omega, by have := HI.out; omega⟩⟩, ⟨⟨Kd.Q_lower (by have := HQ.out; rw [winF_len] at this; exact this) (below_size HB.out), by rw [winF_len]; omega⟩⟩, ⟨below_step HB.out HB2.out⟩⟩
    · have hi : i = 12 := by have := HI.out; omega
      subst hi
      have c1b : decide (((12 : Nat) : Int) + 1 ≤ 12) = false := rfl
      have hw1 : wrap64 (100 + d) = 100 + d := w64 (by have := HD.out; omega) (by have := HD.out; omega)
      have hw2 : wrap64 (100 + d - 1) = 100 + d - 1 := w64 (by have := HD.out; omega) (by have := HD.out; omega)
      have hw3 : wrap64 (100 + d + 1) = 100 + d + 1 := w64 (by have := HD.out; omega) (by have := HD.out; omega)
      go_wp2_with fail
      refine (ask_calls _ _ _ _ _ _ _ HW.out).mono ?_
      rintro e w2 ⟨rfl, hb⟩
      rw [askF_low d HD.out.1]
      have HW2 := Aside0.mk (HW.out.below hb)
      have HB2 := Aside0.mk (below_step HB.out hb)
      clear HW HB hb
      obtain ⟨w3, hst, hbx, hb3⟩ := boxA w2 zA
      have HW3 := Aside0.mk (HW2.out.below hb3)
      have HB3 := Aside0.mk (below_step HB2.out hb3)
      clear HW2 HB2 hbx hb3
      go_wp2_with fail
      refine (ask_calls _ _ _ _ _ _ _ HW3.out).mono ?_
      rintro e w4 ⟨rfl, hb⟩
      rw [askF_mid d HD.out.1]
      have HW4 := Aside0.mk (HW3.out.below hb)
      have HB4 := Aside0.mk (below_step HB3.out hb)
      clear HW3 HB3 hb hst
      obtain ⟨w5, hst, hbx, hb3⟩ := boxA w4 zA
      have HW5 := Aside0.mk (HW4.out.below hb3)
      have HB5 := Aside0.mk (below_step HB4.out hb3)
      clear HW4 HB4 hbx hb3
      go_wp2_with fail
      refine (ask_calls _ _ _ _ _ _ _ HW5.out).mono ?_
      rintro e w6 ⟨rfl, hb⟩
      rw [askF_one d HD.out.1]
      have HW6 := Aside0.mk (HW5.out.below hb)
      have HB6 := Aside0.mk (below_step HB5.out hb)
      clear HW5 HB5 hb hst
      obtain ⟨w7, hst, hbx, hb3⟩ := boxA w6 (nA 1)
      have HW7 := Aside0.mk (HW6.out.below hb3)
      have HB7 := Aside0.mk (below_step HB6.out hb3)
      have hc7 : w7.cell? ⟨w6.heap.size, 3, none⟩ = some (.int .i64 1) := by rw [cell_of_row w7 _ _ _ _ (0, 0) hbx]; rfl
      clear HW6 HB6 hbx hb3
      go_wp2_with fail
      refine (noteq_calls (winF d 12) (100 + d + 1) (nA 77) _ _ _ _ _ HW7.out).mono ?_
      rintro e w8 ⟨A8, c8, rfl, hq, hb⟩
      obtain ⟨hab, hask⟩ := note_mid d HD.out.1 HD.out.2
      obtain ⟨xs, hxs⟩ : ∃ xs, xs = noteSpec (winF d 12) (100 + d + 1) (nA 77) := ⟨_, rfl⟩
      rw [← hxs] at hab hask hq ⊢
      rw [hab.1] at hq ⊢
      have HW8 := Aside0.mk (show Win w8 w.heap.size A8 12 c8 xs from ⟨Kd.Q_lower hq (below_size HB7.out), by rw [hab.1]; omega⟩)
      have HB8 := Aside0.mk (below_step HB7.out hb)
      have HAB := Aside0.mk hab
      have HAS := Aside0.mk hask
      clear HW7 HB7 hb hst hc7 hq hab hask hxs
      go_wp2_with fail
      refine (ask_calls _ _ _ _ _ _ _ HW8.out).mono ?_
      rintro e w9 ⟨rfl, hb⟩
      rw [above_stale HAB.out]
      have HW9 := Aside0.mk (HW8.out.below hb)
      have HB9 := Aside0.mk (below_step HB8.out hb)
      clear HW8 HB8 hb
      go_wp2_with fail
      refine (ask_calls _ _ _ _ _ _ _ HW9.out).mono ?_
      rintro e w10 ⟨rfl, hb⟩
      rw [HAS.out]
      have HW10 := Aside0.mk (HW9.out.below hb)
      have HB10 := Aside0.mk (below_step HB9.out hb)
      clear HW9 HB9 hb
      obtain ⟨w11, hst, hbx, hb3⟩ := boxA w10 (nA 77)
      have HW11 := Aside0.mk (HW10.out.below hb3)
      have HB11 := Aside0.mk (below_step HB10.out hb3)
      have hc11 : w11.cell? ⟨w10.heap.size, 3, none⟩ = some (.int .i64 77) := by rw [cell_of_row w11 _ _ _ _ (0, 0) hbx]; rfl
      clear HW10 HB10 hbx hb3
      go_wp2_with fail
      clear hst hc11
      go_loopg [5, 15] 21 (fun kq v5 v15 w' => ∃ (i : Int) (c : Nat) (A : Option Addr) (ys : List SE), v5 = .slice A 12 c ∧ v15 = .int .i64 i ∧ Aside0 (0 ≤ i ∧ i ≤ 20 ∧ i ≤ (l1.length : Int) ∧ (kq : Int) + i = 21) ∧ Aside0 (Above d (200000 + i) ys) ∧ Aside0 (Win w' w.heap.size A 12 c ys) ∧ Aside0 (Below w.heap.size w w'))
      case atStart => exact ⟨0, _, _, xs, rfl, rfl, ⟨⟨by decide, by decide, by omega, rfl⟩⟩, HAB, HW11, HB11⟩
      case round =>
        clear HB11 HW11 HAB HAS
        obtain ⟨i, c, A, ys, rfl, rfl, HI, HAB, HW, HB⟩ := hrel
        cases gk with
        | zero => exact absurd HI.out (by omega)
        | succ k1 =>
        rcases three_ways i (l1.length : Int) with ⟨h1, h2⟩ | ⟨h1, h2⟩ | h1
        · have c1b : decide (i < (l1.length : Int)) = true := decide_eq_true h1
          have c2b : decide (i < 20) = true := decide_eq_true h2
          have p : 0 ≤ i := HI.out.1
          obtain ⟨ad, e, hx⟩ := Kd.at_int HR.out i p h1
          cases e
          have HX := Aside0.mk hx
          clear hx
          have hx1 := (HB.out.cell (World.block_lt_of_cell? w _ HX.out)).trans HX.out
          have g1 : 100 + d < 200000 + i := by have := HD.out; omega
          have m1 : 0 ≤ i + 1 ∧ i + 1 ≤ 20 ∧ i + 1 ≤ (l1.length : Int) ∧ (k1 : Int) + (i + 1) = 21 := by have := HI.out; omega
          have M1 := Aside0.mk m1
          have m2 : k1 < k1 + 1 := by omega
          have e2 : 200000 + i + 1 = 200000 + (i + 1) := by omega
          have E2 := Aside0.mk e2
          have G1 := Aside0.mk g1
          clear m1 e2 g1
          have hw4 := w64a i p h2
          have hw5 := w64b i p h2
          go_wp2_with fail
          obtain ⟨hab, hask⟩ := above_note (id := 200000 + i) (nA (rd l1 i)) HAB.out (Int.le_refl _) G1.out
          refine (noteq_calls ys (200000 + i) (nA (rd l1 i)) _ _ _ _ _ HW.out).mono ?_
          rintro e w2 ⟨A2, c2, rfl, hq, hb⟩
          obtain ⟨xs, hxs⟩ : ∃ xs, xs = noteSpec ys (200000 + i) (nA (rd l1 i)) := ⟨_, rfl⟩
          rw [← hxs] at hab hask hq ⊢
          rw [hab.1] at hq ⊢
          have HW2 := Aside0.mk (show Win w2 w.heap.size A2 12 c2 xs from ⟨Kd.Q_lower hq (below_size HB.out), by rw [hab.1]; decide⟩)
          have HB2 := Aside0.mk (below_step HB.out hb)
          have HAB2 := Aside0.mk hab
          have HAS2 := Aside0.mk hask
          clear HW HB hb hq hab hask hxs HAB hx1
          go_wp2_with fail
          refine (ask_calls _ _ _ _ _ _ _ HW2.out).mono ?_
          rintro e w3 ⟨rfl, hb⟩
          rw [HAS2.out]
          have HW3 := Aside0.mk (HW2.out.below hb)
          have HB3 := Aside0.mk (below_step HB2.out hb)
          clear HW2 HB2 hb
          obtain ⟨w4, hst, hbx, hb3⟩ := boxA w3 (nA (rd l1 i))
          have HW4 := Aside0.mk (HW3.out.below hb3)
          have HB4 := Aside0.mk (below_step HB3.out hb3)
          have BX := Aside0.mk hbx
          clear HW3 HB3 hbx hb3
          go_wp2_with fail
          refine (ask_calls _ _ _ _ _ _ _ HW4.out).mono ?_
          rintro e w5 ⟨rfl, hb⟩
          rw [above_stale HAB2.out]
          have HW5 := Aside0.mk (HW4.out.below hb)
          have HB5 := Aside0.mk (below_step HB4.out hb)
          have hbx5 := blk_below BX.out hb
          have hc5 : w5.cell? ⟨w3.heap.size, 3, none⟩ = some (.int .i64 (rd l1 i)) := by rw [cell_of_row w5 _ _ _ _ (0, 0) hbx5]; rfl
          have hx1 := (HB5.out.cell (World.block_lt_of_cell? w _ HX.out)).trans HX.out
          clear HW4 HB4 hb hst hbx5
          have hne : (rd l1 i != rd l1 i) = false := bne_self_eq_false _
          go_wp2_with fail
          go_quiet (fail)
          go_wp2
          go_roundg k1
          case measure => exact m2
          case rel => exact ⟨i + 1, c2, A2, xs, rfl, rfl, M1, ⟨by have := HAB2.out; rw [E2.out] at this; exact this⟩, ⟨HW5.out.below (pw_below_drewN (Below.refl _ _) _)⟩, ⟨pw_below_drewN HB5.out _⟩⟩
        · have c1b : decide (i < (l1.length : Int)) = true := decide_eq_true h1
          have c2b : decide (i < 20) = false := decide_eq_false h2
          go_wp2
          go_ret
          exact ⟨rfl, HB.out⟩
        · have c1b : decide (i < (l1.length : Int)) = false := decide_eq_false h1
          go_wp2
          go_ret
          exact ⟨rfl, HB.out⟩
theorem full_walk (a0 : Int) (a1 : Option Addr) (len1 cap1 : Nat) (z1 : List Int) (w : World) (w0 : (Lit.int .i64 a0).wf = true) (w1 : (a1 = none ∧ len1 = 0 ∧ cap1 = 0 ∧ z1 = []) ∨ ∃ x, a1 = some x ∧ len1 ≤ cap1 ∧ cap1 ≤ maxLen ∧ z1.length = cap1 ∧ (∀ i, i < z1.length → w.cell? (x.add i) = some (.int .i64 (z1.getD i 0))) ∧ ∀ n ∈ z1, (Lit.int .i64 n).wf = true) (y1 : len1 * 8 ≤ 140737488351232) :
    Calls Try.prog 5 #[.int .i64 a0, .slice a1 len1 cap1] w fun e w' => e = .returned (.bool true) ∧ Below w.heap.size w w' := by
  obtain ⟨l1, rfl, hr1, hm1, hw1, hc1⟩ := ReadsInt.ofRowC w1
  exact full_calls a0 a1 cap1 l1 w (Kd.C_of_reads (d := (0 : Int)) (h1 := fun _ => rfl) hr1) hc1
end Go.Proofs.Ytndgpncdnbbneaa.Lk
