/- The windows of WindowErrors, as lists; its walk. -/
import Derived.Test.YtndgpncdnbbneaaWinCalls
import Derived.Test.YtndgpncdnbbneaaXa1
set_option linter.unusedVariables false
set_option linter.unusedSimpArgs false
namespace Go.Proofs.Ytndgpncdnbbneaa.Lk
open Go.RowKit Go.Proofs.Ytndgpncdnbbneaa.Xa Go.Proofs.YtndgpncdnbbneaaW.PrintWords Go.Proofs.YtndgpncdnbbneaaW.PrintLast Go.Proofs.Ytndgpncdnbbneaa.Own

def eA (v : Int) : SA := ⟨v, 0, 0, 0, z30⟩
def eE (l : List Int) (j : Nat) : SE := ⟨(j : Int) + 1, eA (rd l (j : Int) % 25)⟩
def winE (l : List Int) (i : Nat) : List SE := (List.range i).map (eE l)
theorem winE_succ (l : List Int) (i : Nat) : winE l (i + 1) = winE l i ++ [eE l i] := by simp [winE, List.range_succ]
theorem winE_len (l : List Int) (i : Nat) : (winE l i).length = i := by simp [winE]
theorem winE_mem {l : List Int} {i : Nat} {y : SE} (h : y ∈ winE l i) : ∃ j, j < i ∧ y = eE l j := by
  simp only [winE, List.mem_map, List.mem_range] at h
  obtain ⟨j, h1, h2⟩ := h
  exact ⟨j, h1, h2.symm⟩
theorem winE_ask (l : List Int) (t : Nat) : ∀ i, t < i → askIn ((t : Int) + 1) (winE l i) = some (eE l t).f1
  | 0, h => absurd h (by omega)
  | i + 1, h => by
    rw [winE_succ, askIn_append]
    by_cases h1 : t < i
    · rw [winE_ask l t i h1]
      rfl
    · have h2 : t = i := by omega
      subst h2
      rw [askIn_none (fun y hy => by
        obtain ⟨j, hj, rfl⟩ := winE_mem hy
        show (j : Int) + 1 ≠ _
        omega)]
      simp [askIn, eE]
theorem winE_note (l : List Int) (i : Nat) (h : i < 12) : noteSpec (winE l i) ((i : Int) + 1) (eA (rd l (i : Int) % 25)) = winE l (i + 1) := by
  rw [note_end _ (fun y hy => by
    obtain ⟨m, hm, rfl⟩ := winE_mem hy
    show (m : Int) + 1 < _
    omega), winE_len, show i + 1 - 12 = 0 by omega, List.drop_zero]
  exact (winE_succ l i).symm
theorem askE_hit (l : List Int) (i t : Nat) (h : t < i) : askSpec (winE l i) ((t : Int) + 1) = (1, eA (rd l (t : Int) % 25)) := by unfold askSpec; rw [winE_ask l t i h]; rfl
theorem askE_none (x : Int) : askSpec (winE [] 0) x = (0, zA) := rfl
theorem ways12 (i n : Int) : (i < n ∧ i < 12) ∨ (i < n ∧ ¬ i < 12) ∨ ¬ i < n := by omega
theorem w64c (i : Int) (h0 : 0 ≤ i) (h : i < 12) : wrap64 (i + 1) = i + 1 := w64 (by omega) (by omega)
theorem within_v (a n v : Int) (w : World) (h0 : 0 < n) (h1 : n ≤ 2147483648) (h : a % n = v) : Calls Try.prog 7 #[.int .i64 a, .int .i64 n] w fun e w' => e = .returned (.int .i64 v) ∧ w = w' := by
  subst h
  exact within_calls a n w h0 h1
attribute [local go_sem high] eqA30 eqA32
theorem boxA (W : World) (a : SA) : ∃ W', (storeCells ⟨W.heap.size, 0, none⟩ (cellsA a).toList).run Try.prog (W.alloc (.cells #[.int .i64 0, .int .i64 0, .int .i64 0, .int .i64 0, .string ⟨#[]⟩, .int .i64 0, .int .i64 0, .int .i64 0, .int .i64 0, .int .i64 0, .int .i64 0, .int .i64 0, .int .i64 0] 32)) = .ok () W' ∧ W'.heap[W.heap.size]? = some (.cells (cellsA a) 32 (0, 0)) ∧ Below W.heap.size W W' :=
  box_store (P := Try.prog) W [.int .i64 0, .int .i64 0, .int .i64 0, .int .i64 0, .string ⟨#[]⟩, .int .i64 0, .int .i64 0, .int .i64 0, .int .i64 0, .int .i64 0, .int .i64 0, .int .i64 0, .int .i64 0] (cellsA a).toList 32 rfl (fun v hv => by simp only [cellsA, List.mem_cons, List.not_mem_nil, or_false] at hv; rcases hv with rfl | rfl | rfl | rfl | rfl | rfl | rfl | rfl | rfl | rfl | rfl | rfl | rfl <;> rfl)
set_option maxHeartbeats 8000000 in
set_option maxRecDepth 100000 in
theorem errs_calls (A0 : Option Addr) (c0 : Nat) (l0 : List Int) (a1 : Int) (w : World) (hr0 : Kd.C (Kd.int .i64) w A0 l0.length l0) (hc0 : l0.length ≤ c0) :
    Calls Try.prog 4 #[.slice A0 l0.length c0, .int .i64 a1] w fun e w' => e = .returned (.bool true) ∧ Below w.heap.size w w' := by
  have HR := Aside0.mk hr0
  have HC := Aside0.mk hc0
  clear hr0 hc0
  go_enter Try.func4, Try.ntmps4
  go_wp2_with fail
  refine (known_calls _).mono ?_
  rintro e w1 ⟨rfl, hb⟩
  have HB := Aside0.mk hb
  clear hb
  go_wp2_with fail
  go_loopg [5, 6] 13 (fun kq v5 v6 w' => ∃ (n : Nat) (i : Int) (c : Nat) (A : Option Addr), v5 = .slice A n c ∧ v6 = .int .i64 i ∧ Aside0 (i = (n : Int) ∧ n ≤ 12 ∧ n ≤ l0.length ∧ kq + n = 13) ∧ Aside0 (Win w' w.heap.size A n c (winE l0 n)) ∧ Aside0 (Below w.heap.size w w'))
  case atStart => exact ⟨0, 0, 0, none, rfl, rfl, ⟨⟨rfl, by omega, by omega, rfl⟩⟩, ⟨⟨Kd.Q_nil _ _ _ _ _, by simp [winE]⟩⟩, HB⟩
  case round =>
    clear HB
    obtain ⟨n, i, c, A, rfl, rfl, HI, HW, HB⟩ := hrel
    cases gk with
    | zero => exact absurd HI.out (by omega)
    | succ k1 =>
    have p : 0 ≤ i := by have := HI.out; omega
    rcases ways12 i (l0.length : Int) with ⟨h1, h2⟩ | hx
    · have c1b : decide (i < (l0.length : Int)) = true := decide_eq_true h1
      have c2b : decide (i < 12) = true := decide_eq_true h2
      obtain ⟨ad, e, hx⟩ := Kd.at_int HR.out i p h1
      cases e
      have hx1 := (HB.out.cell (World.block_lt_of_cell? w _ hx)).trans hx
      have HM := Aside0.mk (show n < 12 ∧ n + 1 ≤ 12 ∧ n + 1 ≤ l0.length ∧ k1 + (n + 1) = 13 ∧ i + 1 = ((n + 1 : Nat) : Int) by have := HI.out; omega)
      have hw5 := w64c i p h2
      have m2 : k1 < k1 + 1 := Nat.lt_succ_self _
      go_wp2_with fail
      refine (within_calls _ 25 _ (by decide) (by decide)).mono ?_
      rintro e w' ⟨he, rfl⟩
      obtain ⟨v, hv⟩ : ∃ v, v = rd l0 i % 25 := ⟨_, rfl⟩
      rw [← hv] at he
      subst he
      have HV := Aside0.mk hv
      clear hx1 hv
      go_wp2_with fail
      refine (noteq_calls (winE l0 n) (i + 1) (eA v) _ _ _ _ _ HW.out).mono ?_
      rintro e w2 ⟨A2, c2, rfl, hq, hb⟩
      have hn := winE_note l0 n HM.out.1
      rw [← HI.out.1, ← HV.out] at hn
      rw [hn] at hq
      rw [hn, winE_len]
      rw [winE_len] at hq
      have HW2 := Aside0.mk (show Win w2 w.heap.size A2 (n + 1) c2 (winE l0 (n + 1)) from ⟨Kd.Q_lower hq (below_size HB.out), by rw [winE_len]; have := HM.out; omega⟩)
      have HB2 := Aside0.mk (below_step HB.out hb)
      clear hn hq hb
      go_wp2
      go_roundg k1
      case measure => exact m2
      case rel => exact ⟨n + 1, i + 1, c2, A2, rfl, rfl, ⟨⟨HM.out.2.2.2.2, HM.out.2.1, HM.out.2.2.1, HM.out.2.2.2.1⟩⟩, HW2, HB2⟩
    · have hout : (i < (l0.length : Int) ∧ ¬ i < 12) ∨ ¬ i < (l0.length : Int) := hx
      by_cases h0 : n = 0
      · subst h0
        have h1 : ¬ i < (l0.length : Int) := by have := HI.out; omega
        have c1b : decide (i < (l0.length : Int)) = false := decide_eq_false h1
        clear hout hx
        go_wp2_with fail
        refine (ask_calls _ _ _ _ _ _ _ HW.out).mono ?_
        rintro e w2 ⟨rfl, hb⟩
        rw [show askSpec (winE l0 0) 5 = (0, zA) from rfl]
        obtain ⟨w3, hst, hbx, hb3⟩ := boxA w2 zA
        have HB3 := Aside0.mk (below_step (below_step HB.out hb) hb3)
        clear hb hbx hb3
        go_wp2
        go_ret
        exact ⟨rfl, HB3.out⟩
      · have hn0 : ((n : Int) == 0) = false := beq_eq_false_iff_ne.mpr (by omega)
        obtain ⟨t, ht⟩ : ∃ t, t = a1 % (n : Int) := ⟨_, rfl⟩
        have ht0 : 0 ≤ t := by rw [ht]; exact Int.emod_nonneg a1 (by omega)
        have ht1 : t < (n : Int) := by rw [ht]; exact Int.emod_lt_of_pos a1 (by omega)
        have ht2 : t < (l0.length : Int) := by have := HI.out; omega
        have ht3 : t < 12 := by have := HI.out; omega
        have hn1 : (0 : Int) < (n : Int) ∧ (n : Int) ≤ 2147483648 := by have := HI.out; omega
        obtain ⟨T, hT⟩ := Int.eq_ofNat_of_zero_le ht0
        have hTn : T < n := by omega
        obtain ⟨v, hv⟩ : ∃ v, v = rd l0 t % 25 := ⟨_, rfl⟩
        have hask : askSpec (winE l0 n) (t + 1) = (1, eA v) := by rw [hv, hT]; exact askE_hit l0 n T hTn
        have hw5 := w64c t ht0 ht3
        have HT := Aside0.mk ht
        have HN1 := Aside0.mk hn1
        have HV := Aside0.mk hv
        have HAS := Aside0.mk hask
        clear ht hT hTn hv hask ht1 ht3 hn1
        rcases hout with ⟨h1, h2⟩ | h1
        have c1b : decide (i < (l0.length : Int)) = true := decide_eq_true h1
        have c2b : decide (i < 12) = false := decide_eq_false h2
        go_wp2_with fail
        rotate_left
        have c1b : decide (i < (l0.length : Int)) = false := decide_eq_false (by omega)
        go_wp2_with fail
        all_goals
          refine (within_v _ _ t _ HN1.out.1 HN1.out.2 HT.out.symm).mono ?_
          rintro e w' ⟨rfl, rfl⟩
          go_wp2_with fail
          refine (ask_calls _ _ _ _ _ _ _ HW.out).mono ?_
          rintro e w2 ⟨rfl, hb⟩
          rw [HAS.out]
          obtain ⟨w3, hst, hbx, hb3⟩ := boxA w2 (eA v)
          have HB3 := Aside0.mk (below_step (below_step HB.out hb) hb3)
          clear hb hb3
          obtain ⟨ad, e, hx⟩ := Kd.at_int HR.out t ht0 ht2
          cases e
          have hx1 := (HB3.out.cell (World.block_lt_of_cell? w _ hx)).trans hx
          have hu32 := Try.underlying32
          have hb0 : w3.cell? ⟨w2.heap.size, 0, none⟩ = some (.int .i64 v) := by rw [cell_of_row w3 _ _ _ _ (0, 0) hbx]; rfl
          have hb1 : w3.cell? ⟨w2.heap.size, 1, none⟩ = some (.int .i64 0) := by rw [cell_of_row w3 _ _ _ _ (0, 0) hbx]; rfl
          have hb2 : w3.cell? ⟨w2.heap.size, 2, none⟩ = some (.int .i64 0) := by rw [cell_of_row w3 _ _ _ _ (0, 0) hbx]; rfl
          have hb3 : w3.cell? ⟨w2.heap.size, 3, none⟩ = some (.int .i64 0) := by rw [cell_of_row w3 _ _ _ _ (0, 0) hbx]; rfl
          have hb4 : w3.cell? ⟨w2.heap.size, 4, none⟩ = some (.string ⟨#[]⟩) := by rw [cell_of_row w3 _ _ _ _ (0, 0) hbx]; rfl
          have hb5 : w3.cell? ⟨w2.heap.size, 5, none⟩ = some (.int .i64 0) := by rw [cell_of_row w3 _ _ _ _ (0, 0) hbx]; rfl
          have hb6 : w3.cell? ⟨w2.heap.size, 6, none⟩ = some (.int .i64 0) := by rw [cell_of_row w3 _ _ _ _ (0, 0) hbx]; rfl
          have hb7 : w3.cell? ⟨w2.heap.size, 7, none⟩ = some (.int .i64 0) := by rw [cell_of_row w3 _ _ _ _ (0, 0) hbx]; rfl
          have hb8 : w3.cell? ⟨w2.heap.size, 8, none⟩ = some (.int .i64 0) := by rw [cell_of_row w3 _ _ _ _ (0, 0) hbx]; rfl
          have hb9 : w3.cell? ⟨w2.heap.size, 9, none⟩ = some (.int .i64 0) := by rw [cell_of_row w3 _ _ _ _ (0, 0) hbx]; rfl
          have hb10 : w3.cell? ⟨w2.heap.size, 10, none⟩ = some (.int .i64 0) := by rw [cell_of_row w3 _ _ _ _ (0, 0) hbx]; rfl
          have hb11 : w3.cell? ⟨w2.heap.size, 11, none⟩ = some (.int .i64 0) := by rw [cell_of_row w3 _ _ _ _ (0, 0) hbx]; rfl
          have hb12 : w3.cell? ⟨w2.heap.size, 12, none⟩ = some (.int .i64 0) := by rw [cell_of_row w3 _ _ _ _ (0, 0) hbx]; rfl
          have hvv : (v == v) = true := beq_self_eq_true v
          have BX := Aside0.mk hbx
          clear hbx hx
          go_wp2_with fail
          go_quiet ((go_at_call 7; (with_reducible refine (within_v (rd l0 t) 25 v _ (by decide) (by decide) HV.out.symm).mono ?_); rintro e w' ⟨rfl, rfl⟩; exact ⟨rfl, _, rfl⟩))
          go_wp2
          go_ret
          exact ⟨rfl, pw_below_drewN HB3.out _⟩
theorem errs_walk (a0 : Option Addr) (len0 cap0 : Nat) (z0 : List Int) (a1 : Int) (w : World) (w0 : (a0 = none ∧ len0 = 0 ∧ cap0 = 0 ∧ z0 = []) ∨ ∃ x, a0 = some x ∧ len0 ≤ cap0 ∧ cap0 ≤ maxLen ∧ z0.length = cap0 ∧ (∀ i, i < z0.length → w.cell? (x.add i) = some (.int .i64 (z0.getD i 0))) ∧ ∀ n ∈ z0, (Lit.int .i64 n).wf = true) (y0 : len0 * 8 ≤ 140737488351232) (w1 : (Lit.int .i64 a1).wf = true) :
    Calls Try.prog 4 #[.slice a0 len0 cap0, .int .i64 a1] w fun e w' => e = .returned (.bool true) ∧ Below w.heap.size w w' := by
  obtain ⟨l0, rfl, hr0, hm0, hw0, hc0⟩ := ReadsInt.ofRowC w0
  exact errs_calls a0 cap0 l0 a1 w (Kd.C_of_reads (d := (0 : Int)) (h1 := fun _ => rfl) hr0) hc0
end Go.Proofs.Ytndgpncdnbbneaa.Lk
