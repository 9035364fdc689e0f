/- LotsEnds, in plain lists: what was taken of a lot and not used ends with the lot. -/
import Derived.Test.YtjoimapgmocoeaaLotLeft
import Derived.Test.YtjoimapgmocoeaaPureLotsNone
import Derived.Test.YtjoimapgmocoeaaXa28
set_option linter.unusedVariables false
set_option linter.unusedSimpArgs false
namespace Go.Proofs.Ytjoimapgmocoeaa.Lk
open Go.RowKit Go.Proofs.YtjoimapgmocoeaaW.PrintWords Go.Proofs.YtjoimapgmocoeaaW.PrintLast Go.Proofs.YtjoimapgmocoeaaW.PrintMore Go.Proofs.Ytjoimapgmocoeaa.Xa
theorem ends_take (n u : Int) (h1 : 1 ≤ n) (h2 : n ≤ 1000) (h3 : 10 ≤ u) : takeW [⟨4, 0, 0, u, n + 5, 0, 0, 0, 0⟩] n 1 = ([⟨4, 0, 0, u, n + 5, 0, n, 0, 0⟩], [⟨4, n⟩], 0) := by
  have hr : restW ⟨4, 0, 0, u, n + 5, 0, 0, 0, 0⟩ = n + 5 := by
    unfold restW
    simp only []
    rw [w64 (x := n + 5 - 0) (by omega) (by omega), w64 (x := n + 5 - 0 - 0) (by omega) (by omega), w64 (x := n + 5 - 0 - 0 - 0) (by omega) (by omega), w64 (by omega) (by omega)]
    omega
  have ho : orderL [⟨4, 0, 0, u, n + 5, 0, 0, 0, 0⟩] 1 = [0] := by
    have hc : candL 1 0 [(⟨4, 0, 0, u, n + 5, 0, 0, 0, 0⟩ : SL)] = [0] := by
      simp only [candL, hr]
      rw [if_pos (by simp [validB]; omega)]
      rfl
    unfold orderL
    rw [hc]
    rfl
  unfold takeW
  rw [ho]
  simp only [takeGo, Int.toNat_zero, List.getD_cons_zero, hr, List.set_cons_zero, List.nil_append]
  rw [show min n (n + 5) = n by omega, if_neg (by omega), w64 (x := 0 + n) (by omega) (by omega), w64 (x := n - n) (by omega) (by omega), show (0 : Int) + n = n by omega, show n - n = 0 by omega]
theorem ends_use (n u k now : Int) (h1 : 1 ≤ n) (h2 : n ≤ 1000) (h4 : 0 ≤ k) (h5 : k ≤ n) : useW [⟨4, 0, 0, u, n + 5, 0, n, 0, 0⟩] k now [⟨4, n⟩] = ([⟨4, 0, 0, u, n + 5, k, 0, if u ≤ now then n - k else 0, 0⟩], 0) := by
  simp only [useW, atL, if_pos, List.getD_cons_zero, List.set_cons_zero, useOne]
  rw [show min k n = k by omega, w64 (x := n - n) (by omega) (by omega), w64 (x := 0 + k) (by omega) (by omega), w64 (x := n - k) (by omega) (by omega), w64 (x := 0 + (n - k)) (by omega) (by omega), w64 (x := k - k) (by omega) (by omega), show n - n = 0 by omega, show 0 + k = k by omega, show 0 + (n - k) = n - k by omega, show k - k = 0 by omega]
theorem LotsEnds_pure (a0 a1 a2 a3 : Int) : Ev (fun k => tolllaw10_LotsEnds.f k a0 a1 a2 a3) true := by
  have b0 := Int.emod_nonneg a0 (show (1000 : Int) ≠ 0 by decide)
  have c0 := Int.emod_lt_of_pos a0 (show (0 : Int) < 1000 by decide)
  have b2 := Int.emod_nonneg a2 (show (20 : Int) ≠ 0 by decide)
  have c2 := Int.emod_lt_of_pos a2 (show (0 : Int) < 20 by decide)
  have b3 := Int.emod_nonneg a3 (show (30 : Int) ≠ 0 by decide)
  have c3 := Int.emod_lt_of_pos a3 (show (0 : Int) < 30 by decide)
  obtain ⟨n, hn⟩ : ∃ n, n = 1 + a0 % 1000 := ⟨_, rfl⟩
  obtain ⟨u, hu⟩ : ∃ u, u = 10 + a2 % 20 := ⟨_, rfl⟩
  obtain ⟨now, hnow⟩ : ∃ u, u = 10 + a3 % 30 := ⟨_, rfl⟩
  have b1 := Int.emod_nonneg a1 (show n + 1 ≠ 0 by omega)
  have c1 := Int.emod_lt_of_pos a1 (show (0 : Int) < n + 1 by omega)
  obtain ⟨k, hk⟩ : ∃ k, k = a1 % (n + 1) := ⟨_, rfl⟩
  rw [← hk] at b1 c1
  unfold tolllaw10_LotsEnds.f
  refine Ev.bindc known_f (Ev.ite_pos rfl (Ev.bindc (within_f _ _ (by decide) (by decide)) ?_))
  rw [w64 (x := 1 + a0 % 1000) (by omega) (by omega), ← hn, w64 (x := n + 1) (by omega) (by omega), w64 (x := n + 5) (by omega) (by omega)]
  refine Ev.bindc (within_f _ _ (by omega) (by omega)) (Ev.bindc (within_f _ _ (by decide) (by decide)) (Ev.bindc (within_f _ _ (by decide) (by decide)) ?_))
  rw [w64 (x := 10 + a2 % 20) (by omega) (by omega), ← hu, w64 (x := 10 + a3 % 30) (by omega) (by omega), ← hnow, ← hk]
  refine Ev.bindc (take_f _ _ _ (by simp)) ?_
  rw [ends_take n u (by omega) (by omega) (by omega)]
  refine Ev.bindc (use_f _ _ _ _ (by simp) (by simp)) ?_
  rw [ends_use n u k now (by omega) (by omega) (by omega) (by omega)]
  obtain ⟨z, hz⟩ : ∃ z : SL, z = ⟨4, 0, 0, u, n + 5, k, 0, if u ≤ now then n - k else 0, 0⟩ := ⟨_, rfl⟩
  have hrd : rd_T33 [z] 0 = z := by simp [rd_T33]
  rw [← hz]
  refine Ev.ite_pos rfl (Ev.ite_pos rfl (Ev.ite_pos (by simp) ?_))
  rw [hrd]
  refine Ev.ite_pos (by rw [hz]) ?_
  rw [show (z.f6 != 0) = false by rw [hz]; rfl]
  refine Ev.step (fun k => by simp only [tolllaw10_LotsEnds.j0]; rfl) ?_
  refine Ev.ite_neg (by decide) ?_
  rw [w64 (x := n - k) (by omega) (by omega), w64 (x := n - k + 5) (by omega) (by omega), hrd]
  by_cases hu2 : u ≤ now
  · have h7 : z.f7 = n - k := by rw [hz]; simp [hu2]
    have hr : restW z = 5 := by
      rw [hz, if_pos hu2]
      unfold restW
      simp only []
      rw [w64 (x := n + 5 - k) (by omega) (by omega), w64 (x := n + 5 - k - 0) (by omega) (by omega), w64 (x := n + 5 - k - 0 - (n - k)) (by omega) (by omega), w64 (by omega) (by omega)]
      omega
    have hl : leftW [z] now = 0 := by
      unfold leftW
      simp only [leftGo]
      rw [if_neg (by rw [hz]; simp [validB]; omega)]
    refine Ev.ite_pos hu2 (Ev.ite_pos (by simp) (Ev.ite_pos h7 (Ev.bindc (rest_f z) (Ev.ite_pos hr ?_))))
    refine Ev.bind (left_f [z] now (by simp)) ?_
    rw [hl]
    exact Ev.now _
  · have h7 : z.f7 = 0 := by rw [hz]; simp [hu2]
    have hr : restW z = n - k + 5 := by
      rw [hz, if_neg hu2]
      unfold restW
      simp only []
      rw [w64 (x := n + 5 - k) (by omega) (by omega), w64 (x := n + 5 - k - 0) (by omega) (by omega), w64 (x := n + 5 - k - 0 - 0) (by omega) (by omega), w64 (by omega) (by omega)]
      omega
    have hl : leftW [z] now = n - k + 5 := by
      unfold leftW
      simp only [leftGo]
      rw [if_pos (by rw [hz]; simp [validB]; omega), hr, w64 (by omega) (by omega)]
      omega
    refine Ev.ite_neg hu2 (Ev.ite_pos (by simp) (Ev.ite_pos h7 (Ev.bindc (rest_f z) (Ev.ite_pos hr ?_))))
    refine Ev.bind (left_f [z] now (by simp)) ?_
    rw [hl]
    exact Ev.eq (Ev.now _) (by simp)
theorem ends_walk (a0 a1 a2 a3 : Int) (w : World) (w0 : (Lit.int .i64 a0).wf = true) (w1 : (Lit.int .i64 a1).wf = true) (w2 : (Lit.int .i64 a2).wf = true) (w3 : (Lit.int .i64 a3).wf = true) :
    Calls Try.prog 9 #[.int .i64 a0, .int .i64 a1, .int .i64 a2, .int .i64 a3] w fun e w' => e = .returned (.bool true) ∧ Below w.heap.size w w' := by
  obtain ⟨k, hk⟩ := Ev.rounds (LotsEnds_pure a0 a1 a2 a3)
  exact tolllaw10_LotsEnds.calls k a0 a1 a2 a3 true w hk
end Go.Proofs.Ytjoimapgmocoeaa.Lk
