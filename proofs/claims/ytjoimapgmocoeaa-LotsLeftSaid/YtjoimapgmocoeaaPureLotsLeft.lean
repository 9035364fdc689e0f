/- LotsLeft, in plain lists: what is left is the sum of what valid lots have. -/
import Derived.Test.YtjoimapgmocoeaaPureLotsFields
import Derived.Test.YtjoimapgmocoeaaXa13
set_option linter.unusedVariables false
set_option linter.unusedSimpArgs false
namespace Go.Proofs.Ytjoimapgmocoeaa.Lk
open Go.RowKit Go.Proofs.YtjoimapgmocoeaaW.PrintWords Go.Proofs.YtjoimapgmocoeaaW.PrintLast Go.Proofs.YtjoimapgmocoeaaW.PrintMore Go.Proofs.Ytjoimapgmocoeaa.Xa
theorem left_one (x : SL) (now : Int) (h : LotOk x) : leftW [x] now = if validB x now = true then restW x else 0 := by
  have hr := h.rest
  obtain ⟨h1, h2, h3, h4, h5, h6⟩ := h
  unfold leftW
  simp only [leftGo]
  split
  · rw [w64 (by omega) (by omega)]
    omega
  · rfl
theorem LotsLeft_l0 (L : List SL) (now : Int) (hL : L.length < 15) (hok : ∀ x ∈ L, LotOk x) (d : Nat) : ∀ (i : Nat) (s : Int), i + d = L.length → leftGo now s (L.drop i) = leftW L now → 0 ≤ s → s ≤ 4000 * (i : Int) → Ev (fun k => tolllaw10_LotsLeft.l0 k L now s (i : Int)) true := by
  induction d with
  | zero =>
    intro i s hi hs h0 h1
    have hd : L.drop i = [] := List.drop_of_length_le (by omega)
    rw [hd] at hs
    simp only [leftGo] at hs
    refine Ev.step (fun k => by simp only [tolllaw10_LotsLeft.l0]; rfl) ?_
    refine Ev.ite_neg (by omega) ?_
    refine Ev.bind (left_f L now hL) (Ev.ite_pos hs.symm ?_)
    refine Ev.bind (left_f [] now (by decide)) ?_
    exact Ev.eq (Ev.now _) rfl
  | succ d ih =>
    intro i s hi hs h0 h1
    have hil : i < L.length := by omega
    obtain ⟨x, hx⟩ : ∃ x, x = L[i] := ⟨_, rfl⟩
    have ho : LotOk x := by rw [hx]; exact hok _ (List.getElem_mem hil)
    have e : rd_T33 L (i : Int) = x := by simp [rd_T33, hil, hx]
    have hcut : (L.take (((i : Int) + 1)).toNat).drop ((i : Int)).toNat = [x] := by
      rw [show (((i : Int) + 1)).toNat = i + 1 by omega, Int.toNat_natCast, List.drop_take, show i + 1 - i = 1 by omega, List.drop_eq_getElem_cons hil, ← hx]
      rfl
    rw [List.drop_eq_getElem_cons hil, ← hx] at hs
    simp only [leftGo] at hs
    have hone := left_one x now ho
    have hr := ho.rest
    obtain ⟨g1, g2, g3, g4, g5, g6⟩ := ho
    have hb : (leftW [x] now = 0 ∨ leftW [x] now = restW x) ∧ leftGo now (wrap64 (s + leftW [x] now)) (L.drop (i + 1)) = leftW L now := by
      rw [hone]
      by_cases hv : validB x now = true
      · rw [if_pos hv] at hs ⊢
        exact ⟨.inr rfl, hs⟩
      · rw [if_neg hv] at hs ⊢
        refine ⟨.inl rfl, ?_⟩
        rw [show s + 0 = s by omega, w64 (by omega) (by omega)]
        exact hs
    obtain ⟨hb1, hb2⟩ := hb
    have hgo : Ev (fun k => tolllaw10_LotsLeft.l0 k L now (wrap64 (s + leftW [x] now)) ((i : Int) + 1)) true := by
      have hw : wrap64 (s + leftW [x] now) = s + leftW [x] now := w64 (by omega) (by omega)
      exact ih (i + 1) _ (by omega) hb2 (by omega) (by omega)
    refine Ev.step (fun k => by simp only [tolllaw10_LotsLeft.l0]; rfl) ?_
    rw [w64 (x := (i : Int) + 1) (by omega) (by omega), e, hcut]
    refine Ev.ite_pos (by omega) (Ev.ite_pos (by omega) (Ev.ite_pos (by omega) (Ev.ite_pos (by omega) (Ev.bind (left_f [x] now (by simp)) ?_))))
    by_cases hv : validB x now = true
    · have hv2 := hv
      rw [if_pos hv] at hone
      simp only [validB, Bool.and_eq_true, decide_eq_true_eq] at hv2
      by_cases h : leftW [x] now = 0
      · exact Ev.ite_pos h (Ev.ite_pos hv2.1 (Ev.ite_pos hv2.2 (Ev.bindc (rest_f x) (Ev.ite_pos hone hgo))))
      · exact Ev.ite_neg h (Ev.ite_neg (by omega) (Ev.ite_neg (by omega) (Ev.bindc (rest_f x) (Ev.ite_pos hone (Ev.ite_pos hv2.1 (Ev.ite_pos hv2.2 (Ev.bindc (rest_f x) (Ev.ite_pos hone hgo))))))))
    · have hv2 : ¬ (x.f2 ≤ now ∧ now < x.f3) := fun h => hv (by simp only [validB, Bool.and_eq_true, decide_eq_true_eq]; exact h)
      rw [if_neg hv] at hone
      refine Ev.ite_pos hone ?_
      by_cases h1 : x.f2 ≤ now
      · exact Ev.ite_pos h1 (Ev.ite_neg (by omega) hgo)
      · exact Ev.ite_neg h1 hgo
theorem LotsLeft_pure (l : List SL) (a1 : Int) : Ev (fun k => tolllaw10_LotsLeft.f k l a1) true := by
  have b1 := Int.emod_nonneg a1 (show (100000 : Int) ≠ 0 by decide)
  have c1 := Int.emod_lt_of_pos a1 (show (0 : Int) < 100000 by decide)
  have hg := goodL_len l (a1 % 100000)
  unfold tolllaw10_LotsLeft.f
  refine Ev.bindc known_f (Ev.ite_pos rfl (Ev.bindc (within_f _ _ (by decide) (by decide)) ?_))
  refine Ev.bind (good_f l _ b1 c1) ?_
  exact LotsLeft_l0 _ _ (by omega) (fun x hx => (goodL_in l _ b1 c1 x hx).ok) (goodL l (a1 % 100000)).length 0 0 (by omega) rfl (by decide) (by decide)
theorem left_walk (a0 : Option Addr) (l0 : List SL) (c0 : Nat) (a1 : Int) (w : World) (hC : k33.C w a0 l0.length l0) (hc : l0.length ≤ c0) (w1 : (Lit.int .i64 a1).wf = true) :
    Calls Try.prog 5 #[.slice a0 l0.length c0, .int .i64 a1] w fun e w' => e = .returned (.bool true) ∧ Below w.heap.size w w' := by
  obtain ⟨k, hk⟩ := Ev.rounds (LotsLeft_pure l0 a1)
  exact tolllaw10_LotsLeft.calls k a0 c0 l0 a1 true w hC hc hk
end Go.Proofs.Ytjoimapgmocoeaa.Lk
