/- LotsSplit, in plain lists. -/
import Derived.Test.YtjoimapgmocoeaaTakeAll
import Derived.Test.YtjoimapgmocoeaaXa8
set_option linter.unusedVariables false
set_option linter.unusedSimpArgs false
namespace Go.Proofs.Ytjoimapgmocoeaa.Lk
open Go.RowKit Go.Proofs.YtjoimapgmocoeaaW.PrintWords Go.Proofs.YtjoimapgmocoeaaW.PrintLast Go.Proofs.YtjoimapgmocoeaaW.PrintMore Go.Proofs.Ytjoimapgmocoeaa.Xa
theorem LotsSplit_pure (l : List SL) (a1 a2 a3 : Int) : Ev (fun k => tolllaw10_LotsSplit.f k l a1 a2 a3) true := by
  have b1 := Int.emod_nonneg a1 (show (3000 : Int) ≠ 0 by decide)
  have c1 := Int.emod_lt_of_pos a1 (show (0 : Int) < 3000 by decide)
  have b2 := Int.emod_nonneg a2 (show (3000 : Int) ≠ 0 by decide)
  have c2 := Int.emod_lt_of_pos a2 (show (0 : Int) < 3000 by decide)
  have b3 := Int.emod_nonneg a3 (show (100000 : Int) ≠ 0 by decide)
  have c3 := Int.emod_lt_of_pos a3 (show (0 : Int) < 100000 by decide)
  have hg := goodL_len l (a3 % 100000)
  have hk := goodL_ok l (a3 % 100000) b3 c3
  unfold tolllaw10_LotsSplit.f
  refine Ev.bindc known_f (Ev.ite_pos rfl (Ev.bindc (within_f _ _ (by decide) (by decide)) ?_))
  refine Ev.bind (good_f l _ b3 c3) (Ev.bindc (within_f _ _ (by decide) (by decide)) (Ev.bindc (within_f _ _ (by decide) (by decide)) (Ev.bindc (take_f _ _ _ (by omega)) ?_)))
  have ht := take_two (goodL l (a3 % 100000)) (a1 % 3000) (a2 % 3000) (a3 % 100000) hk (goodL_apart l _) b1 (by omega) b2 (by omega)
  have hlen : (takeW (goodL l (a3 % 100000)) (a1 % 3000) (a3 % 100000)).1.length < 15 := by
    rw [takeW_spec _ _ _ hk b1 (by omega)]
    simp only [addH_len]
    omega
  have hlen2 : (takeW (goodL l (a3 % 100000)) (a1 % 3000 + a2 % 3000) (a3 % 100000)).1.length < 15 := by
    rw [takeW_spec _ _ _ hk (by omega) (by omega)]
    simp only [addH_len]
    omega
  refine Ev.bindc (take_f _ _ _ hlen) ?_
  rw [w64 (x := a1 % 3000 + a2 % 3000) (by omega) (by omega)]
  refine Ev.bindc (take_f _ _ _ (by omega)) ?_
  rw [ht.1]
  refine Ev.bind (same_f _ hlen2) (Ev.ite_pos rfl ?_)
  have hb1 : ∀ i ∈ ordN (goodL l (a3 % 100000)) (a3 % 100000), 0 ≤ rst (goodL l (a3 % 100000)) i := fun i _ => rst_nonneg hk i
  have hl := lk_bnd (rst (goodL l (a3 % 100000))) (a1 % 3000 + a2 % 3000) _ (by omega) hb1
  have he : (takeW (goodL l (a3 % 100000)) (a1 % 3000 + a2 % 3000) (a3 % 100000)).2.2 = lk (rst (goodL l (a3 % 100000))) (a1 % 3000 + a2 % 3000) (ordN (goodL l (a3 % 100000)) (a3 % 100000)) := by rw [takeW_spec _ _ _ hk (by omega) (by omega)]
  refine Ev.eq (Ev.now _) ?_
  rw [w64 (x := _ + _) (by rw [← ht.2, he]; omega) (by rw [← ht.2, he]; omega), ← ht.2]
  simp
theorem split_walk (a0 : Option Addr) (l0 : List SL) (c0 : Nat) (a1 a2 a3 : Int) (w : World) (hC : k33.C w a0 l0.length l0) (hc : l0.length ≤ c0) (w1 : (Lit.int .i64 a1).wf = true) (w2 : (Lit.int .i64 a2).wf = true) (w3 : (Lit.int .i64 a3).wf = true) :
    Calls Try.prog 3 #[.slice a0 l0.length c0, .int .i64 a1, .int .i64 a2, .int .i64 a3] w fun e w' => e = .returned (.bool true) ∧ Below w.heap.size w w' := by
  obtain ⟨k, hk⟩ := Ev.rounds (LotsSplit_pure l0 a1 a2 a3)
  exact tolllaw10_LotsSplit.calls k a0 c0 l0 a1 a2 a3 true w hC hc hk
end Go.Proofs.Ytjoimapgmocoeaa.Lk
