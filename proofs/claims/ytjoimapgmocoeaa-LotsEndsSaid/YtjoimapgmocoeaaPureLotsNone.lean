/- LotsNone, in plain lists: nothing taken, nothing used, changes nothing; of no lots everything lacks. -/
import Derived.Test.YtjoimapgmocoeaaLotPlain
import Derived.Test.YtjoimapgmocoeaaXa14
import Derived.Test.YtjoimapgmocoeaaXa15
import Derived.Test.YtjoimapgmocoeaaXa3
set_option linter.unusedVariables false
set_option linter.unusedSimpArgs false
namespace Go.Proofs.Ytjoimapgmocoeaa.Lk
open Go.RowKit Go.Proofs.YtjoimapgmocoeaaW.PrintWords Go.Proofs.YtjoimapgmocoeaaW.PrintLast Go.Proofs.YtjoimapgmocoeaaW.PrintMore Go.Proofs.Ytjoimapgmocoeaa.Xa
theorem takeGo_zero (l : List SL) (ps : List SP) : ∀ is : List Int, takeGo l ps 0 is = (l, ps, 0)
  | [] => rfl
  | i :: is => by
    unfold takeGo
    rw [if_pos (by omega)]
theorem take_f (l : List SL) (n now : Int) (hl : l.length < 15) : lots_Take.f l n now = some (takeW l n now) := by
  unfold lots_Take.f
  rw [if_pos hl]
theorem use_f (l : List SL) (ps : List SP) (n now : Int) (hl : l.length < 15) (hp : ps.length < 1000000) : lots_Use.f l ps n now = some (useW l n now ps) := by
  unfold lots_Use.f
  rw [if_pos hl, if_pos hp]
theorem LotsNone_pure (l : List SL) (n now : Int) : Ev (fun k => tolllaw10_LotsNone.f k l n now) true := by
  have b2 := Int.emod_nonneg now (show (100000 : Int) ≠ 0 by decide)
  have c2 := Int.emod_lt_of_pos now (show (0 : Int) < 100000 by decide)
  have hg := goodL_len l (now % 100000)
  have h0 : takeW (goodL l (now % 100000)) 0 (now % 100000) = (goodL l (now % 100000), [], 0) := takeGo_zero _ _ _
  have h1 : takeW [] (n % 1000) (now % 100000) = ([], [], n % 1000) := rfl
  unfold tolllaw10_LotsNone.f
  refine Ev.bindc known_f (Ev.ite_pos rfl (Ev.bindc (within_f _ _ (by decide) (by decide)) ?_))
  refine Ev.bind (good_f l (now % 100000) b2 c2) ?_
  refine Ev.bindc (within_f _ _ (by decide) (by decide)) (Ev.bindc (take_f _ _ _ (by omega)) (Ev.bindc (use_f _ _ _ _ (by omega) (by decide)) (Ev.bindc (take_f _ _ _ (by decide)) ?_)))
  rw [h0, h1, show ∀ l n now, useW l n now [] = (l, n) from fun _ _ _ => rfl]
  refine Ev.bind (same_f (goodL l (now % 100000)) (by omega)) (Ev.ite_pos rfl (Ev.ite_pos rfl (Ev.ite_pos rfl ?_)))
  refine Ev.bind (same_f (goodL l (now % 100000)) (by omega)) (Ev.ite_pos rfl (Ev.ite_pos rfl (Ev.ite_pos rfl (Ev.ite_pos rfl ?_))))
  exact Ev.eq (Ev.now _) (by simp)
theorem none_walk (a0 : Option Addr) (l0 : List SL) (c0 : Nat) (a1 a2 : Int) (w : World) (hC : k33.C w a0 l0.length l0) (hc : l0.length ≤ c0) (w1 : (Lit.int .i64 a1).wf = true) (w2 : (Lit.int .i64 a2).wf = true) :
    Calls Try.prog 6 #[.slice a0 l0.length c0, .int .i64 a1, .int .i64 a2] w fun e w' => e = .returned (.bool true) ∧ Below w.heap.size w w' := by
  obtain ⟨k, hk⟩ := Ev.rounds (LotsNone_pure l0 a1 a2)
  exact tolllaw10_LotsNone.calls k a0 c0 l0 a1 a2 true w hC hc hk
end Go.Proofs.Ytjoimapgmocoeaa.Lk
