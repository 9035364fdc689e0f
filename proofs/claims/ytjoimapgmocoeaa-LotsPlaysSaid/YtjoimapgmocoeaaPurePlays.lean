/- LotsPlays, in plain lists: its answer is true. -/
import Derived.Test.YtjoimapgmocoeaaPlayPlain
import Derived.Test.YtjoimapgmocoeaaPlaysB
set_option linter.unusedVariables false
set_option linter.unusedSimpArgs false
namespace Go.Proofs.Ytjoimapgmocoeaa.Lk
open Go.RowKit Go.Proofs.YtjoimapgmocoeaaW.PrintWords Go.Proofs.YtjoimapgmocoeaaW.PrintLast Go.Proofs.YtjoimapgmocoeaaW.PrintMore Go.Proofs.Ytjoimapgmocoeaa.Xa
def PartsOk (p : List SP) : Prop := p.length ≤ 14 ∧ ∀ q ∈ p, 0 ≤ q.f1 ∧ q.f1 ≤ 3000
/-- What stands at step i. -/
structure PInv (i : Nat) (l : List SL) (now : Int) (ps : List (List SP)) : Prop where
  st : Stand (10000 + 100000 * (i : Int)) l
  n0 : 0 ≤ now
  n1 : now ≤ 100000 + 3 * (i : Int)
  pl : ps.length ≤ i
  po : ∀ p ∈ ps, PartsOk p
theorem ruse_f (l : List SL) (ps : List SP) (n now : Int) (hl : l.length < 15) (hp : ps.length < 1000000) : tollref10_Use.f l ps n now = some (useW l n now ps) := by
  unfold tollref10_Use.f
  rw [if_pos hl, if_pos hp]
theorem play_end (k : Nat) (x0 : List SL) (x1 : Int) (x2 : List S49) (x7 : List (List SP)) (x8 : Int) : LPl.j1 (k + 1) x0 x1 x2 x7 x8 false = some true := by simp [LPl.j1]
theorem play_l0 (steps : List S49) (d : Nat) : ∀ (i : Nat) (l : List SL) (now : Int) (ps : List (List SP)), i + d = 20 → PInv i l now ps → Ev (fun k => LPl.l0 k l now steps ps (i : Int)) true := by
  induction d with
  | zero =>
    intro i l now ps hi hI
    refine Ev.step (fun k => by simp only [LPl.l0]; rfl) ?_
    have hd : decide ((i : Int) < 20) = false := decide_eq_false (by omega)
    rw [hd]
    by_cases h : (i : Int) < (steps.length : Int)
    · exact Ev.ite_pos h (Ev.step (fun k => play_end k _ _ _ _ _) (Ev.now _))
    · exact Ev.ite_neg h (Ev.step (fun k => play_end k _ _ _ _ _) (Ev.now _))
  | succ d ih =>
    intro i l now ps hi hI
    refine Ev.step (fun k => by simp only [LPl.l0]; rfl) ?_
    by_cases h : (i : Int) < (steps.length : Int)
    · refine Ev.ite_pos h ?_
      rw [decide_eq_true (by omega : (i : Int) < 20)]
      refine Ev.step (fun k => by simp only [LPl.j1]; rfl) ?_
      refine Ev.ite_pos (by trivial) (Ev.ite_pos (by omega) (Ev.ite_pos h (Ev.bindc (within_f _ _ (by decide) (by decide)) (Ev.bindc rfl ?_))))
      obtain ⟨s, hs⟩ : ∃ s, s = rd_T49 steps (i : Int) := ⟨_, rfl⟩
      rw [← hs]
      obtain ⟨hst, n0, n1, hpl, hpo⟩ := hI
      have hlen := hst.len
      obtain ⟨t, ht, t0, t1⟩ : ∃ t, t = s.f3 % 4 ∧ 0 ≤ t ∧ t < 4 := ⟨_, rfl, Int.emod_nonneg s.f3 (show (4 : Int) ≠ 0 by decide), Int.emod_lt_of_pos s.f3 (show (0 : Int) < 4 by decide)⟩
      obtain ⟨n, hn, n2, n3⟩ : ∃ n, n = s.f1 % 3000 ∧ 0 ≤ n ∧ n < 3000 := ⟨_, rfl, Int.emod_nonneg s.f1 (show (3000 : Int) ≠ 0 by decide), Int.emod_lt_of_pos s.f1 (show (0 : Int) < 3000 by decide)⟩
      rw [← ht]
      simp only [List.nil_append]
      refine Ev.ite_pos (by simp; omega) (Ev.bindc rfl (Ev.bindc (within_f _ _ (by decide) (by decide)) ?_))
      rw [← hn, w64 (x := now + t) (by omega) (by omega), w64 (x := (i : Int) + 1) (by omega) (by omega)]
      obtain ⟨m, hm⟩ : ∃ m, m = now + t := ⟨_, rfl⟩
      rw [← hm]
      by_cases hu : s.f0 = true
      · refine Ev.ite_pos hu ?_
        by_cases hz : (ps.length : Int) = 0
        · refine Ev.ite_pos hz ?_
          exact ih (i + 1) l m ps (by omega) ⟨hst.mono (by omega), by omega, by omega, by omega, hpo⟩
        · refine Ev.ite_neg hz (Ev.bindc (within_f _ _ (by omega) (by omega)) ?_)
          obtain ⟨k, hk, k0, k1⟩ : ∃ k, k = s.f2 % (ps.length : Int) ∧ 0 ≤ k ∧ k < (ps.length : Int) := ⟨_, rfl, Int.emod_nonneg s.f2 hz, Int.emod_lt_of_pos s.f2 (by omega)⟩
          rw [← hk]
          refine Ev.ite_pos k0 (Ev.ite_pos k1 ?_)
          obtain ⟨p, hp⟩ : ∃ p, p = rd_L4 ps k := ⟨_, rfl⟩
          have hkl : k.toNat < ps.length := by omega
          have hpm : p ∈ ps := by
            rw [hp]
            have : rd_L4 ps k = ps[k.toNat] := by simp [rd_L4, hkl]
            rw [this]
            exact List.getElem_mem hkl
          obtain ⟨pl, pb⟩ := hpo p hpm
          rw [← hp]
          have hus := useW_stand m p l n (10000 + 100000 * (i : Int)) hst pb n2 (by omega) (by omega) (by omega)
          refine Ev.bindc (use_f l p n m (by omega) (by omega)) (Ev.bindc (ruse_f l p n m (by omega) (by omega)) ?_)
          have hul := hus.len
          refine Ev.bind (same_f _ (by omega)) (Ev.ite_pos rfl (Ev.ite_pos rfl (Ev.bind (same_f l (by omega)) ?_)))
          refine Ev.step (fun k => by simp only [LPl.j2]; rfl) ?_
          refine Ev.ite_neg (by decide) (Ev.bindc rfl (Ev.ite_pos k0 (Ev.ite_pos (by omega) (Ev.bindc rfl (Ev.ite_pos (by simp; omega) (Ev.bindc rfl ?_))))))
          rw [w64 (x := k + 1) (by omega) (by omega), w64 (x := (i : Int) + 1) (by omega) (by omega)]
          refine Ev.ite_pos (by omega) (Ev.ite_pos (by omega) (Ev.bindc rfl (Ev.ite_pos (by simp; omega) (Ev.bind (left_f _ m (by omega)) (Ev.bind (rleft_f _ m (by omega)) (Ev.ite_pos rfl ?_))))))
          refine ih (i + 1) _ m _ (by omega) ⟨hus.mono (by omega), by omega, by omega, by simp; omega, fun q hq => ?_⟩
          rw [List.nil_append] at hq
          rcases List.mem_append.1 hq with g | g
          · exact hpo q (List.mem_of_mem_take g)
          · exact hpo q (List.mem_of_mem_drop g)
      · refine Ev.ite_neg hu ?_
        obtain ⟨r1, r2, r3⟩ := takeW_stand l n m (10000 + 100000 * (i : Int)) hst n2 (by omega) (by omega)
        have hrl := r1.len
        refine Ev.bindc (take_f l n m (by omega)) (Ev.bind (ref_take l n m (10000 + 100000 * (i : Int)) (by omega) hst.rise hst.small (by omega) n2 (by omega)) ?_)
        refine Ev.bind (same_f _ (by omega)) (Ev.ite_pos rfl (Ev.bind (sameP_f _ (by omega)) (Ev.ite_pos rfl (Ev.ite_pos rfl (Ev.bind (same_f l (by omega)) (Ev.ite_pos rfl (Ev.ite_pos (by omega) ?_)))))))
        refine ih (i + 1) _ m _ (by omega) ⟨r1.mono (by omega), by omega, by omega, by simp; omega, fun q hq => ?_⟩
        rcases List.mem_append.1 hq with g | g
        · exact hpo q g
        · rw [List.mem_singleton.1 g]
          exact ⟨r2, fun x hx => ⟨(r3 x hx).1, by have := (r3 x hx).2; omega⟩⟩
    · refine Ev.ite_neg h ?_
      exact Ev.step (fun k => play_end k _ _ _ _ _) (Ev.now _)
theorem LotIn.small {x : SL} (h : LotIn x) : Small 10000 x := by
  obtain ⟨⟨h1, h2, h3, h4, h5, h6⟩, h7, h8, h9, h10, h11, h12, h13⟩ := h
  constructor <;> omega
theorem LotsPlays_pure (l : List SL) (a1 : Int) (steps : List S49) : Ev (fun k => LPl.f k l a1 steps) true := by
  have b3 := Int.emod_nonneg a1 (show (100000 : Int) ≠ 0 by decide)
  have c3 := Int.emod_lt_of_pos a1 (show (0 : Int) < 100000 by decide)
  unfold LPl.f
  refine Ev.bindc known_f (Ev.ite_pos rfl (Ev.bindc (within_f _ _ (by decide) (by decide)) (Ev.bind (good_f l _ b3 c3) ?_)))
  refine play_l0 steps 20 0 (goodL l (a1 % 100000)) (a1 % 100000) [] rfl ⟨⟨goodL_len l _, goodGo_rise _ 0 _, fun j hj => ?_⟩, b3, by omega, by simp, by simp⟩
  have e : (goodL l (a1 % 100000)).getD j zL = (goodL l (a1 % 100000))[j] := by simp [hj]
  rw [e]
  exact (goodL_in l _ b3 c3 _ (List.getElem_mem hj)).small.mono (by omega)
theorem plays_walk (a0 : Option Addr) (l0 : List SL) (c0 : Nat) (a1 : Int) (a2 : Option Addr) (l2 : List S49) (c2 : Nat) (w : World) (hC : k33.C w a0 l0.length l0) (hc : l0.length ≤ c0) (w1 : (Lit.int .i64 a1).wf = true) (hC2 : k49.C w a2 l2.length l2) (hc2 : l2.length ≤ c2) :
    Calls Try.prog 8 #[.slice a0 l0.length c0, .int .i64 a1, .slice a2 l2.length c2] w fun e w' => e = .returned (.bool true) ∧ Below w.heap.size w w' := by
  obtain ⟨k, hk⟩ := Ev.rounds (LotsPlays_pure l0 a1 l2)
  exact LPl.calls k a0 c0 l0 a1 a2 c2 l2 true w hC hc hC2 hc2 hk
end Go.Proofs.Ytjoimapgmocoeaa.Lk
