/- LotsOrder, in plain lists: the parts of lots that all have three. -/
import Derived.Test.YtjoimapgmocoeaaParts
set_option linter.unusedVariables false
set_option linter.unusedSimpArgs false
namespace Go.Proofs.Ytjoimapgmocoeaa.Lk
open Go.RowKit Go.Proofs.YtjoimapgmocoeaaW.PrintWords Go.Proofs.YtjoimapgmocoeaaW.PrintLast Go.Proofs.YtjoimapgmocoeaaW.PrintMore Go.Proofs.Ytjoimapgmocoeaa.Xa
def oOne (i : Nat) (u : Int) : SL := ⟨(i : Int) + 1, 0, 0, 10 + u % 5, 3, 0, 0, 0, 0⟩
def oL (us : List Int) : List SL := us.mapIdx oOne
theorem oL_len (us : List Int) : (oL us).length = us.length := by simp [oL]
theorem oL_get (us : List Int) (j : Nat) (h : j < us.length) : (oL us).getD j zL = oOne j us[j] := by simp [oL, h]
theorem oL_snoc (us : List Int) (i : Nat) (h : i < us.length) : oL (us.take (i + 1)) = oL (us.take i) ++ [oOne i us[i]] := by
  unfold oL
  rw [List.take_succ_eq_append_getElem h, List.mapIdx_append, List.length_take, Nat.min_eq_left (by omega)]
  simp only [List.mapIdx_cons, List.mapIdx_nil, Nat.zero_add]
theorem oL_ok (us : List Int) : AllOk (oL us) := fun j hj => by
  rw [oL_len] at hj
  rw [oL_get us j hj]
  constructor <;> simp [oOne]
theorem oL_rst (us : List Int) (j : Nat) (h : j < us.length) : rst (oL us) j = 3 := by
  have := (oL_ok us j (by rw [oL_len]; exact h)).rest
  unfold rst
  rw [this, oL_get us j h]
  rfl
theorem oL_apart (us : List Int) : Apart (oL us) := fun a b ha hb e => by
  rw [oL_len] at ha hb
  rw [oL_get us a ha, oL_get us b hb] at e
  simp only [oOne] at e
  omega
theorem oL_mem (us : List Int) (j : Nat) : j ∈ ordN (oL us) 2 ↔ j < us.length := by
  rw [mem_ordN, oL_len]
  constructor
  · exact fun h => h.1
  · intro h
    have b := Int.emod_nonneg us[j] (show (5 : Int) ≠ 0 by decide)
    refine ⟨h, ?_, by rw [oL_rst us j h]; decide⟩
    rw [oL_get us j h]
    unfold validB
    rw [Bool.and_eq_true]
    exact ⟨decide_eq_true (show (0 : Int) ≤ 2 by decide), decide_eq_true (show (2 : Int) < 10 + us[j] % 5 by omega)⟩
theorem nat_perm_len (a : List Nat) (n : Nat) (hn : a.Nodup) (h : ∀ j, j ∈ a ↔ j < n) : a.length = n := by
  have hp : a.Perm (List.range n) := (List.perm_ext_iff_of_nodup hn List.nodup_range).2 (fun j => by rw [h, List.mem_range])
  rw [hp.length_eq, List.length_range]
theorem ordN_sorted (l : List SL) (now : Int) (h : Apart l) (i j : Nat) (hij : i < j) (hj : j < (ordN l now).length) : ltL l (((ordN l now).getD i 0 : Nat) : Int) (((ordN l now).getD j 0 : Nat) : Int) = true := by
  have hs := orderL_sorted l now h
  have hjl : j < (orderL l now).length := by simpa [ordN] using hj
  have hil : i < (orderL l now).length := by omega
  have g := List.pairwise_iff_getElem.1 hs i j hil hjl hij
  have e : ∀ k, (hk : k < (orderL l now).length) → (((ordN l now).getD k 0 : Nat) : Int) = (orderL l now)[k] := fun k hk => by
    have : (ordN l now).getD k 0 = ((orderL l now)[k]).toNat := by simp [ordN, hk]
    rw [this]
    exact Int.toNat_of_nonneg (orderL_mem (List.getElem_mem hk)).1
  rw [e i hil, e j hjl]
  exact g
theorem order_plain (us : List Int) (n : Int) (h0 : 0 ≤ n) (h1 : n < 60) : ((takeW (oL us) n 2).2.1.length : Int) = min ((n + 2) / 3) (us.length : Int) ∧ ∀ k, 0 < k → k < (takeW (oL us) n 2).2.1.length → ∃ a b : Nat, a < us.length ∧ b < us.length ∧ ((takeW (oL us) n 2).2.1.getD (k - 1) zP).f0 = (a : Int) + 1 ∧ ((takeW (oL us) n 2).2.1.getD k zP).f0 = (b : Int) + 1 ∧ ((takeW (oL us) n 2).2.1.getD (k - 1) zP).f1 = 3 ∧ (((oL us).getD a zL).f3 < ((oL us).getD b zL).f3 ∨ ((oL us).getD a zL).f3 = ((oL us).getD b zL).f3 ∧ ((oL us).getD a zL).f0 < ((oL us).getD b zL).f0) := by
  rw [takeW_spec (oL us) n 2 (oL_ok us) h0 (by omega)]
  simp only []
  have hr : ∀ i ∈ ordN (oL us) 2, rst (oL us) i = 3 := fun i h => oL_rst us i ((oL_mem us i).1 h)
  have hlen : (ordN (oL us) 2).length = us.length := nat_perm_len _ _ (ordN_nodup _ _) (oL_mem us)
  refine ⟨by rw [pts_three _ _ _ n h0 hr, hlen], fun k hk hkl => ?_⟩
  obtain ⟨q1, q2, q3, q4, q5, q6⟩ := pts_get (oL us) (rst (oL us)) (ordN (oL us) 2) n k (ordN_nodup _ _) h0 (fun i h => by rw [hr i h]; decide) hkl
  obtain ⟨p1, p2, p3, p4, p5, p6⟩ := pts_get (oL us) (rst (oL us)) (ordN (oL us) 2) n (k - 1) (ordN_nodup _ _) h0 (fun i h => by rw [hr i h]; decide) (by omega)
  have hm : ∀ i, i < (ordN (oL us) 2).length → (ordN (oL us) 2).getD i 0 ∈ ordN (oL us) 2 := fun i hi => by
    have : (ordN (oL us) 2).getD i 0 = (ordN (oL us) 2)[i] := by simp [hi]
    rw [this]
    exact List.getElem_mem hi
  have ha := (oL_mem us _).1 (hm (k - 1) p1)
  have hb := (oL_mem us _).1 (hm k q1)
  refine ⟨_, _, ha, hb, ?_, ?_, ?_, ?_⟩
  · rw [p2, oL_get us _ ha]
    rfl
  · rw [q2, oL_get us _ hb]
    rfl
  · rw [p6 (by omega)]
    exact hr _ (hm (k - 1) p1)
  · have := ordN_sorted (oL us) 2 (oL_apart us) (k - 1) k (by omega) q1
    rw [ltL_iff, Int.toNat_natCast, Int.toNat_natCast] at this
    exact this
end Go.Proofs.Ytjoimapgmocoeaa.Lk
