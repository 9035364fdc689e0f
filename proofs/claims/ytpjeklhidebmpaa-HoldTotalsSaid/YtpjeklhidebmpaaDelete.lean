/- slices.Delete at holds: one element. -/
import Derived.Test.YtpjeklhidebmpaaFind
set_option linter.unusedVariables false
set_option linter.unusedSimpArgs false
namespace Go.Proofs.Ytpjeklhidebmpaa.Lk
open Go.RowKit Go.Proofs.YtpjeklhidebmpaaW.PrintWords Go.Proofs.YtpjeklhidebmpaaW.PrintWords.Kd Go.Proofs.YtpjeklhidebmpaaW.PrintLast Go.Proofs.YtpjeklhidebmpaaW.PrintMore Go.Proofs.Ytpjeklhidebmpaa.Xa Go.Proofs.Ytpjeklhidebmpaa.Own
theorem zeroH (w : World) : (zeroValue 26).run Try.prog w = .ok (.agg #[.int .i64 0, .slice none 0 0, .int .i64 0, .int .i64 0]) w := by kernel_rfl
theorem zcH : (Builtin.zeroCells (Value.agg #[.int .i64 0, .slice none 0 0, .int .i64 0, .int .i64 0]).cells 1).toList = [.int .i64 0, .slice none 0 0, .int .i64 0, .int .i64 0] := by kernel_rfl
theorem clear_one (w : World) (g o c : Nat) (ty : TypeId) (hc : ∀ j, j < 4 → (w.cell? ⟨g, o + j, none⟩).isSome = true) (hf : ∀ j, j < 4 → w.frozen? ⟨g, o + j, none⟩ = false) :
    (Builtin.clear_ #[30] ty #[.slice (some ⟨g, o, none⟩) 1 c]).run Try.prog w = .ok (.tuple #[]) (w.setCells g o [.int .i64 0, .slice none 0 0, .int .i64 0, .int .i64 0]) := by
  have hst := run_storeCells_cells (P := Try.prog) g o [.int .i64 0, .slice none 0 0, .int .i64 0, .int .i64 0] 0 w (by simpa using hc) (by simpa using hf) (cellsH_one zH)
  simp only [Nat.add_zero] at hst
  simp only [Builtin.clear_, Sem.run_bind, run_underlying Try.underlying30, zeroH, zcH, hst, Result.andThen_ok, Sem.run_pure, List.getElem?_toArray, List.getElem?_cons_zero]
set_option maxHeartbeats 4000000 in
set_option maxRecDepth 100000 in
theorem delete_calls (W : World) (base g i m : Nat) (xs : List HN) (hn : xs.length = i + 1 + m) (HO : kH.R 26 W base (fun _ => True) (.slice (some ⟨g, 0, none⟩) (i + 1 + m) (i + 1 + m)) xs) (hl : xs.length < 1000000) :
    Calls Try.prog 16 #[.slice (some ⟨g, 0, none⟩) (i + 1 + m) (i + 1 + m), .int .i64 i, .int .i64 ((i : Int) + 1)] W fun e w' =>
      e = .returned (.slice (some ⟨g, 0, none⟩) (i + m) (i + 1 + m)) ∧ kH.R 26 w' base (fun _ => True) (.slice (some ⟨g, 0, none⟩) (i + m) (i + 1 + m)) (xs.take i ++ xs.drop (i + 1)) ∧ W.grownBy w' (some g) := by
  obtain ⟨_, inner, hown, hrep⟩ := HO
  rcases hown.2 with ⟨h0, _⟩ | ⟨g', cap, cur, he, hbg, hh, hnc, hcm, hcs, ht⟩
  · injection h0 with h0 _ _
    cases h0
  injection he with he hx_ hc
  clear hx_
  injection he with he
  injection he with he _ _
  subst he; subst hc
  have hsz4 : kH.sz = 4 := rfl
  rw [hsz4] at hcs ht hrep
  have hil : inner.length = xs.length * 4 := hrep.1
  have hone : ∀ u ∈ inner, u.oneCell' = true := reps_one hrep (by decide) (fun p c hp => kH.K_one (kH.K_of_M hp))
  have hcg : ∀ j v, inner[j]? = some v → W.cell? ⟨g, j, none⟩ = some v := fun j v hj => by
    rw [cell_of_row W g _ cur _ (0, 0) hh]
    rw [← ht, List.getElem?_take] at hj
    split at hj
    · simpa using hj
    · cases hj
  obtain ⟨news, hnews⟩ : ∃ l, l = inner.drop ((i + 1) * 4) := ⟨_, rfl⟩
  have hnl : news.length = m * 4 := by rw [hnews, List.length_drop]; omega
  have hn1 : ∀ u ∈ news, u.oneCell' = true := fun u hu => hone u (by rw [hnews] at hu; exact List.mem_of_mem_drop hu)
  have hnc1 : ∀ j u, news[j]? = some u → W.drew.cell? ((⟨g, (i + 1) * 4, none⟩ : Addr).add j) = some u := fun j u hj => by
    rw [hnews, List.getElem?_drop] at hj
    rw [add_at]
    exact hcg _ _ hj
  have hsp : ∀ j, j < news.length → (W.drew.cell? ⟨g, 0 + i * 4 + j, none⟩).isSome = true ∧ W.drew.frozen? ⟨g, 0 + i * 4 + j, none⟩ = false := fun j hj => by
    refine ⟨?_, blk_frozen (show W.drew.heap[g]? = _ from hh) _⟩
    show (W.cell? _).isSome = true
    rw [cell_of_row W g _ cur _ (0, 0) hh]
    simp
    omega
  obtain ⟨W1, hW1⟩ : ∃ W1, W1 = W.drew.setCells g (0 + i * 4) news := ⟨_, rfl⟩
  obtain ⟨cur1, hh1, hs1, hl1⟩ := setCells_row news (0 + i * 4) W.drew cur (show W.drew.heap[g]? = _ from hh) (by omega)
  rw [← hW1] at hh1
  have hsame1 : W1.os = W.os ∧ W1.tape = W.tape ∧ W1.output = W.output ∧ W1.heap.size = W.heap.size := by
    obtain ⟨s1, s2, s3, s4⟩ := setCells_same g news (0 + i * 4) W.drew
    rw [hW1]
    exact ⟨s1, s2, s3, s4⟩
  have hfar1 : ∀ k, k ≠ g → W1.heap[k]? = W.heap[k]? := fun k hk => by rw [hW1, setCells_far _ _ k hk]; rfl
  have hcl := fun ty c => clear_one W1 g ((i + m) * 4) c ty (fun j hj => by rw [cell_of_row W1 g _ cur1 _ (0, 0) hh1]; simp; omega) (fun j _ => blk_frozen hh1 _)
  obtain ⟨zs, hzs⟩ : ∃ zs : List Value, zs = [.int .i64 0, .slice none 0 0, .int .i64 0, .int .i64 0] := ⟨_, rfl⟩
  have hzl : zs.length = 4 := by rw [hzs]; rfl
  rw [← hzs] at hcl
  have hfin : kH.R 26 (W1.setCells g ((i + m) * 4) zs) base (fun _ => True) (.slice (some ⟨g, 0, none⟩) (i + m) (i + 1 + m)) (xs.take i ++ xs.drop (i + 1)) ∧ W.grownBy (W1.setCells g ((i + m) * 4) zs) (some g) := by
    obtain ⟨cur2, hh2, hs2, hl2⟩ := setCells_row zs ((i + m) * 4) W1 cur1 hh1 (by omega)
    have hlen : (xs.take i ++ xs.drop (i + 1)).length = i + m := by simp; omega
    have hrep' : Reps (kH.M (W1.setCells g ((i + m) * 4) zs) base (fun k => True ∧ some k ≠ (Value.slice (some ⟨g, 0, none⟩) (i + m) (i + 1 + m)).ownBlock)) 4 xs inner := hrep.imp_ (fun p cs hp => hp)
    refine ⟨⟨fun _ _ => trivial, inner.take (i * 4) ++ news, ⟨?_, .inr ⟨g, i + 1 + m, cur2, by rw [hlen], hbg, hh2, by rw [hlen]; omega, hcm, by rw [hs2, hs1]; exact hcs, ?_⟩⟩, ?_⟩, ?_⟩
    · rw [hlen, hsz4, List.length_append, hnl, List.length_take]
      omega
    · have h1 : (cur.toList.take (0 + i * 4)) = inner.take (i * 4) := by rw [← ht, List.take_take, Nat.min_eq_left (by omega), Nat.zero_add]
      have h2 : (inner.take (i * 4) ++ news).length = (i + m) * 4 := by rw [List.length_append, hnl, List.length_take]; omega
      rw [hlen, hsz4, hl2, List.append_assoc, List.take_append_of_le_length (by rw [List.length_take, Array.length_toList]; omega), List.take_take, Nat.min_self, hl1, h1, List.take_append_of_le_length (by omega), List.take_of_length_le (by omega)]
    · rw [hnews]
      exact reps_append (reps_take hrep' (by omega)) (reps_drop hrep')
    · obtain ⟨s1, s2, s3, s4⟩ := setCells_same g zs ((i + m) * 4) W1
      refine ⟨by rw [s1, hsame1.1], by rw [s2, hsame1.2.1], by rw [s3, hsame1.2.2.1], by rw [s4, hsame1.2.2.2]; exact Nat.le_refl _, fun k _ hk => ?_⟩
      have hkg : k ≠ g := fun e' => hk (by rw [e'])
      rw [setCells_far _ _ k hkg, hfar1 k hkg]
  have hz : ¬ ((i : Int) = (i : Int) + 1) := by omega
  have hzb : ((i : Int) == (i : Int) + 1) = false := beq_eq_false_iff_ne.mpr (by omega)
  have hb1 : (0 : Int) ≤ (i : Int) + 1 := by omega
  have hb0 : (0 : Int) ≤ (i : Int) := by omega
  have hb2 : (i : Int) + 1 ≤ (i : Int) + 1 + (m : Int) := by omega
  have hb3 : (i : Int) ≤ (i : Int) + 1 := by omega
  have htn : ((i : Int) + 1).toNat = i + 1 := by omega
  have hbd : i + 1 + m ≤ 9223372036854775807 := by omega
  have F1 := Aside0.mk hfin
  have C1 := Aside0.mk hcl
  have HW1 := Aside0.mk hW1
  have N1 := Aside0.mk hnl
  have N2 := Aside0.mk hn1
  have N3 := Aside0.mk hnc1
  have N4 := Aside0.mk hsp
  obtain ⟨i0, hi0, hzz⟩ := Option.map_eq_some_iff.1 infoH
  simp only [Prod.mk.injEq] at hzz
  have I0 := Aside0.mk hi0
  have I1 := Aside0.mk hzz.2.1
  clear hcs ht hrep hil hh hcm hown hone hfin hcl hW1 hnl hn1 hnc1 hsp hnews hh1 hs1 hl1 hsame1 hfar1 hzl hzs hcg hn hl hnc hbg hi0 hzz
  cases m with
  | zero =>
    go_enter Try.func16, Try.ntmps16
    go_wp2_with fail
    go_region_law (refine step_append_room rfl (.tmp 22) (.tmp 25) 30 rfl 26 i0 4 Try.underlying30 I0.out I1.out g 0 i (i + 1) (by simp [Act.eval, Act.put]) ⟨g, 0, none⟩ 0 0 news (by simp [Act.eval, Act.put]) N1.out (fun j u hj => by have := N1.out; have := List.getElem?_eq_some_iff.1 hj; obtain ⟨h, _⟩ := this; omega) N2.out (by omega) N4.out ?_; rw [← HW1.out])
    have hcl0 : (Builtin.clear_ #[30] 0 #[.slice (some ⟨g, i * 4, none⟩) 1 1]).run Try.prog W1 = .ok (.tuple #[]) (W1.setCells g (i * 4) zs) := C1.out 0 1
    go_wp2
    go_ret
    exact ⟨rfl, F1.out⟩
  | succ m =>
    go_enter Try.func16, Try.ntmps16
    go_wp2_with fail
    have hb4 : (i : Int) ≤ (i : Int) + 1 + ((m : Int) + 1) := by omega
    have hb5 : (i : Int) + 1 ≤ (i : Int) + 1 + ((m : Int) + 1) := by omega
    have hb6 : i ≤ i + 1 + (m + 1) := by omega
    have hb7 : ¬ (i + 1 + (m + 1) = i + 1) := by omega
    go_region_law (refine step_append_room rfl (.tmp 22) (.tmp 25) 30 rfl 26 i0 4 Try.underlying30 I0.out I1.out g 0 i (i + 1 + (m + 1)) (by simp [Act.eval, Act.put]) ⟨g, (i + 1) * 4, none⟩ (m + 1) (m + 1) news (by simp [Act.eval, Act.put]) N1.out N3.out N2.out (by omega) N4.out ?_; rw [← HW1.out])
    have hcl0 : (Builtin.clear_ #[30] 0 #[.slice (some ⟨g, (i + (m + 1)) * 4, none⟩) (i + 1 + (m + 1) - (i + (m + 1))) (i + 1 + (m + 1) - (i + (m + 1)))]).run Try.prog W1 = .ok (.tuple #[]) (W1.setCells g ((i + (m + 1)) * 4) zs) := by
      rw [show i + 1 + (m + 1) - (i + (m + 1)) = 1 by omega]
      exact C1.out 0 1
    go_wp2
    go_ret
    exact ⟨rfl, F1.out⟩
end Go.Proofs.Ytpjeklhidebmpaa.Lk
