/- slices.Insert at entries, one value, where there is room. -/
import Derived.Test.YtndgpncdnbbneaaXa0
import Derived.Test.YtndgpncdnbbneaaStruct
import Derived.Outline
set_option linter.unusedVariables false
set_option linter.unusedSimpArgs false
namespace Go.Proofs.Ytndgpncdnbbneaa.Own
open Go.RowKit Go.Proofs.YtndgpncdnbbneaaW.PrintWords Go.Proofs.YtndgpncdnbbneaaW.PrintWords.Kd Go.Proofs.YtndgpncdnbbneaaW.PrintLast Go.Proofs.Ytndgpncdnbbneaa.Xa
abbrev SE := S40
abbrev kE := k40
theorem szE : kE.sz = 14 := rfl
theorem flatE : Flat kE := fun w w' base ok x cs h => by rw [k40_open h]; exact k40_mkM _ _ _ _
theorem infoE : (Try.prog.info? 40).map (fun i => (i.zero, i.size, i.bytes)) = some (some (.agg #[.int .i64 0, .int .i64 0, .int .i64 0, .int .i64 0, .int .i64 0, .string ⟨#[]⟩, .int .i64 0, .int .i64 0, .int .i64 0, .int .i64 0, .int .i64 0, .int .i64 0, .int .i64 0, .int .i64 0]), 14, 120) := by kernel_rfl
/-- An entry's cells. -/
def cellsE (x : SE) : List Value := [.int .i64 x.f0, .int .i64 x.f1.f0, .int .i64 x.f1.f1, .int .i64 x.f1.f2, .int .i64 x.f1.f3, .string x.f1.f4.f0, .int .i64 x.f1.f4.f1, .int .i64 x.f1.f4.f2, .int .i64 x.f1.f4.f3, .int .i64 x.f1.f4.f4, .int .i64 x.f1.f4.f5, .int .i64 x.f1.f4.f6, .int .i64 x.f1.f4.f7, .int .i64 x.f1.f4.f8]
theorem cellsE_K (w : World) (x : SE) : kE.K w x (cellsE x) := k40_mk w x
set_option maxHeartbeats 2000000 in
set_option maxRecDepth 100000 in
theorem insert_end (W : World) (base n c g vb : Nat) (xs : List SE) (x : SE) (hn : n = xs.length) (hb : base ≤ W.heap.size) (HO : kE.R 40 W base (fun _ => True) (.slice (some ⟨g, 0, none⟩) n c) xs)
    (HV : kE.C W (some ⟨vb, 0, none⟩) 1 [x]) (hl : (xs.length + 1) * 120 ≤ 140737488355328) :
    Calls Try.prog 10 #[.slice (some ⟨g, 0, none⟩) n c, .int .i64 n, .slice (some ⟨vb, 0, none⟩) 1 1] W fun e w' =>
      ∃ v1, e = .returned v1 ∧ kE.R 40 w' base (fun _ => True) v1 (xs ++ [x]) ∧ W.grownBy w' (some g) := by
  have hnz : ((n : Int) == (n : Int)) = true := beq_self_eq_true _
  have HO' := Aside0.mk HO
  have HV' := Aside0.mk HV
  clear HO HV
  have hn' := Aside0.mk hn
  clear hn
  go_enter Try.func10, Try.ntmps10
  go_wp2_with (at_builtin; refine R_append_rows kE (Rr := kE.K W) (w0 := W) base rfl (.tmp 23) (.tmp 24) 24 40 _ 120 rfl Try.underlying24 infoE rfl (by decide) (by decide) _ xs [x] (some ⟨vb, 0, none⟩) 1 1 (fun _ => True) (fun k => True ∧ some k ≠ (Value.slice (some ⟨g, 0, none⟩) n c).ownBlock) rfl rfl HO'.out HV'.out (fun y cs hy => flatE _ _ _ _ _ _ hy) (fun k hk => hk) (fun _ _ => trivial) (Below.refl _ _) hb hl ?_; intro v1 w1 h1 h2 h3 h4)
  all_goals
    go_ret
    exact ⟨v1, rfl, h1, h3⟩
theorem sizeE (w : World) : (Go.sizeOf 40).run Try.prog w = .ok 14 w := by kernel_rfl
theorem cellsE_len (x : SE) : (cellsE x).length = 14 := rfl
set_option maxHeartbeats 4000000 in
set_option maxRecDepth 100000 in
theorem insert_mid (W : World) (base c g vb i : Nat) (xs : List SE) (x : SE) (hi : i < xs.length) (hroom : xs.length + 1 ≤ c) (HO : kE.R 40 W base (fun _ => True) (.slice (some ⟨g, 0, none⟩) xs.length c) xs)
    (HV : W.heap[vb]? = some (.cells (cellsE x).toArray 40 (0, 0))) (hne : vb ≠ g) :
    Calls Try.prog 10 #[.slice (some ⟨g, 0, none⟩) xs.length c, .int .i64 i, .slice (some ⟨vb, 0, none⟩) 1 1] W fun e w' =>
      ∃ v1, e = .returned v1 ∧ kE.R 40 w' base (fun _ => True) v1 (xs.take i ++ ([x] ++ xs.drop i)) ∧ W.grownBy w' (some g) := by
  obtain ⟨_, inner, hown, hrep⟩ := HO
  rcases hown.2 with ⟨h0, _⟩ | ⟨g', cap, cur, he, hb, hh, hnc, hcm, hcs, ht⟩
  · injection h0 with h0 _ _
    cases h0
  injection he with he hx_ hc
  clear hx_
  injection he with he
  injection he with he _ _
  subst he; subst hc
  rw [szE] at hcs ht hrep
  have hil : inner.length = xs.length * 14 := hrep.1
  have hsz : xs.length * 14 + 14 ≤ cur.size := by omega
  have hov : ∀ lb cb, (callFunc 11 #[.slice (some ⟨vb, 0, none⟩) 1 1, .slice (some ⟨g, (i + 1) * 14, none⟩) lb cb]).run Try.prog W = .ok (.value (.bool false)) W := fun lb cb => by
    rw [run_callFunc_extern Try.func11 (by kernel_rfl) (by kernel_rfl) (by kernel_rfl) (e := Extern.SlicesOverlaps.overlaps #[24, 24] #[4]) (by kernel_rfl),
      Lib.run_overlaps_apart W 24 4 40 Try.underlying24 14 sizeE ⟨vb, 0, none⟩ ⟨g, (i + 1) * 14, none⟩ 1 1 lb cb hne 40 40 14 cur.size (by simp [World.shape?, HV, cellsE]) (by simp [World.shape?, hh]) (by omega) (blk_frozen HV _) (blk_frozen HV _)]
    rfl
  have hdl : (inner.drop (i * 14)).length = (xs.length - i) * 14 := by rw [List.length_drop, hil]; omega
  have hone : ∀ u ∈ inner, u.oneCell' = true := reps_one hrep (by decide) (fun p c hp => kE.K_one (kE.K_of_M hp))
  have hone1 : ∀ u ∈ cellsE x, u.oneCell' = true := fun u hu => kE.K_one (cellsE_K W x) u hu
  have hcp1 : ∀ ty dc sc, (Builtin.copy_ #[24, 24] ty #[.slice (some ⟨g, (i + 1) * 14, none⟩) (xs.length - i) dc, .slice (some ⟨g, i * 14, none⟩) (xs.length + 1 - i) sc]).run Try.prog W.drew = .ok (goInt ((Nat.min (xs.length + 1 - i) (xs.length - i) : Nat) : Int)) (W.drew.setCells g ((i + 1) * 14) (inner.drop (i * 14))) := fun ty dc sc =>
    run_copy_cellsK W.drew _ _ ty 40 g ((i + 1) * 14) (xs.length - i) dc ⟨g, i * 14, none⟩ (xs.length + 1 - i) sc 14 (inner.drop (i * 14)) Try.underlying24 (by kernel_rfl) (by rw [hdl, show Nat.min (xs.length + 1 - i) (xs.length - i) = xs.length - i from Nat.min_eq_right (by omega)])
      (fun j v hj => by
        rw [add_at]
        rw [List.getElem?_drop, ← ht, List.getElem?_take] at hj
        split at hj
        · show W.cell? _ = _
          rw [cell_of_row W g _ cur _ (0, 0) hh]
          simpa using hj
        · cases hj)
      (fun j hj => by show (W.cell? _).isSome = true; rw [cell_of_row W g _ cur _ (0, 0) hh]; simp; omega) (fun j _ => blk_frozen (show W.drew.heap[g]? = _ from hh) _) (fun v hv => hone v (List.mem_of_mem_drop hv))
  obtain ⟨W1, hW1⟩ : ∃ W1, W1 = W.drew.setCells g ((i + 1) * 14) (inner.drop (i * 14)) := ⟨_, rfl⟩
  obtain ⟨cur1, hh1, hs1, hl1⟩ := setCells_row (inner.drop (i * 14)) ((i + 1) * 14) W.drew cur (show W.drew.heap[g]? = _ from hh) (by omega)
  rw [← hW1] at hh1
  have hV1 : W1.heap[vb]? = some (.cells (cellsE x).toArray 40 (0, 0)) := by rw [hW1, setCells_far _ _ vb hne]; exact HV
  have hcp2 : ∀ (w : World), (∀ k : Nat, w.heap[k]? = W1.heap[k]?) → ∀ ty dc, (Builtin.copy_ #[24, 24] ty #[.slice (some ⟨g, i * 14, none⟩) (xs.length + 1 - i) dc, .slice (some ⟨vb, 0, none⟩) 1 1]).run Try.prog w = .ok (goInt ((Nat.min 1 (xs.length + 1 - i) : Nat) : Int)) (w.setCells g (i * 14) (cellsE x)) := fun w hw ty dc =>
    run_copy_cellsK w _ _ ty 40 g (i * 14) (xs.length + 1 - i) dc ⟨vb, 0, none⟩ 1 1 14 (cellsE x) Try.underlying24 (by kernel_rfl) (by rw [cellsE_len, show Nat.min 1 (xs.length + 1 - i) = 1 from Nat.min_eq_left (by omega)])
      (fun j v hj => by
        rw [add_plain, cell_of_row w vb _ _ _ (0, 0) ((hw vb).trans hV1)]
        simpa using hj)
      (fun j hj => by rw [cell_of_row w g _ _ _ (0, 0) ((hw g).trans hh1)]; rw [cellsE_len] at hj; simp; omega) (fun j _ => blk_frozen ((hw g).trans hh1) _) hone1
  have hfin : ∀ (w : World), (∀ k : Nat, w.heap[k]? = W1.heap[k]?) → w.os = W.os → w.tape = W.tape → w.output = W.output → w.heap.size = W.heap.size → kE.R 40 (w.setCells g (i * 14) (cellsE x)) base (fun _ => True) (.slice (some ⟨g, 0, none⟩) (xs.length + 1) c) (xs.take i ++ ([x] ++ xs.drop i)) ∧ W.grownBy (w.setCells g (i * 14) (cellsE x)) (some g) := by
    intro w hw e1 e2 e3 e4
    obtain ⟨cur2, hh2, hs2, hl2⟩ := setCells_row (cellsE x) (i * 14) w cur1 ((hw g).trans hh1) (by rw [cellsE_len]; omega)
    have hlen : (xs.take i ++ ([x] ++ xs.drop i)).length = xs.length + 1 := by simp; omega
    have hK : ∀ y cs, kE.K W y cs → kE.M (w.setCells g (i * 14) (cellsE x)) base (fun k => True ∧ some k ≠ (Value.slice (some ⟨g, 0, none⟩) (xs.length + 1) c).ownBlock) y cs := fun y cs hy => flatE _ _ _ _ _ _ hy
    have hrep' : Reps (kE.M (w.setCells g (i * 14) (cellsE x)) base (fun k => True ∧ some k ≠ (Value.slice (some ⟨g, 0, none⟩) (xs.length + 1) c).ownBlock)) 14 xs inner := hrep.imp_ (fun p cs hp => hK _ _ (kE.K_of_M hp))
    refine ⟨⟨fun _ _ => trivial, inner.take (i * 14) ++ (cellsE x ++ inner.drop (i * 14)), ⟨?_, .inr ⟨g, c, cur2, by rw [hlen], hb, hh2, by rw [hlen]; exact hroom, hcm, by rw [hs2, hs1]; exact hcs, ?_⟩⟩, ?_⟩, ?_⟩
    · rw [hlen]
      simp only [List.length_append, List.length_take, hdl, cellsE_len, hil, szE]
      omega
    · have h := shift_list (L := cur.toList) (X := cellsE x) (a := i * 14) (N := xs.length * 14) (k := 14) (by omega) (cellsE_len x) (by simpa using hsz)
      rw [hlen, szE, hl2, hl1, cellsE_len, hdl, show (xs.length + 1) * 14 = xs.length * 14 + 14 by omega, show (i + 1) * 14 = i * 14 + 14 by omega, show i * 14 + 14 + (xs.length - i) * 14 = xs.length * 14 + 14 by omega, ← ht, h, List.append_assoc]
    · refine reps_append (reps_take hrep' (by omega)) (reps_append ?_ (reps_drop hrep'))
      have h1 := Reps.snoc (Reps.none (kE.M (w.setCells g (i * 14) (cellsE x)) base (fun k => True ∧ some k ≠ (Value.slice (some ⟨g, 0, none⟩) (xs.length + 1) c).ownBlock)) 14) (hK x _ (cellsE_K W x)) (cellsE_len x)
      exact h1
    · obtain ⟨s1, s2, s3, s4⟩ := setCells_same g (cellsE x) (i * 14) w
      refine ⟨by rw [s1, e1], by rw [s2, e2], by rw [s3, e3], by rw [s4, e4]; exact Nat.le_refl _, fun k _ hk => ?_⟩
      have hkg : k ≠ g := fun e' => hk (by rw [e'])
      rw [setCells_far _ _ k hkg, hw k, hW1, setCells_far _ _ k hkg]
      rfl
  have hsame : W1.os = W.os ∧ W1.tape = W.tape ∧ W1.output = W.output ∧ W1.heap.size = W.heap.size := by
    obtain ⟨s1, s2, s3, s4⟩ := setCells_same g (inner.drop (i * 14)) ((i + 1) * 14) W.drew
    rw [hW1]
    exact ⟨s1, s2, s3, s4⟩
  rw [← hW1] at hcp1
  have hz2 : ¬ ((i : Int) = (xs.length : Int)) := by omega
  have hw1 : IntKind.i64.wrap ((i : Int) + 1) = (i : Int) + 1 := by rw [IntKind.wrap_i64]; unfold maxLen at hcm; omega
  have hb1 : (0 : Int) ≤ (i : Int) + 1 := by omega
  have hin : i ≤ xs.length := by omega
  have htn : ((i : Int) + 1).toNat = i + 1 := by omega
  have hb2 : ¬ (c = i + 1) := by omega
  have hb3 : (i : Int) ≤ (xs.length : Int) + 1 := by omega
  have hb4 : ¬ (c = i) := by omega
  have hcm' : c ≤ 9223372036854775807 := by unfold maxLen at hcm; omega
  have F1 := Aside0.mk hfin
  have F2 := Aside0.mk hsame
  have F3 := Aside0.mk hW1
  have C1 := Aside0.mk hcp1
  have C2 := Aside0.mk hcp2
  clear hcs ht hrep hil HV hh hcm hown hsz hdl hone hone1 hfin hsame hW1 hl1 hs1 hh1 hV1 hcp1 hcp2
  go_enter Try.func10, Try.ntmps10
  go_wp2_with (simp only [hov])
  go_region_law (refine step_copy_run rfl (.tmp 73) (.tmp 76) 24 24 rfl (.slice (some ⟨g, (i + 1) * 14, none⟩) (xs.length - i) (c - (i + 1))) (.slice (some ⟨g, i * 14, none⟩) (xs.length + 1 - i) (c - i)) (by simp [Act.eval, Act.put]) (by simp [Act.eval, Act.put]) (C1.out _ _ _) ?_)
  go_wp2_with (refine wpList_copy_run _ rfl (.tmp 80) (.tmp 81) 24 24 rfl (.slice (some ⟨g, i * 14, none⟩) (xs.length + 1 - i) (c - i)) (.slice (some ⟨vb, 0, none⟩) 1 1) (by simp [Act.eval, Act.put]) (by simp [Act.eval, Act.put]) (C2.out _ (fun _ => rfl) _ _) ?_)
  go_ret
  exact ⟨_, rfl, F1.out _ (fun _ => rfl) F2.out.1 F2.out.2.1 F2.out.2.2.1 F2.out.2.2.2⟩
end Go.Proofs.Ytndgpncdnbbneaa.Own
