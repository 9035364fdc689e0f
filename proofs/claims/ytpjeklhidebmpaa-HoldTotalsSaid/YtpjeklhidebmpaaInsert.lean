/- slices.Insert at holds, one value: at the end; ahead of the end, where there is no room. -/
import Derived.Test.YtpjeklhidebmpaaFind
import Derived.Lib.AppendZerosOnto
set_option linter.unusedVariables false
set_option linter.unusedSimpArgs false
namespace Go.Proofs.Ytpjeklhidebmpaa.Lk
open Go.RowKit Go.Proofs.YtpjeklhidebmpaaW.PrintWords Go.Proofs.YtpjeklhidebmpaaW.PrintWords.Kd Go.Proofs.YtpjeklhidebmpaaW.PrintLast Go.Proofs.YtpjeklhidebmpaaW.PrintMore Go.Proofs.Ytpjeklhidebmpaa.Xa Go.Proofs.Ytpjeklhidebmpaa.Own
theorem cells_C {W : World} {vb : Nat} {x : HN} (HV : W.heap[vb]? = some (.cells (aH x) 26 (0, 0))) : kH.C W (some ⟨vb, 0, none⟩) 1 [x] := by
  refine ⟨rfl, by decide, fun _ => ⟨_, rfl, fun j p hj => ?_⟩⟩
  have h0 : j = 0 := by
    cases j with
    | zero => rfl
    | succ j => simp at hj
  subst h0
  simp at hj
  subst hj
  refine ⟨cellsH x, rfl, rfl, fun i u hi => ?_⟩
  rw [add_plain, cell_of_row W vb _ _ _ (0, 0) HV]
  simpa [aH, cellsH] using hi
set_option maxHeartbeats 2000000 in
set_option maxRecDepth 100000 in
theorem insert_end (W : World) (base n c g vb : Nat) (xs : List HN) (x : HN) (hn : n = xs.length) (hb : base ≤ W.heap.size) (HO : kH.R 26 W base (fun _ => True) (.slice (some ⟨g, 0, none⟩) n c) xs)
    (HV : kH.C W (some ⟨vb, 0, none⟩) 1 [x]) (hl : xs.length < 1000000) :
    Calls Try.prog 15 #[.slice (some ⟨g, 0, none⟩) n c, .int .i64 n, .slice (some ⟨vb, 0, none⟩) 1 1] W fun e w' =>
      ∃ v1, e = .returned v1 ∧ kH.R 26 w' base (fun _ => True) v1 (xs ++ [x]) ∧ W.grownBy w' (some g) := by
  have hnz : ((n : Int) == (n : Int)) = true := beq_self_eq_true _
  have HO' := Aside0.mk HO
  have HV' := Aside0.mk HV
  clear HO HV
  have hn' := Aside0.mk hn
  clear hn
  have hl' : (xs.length + 1) * 48 ≤ 140737488355328 := by omega
  go_enter Try.func15, Try.ntmps15
  go_wp2_with (at_builtin; refine R_append_rows kH (Rr := kH.K W) (w0 := W) base rfl (.tmp 23) (.tmp 24) 30 26 _ 48 rfl Try.underlying30 infoH rfl (by decide) (by decide) _ xs [x] (some ⟨vb, 0, none⟩) 1 1 (fun _ => True) (fun k => True ∧ some k ≠ (Value.slice (some ⟨g, 0, none⟩) n c).ownBlock) rfl rfl HO'.out HV'.out (fun y cs hy => flatH _ _ _ _ _ _ hy) (fun k hk => hk) (fun _ _ => trivial) (Below.refl _ _) hb hl' ?_; intro v1 w1 h1 h2 h3 h4)
  all_goals
    go_ret
    exact ⟨v1, rfl, h1, h3⟩
theorem sizeH (w : World) : (Go.sizeOf 26).run Try.prog w = .ok 4 w := by kernel_rfl
set_option maxHeartbeats 4000000 in
set_option maxRecDepth 100000 in
theorem insert_grow (W : World) (base g vb i : Nat) (xs : List HN) (x : HN) (hi : i < xs.length) (HO : kH.R 26 W base (fun _ => True) (.slice (some ⟨g, 0, none⟩) xs.length xs.length) xs)
    (HV : W.heap[vb]? = some (.cells (aH x) 26 (0, 0))) (hl : xs.length < 1000000) (hb : base ≤ W.heap.size) :
    Calls Try.prog 15 #[.slice (some ⟨g, 0, none⟩) xs.length xs.length, .int .i64 i, .slice (some ⟨vb, 0, none⟩) 1 1] W fun e w' =>
      ∃ v1, e = .returned v1 ∧ kH.R 26 w' base (fun _ => True) v1 (xs.take i ++ ([x] ++ xs.drop i)) ∧ W.grownBy w' (some g) := by
  obtain ⟨_, inner, hown, hrep⟩ := HO
  rcases hown.2 with ⟨h0, _⟩ | ⟨g', cap, cur, he, hbg, hh, hnc, hcm, hcs, ht⟩
  · injection h0 with h0 _ _
    cases h0
  injection he with he hx_ hc
  clear hx_
  injection he with he
  injection he with he _ _
  subst he; subst hc
  have hsz4 : kH.sz = 4 := rfl
  rw [hsz4] at hcs ht hrep
  have hil : inner.length = xs.length * 4 := hrep.1
  have hgw : g < W.heap.size := blk_lt hh
  have hvw : vb < W.heap.size := blk_lt HV
  obtain ⟨i0, hi0, hzz⟩ := Option.map_eq_some_iff.1 infoH
  simp only [Prod.mk.injEq] at hzz
  obtain ⟨hz0, hzs, hzb⟩ := hzz
  have hone : ∀ u ∈ inner, u.oneCell' = true := reps_one hrep (by decide) (fun p c hp => kH.K_one (kH.K_of_M hp))
  have hcg : ∀ j v, inner[j]? = some v → W.cell? ⟨g, j, none⟩ = some v := fun j v hj => by
    rw [cell_of_row W g _ cur _ (0, 0) hh]
    rw [← ht, List.getElem?_take] at hj
    split at hj
    · simpa using hj
    · cases hj
  have hold : (Builtin.firstCells i0.size i (.slice (some ⟨g, 0, none⟩) i xs.length)).run Try.prog W.drew = .ok (inner.take (i * 4)).toArray W.drew := by
    rw [hzs]
    exact run_firstCells_some W.drew 4 i ⟨g, 0, none⟩ i xs.length (inner.take (i * 4)) (by rw [List.length_take]; omega) (fun j v hj => by
      rw [add_plain]
      rw [List.getElem?_take] at hj
      split at hj
      · exact hcg j v hj
      · cases hj)
  obtain ⟨G, hG⟩ : ∃ G, G = grownCap W (xs.length + 1) xs.length 26 := ⟨_, rfl⟩
  obtain ⟨Z, hZ⟩ : ∃ Z : Value, Z = (.agg #[.int .i64 0, .slice none 0 0, .int .i64 0, .int .i64 0]) := ⟨_, rfl⟩
  have hZs : Z.cells.size = 4 := by rw [hZ]; rfl
  obtain ⟨ROW, hROW⟩ : ∃ ROW : Array Value, ROW = (inner.take (i * 4)).toArray ++ Builtin.zeroCells Z.cells (xs.length + 1 - i) ++ Builtin.zeroCells Z.cells (G - (xs.length + 1)) := ⟨_, rfl⟩
  have hGn : xs.length + 1 ≤ G := by rw [hG]; exact grownCap_ge W _ _ _
  have hGm : G ≤ maxLen := by rw [hG]; exact grownCap_le_maxLen W _ _ _ (by unfold maxLen; omega)
  have hRs : ROW.size = G * 4 := by
    rw [hROW]
    simp only [Array.size_append, size_zeroCells, hZs, List.size_toArray, List.length_take, hil]
    omega
  have hRt : ROW.toList.take (i * 4) = inner.take (i * 4) := by
    rw [hROW]
    simp only [Array.toList_append, List.append_assoc]
    rw [List.take_append_of_le_length (by simp only [List.length_take, hil]; omega), List.take_of_length_le (by simp only [List.length_take, hil]; omega)]
  have hrz : ∀ ty, (Builtin.append_ #[30, 3] ty #[.slice (some ⟨g, 0, none⟩) i xs.length, .int .i64 ((xs.length : Int) + 1 - (i : Int))]).run Try.prog W =
      .ok (.slice (some ⟨W.heap.size, 0, none⟩) (xs.length + 1) G) (W.drew.alloc (.cells ROW 26)) := fun ty => by
    have h := Lib.run_append_grow_zeros (P := Try.prog) W 30 3 ty 26 i0 _ .i64 .i64 Try.underlying30 Try.underlying3 hi0 hz0 (some ⟨g, 0, none⟩) i xs.length (inner.take (i * 4)) hold (xs.length + 1 - i) (by omega) (by omega) (by omega) (by omega) (by rw [hzb]; omega) (by rw [hzb, show i + (xs.length + 1 - i) = xs.length + 1 by omega]; exact growslice_fits (Nat.lt_succ_self _) (by omega))
    rw [show i + (xs.length + 1 - i) = xs.length + 1 by omega, ← hG, ← hZ, ← hROW, show ((xs.length + 1 - i : Nat) : Int) = (xs.length : Int) + 1 - (i : Int) by omega] at h
    exact h
  obtain ⟨W1, hW1⟩ : ∃ W1, W1 = W.drew.alloc (.cells ROW 26) := ⟨_, rfl⟩
  rw [← hW1] at hrz
  have hN1 : W1.heap[W.heap.size]? = some (.cells ROW 26 (0, 0)) := by rw [hW1]; exact blk_new W.drew _
  have hg1 : W1.heap[g]? = some (.cells cur 26 (0, 0)) := by rw [hW1]; exact blk_alloc (blk_drew hh) _
  have hv1 : W1.heap[vb]? = some (.cells (aH x) 26 (0, 0)) := by rw [hW1]; exact blk_alloc (blk_drew HV) _
  have hB1 : Below W.heap.size W W1 := by rw [hW1]; exact below_alloc (pw_below_drewN (Below.refl _ _) 1) _
  have hs1 : W1.heap.size = W.heap.size + 1 := by rw [hW1]; simp
  clear hW1
  -- the value
  obtain ⟨W2, hW2⟩ : ∃ W2, W2 = W1.setCells W.heap.size (i * 4) (aH x).toList := ⟨_, rfl⟩
  have hcp1 : ∀ ty dc, (Builtin.copy_ #[30, 30] ty #[.slice (some ⟨W.heap.size, i * 4, none⟩) (xs.length + 1 - i) dc, .slice (some ⟨vb, 0, none⟩) 1 1]).run Try.prog W1 = .ok (goInt ((Nat.min 1 (xs.length + 1 - i) : Nat) : Int)) W2 := fun ty dc => by
    rw [hW2]
    exact run_copy_cellsK W1 _ _ ty 26 W.heap.size (i * 4) (xs.length + 1 - i) dc ⟨vb, 0, none⟩ 1 1 4 (aH x).toList Try.underlying30 (by kernel_rfl) (by rw [aH_len, show Nat.min 1 (xs.length + 1 - i) = 1 from Nat.min_eq_left (by omega)])
      (fun j v hj => by
        rw [add_plain, cell_of_row W1 vb _ _ _ (0, 0) hv1]
        simpa using hj)
      (fun j hj => by rw [cell_of_row W1 _ _ _ _ (0, 0) hN1]; rw [aH_len] at hj; simp; omega) (fun j _ => blk_frozen hN1 _) (aH_one x)
  obtain ⟨cur2, hh2, hs2, hl2⟩ := setCells_row (aH x).toList (i * 4) W1 ROW hN1 (by rw [aH_len]; omega)
  rw [← hW2] at hh2
  have hg2 : W2.heap[g]? = some (.cells cur 26 (0, 0)) := by rw [hW2, setCells_far _ _ g (by omega)]; exact hg1
  have hsame2 : W2.os = W1.os ∧ W2.tape = W1.tape ∧ W2.output = W1.output ∧ W2.heap.size = W1.heap.size := by
    obtain ⟨s1, s2, s3, s4⟩ := setCells_same W.heap.size (aH x).toList (i * 4) W1
    rw [hW2]
    exact ⟨s1, s2, s3, s4⟩
  have hfar2 : ∀ k, k ≠ W.heap.size → W2.heap[k]? = W1.heap[k]? := fun k hk => by rw [hW2, setCells_far _ _ k hk]
  clear hW2
  -- what stood behind
  have hdl : (inner.drop (i * 4)).length = (xs.length - i) * 4 := by rw [List.length_drop, hil]; omega
  have hcp2 : ∀ (w : World), (∀ k : Nat, w.heap[k]? = W2.heap[k]?) → ∀ ty dc sc, (Builtin.copy_ #[30, 30] ty #[.slice (some ⟨W.heap.size, (i + 1) * 4, none⟩) (xs.length - i) dc, .slice (some ⟨g, i * 4, none⟩) (xs.length - i) sc]).run Try.prog w = .ok (goInt ((Nat.min (xs.length - i) (xs.length - i) : Nat) : Int)) (w.setCells W.heap.size ((i + 1) * 4) (inner.drop (i * 4))) := fun w hw ty dc sc =>
    run_copy_cellsK w _ _ ty 26 W.heap.size ((i + 1) * 4) (xs.length - i) dc ⟨g, i * 4, none⟩ (xs.length - i) sc 4 (inner.drop (i * 4)) Try.underlying30 (by kernel_rfl) (by rw [hdl, show Nat.min (xs.length - i) (xs.length - i) = xs.length - i from Nat.min_self _])
      (fun j v hj => by
        rw [add_at, cell_of_row w g _ cur _ (0, 0) ((hw g).trans hg2)]
        rw [List.getElem?_drop, ← ht, List.getElem?_take] at hj
        split at hj
        · simpa using hj
        · cases hj)
      (fun j hj => by rw [cell_of_row w _ _ _ _ (0, 0) ((hw W.heap.size).trans hh2)]; simp; omega) (fun j _ => blk_frozen ((hw W.heap.size).trans hh2) _) (fun v hv => hone v (List.mem_of_mem_drop hv))
  have hfin : ∀ (w : World), (∀ k : Nat, w.heap[k]? = W2.heap[k]?) → w.os = W2.os → w.tape = W2.tape → w.output = W2.output → w.heap.size = W2.heap.size → kH.R 26 (w.setCells W.heap.size ((i + 1) * 4) (inner.drop (i * 4))) base (fun _ => True) (.slice (some ⟨W.heap.size, 0, none⟩) (xs.length + 1) G) (xs.take i ++ ([x] ++ xs.drop i)) ∧ W.grownBy (w.setCells W.heap.size ((i + 1) * 4) (inner.drop (i * 4))) (some g) := by
    intro w hw e1 e2 e3 e4
    obtain ⟨cur3, hh3, hs3, hl3⟩ := setCells_row (inner.drop (i * 4)) ((i + 1) * 4) w cur2 ((hw W.heap.size).trans hh2) (by omega)
    have hlen : (xs.take i ++ ([x] ++ xs.drop i)).length = xs.length + 1 := by simp; omega
    have hrep' : Reps (kH.M (w.setCells W.heap.size ((i + 1) * 4) (inner.drop (i * 4))) base (fun k => True ∧ some k ≠ (Value.slice (some ⟨W.heap.size, 0, none⟩) (xs.length + 1) G).ownBlock)) 4 xs inner := hrep.imp_ (fun p cs hp => hp)
    refine ⟨⟨fun _ _ => trivial, inner.take (i * 4) ++ ((aH x).toList ++ inner.drop (i * 4)), ⟨?_, .inr ⟨W.heap.size, G, cur3, by rw [hlen], hb, hh3, by rw [hlen]; exact hGn, hGm, by rw [hs3, hs2]; exact hRs, ?_⟩⟩, ?_⟩, ?_⟩
    · rw [hlen]
      simp only [List.length_append, List.length_take, hdl, aH_len, hil, hsz4]
      omega
    · have h1 : (ROW.toList.take (i * 4)).length = i * 4 := by rw [hRt, List.length_take, hil]; omega
      have h2 : cur2.toList.take ((i + 1) * 4) = inner.take (i * 4) ++ (aH x).toList := by
        rw [hl2, hRt, aH_len, List.take_append_of_le_length (by simp only [List.length_append, List.length_take, aH_len, hil]; omega), List.take_of_length_le (by simp only [List.length_append, List.length_take, aH_len, hil]; omega)]
      rw [hlen, hsz4, hl3, h2, List.take_append_of_le_length (by simp only [List.length_append, List.length_take, aH_len, hil, hdl]; omega), List.take_of_length_le (by simp only [List.length_append, List.length_take, aH_len, hil, hdl]; omega), List.append_assoc]
    · refine reps_append (reps_take hrep' (by omega)) (reps_append ?_ (reps_drop hrep'))
      have h1 := Reps.snoc (Reps.none (kH.M (w.setCells W.heap.size ((i + 1) * 4) (inner.drop (i * 4))) base (fun k => True ∧ some k ≠ (Value.slice (some ⟨W.heap.size, 0, none⟩) (xs.length + 1) G).ownBlock)) 4) (p := x) (c := cellsH x) rfl (cellsH_len x)
      exact h1
    · obtain ⟨s1, s2, s3, s4⟩ := setCells_same W.heap.size (inner.drop (i * 4)) ((i + 1) * 4) w
      refine ⟨by rw [s1, e1, hsame2.1]; exact hB1.os, by rw [s2, e2, hsame2.2.1]; exact hB1.tape, by rw [s3, e3, hsame2.2.2.1]; exact hB1.output, by rw [s4, e4, hsame2.2.2.2]; exact hB1.size, fun k hk _ => ?_⟩
      rw [setCells_far _ _ k (by omega), hw k, hfar2 k (by omega)]
      exact hB1.block k hk
  have hz2 : ¬ ((i : Int) = (xs.length : Int)) := by omega
  have hz3 : (xs.length : Int) < (xs.length : Int) + 1 := by omega
  have hw1 : IntKind.i64.wrap ((i : Int) + 1) = (i : Int) + 1 := by rw [IntKind.wrap_i64]; omega
  have hb1 : (0 : Int) ≤ (i : Int) + 1 := by omega
  have hin : i ≤ xs.length := by omega
  have htn : ((i : Int) + 1).toNat = i + 1 := by omega
  have hGi : ¬ (G = i) := by omega
  have hGim : ¬ (G = i + 1) := by omega
  have hci : ¬ (xs.length = i) := by omega
  have hb3 : (i : Int) ≤ (xs.length : Int) := by omega
  have hcm' : G ≤ 9223372036854775807 := by unfold maxLen at hGm; omega
  have F1 := Aside0.mk hfin
  have C1 := Aside0.mk hcp1
  have C2 := Aside0.mk (fun ty dc sc => hcp2 W2.drew (fun _ => rfl) ty dc sc)
  have C0 := Aside0.mk hrz
  have GN := Aside0.mk hGn
  clear hcs ht hrep hil HV hh hcm hown hdl hone hfin hl2 hs2 hh2 hcp1 hcp2 hrz hGm hRs hRt hROW hZs hZ hold hcg hzb hzs hz0 hi0 hG hsame2 hfar2 hg2 hg1 hv1 hB1 hN1 hs1 hgw hvw hnc hbg hGn
  go_enter Try.func15, Try.ntmps15
  go_wp2_with (first
    | (refine Lib.wpList_append_run _ rfl (.tmp 34) (.tmp 39) 30 3 rfl _ _ rfl rfl _ _ (C0.out _) ?_)
    | (refine wpList_copy_run _ rfl (.tmp 43) (.tmp 44) 30 30 rfl (.slice (some ⟨W.heap.size, i * 4, none⟩) (xs.length + 1 - i) (G - i)) (.slice (some ⟨vb, 0, none⟩) 1 1) (by simp [Act.eval, Act.put]) (by simp [Act.eval, Act.put]) (C1.out _ _) ?_))
  go_region_law (refine step_copy_run rfl (.tmp 50) (.tmp 53) 30 30 rfl (.slice (some ⟨W.heap.size, (i + 1) * 4, none⟩) (xs.length - i) (G - (i + 1))) (.slice (some ⟨g, i * 4, none⟩) (xs.length - i) (xs.length - i)) (by simp [Act.eval, Act.put]) (by simp [Act.eval, Act.put]) (C2.out _ _ _) ?_)
  go_wp2
  go_ret
  exact ⟨_, rfl, F1.out _ (fun _ => rfl) rfl rfl rfl rfl⟩
end Go.Proofs.Ytpjeklhidebmpaa.Lk
