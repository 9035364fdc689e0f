/- HoldTotals: Total, Put of a hold with parts into none; its walk. -/
import Derived.Test.YtpjeklhidebmpaaAgain
import Derived.Test.YtpjeklhidebmpaaXa14
set_option linter.unusedVariables false
set_option linter.unusedSimpArgs false
namespace Go.Proofs.Ytpjeklhidebmpaa.Lk
open Go.RowKit Go.Proofs.YtpjeklhidebmpaaW.PrintWords Go.Proofs.YtpjeklhidebmpaaW.PrintWords.Kd Go.Proofs.YtpjeklhidebmpaaW.PrintLast Go.Proofs.YtpjeklhidebmpaaW.PrintMore Go.Proofs.Ytpjeklhidebmpaa.Xa Go.Proofs.Ytpjeklhidebmpaa.Own
abbrev SP := S28
abbrev kP := k28
def sumN : List SP → Int
  | [] => 0
  | p :: ps => p.f1 + sumN ps
theorem sumN_snoc (p : SP) : ∀ ps : List SP, sumN (ps ++ [p]) = sumN ps + p.f1
  | [] => by simp [sumN]
  | q :: ps => by simp [sumN, sumN_snoc p ps]; omega
theorem total_l0 (l : List SP) (hb : ∀ p ∈ l, -1000 < p.f1 ∧ p.f1 < 1000) (hl : l.length ≤ 20) (j : Nat) : ∀ (i : Nat) (acc : Int), i + j = l.length → -(1000 * ((i : Int) + 1)) < acc → acc < 1000 * ((i : Int) + 1) → Ev (fun k => hold_Total.l0 k acc l (l.length : Int) (i : Int)) (acc + sumN (l.drop i)) := by
  induction j with
  | zero =>
    intro i acc hi h1 h2
    refine Ev.step (fun k => by simp only [hold_Total.l0]; rfl) ?_
    refine Ev.ite_neg (by omega) ?_
    rw [List.drop_of_length_le (by omega)]
    exact Ev.eq (Ev.now acc) (by simp [sumN])
  | succ j ih =>
    intro i acc hi h1 h2
    have hil : i < l.length := by omega
    have e : rd_T28 l (i : Int) = l[i] := by simp [rd_T28, hil]
    have hb1 := hb l[i] (List.getElem_mem hil)
    refine Ev.step (fun k => by simp only [hold_Total.l0]; rfl) ?_
    refine Ev.ite_pos (by omega) (Ev.ite_pos (by omega) (Ev.ite_pos (by omega) ?_))
    rw [e, List.drop_eq_getElem_cons hil, w64 (by omega) (by omega), w64 (by omega) (by omega)]
    have := ih (i + 1) (acc + l[i].f1) (by omega) (by omega) (by omega)
    exact Ev.eq this (by simp only [sumN]; omega)
theorem total_calls (A : Option Addr) (c : Nat) (l : List SP) (id over til : Int) (w : World) (hC : Kd.C kP w A l.length l) (hc : l.length ≤ c) (hb : ∀ p ∈ l, -1000 < p.f1 ∧ p.f1 < 1000) (hl : l.length ≤ 20) (h1 : -1000 < over) (h2 : over < 1000) :
    Calls Try.prog 7 #[.agg #[.int .i64 id, .slice A l.length c, .int .i64 over, .int .i64 til]] w fun e w' => e = .returned (.int .i64 (over + sumN l)) ∧ Below w.heap.size w w' := by
  obtain ⟨k, hk⟩ := Ev.rounds (total_l0 l hb hl l.length 0 over (by omega) (by simpa using h1) (by simpa using h2))
  exact hold_Total.calls k id A c l over til _ w hC hc hk
theorem infoP : (Try.prog.info? 28).map (fun i => (i.zero, i.size, i.bytes)) = some (some (.agg #[.int .i64 0, .int .i64 0]), 2, 16) := by kernel_rfl
theorem flatP : Flat kP := fun w w' base ok x cs h => by rw [k28_open h]; exact k28_mkM _ _ _ _
/-- Parts of one's own. -/
def OwnP (w : World) (base : Nat) (v : Value) (ps : List SP) : Prop := kP.R 28 w base (fun _ => True) v ps
theorem ownP_reads {w : World} {base : Nat} {v : Value} {ps : List SP} (h : OwnP w base v ps) : ∃ A c, v = .slice A ps.length c ∧ ps.length ≤ c ∧ kP.C w A ps.length ps := by
  obtain ⟨A, c, rfl, h3, _⟩ := R_reads h
  exact ⟨A, c, rfl, h3, (R_reads' h).2.2⟩
set_option maxHeartbeats 1000000 in
/-- slices.Clone of parts. -/
theorem cloneP_calls (A : Option Addr) (c : Nat) (ps : List SP) (w : World) (hA : A = none → ps.length = 0 ∧ c = 0) (hC : Kd.C kP w A ps.length ps) (hc : ps.length ≤ c) (hl : ps.length ≤ 20) :
    Calls Try.prog 20 #[.slice A ps.length c] w fun e w' => ∃ v1, e = .returned v1 ∧ OwnP w' w.heap.size v1 ps ∧ Below w.heap.size w w' := by
  cases A with
  | none =>
    obtain ⟨h1, rfl⟩ := hA rfl
    obtain rfl : ps = [] := List.length_eq_zero_iff.1 h1
    exact (clone_calls w).mono fun e w' ⟨h2, h3⟩ => ⟨_, h2, by subst h3; exact R_nil _ _ _ _ _, by subst h3; exact Below.refl _ _⟩
  | some a =>
    have HC := Aside0.mk hC
    have he : ∀ w, Sem.run Try.prog (binOp .eql 24 (.slice (some a) ps.length c) (.slice none 0 0)) w = .ok (.bool false) w := fun w => by kernel_rfl
    clear hA hC
    go_enter Try.func20, Try.ntmps20
    have hB0 : Below w.heap.size w (w.alloc (.cells #[] 28)) := below_alloc (Below.refl _ _) _
    have hE : OwnP (w.alloc (.cells #[] 28)) w.heap.size (.slice (some ⟨w.heap.size, 0, none⟩) 0 0) [] :=
      ⟨fun _ _ => trivial, [], ⟨rfl, .inr ⟨w.heap.size, 0, #[], rfl, Nat.le_refl _, blk_new w _, Nat.le_refl _, Nat.zero_le _, rfl, rfl⟩⟩, Reps.none _ _⟩
    have HB0 := Aside0.mk hB0
    have HE := Aside0.mk hE
    clear hB0 hE
    have hl' : (([] : List SP).length + ps.length) * 16 ≤ 140737488355328 := by simp; omega
    go_wp2_with (at_builtin; refine R_append_rows kP (Rr := kP.K (w.alloc (.cells #[] 28))) (w0 := w) w.heap.size rfl (.tmp 5) (.tmp 6) 24 28 _ 16 rfl Try.underlying24 infoP rfl (by decide) (by decide) _ [] ps (some a) ps.length c (fun _ => True) (fun k => True ∧ some k ≠ (Value.slice (some ⟨w.heap.size, 0, none⟩) 0 0).ownBlock) rfl rfl HE.out (C_below HC.out HB0.out) (fun y cs hy => flatP _ _ _ _ _ _ hy) (fun k hk => hk) (fun _ _ => trivial) HB0.out (by simp) hl' ?_; intro v1 w1 h1 h2 h3 h4)
    go_ret
    exact ⟨v1, rfl, h1, h2⟩
theorem OwnP.far {w : World} {base g o : Nat} {v u : Value} {ps : List SP} (h : OwnP w base v ps) (hg : g < base) : OwnP (w.setCell ⟨g, o, none⟩ u) base v ps :=
  R_mono (R_far (p := ⟨g, o, none⟩) (R_bound h) (fun k hk => by have h2 := hk.2.1; show k ≠ g; omega) u) (fun _ _ => trivial)
theorem OwnP.below {w w' : World} {base : Nat} {v : Value} {ps : List SP} (h : OwnP w base v ps) (hb : Below w.heap.size w w') : OwnP w' base v ps := R_below h hb
theorem OwnP.lower {w : World} {base base' : Nat} {v : Value} {ps : List SP} (h : OwnP w base v ps) (hb : base' ≤ base) : OwnP w base' v ps := R_lower h hb
/-- Four cells of a block known whole. -/
theorem four {w : World} {g : Nat} {v0 v1 v2 v3 : Value} {t : TypeId} (h : w.heap[g]? = some (.cells #[v0, v1, v2, v3] t (0, 0))) : w.cell? ⟨g, 0, none⟩ = some v0 ∧ w.cell? ⟨g, 1, none⟩ = some v1 ∧ w.cell? ⟨g, 2, none⟩ = some v2 ∧ w.cell? ⟨g, 3, none⟩ = some v3 := by
  refine ⟨?_, ?_, ?_, ?_⟩ <;> (rw [cell_of_row w g _ _ _ (0, 0) h]; rfl)
set_option maxHeartbeats 2000000 in
theorem twinP_calls (A : Option Addr) (c : Nat) (ps : List SP) (id over til : Int) (w : World) (hA : A = none → ps.length = 0 ∧ c = 0) (hC : Kd.C kP w A ps.length ps) (hc : ps.length ≤ c) (hl : ps.length ≤ 20) :
    Calls Try.prog 14 #[.agg #[.int .i64 id, .slice A ps.length c, .int .i64 over, .int .i64 til]] w fun e w' => ∃ v1, e = .returned (.agg #[.int .i64 id, v1, .int .i64 over, .int .i64 til]) ∧ OwnP w' w.heap.size v1 ps ∧ Below w.heap.size w w' := by
  have HA := Aside0.mk hA
  have HC := Aside0.mk hC
  clear hA hC
  go_enter Try.func14, Try.ntmps14
  go_wp2_with fail
  generalize hw2 : (w.alloc _).alloc _ = w2
  have hk0 : w2.heap[w.heap.size]? = some (.cells #[.int .i64 id, .slice A ps.length c, .int .i64 over, .int .i64 til] 26 (0, 0)) := by rw [← hw2]; exact blk_alloc (blk_new w _) _
  have hk1 : w2.heap[w.heap.size + 1]? = some (.cells #[.int .i64 0, .slice none 0 0, .int .i64 0, .int .i64 0] 26 (0, 0)) := by rw [← hw2]; simpa using blk_new (w.alloc (.cells #[.int .i64 id, .slice A ps.length c, .int .i64 over, .int .i64 til] 26)) (.cells #[.int .i64 0, .slice none 0 0, .int .i64 0, .int .i64 0] 26)
  have hs2 : w2.heap.size = w.heap.size + 2 := by rw [← hw2]; simp
  have hB2 : Below w.heap.size w w2 := by rw [← hw2]; exact below_alloc (below_alloc (Below.refl _ _) _) _
  clear hw2
  refine (cloneP_calls A c ps w2 HA.out (C_below HC.out hB2) hc hl).mono ?_
  rintro e w3 ⟨v1, rfl, ho3, hb3⟩
  rw [hs2] at ho3
  have hk03 := blk_below hk0 hb3
  have hk13 := blk_below hk1 hb3
  have hB3 := below_step hB2 hb3
  obtain ⟨hx0, hx1, hx2, hx3⟩ := four hk03
  obtain ⟨hy0, hy1, hy2, hy3⟩ := four hk13
  have hf0 := blk_frozen hk03 1
  have hg0 := blk_frozen hk13 0
  have hg1 := blk_frozen hk13 1
  have hg2 := blk_frozen hk13 2
  have hg3 := blk_frozen hk13 3
  have O3 := Aside0.mk ho3
  have B3 := Aside0.mk hB3
  obtain ⟨A1, c1, rfl, _, _⟩ := ownP_reads ho3
  clear ho3 hB3 hB2 hb3 hk0 hk1 hk03 hk13 hs2
  go_wp2
  exact bodyPost_ret (v := .agg #[.int .i64 id, .slice A1 ps.length c1, .int .i64 over, .int .i64 til]) (by simp [results, Try.results14, go_sem, hx0, hx1, hx2, hx3, hy0, hy1, hy2, hy3]) rfl ⟨_, rfl, ((((((O3.out.far (g := w.heap.size) (by omega)).far (g := w.heap.size + 1) (by omega)).far (g := w.heap.size + 1) (by omega)).far (g := w.heap.size + 1) (by omega)).far (g := w.heap.size + 1) (by omega)).lower (by omega)), below_set (below_set (below_set (below_set (below_set B3.out (Nat.le_refl _)) (by omega)) (by omega)) (by omega)) (by omega)⟩
set_option maxHeartbeats 2000000 in
/-- slices.Insert of one into none. -/
theorem insertOne (W : World) (g vb : Nat) (v0 v1 v2 v3 : Value) (HV : W.heap[vb]? = some (.cells #[v0, v1, v2, v3] 26 (0, 0))) :
    Calls Try.prog 15 #[.slice (some ⟨g, 0, none⟩) 0 0, .int .i64 0, .slice (some ⟨vb, 0, none⟩) 1 1] W fun e w' =>
      ∃ b c1, e = .returned (.slice (some ⟨b, 0, none⟩) 1 c1) ∧ 1 ≤ c1 ∧ (w'.cell? ⟨b, 0, none⟩ = some v0 ∧ w'.cell? ⟨b, 1, none⟩ = some v1 ∧ w'.cell? ⟨b, 2, none⟩ = some v2 ∧ w'.cell? ⟨b, 3, none⟩ = some v3) ∧ Below W.heap.size W w' := by
  obtain ⟨i0, hi0, hzz⟩ := Option.map_eq_some_iff.1 infoH
  simp only [Prod.mk.injEq] at hzz
  obtain ⟨hz0, hzs, hzb⟩ := hzz
  obtain ⟨hx0, hx1, hx2, hx3⟩ := four HV
  obtain ⟨G, hG⟩ : ∃ G, G = grownCap W 1 0 26 := ⟨_, rfl⟩
  have hrun := fun ty => run_append_grow (P := Try.prog) (w := W) 30 ty 26 i0 _ Try.underlying30 hi0 hz0 ⟨g, 0, none⟩ 0 0 [] (by simp) (by simp) ⟨vb, 0, none⟩ 1 1 [v0, v1, v2, v3] (by simp [hzs]) (fun j v hj => by
    rw [add_plain, cell_of_row W vb _ _ _ (0, 0) HV]
    simpa using hj) (by decide) (by decide) (by rw [hzb]; exact growslice_fits (by decide) (by decide))
  obtain ⟨W1, hW1⟩ : ∃ W1, W1 = W.drew.alloc (.cells ((([] : List Value).toArray ++ [v0, v1, v2, v3].toArray ++ Builtin.zeroCells (Value.agg #[.int .i64 0, .slice none 0 0, .int .i64 0, .int .i64 0]).cells (grownCap W (0 + 1) 0 26 - (0 + 1)))) 26) := ⟨_, rfl⟩
  rw [← hW1] at hrun
  have hN1 : W1.heap[W.heap.size]? = some (.cells ((([] : List Value).toArray ++ [v0, v1, v2, v3].toArray ++ Builtin.zeroCells (Value.agg #[.int .i64 0, .slice none 0 0, .int .i64 0, .int .i64 0]).cells (grownCap W (0 + 1) 0 26 - (0 + 1)))) 26 (0, 0)) := by rw [hW1]; exact blk_new W.drew _
  have hB1 : Below W.heap.size W W1 := by rw [hW1]; exact below_alloc (pw_below_drewN (Below.refl _ _) 1) _
  have hcells : W1.cell? ⟨W.heap.size, 0, none⟩ = some v0 ∧ W1.cell? ⟨W.heap.size, 1, none⟩ = some v1 ∧ W1.cell? ⟨W.heap.size, 2, none⟩ = some v2 ∧ W1.cell? ⟨W.heap.size, 3, none⟩ = some v3 := by
    refine ⟨?_, ?_, ?_, ?_⟩ <;> (rw [cell_of_row W1 _ _ _ _ (0, 0) hN1]; simp [Array.getElem?_append])
  have hge := grownCap_ge W 1 0 26
  have C0 := Aside0.mk hrun
  have C1 := Aside0.mk hcells
  have C2 := Aside0.mk hB1
  clear hrun hW1 hN1 hB1 hcells hx0 hx1 hx2 hx3 hzs hzb hz0 hi0 HV hG
  go_enter Try.func15, Try.ntmps15
  go_wp2_with (refine Lib.wpList_append_run _ rfl (.tmp 23) (.tmp 24) 30 30 rfl _ _ rfl rfl _ _ (C0.out _) ?_)
  go_ret
  exact ⟨_, _, rfl, hge, C1.out, C2.out⟩
set_option maxHeartbeats 2000000 in
/-- Put of a hold into none. -/
theorem putOne (A : Option Addr) (c : Nat) (ps : List SP) (id over til : Int) (w : World) (hA : A = none → ps.length = 0 ∧ c = 0) (hC : Kd.C kP w A ps.length ps) (hc : ps.length ≤ c) (hl : ps.length ≤ 20) :
    Calls Try.prog 8 #[.slice none 0 0, .agg #[.int .i64 id, .slice A ps.length c, .int .i64 over, .int .i64 til]] w fun e w' =>
      ∃ b c1 A1 c2, e = .returned (.slice (some ⟨b, 0, none⟩) 1 c1) ∧ 1 ≤ c1 ∧ (w'.cell? ⟨b, 0, none⟩ = some (.int .i64 id) ∧ w'.cell? ⟨b, 1, none⟩ = some (.slice A1 ps.length c2) ∧ w'.cell? ⟨b, 2, none⟩ = some (.int .i64 over) ∧ w'.cell? ⟨b, 3, none⟩ = some (.int .i64 til)) ∧ Kd.C kP w' A1 ps.length ps ∧ ps.length ≤ c2 ∧ Below w.heap.size w w' := by
  have HA := Aside0.mk hA
  have HC := Aside0.mk hC
  clear hA hC
  go_enter Try.func8, Try.ntmps8
  go_wp2_with fail
  have hb0 : Below w.heap.size w (w.alloc (.cells #[.int .i64 id, .slice A ps.length c, .int .i64 over, .int .i64 til] 26)) := below_alloc (Below.refl _ _) _
  refine (twins_calls none 0 [] _ (by exact ⟨rfl, by simp [maxLen], fun h => absurd h (by decide)⟩) (Nat.le_refl _) (by decide)).mono ?_
  rintro e w1 ⟨g, rfl, ho1, hb1⟩
  have hk1 := blk_below (blk_new w (.cells #[.int .i64 id, .slice A ps.length c, .int .i64 over, .int .i64 til] 26)) hb1
  obtain ⟨hc0, hc1, hc2, hc3⟩ := four hk1
  have HB1 := Aside0.mk (below_step hb0 hb1)
  have HO1 := Aside0.mk ho1
  have HK1 := Aside0.mk hk1
  clear hb0 hb1 hk1 ho1
  go_wp2_with fail
  refine (place_calls (some ⟨g, 0, none⟩) 0 [] id w1 List.Pairwise.nil (R_reads' HO1.out).2.2 (by decide)).mono ?_
  rintro e w2 ⟨rfl, hb2⟩
  have hk2 := blk_below HK1.out hb2
  obtain ⟨hc0, hc1, hc2, hc3⟩ := four hk2
  have HB2 := Aside0.mk (below_step HB1.out hb2)
  rw [show pos id ([] : List HN) = 0 from rfl, show hasB id ([] : List HN) = false by simp [hasB]]
  clear hb2 hk2 HB1 HO1 HK1
  go_wp2_with fail
  refine (twinP_calls A c ps id over til w2 HA.out (C_below HC.out HB2.out) hc hl).mono ?_
  rintro e w3 ⟨v1, rfl, ho3, hb3⟩
  obtain ⟨A1, c1, rfl, h5, h6⟩ := ownP_reads ho3
  have HB3 := Aside0.mk (below_step HB2.out hb3)
  have HC3 := Aside0.mk h6
  clear hb3 ho3 h6 hc0 hc1 hc2 hc3
  go_wp2_with fail
  refine (insertOne _ g w3.heap.size _ _ _ _ (blk_new w3 _)).mono ?_
  rintro e w4 ⟨b, c4, rfl, h7, h8, h9⟩
  have HC4 := Aside0.mk (C_below (C_below HC3.out (below_alloc (Below.refl _ _) _)) h9)
  have HB4 := Aside0.mk (below_step (below_alloc HB3.out _) h9)
  have H8 := Aside0.mk h8
  clear h9 h8
  go_wp2
  go_ret
  exact ⟨b, c4, A1, c1, rfl, h7, H8.out, HC4.out, h5, HB4.out⟩
theorem one_C {W : World} {g : Nat} {x : SP} (H : W.heap[g]? = some (.cells #[.int .i64 x.f0, .int .i64 x.f1] 28 (0, 0))) : kP.C W (some ⟨g, 0, none⟩) 1 [x] := by
  refine ⟨rfl, by decide, fun _ => ⟨_, rfl, fun j p hj => ?_⟩⟩
  have h0 : j = 0 := by
    cases j with
    | zero => rfl
    | succ j => simp at hj
  subst h0
  simp at hj
  subst hj
  refine ⟨[.int .i64 x.f0, .int .i64 x.f1], rfl, k28_mk _ _, fun i u hi => ?_⟩
  rw [add_plain, cell_of_row W g _ _ _ (0, 0) H]
  have hi2 := (List.getElem?_eq_some_iff.1 hi).1
  have : i = 0 ∨ i = 1 := by simp at hi2; omega
  rcases this with rfl | rfl <;> simpa using hi
theorem sumN_bd : ∀ ps : List SP, (∀ p ∈ ps, -1000 < p.f1 ∧ p.f1 < 1000) → -(1000 * (ps.length : Int)) ≤ sumN ps ∧ sumN ps ≤ 1000 * (ps.length : Int)
  | [], _ => by simp [sumN]
  | p :: ps, h => by
    have h1 := h p List.mem_cons_self
    have h2 := sumN_bd ps (fun q hq => h q (List.mem_cons_of_mem _ hq))
    simp only [sumN, List.length_cons]
    omega
theorem tmod_bd (a : Int) : -1000 < Int.tmod a 1000 ∧ Int.tmod a 1000 < 1000 := ⟨Int.lt_tmod_of_pos a (by decide), Int.tmod_lt_of_pos a (by decide)⟩
set_option maxHeartbeats 8000000 in
set_option maxRecDepth 100000 in
theorem totals_calls (A0 : Option Addr) (c0 : Nat) (l0 : List Int) (over : Int) (w : World) (hr0 : Kd.C (Kd.int .i64) w A0 l0.length l0) (hc0 : l0.length ≤ c0) :
    Calls Try.prog 3 #[.slice A0 l0.length c0, .int .i64 over] w fun e w' => e = .returned (.bool true) ∧ Below w.heap.size w w' := by
  have HR := Aside0.mk hr0
  have HC := Aside0.mk hc0
  have hob := tmod_bd over
  obtain ⟨o, ho⟩ : ∃ o, o = Int.tmod over 1000 := ⟨_, rfl⟩
  rw [← ho] at hob
  have HO := Aside0.mk ho
  have ho1 := hob.1
  have ho2 := hob.2
  clear hr0 hc0 ho hob
  go_enter Try.func3, Try.ntmps3
  go_wp2_with fail
  refine (known_calls _).mono ?_
  rintro e w1 ⟨rfl, hb⟩
  have HB := Aside0.mk hb
  clear hb
  go_wp2_with fail
  rw [← HO.out]
  generalize hw2 : w1.alloc _ = w2
  obtain ⟨g, hg0⟩ : ∃ g, g = w1.heap.size := ⟨_, rfl⟩
  have HX : Aside0 (w2.heap[g]? = some (.cells #[.int .i64 1, .slice none 0 0, .int .i64 o, .int .i64 0] 26 (0, 0))) := ⟨by rw [← hw2, hg0, HO.out]; exact blk_new w1 _⟩
  have HG : Aside0 (w.heap.size ≤ g) := ⟨by rw [hg0]; exact below_size HB.out⟩
  have HS : Aside0 (g + 1 ≤ w2.heap.size) := ⟨by rw [← hw2, hg0]; simp⟩
  have HB2 : Aside0 (Below w.heap.size w w2) := ⟨by rw [← hw2]; exact below_alloc HB.out _⟩
  rw [← hg0]
  clear hw2 hg0 HB HO
  go_loopg [6, 7] 21 (fun kq v6 v7 w' => ∃ (i : Int) (A : Option Addr) (c : Nat) (ps : List SP), v6 = .int .i64 (o + sumN ps) ∧ v7 = .int .i64 i ∧ Aside0 (0 ≤ i ∧ i ≤ 20 ∧ (kq : Int) + i = 21 ∧ (ps.length : Int) = i) ∧ Aside0 (∀ p ∈ ps, -1000 < p.f1 ∧ p.f1 < 1000) ∧ Aside0 (OwnP w' (g + 1) (.slice A ps.length c) ps) ∧ Aside0 (w'.heap[g]? = some (.cells #[.int .i64 1, .slice A ps.length c, .int .i64 o, .int .i64 0] 26 (0, 0))) ∧ Aside0 (g + 1 ≤ w'.heap.size) ∧ Aside0 (Below w.heap.size w w'))
  case atStart => exact ⟨0, none, 0, [], by simp [sumN], rfl, ⟨⟨by decide, by decide, rfl, rfl⟩⟩, ⟨fun p hp => by cases hp⟩, ⟨R_nil _ _ _ _ _⟩, HX, HS, HB2⟩
  case round =>
    clear HX HS HB2
    obtain ⟨i, A, c, ps, rfl, rfl, HI, HP, HO, HX, HS, HB⟩ := hrel
    cases gk with
    | zero => exact absurd HI.out (by omega)
    | succ k1 =>
    have p : 0 ≤ i := HI.out.1
    rcases ways20 i (l0.length : Int) with ⟨h1, h2⟩ | ⟨h1, h2⟩ | h1
    · have c1b : decide (i < (l0.length : Int)) = true := decide_eq_true h1
      have c2b : decide (i < 20) = true := decide_eq_true h2
      obtain ⟨ad, e, hx⟩ := Kd.at_int HR.out i p h1
      cases e
      have hx1 := (HB.out.cell (World.block_lt_of_cell? w _ hx)).trans hx
      obtain ⟨a, ha⟩ : ∃ a, a = rd l0 i := ⟨_, rfl⟩
      rw [← ha] at hx1
      have hnb := tmod_bd a
      obtain ⟨n, hn⟩ : ∃ n, n = Int.tmod a 1000 := ⟨_, rfl⟩
      rw [← hn] at hnb
      have hw5 : wrap64 (i + 1) = i + 1 := w64 (by omega) (by omega)
      have hsb := sumN_bd ps HP.out
      have hws : wrap64 (o + sumN ps + n) = o + sumN ps + n := by have := HI.out; exact w64 (by omega) (by omega)
      obtain ⟨hy0, hy1, hy2, hy3⟩ := four HX.out
      have hf1 := blk_frozen HX.out 1
      have HNB := Aside0.mk hnb
      have hn' : Int.tmod a 1000 = n := hn.symm
      clear hx ha hsb hnb hn
      have hl' : (ps.length + 1) * 16 ≤ 140737488355328 := by have := HI.out; omega
      have hB1 : Below w.heap.size w (wr.alloc (.cells #[.int .i64 (i + 1), .int .i64 n] 28)) := below_alloc HB.out _
      have hO1 : OwnP (wr.alloc (.cells #[.int .i64 (i + 1), .int .i64 n] 28)) (g + 1) (.slice A ps.length c) ps := HO.out.below (below_alloc (Below.refl _ _) _)
      have hP1 : kP.C (wr.alloc (.cells #[.int .i64 (i + 1), .int .i64 n] 28)) (some ⟨wr.heap.size, 0, none⟩) 1 [⟨i + 1, n⟩] := one_C (x := ⟨i + 1, n⟩) (blk_new wr _)
      have hown : ∀ k, (Value.slice A ps.length c).ownBlock = some k → g + 1 ≤ k := fun k hk => by
        obtain ⟨_, inner, ho, _⟩ := HO.out
        exact own_base ho k hk
      have HB1 := Aside0.mk hB1
      have HO1 := Aside0.mk hO1
      have HP1 := Aside0.mk hP1
      have HW := Aside0.mk hown
      have hsn := HS.out
      clear hB1 hO1 hP1 hown
      go_wp2_with (first | (at_builtin; refine R_append_rows kP (Rr := kP.K (wr.alloc (.cells #[.int .i64 (i + 1), .int .i64 n] 28))) (w0 := wr.alloc (.cells #[.int .i64 (i + 1), .int .i64 n] 28)) (g + 1) rfl (.tmp 32) (.tmp 37) 24 28 _ 16 rfl Try.underlying24 infoP rfl (by decide) (by decide) _ ps [⟨i + 1, n⟩] (some ⟨wr.heap.size, 0, none⟩) 1 1 (fun _ => True) (fun k => True ∧ some k ≠ (Value.slice A ps.length c).ownBlock) rfl rfl HO1.out HP1.out (fun y cs hy => flatP _ _ _ _ _ _ hy) (fun k hk => hk) (fun _ _ => trivial) (Below.refl _ _) (by simp; omega) hl' ?_; intro v1 w5 h1 h2 h3 h4; obtain ⟨A5, c5, rfl, _, _⟩ := ownP_reads h1; have hX5 := blk_grown (blk_alloc HX.out _) h3 (fun e => by have := HW.out g e.symm; omega); have hf5 := blk_frozen hX5 1; obtain ⟨hz0, hz1, hz2, hz3⟩ := four hX5; have H1 := Aside0.mk h1; have H3 : Aside0 (World.grownBy (wr.alloc (.cells #[.int .i64 (i + 1), .int .i64 n] 28)) w5 (Value.slice A ps.length c).ownBlock) := ⟨h3⟩; have X5 := Aside0.mk hX5; clear h1 h2 h3 h4 hX5))
      go_roundg k1
      case measure => omega
      case rel =>
        have hlen : (ps ++ [(⟨i + 1, n⟩ : SP)]).length = ps.length + 1 := by simp
        refine ⟨i + 1, A5, c5, ps ++ [⟨i + 1, n⟩], by rw [hws, sumN_snoc, Int.add_assoc], by first | rfl | rw [hw5], ⟨⟨by omega, by omega, by have := HI.out; omega, by rw [hlen]; have := HI.out; omega⟩⟩, ⟨fun q hq => ?_⟩, ⟨?_⟩, ⟨?_⟩, ⟨?_⟩, ⟨?_⟩⟩
        · rcases List.mem_append.1 hq with h | h
          · exact HP.out q h
          · rw [List.mem_singleton.1 h]
            exact HNB.out
        · rw [hlen]
          exact (show OwnP w5 (g + 1) (.slice A5 (ps.length + 1) c5) (ps ++ [⟨i + 1, n⟩]) from by rw [← hlen]; exact H1.out).far (by omega)
        · rw [hlen]
          exact blk_put X5.out 1 _ rfl
        · have := H3.out.size
          simp at this ⊢
          omega
        · exact below_set (pw_below_grown (below_alloc HB.out _) _ (by have := HB.out.size; simp; omega) H3.out (fun k hk => by have := HW.out k hk; have := HG.out; omega)) HG.out
    · have c1b : decide (i < (l0.length : Int)) = true := decide_eq_true h1
      have c2b : decide (i < 20) = false := decide_eq_false h2
      have hself : (o + sumN ps == o + sumN ps) = true := beq_self_eq_true _
      obtain ⟨hy0, hy1, hy2, hy3⟩ := four HX.out
      obtain ⟨A', c', e5, hcc, hCP⟩ := ownP_reads HO.out
      injection e5 with e5 _ e6
      subst e5; subst e6
      have hA : A = none → ps.length = 0 ∧ c = 0 := fun h => by
        subst h
        obtain ⟨_, inner, ho, _⟩ := HO.out
        rcases ho.2 with ⟨h0, h1⟩ | ⟨g', cap, cur, he, _⟩
        · injection h0 with _ _ h0
          exact ⟨h1, h0⟩
        · injection he with he
          cases he
      have HAN := Aside0.mk hA
      have HCP := Aside0.mk hCP
      have hl20 : ps.length ≤ 20 := by have := HI.out; omega
      clear hA hCP
      go_wp2_with fail
      refine (total_calls A c ps 1 o 0 wr HCP.out hcc HP.out hl20 ho1 ho2).mono ?_
      rintro e w3 ⟨rfl, hb3⟩
      have hX3 := blk_below HX.out hb3
      have C3 := Aside0.mk (C_below HCP.out hb3)
      have B3 := Aside0.mk (below_step HB.out hb3)
      obtain ⟨hz0, hz1, hz2, hz3⟩ := four hX3
      have X3 := Aside0.mk hX3
      clear hb3 hX3 hy0 hy1 hy2 hy3
      go_wp2_with fail
      refine (putOne A c ps 1 o 0 w3 HAN.out C3.out hcc hl20).mono ?_
      rintro e w4 ⟨b4, c4, A4, d4, rfl, _, _, _, _, hb4⟩
      have hX4 := blk_below X3.out hb4
      have C4 := Aside0.mk (C_below C3.out hb4)
      have B4 := Aside0.mk (below_step B3.out hb4)
      obtain ⟨hq0, hq1, hq2, hq3⟩ := four hX4
      clear hb4 hX4 hz0 hz1 hz2 hz3
      go_wp2_with fail
      refine (putOne A c ps 1 o 0 w4 HAN.out C4.out hcc hl20).mono ?_
      rintro e w5 ⟨b5, c5, A5, d5, rfl, h51, ⟨hr0, hr1, hr2, hr3⟩, hC5, hc5, hb5⟩
      have C5 := Aside0.mk hC5
      have B5 := Aside0.mk (below_step B4.out hb5)
      clear hb5 hC5 hq0 hq1 hq2 hq3
      go_wp2_with fail
      refine (total_calls A5 d5 ps 1 o 0 w5 C5.out hc5 HP.out hl20 ho1 ho2).mono ?_
      rintro e w6 ⟨rfl, hb6⟩
      have B6 := Aside0.mk (below_step B5.out hb6)
      clear hb6 hr0 hr1 hr2 hr3
      go_wp2
      go_ret
      exact ⟨rfl, B6.out⟩
    · have c1b : decide (i < (l0.length : Int)) = false := decide_eq_false h1
      have hself : (o + sumN ps == o + sumN ps) = true := beq_self_eq_true _
      obtain ⟨hy0, hy1, hy2, hy3⟩ := four HX.out
      obtain ⟨A', c', e5, hcc, hCP⟩ := ownP_reads HO.out
      injection e5 with e5 _ e6
      subst e5; subst e6
      have hA : A = none → ps.length = 0 ∧ c = 0 := fun h => by
        subst h
        obtain ⟨_, inner, ho, _⟩ := HO.out
        rcases ho.2 with ⟨h0, h1⟩ | ⟨g', cap, cur, he, _⟩
        · injection h0 with _ _ h0
          exact ⟨h1, h0⟩
        · injection he with he
          cases he
      have HAN := Aside0.mk hA
      have HCP := Aside0.mk hCP
      have hl20 : ps.length ≤ 20 := by have := HI.out; omega
      clear hA hCP
      go_wp2_with fail
      refine (total_calls A c ps 1 o 0 wr HCP.out hcc HP.out hl20 ho1 ho2).mono ?_
      rintro e w3 ⟨rfl, hb3⟩
      have hX3 := blk_below HX.out hb3
      have C3 := Aside0.mk (C_below HCP.out hb3)
      have B3 := Aside0.mk (below_step HB.out hb3)
      obtain ⟨hz0, hz1, hz2, hz3⟩ := four hX3
      have X3 := Aside0.mk hX3
      clear hb3 hX3 hy0 hy1 hy2 hy3
      go_wp2_with fail
      refine (putOne A c ps 1 o 0 w3 HAN.out C3.out hcc hl20).mono ?_
      rintro e w4 ⟨b4, c4, A4, d4, rfl, _, _, _, _, hb4⟩
      have hX4 := blk_below X3.out hb4
      have C4 := Aside0.mk (C_below C3.out hb4)
      have B4 := Aside0.mk (below_step B3.out hb4)
      obtain ⟨hq0, hq1, hq2, hq3⟩ := four hX4
      clear hb4 hX4 hz0 hz1 hz2 hz3
      go_wp2_with fail
      refine (putOne A c ps 1 o 0 w4 HAN.out C4.out hcc hl20).mono ?_
      rintro e w5 ⟨b5, c5, A5, d5, rfl, h51, ⟨hr0, hr1, hr2, hr3⟩, hC5, hc5, hb5⟩
      have C5 := Aside0.mk hC5
      have B5 := Aside0.mk (below_step B4.out hb5)
      clear hb5 hC5 hq0 hq1 hq2 hq3
      go_wp2_with fail
      refine (total_calls A5 d5 ps 1 o 0 w5 C5.out hc5 HP.out hl20 ho1 ho2).mono ?_
      rintro e w6 ⟨rfl, hb6⟩
      have B6 := Aside0.mk (below_step B5.out hb6)
      clear hb6 hr0 hr1 hr2 hr3
      go_wp2
      go_ret
      exact ⟨rfl, B6.out⟩
theorem totals_walk (a0 : Option Addr) (len0 cap0 : Nat) (z0 : List Int) (a1 : Int) (w : World) (w0 : (a0 = none ∧ len0 = 0 ∧ cap0 = 0 ∧ z0 = []) ∨ ∃ x, a0 = some x ∧ len0 ≤ cap0 ∧ cap0 ≤ maxLen ∧ z0.length = cap0 ∧ (∀ i, i < z0.length → w.cell? (x.add i) = some (.int .i64 (z0.getD i 0))) ∧ ∀ n ∈ z0, (Lit.int .i64 n).wf = true) (y0 : len0 * 8 ≤ 140737488351232) (w1 : (Lit.int .i64 a1).wf = true) :
    Calls Try.prog 3 #[.slice a0 len0 cap0, .int .i64 a1] w fun e w' => e = .returned (.bool true) ∧ Below w.heap.size w w' := by
  obtain ⟨l0, rfl, hr0, hm0, hw0, hc0⟩ := ReadsInt.ofRowC w0
  exact totals_calls a0 cap0 l0 a1 w (Kd.C_of_reads (d := (0 : Int)) (h1 := fun _ => rfl) hr0) hc0
end Go.Proofs.Ytpjeklhidebmpaa.Lk
