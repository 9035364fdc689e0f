/- Take: what it answers. -/
import Derived.Test.YtjoimapgmocoeaaLotOrder
import Derived.Test.YtjoimapgmocoeaaJ8
set_option linter.unusedVariables false
set_option linter.unusedSimpArgs false
namespace Go.Proofs.Ytjoimapgmocoeaa.Lk
open Go.RowKit Go.Proofs.YtjoimapgmocoeaaW.PrintWords Go.Proofs.YtjoimapgmocoeaaW.PrintWords.Kd Go.Proofs.YtjoimapgmocoeaaW.PrintLast Go.Proofs.YtjoimapgmocoeaaW.PrintMore Go.Proofs.Ytjoimapgmocoeaa.Xa Go.Proofs.Ytjoimapgmocoeaa.Own
abbrev kP := k35
theorem infoL : (Try.prog.info? 33).map (fun i => (i.zero, i.size, i.bytes)) = some (some (.agg #[.int .i64 0, .int .i64 0, .int .i64 0, .int .i64 0, .int .i64 0, .int .i64 0, .int .i64 0, .int .i64 0, .int .i64 0]), 9, 72) := by kernel_rfl
theorem infoP : (Try.prog.info? 35).map (fun i => (i.zero, i.size, i.bytes)) = some (some (.agg #[.int .i64 0, .int .i64 0]), 2, 16) := by kernel_rfl
theorem flatL : Flat kL := fun w w' base ok x cs h => by rw [k33_open h]; exact k33_mkM _ _ _ _
theorem flatP : Flat kP := fun w w' base ok x cs h => by rw [k35_open h]; exact k35_mkM _ _ _ _
abbrev OwnL (w : World) (base : Nat) (v : Value) (xs : List SL) : Prop := kL.R 33 w base (fun _ => True) v xs
abbrev OwnP (w : World) (base : Nat) (v : Value) (xs : List SP) : Prop := kP.R 35 w base (fun _ => True) v xs
theorem OwnL.cell6 {w : World} {base g n cap i : Nat} {xs : List SL} (h : OwnL w base (.slice (some ⟨g, 0, none⟩) n cap) xs) (hi : i < xs.length) (u : Int) :
    OwnL (w.setCell ⟨g, i * 9 + 6, none⟩ (.int .i64 u)) base (.slice (some ⟨g, 0, none⟩) n cap) (xs.set i { (xs.getD i zL) with f6 := u }) ∧ w.grownBy (w.setCell ⟨g, i * 9 + 6, none⟩ (.int .i64 u)) (some g) :=
  row_cell (d := kL) zL flatL rfl h hi (by decide) rfl (fun cs hcs => by rw [k33_open hcs]; exact k33_mk w { (xs.getD i zL) with f6 := u })
theorem OwnL.cell5 {w : World} {base g n cap i : Nat} {xs : List SL} (h : OwnL w base (.slice (some ⟨g, 0, none⟩) n cap) xs) (hi : i < xs.length) (u : Int) :
    OwnL (w.setCell ⟨g, i * 9 + 5, none⟩ (.int .i64 u)) base (.slice (some ⟨g, 0, none⟩) n cap) (xs.set i { (xs.getD i zL) with f5 := u }) ∧ w.grownBy (w.setCell ⟨g, i * 9 + 5, none⟩ (.int .i64 u)) (some g) :=
  row_cell (d := kL) zL flatL rfl h hi (by decide) rfl (fun cs hcs => by rw [k33_open hcs]; exact k33_mk w { (xs.getD i zL) with f5 := u })
theorem OwnL.cell7 {w : World} {base g n cap i : Nat} {xs : List SL} (h : OwnL w base (.slice (some ⟨g, 0, none⟩) n cap) xs) (hi : i < xs.length) (u : Int) :
    OwnL (w.setCell ⟨g, i * 9 + 7, none⟩ (.int .i64 u)) base (.slice (some ⟨g, 0, none⟩) n cap) (xs.set i { (xs.getD i zL) with f7 := u }) ∧ w.grownBy (w.setCell ⟨g, i * 9 + 7, none⟩ (.int .i64 u)) (some g) :=
  row_cell (d := kL) zL flatL rfl h hi (by decide) rfl (fun cs hcs => by rw [k33_open hcs]; exact k33_mk w { (xs.getD i zL) with f7 := u })
theorem OwnL.blk {w : World} {base g n cap : Nat} {xs : List SL} (h : OwnL w base (.slice (some ⟨g, 0, none⟩) n cap) xs) : ∃ cells, w.heap[g]? = some (.cells cells 33 (0, 0)) := by
  obtain ⟨_, inner, hown, _⟩ := h
  exact own_typed hown g (by simp [Value.ownBlock])
theorem OwnP.far {w : World} {base g o : Nat} {v u : Value} {ps : List SP} (h : OwnP w base v ps) (hg : g < base) : OwnP (w.setCell ⟨g, o, none⟩ u) base v ps :=
  R_mono (R_far (p := ⟨g, o, none⟩) (R_bound h) (fun k hk => by have h2 := hk.2.1; show k ≠ g; omega) u) (fun _ _ => trivial)
theorem OwnI.grown {w w' : World} {base : Nat} {v : Value} {xs : List Int} {row : Option Nat} (h : OwnI w base v xs) (hg : w.grownBy w' row) (hne : ∀ k, row = some k → some k ≠ v.ownBlock) : OwnI w' base v xs := R_grown2 h rfl hg hne
theorem OwnL.grown {w w' : World} {base : Nat} {v : Value} {xs : List SL} {row : Option Nat} (h : OwnL w base v xs) (hg : w.grownBy w' row) (hne : ∀ k, row = some k → some k ≠ v.ownBlock) : OwnL w' base v xs := R_grown2 h rfl hg hne
/-- An element's cells. -/
theorem OwnL.at_ {w : World} {base g n cap : Nat} {xs : List SL} (h : OwnL w base (.slice (some ⟨g, 0, none⟩) n cap) xs) (i : Nat) (hi : i < xs.length) :
    w.cell? ⟨g, i * 9, none⟩ = some (.int .i64 (xs.getD i zL).f0) ∧ w.cell? ⟨g, i * 9 + 1, none⟩ = some (.int .i64 (xs.getD i zL).f1) ∧ w.cell? ⟨g, i * 9 + 2, none⟩ = some (.int .i64 (xs.getD i zL).f2) ∧ w.cell? ⟨g, i * 9 + 3, none⟩ = some (.int .i64 (xs.getD i zL).f3) ∧ w.cell? ⟨g, i * 9 + 4, none⟩ = some (.int .i64 (xs.getD i zL).f4) ∧ w.cell? ⟨g, i * 9 + 5, none⟩ = some (.int .i64 (xs.getD i zL).f5) ∧ w.cell? ⟨g, i * 9 + 6, none⟩ = some (.int .i64 (xs.getD i zL).f6) ∧ w.cell? ⟨g, i * 9 + 7, none⟩ = some (.int .i64 (xs.getD i zL).f7) ∧ w.cell? ⟨g, i * 9 + 8, none⟩ = some (.int .i64 (xs.getD i zL).f8) := by
  have hn := (R_reads' h).1
  obtain ⟨ad, e, h0, h1, h2, h3, h4, h5, h6, h7, h8⟩ := at_T33 (R_reads' h).2.2 (i : Int) (by omega) (by omega)
  cases e
  simp only [add_plain, Int.toNat_natCast] at h0 h1 h2 h3 h4 h5 h6 h7 h8
  exact ⟨h0, h1, h2, h3, h4, h5, h6, h7, h8⟩
theorem one_P {W : World} {g : Nat} {x : SP} (H : W.heap[g]? = some (.cells #[.int .i64 x.f0, .int .i64 x.f1] 35 (0, 0))) : kP.C W (some ⟨g, 0, none⟩) 1 [x] := by
  refine ⟨rfl, by decide, fun _ => ⟨_, rfl, fun j p hj => ?_⟩⟩
  have h0 : j = 0 := by
    cases j with
    | zero => rfl
    | succ j => simp at hj
  subst h0
  simp at hj
  subst hj
  refine ⟨[.int .i64 x.f0, .int .i64 x.f1], rfl, k35_mk _ _, fun i u hi => ?_⟩
  rw [add_plain, cell_of_row W g _ _ _ (0, 0) H]
  have hi2 := (List.getElem?_eq_some_iff.1 hi).1
  have : i = 0 ∨ i = 1 := by simp at hi2; omega
  rcases this with rfl | rfl <;> simpa using hi
theorem orderL_mem {l : List SL} {now a : Int} (h : a ∈ orderL l now) : 0 ≤ a ∧ a < (l.length : Int) := by
  have := candL_mem now a 0 l ((sortL_perm _ _).mem_iff.1 h)
  simpa using this
theorem orderL_len (l : List SL) (now : Int) : (orderL l now).length ≤ l.length := by
  unfold orderL
  rw [sortL_len]
  exact candL_len now 0 l
attribute [local go_sem] max_two min_two
theorem min2_min (k k' : IntKind) (x y : Int) : Builtin.min2 (.int k x) (.int k' y) = pure (.int k (min x y)) := by
  rw [min2_int]
  congr 2
  split <;> omega
set_option maxHeartbeats 8000000 in
set_option maxRecDepth 100000 in
theorem take_calls (A0 : Option Addr) (c0 : Nat) (l0 : List SL) (a1 a2 : Int) (w : World) (hr0 : Kd.C kL w A0 l0.length l0) (hc0 : l0.length ≤ c0) (hl : l0.length < 15) :
    Calls Try.prog 15 #[.slice A0 l0.length c0, .int .i64 a1, .int .i64 a2] w fun e w' => ∃ v0_ v1_ : Value, e = .returned (.tuple #[v0_, v1_, .int .i64 (takeW l0 a1 a2).2.2]) ∧ OwnL w' w.heap.size v0_ (takeW l0 a1 a2).1 ∧ OwnP w' w.heap.size v1_ (takeW l0 a1 a2).2.1 ∧ Below w.heap.size w w' := by
  obtain ⟨w2, hmk, ho2, hg2, hs2⟩ := R_made2 (P := Try.prog) (W := w) kL w.heap.size 22 33 .i64 .i64 l0.length l0.length Try.underlying22 _ 72 infoL rfl (by decide) zL (ok := fun _ => True) (fun w b o => k33_mkM w b o zL) trivial (Nat.le_refl _) (by omega) (by unfold maxLen; omega) (Nat.le_refl _)
  have hBm : Below w.heap.size w w2 := pw_below_grown (Below.refl _ _) none (Nat.le_refl _) hg2 (fun _ h => by cases h)
  obtain ⟨w3, hcp, ho3, hg3, hs3⟩ := copy_all (P := Try.prog) (d := kL) (t := 22) (t' := 22) (ty := 3) (c := c0) flatL (by decide) Try.underlying22 rfl ho2 (C_below hr0 hBm) (by simp)
  have HO3 := Aside0.mk ho3
  have HB3 : Aside0 (Below w.heap.size w w3) := ⟨pw_below_grown hBm _ (by omega) hg3 (fun k hk => by simp [Value.ownBlock] at hk; omega)⟩
  have HS3 : Aside0 (w3.heap.size = w.heap.size + 1) := ⟨by omega⟩
  have HR := Aside0.mk hr0
  clear ho2 hg2 hg3 ho3 hs2 hs3 hBm hr0
  go_enter Try.func15, Try.ntmps15
  go_wp2_with fail
  clear hmk hcp
  refine (order_calls A0 c0 l0 a2 w3 (C_below HR.out HB3.out) hl).mono ?_
  rintro e w4 ⟨vi, rfl, ho4, hb4⟩
  obtain ⟨g, hg⟩ : ∃ g, g = w.heap.size := ⟨_, rfl⟩
  rw [← hg] at HO3 HB3 HS3 ⊢
  obtain ⟨ord, hord⟩ : ∃ o, o = orderL l0 a2 := ⟨_, rfl⟩
  rw [← hord] at ho4
  obtain ⟨Ai, ci, rfl, hic, _⟩ := R_reads ho4
  have hgi : ∀ k, (Value.slice Ai ord.length ci).ownBlock = some k → k ≠ g ∧ k < w4.heap.size := fun k hk => by
    obtain ⟨_, inner, hown, _⟩ := ho4
    have h1 := own_base hown k hk
    have h2 := own_lt hown k hk
    have := HS3.out
    exact ⟨by omega, h2⟩
  have HO4 := Aside0.mk (R_below HO3.out hb4)
  have HI4 := Aside0.mk (R_lower ho4 (Nat.zero_le _))
  have HB4 := Aside0.mk (below_then HB3.out (by rw [HS3.out]; omega) hb4)
  have HGI := Aside0.mk hgi
  have HG := Aside0.mk hg
  have HORD := Aside0.mk hord
  have hgw : g < w4.heap.size := by have := hb4.size; have := HS3.out; omega
  obtain ⟨B1, hB1⟩ : ∃ B, B = w4.heap.size := ⟨_, rfl⟩
  rw [← hB1] at HGI hgw
  have HB1 : Aside0 (B1 ≤ w4.heap.size) := ⟨by omega⟩
  clear ho4 hb4 hgi hg hord hB1 HO3 HB3 HS3 hic
  go_wp2_with fail
  go_loopg [1, 10, 24] (ord.length + 1) (fun kq v1 v10 v24 w' => ∃ (idx : Nat) (n : Int) (vp : Value) (cur : List SL) (ps : List SP), v1 = .int .i64 n ∧ vp = v10 ∧ v24 = .int .i64 (idx : Int) ∧ Aside0 (idx ≤ ord.length ∧ kq + idx = ord.length + 1) ∧ Aside0 (takeGo cur ps n (ord.drop idx) = takeW l0 a1 a2) ∧ Aside0 (cur.length = l0.length) ∧ Aside0 (ps.length ≤ idx) ∧ Aside0 (OwnL w' g (.slice (some ⟨g, 0, none⟩) l0.length l0.length) cur) ∧ Aside0 (OwnI w' 0 (.slice Ai ord.length ci) ord) ∧ Aside0 (OwnP w' B1 vp ps) ∧ Aside0 (B1 ≤ w'.heap.size) ∧ Aside0 (Below g w w'))
  case atStart => exact ⟨0, a1, _, l0, [], rfl, rfl, rfl, ⟨⟨Nat.zero_le _, rfl⟩⟩, ⟨by rw [HORD.out]; rfl⟩, ⟨rfl⟩, ⟨Nat.le_refl _⟩, HO4, HI4, ⟨R_nil _ _ _ _ _⟩, HB1, HB4⟩
  case round =>
    clear HO4 HI4 HB1 HB4
    obtain ⟨idx, n, vp, cur, ps, rfl, rfl, rfl, HI, HT, HCL, HPL, HO, HOI, HOP, HS, HB⟩ := hrel
    cases gk with
    | zero => exact absurd HI.out (by omega)
    | succ k1 =>
    have hol : ord.length < 15 := by rw [HORD.out]; have := orderL_len l0 a2; omega
    by_cases h1 : idx < ord.length
    · have c1b : decide ((idx : Int) < (ord.length : Int)) = true := decide_eq_true (by omega)
      have c1c : decide (idx < ord.length) = true := decide_eq_true h1
      have p1 : (0 : Int) ≤ (idx : Int) := by omega
      have q1 : (idx : Int) < (ord.length : Int) := by omega
      have hwi : wrap64 ((idx : Int) + 1) = (idx : Int) + 1 := by unfold wrap64; omega
      obtain ⟨ad, e, hx⟩ := Kd.at_int (R_reads' HOI.out).2.2 (idx : Int) p1 q1
      cases e
      rw [Int.toNat_natCast] at hx
      have hmem : rd ord (idx : Int) ∈ orderL l0 a2 := by rw [← HORD.out]; simp [rd, h1]
      have hrg := orderL_mem hmem
      obtain ⟨j, hj⟩ : ∃ j : Nat, rd ord (idx : Int) = (j : Int) := ⟨(rd ord (idx : Int)).toNat, by omega⟩
      rw [hj] at hx hrg
      have hjl : j < l0.length := by omega
      have hjc : j < cur.length := by rw [HCL.out]; omega
      have p2 : (0 : Int) ≤ (j : Int) := by omega
      have q2 : (j : Int) < (l0.length : Int) := by omega
      have hdr : ord.drop idx = (j : Int) :: ord.drop (idx + 1) := by
        rw [List.drop_eq_getElem_cons h1, ← hj]
        simp [rd, h1]
      obtain ⟨hy0, hy1, hy2, hy3, hy4, hy5, hy6, hy7, hy8⟩ := HO.out.at_ j hjc
      obtain ⟨x, hxx⟩ : ∃ x, x = cur.getD j zL := ⟨_, rfl⟩
      rw [← hxx] at hy0 hy1 hy2 hy3 hy4 hy5 hy6 hy7 hy8
      have hstep : takeGo cur ps n (ord.drop idx) = if min n (restW x) ≤ 0 then (cur, ps, n) else takeGo (cur.set j { x with f6 := wrap64 (x.f6 + min n (restW x)) }) (ps ++ [⟨x.f0, min n (restW x)⟩]) (wrap64 (n - min n (restW x))) (ord.drop (idx + 1)) := by
        rw [hdr]
        simp only [takeGo, Int.toNat_natCast, ← hxx]
      obtain ⟨m, hm0⟩ : ∃ m, m = min n (restW x) := ⟨_, rfl⟩
      rw [← hm0] at hstep
      have hmin : ∀ k k', Builtin.min2 (.int k n) (.int k' (restW x)) = pure (.int k m) := fun k k' => by rw [min2_min, hm0]
      have HSTEP := Aside0.mk hstep
      have HXX := Aside0.mk hxx
      clear hm0
      clear hstep hxx hdr hj hmem hrg
      go_wp2_with fail
      refine (rest_calls x _).mono ?_
      rintro e w5 ⟨rfl, hb5⟩
      have O5 := Aside0.mk (show OwnL w5 g (.slice (some ⟨g, 0, none⟩) l0.length l0.length) cur from R_below HO.out hb5)
      have I5 := Aside0.mk (HOI.out.below hb5)
      have P5 := Aside0.mk (show OwnP w5 B1 vp ps from R_below HOP.out hb5)
      have S5 := Aside0.mk (Nat.le_trans HS.out hb5.size)
      have B5 := Aside0.mk (below_then HB.out (by have := HS.out; omega) hb5)
      clear hb5 HO HOI HOP HS HB hx hy0 hy1 hy2 hy3 hy4 hy5 hy6 hy7 hy8
      by_cases hm : m ≤ 0
      · have hmb : decide (m ≤ 0) = true := decide_eq_true hm
        have HT2 : Aside0 (takeW l0 a1 a2 = (cur, ps, n)) := ⟨by rw [← HT.out, HSTEP.out, if_pos hm]⟩
        clear hm
        go_wp2_with fail
        have F1 : Aside0 (OwnL w5 w.heap.size (.slice (some ⟨g, 0, none⟩) l0.length l0.length) (takeW l0 a1 a2).1) := ⟨by rw [HT2.out, ← HG.out]; exact O5.out⟩
        have F2 : Aside0 (OwnP w5 w.heap.size vp (takeW l0 a1 a2).2.1) := ⟨by rw [HT2.out, ← HG.out]; exact R_lower P5.out (by omega)⟩
        have F3 : Aside0 (Below w.heap.size w w5) := ⟨by rw [← HG.out]; exact B5.out⟩
        go_ret3
        exact ⟨.slice (some ⟨g, 0, none⟩) l0.length l0.length, vp, by rw [HT2.out]; rfl, F1.out, F2.out, F3.out⟩
      · have hmb : decide (m ≤ 0) = false := decide_eq_false hm
        have HT2 := Aside0.mk (show takeGo (cur.set j { x with f6 := wrap64 (x.f6 + m) }) (ps ++ [⟨x.f0, m⟩]) (wrap64 (n - m)) (ord.drop (idx + 1)) = takeW l0 a1 a2 by rw [← HT.out, HSTEP.out, if_neg hm])
        obtain ⟨hy0, hy1, hy2, hy3, hy4, hy5, hy6, hy7, hy8⟩ := O5.out.at_ j hjc
        rw [← HXX.out] at hy0 hy1 hy2 hy3 hy4 hy5 hy6 hy7 hy8
        obtain ⟨cells, hblk⟩ := O5.out.blk
        have hf6 := blk_frozen hblk (j * 9 + 6)
        clear hm hblk hy1 hy2 hy3 hy4 hy5 hy7 hy8
        obtain ⟨hset, hgr⟩ := O5.out.cell6 hjc (wrap64 (x.f6 + m))
        rw [← HXX.out] at hset
        have O6 := Aside0.mk (show OwnL _ g (.slice (some ⟨g, 0, none⟩) l0.length l0.length) _ from R_below hset (below_alloc (Below.refl _ _) (.cells #[.int .i64 x.f0, .int .i64 m] 35)))
        have P6 := Aside0.mk (show OwnP _ B1 vp ps from R_below (P5.out.far (g := g) (o := j * 9 + 6) (u := .int .i64 (wrap64 (x.f6 + m))) hgw) (below_alloc (Below.refl _ _) (.cells #[.int .i64 x.f0, .int .i64 m] 35)))
        have I6 := Aside0.mk ((I5.out.grown hgr (fun k hk e => by cases hk; exact (HGI.out g e.symm).1 rfl)).below (below_alloc (Below.refl _ _) (.cells #[.int .i64 x.f0, .int .i64 m] 35)))
        have B6 := Aside0.mk (show Below g w ((w5.setCell ⟨g, j * 9 + 6, none⟩ (.int .i64 (wrap64 (x.f6 + m)))).alloc (.cells #[.int .i64 x.f0, .int .i64 m] 35)) from below_then (B5.out.setCell (p := ⟨g, j * 9 + 6, none⟩) (Nat.le_refl g) _) (by have := S5.out; simp; omega) (below_alloc (Below.refl _ _) _))
        have hc6 := one_P (x := ⟨x.f0, m⟩) (blk_new (w5.setCell ⟨g, j * 9 + 6, none⟩ (.int .i64 (wrap64 (x.f6 + m)))) (.cells #[.int .i64 x.f0, .int .i64 m] 35))
        rw [show (w5.setCell ⟨g, j * 9 + 6, none⟩ (.int .i64 (wrap64 (x.f6 + m)))).heap.size = w5.heap.size by simp] at hc6
        have C6 := Aside0.mk hc6
        clear hc6
        have hl' : (ps.length + 1) * 16 ≤ 140737488355328 := by have := HPL.out; omega
        have hown : ∀ k, vp.ownBlock = some k → B1 ≤ k := fun k hk => by
          obtain ⟨_, inner, ho, _⟩ := P5.out
          exact own_base ho k hk
        have HW := Aside0.mk hown
        have hsn := S5.out
        clear hset hgr hown
        go_wp2_with (first | (at_builtin; refine R_append_rows kP (Rr := kP.K ((w5.setCell ⟨g, j * 9 + 6, none⟩ (.int .i64 (wrap64 (x.f6 + m)))).alloc (.cells #[.int .i64 x.f0, .int .i64 m] 35))) (w0 := (w5.setCell ⟨g, j * 9 + 6, none⟩ (.int .i64 (wrap64 (x.f6 + m)))).alloc (.cells #[.int .i64 x.f0, .int .i64 m] 35)) B1 rfl (.tmp 49) (.tmp 57) 26 35 _ 16 rfl Try.underlying26 infoP rfl (by decide) (by decide) _ ps [⟨x.f0, m⟩] (some ⟨w5.heap.size, 0, none⟩) 1 1 (fun _ => True) (fun k => True ∧ some k ≠ vp.ownBlock) rfl rfl P6.out C6.out (fun y cs hy => flatP _ _ _ _ _ _ hy) (fun k hk => hk) (fun _ _ => trivial) (Below.refl _ _) (by simp; omega) hl' ?_; intro v7 w7 h1 h2 h3 h4; have H1 := Aside0.mk h1; have H3 : Aside0 (World.grownBy ((w5.setCell ⟨g, j * 9 + 6, none⟩ (.int .i64 (wrap64 (x.f6 + m)))).alloc (.cells #[.int .i64 x.f0, .int .i64 m] 35)) w7 vp.ownBlock) := ⟨h3⟩; clear h1 h2 h3 h4))
        go_roundg k1
        case measure => omega
        case rel =>
          have hb7 : ∀ k, vp.ownBlock = some k → some k ≠ some g := fun k hk e => by cases e; have := HW.out g hk; omega
          exact ⟨idx + 1, wrap64 (n - m), v7, cur.set j { x with f6 := wrap64 (x.f6 + m) }, ps ++ [⟨x.f0, m⟩], rfl, rfl, by first | rfl | simp [hwi], ⟨⟨by omega, by have := HI.out; omega⟩⟩, HT2, ⟨by rw [List.length_set]; exact HCL.out⟩, ⟨by have := HPL.out; simp; omega⟩, ⟨O6.out.grown H3.out hb7⟩, ⟨I6.out.grown H3.out (fun k hk e => by have h1 := HW.out k hk; have h2 := (HGI.out k e.symm).2; omega)⟩, ⟨H1.out⟩, ⟨by have := H3.out.size; simp at this; omega⟩, ⟨pw_below_grown B6.out _ (by have := B6.out.size; simp at this ⊢; omega) H3.out (fun k hk => by have := HW.out k hk; omega)⟩⟩
    · have c1b : decide ((idx : Int) < (ord.length : Int)) = false := decide_eq_false (by omega)
      have c1c : decide (idx < ord.length) = false := decide_eq_false h1
      have HT2 : Aside0 (takeW l0 a1 a2 = (cur, ps, n)) := ⟨by rw [← HT.out, List.drop_of_length_le (by omega)]; rfl⟩
      have F1 : Aside0 (OwnL wr w.heap.size (.slice (some ⟨g, 0, none⟩) l0.length l0.length) (takeW l0 a1 a2).1) := ⟨by rw [HT2.out, ← HG.out]; exact HO.out⟩
      have F2 : Aside0 (OwnP wr w.heap.size vp (takeW l0 a1 a2).2.1) := ⟨by rw [HT2.out, ← HG.out]; exact R_lower HOP.out (by omega)⟩
      have F3 : Aside0 (Below w.heap.size w wr) := ⟨by rw [← HG.out]; exact HB.out⟩
      go_wp2_with fail
      go_ret3
      exact ⟨.slice (some ⟨g, 0, none⟩) l0.length l0.length, vp, by rw [HT2.out]; rfl, F1.out, F2.out, F3.out⟩
end Go.Proofs.Ytjoimapgmocoeaa.Lk
