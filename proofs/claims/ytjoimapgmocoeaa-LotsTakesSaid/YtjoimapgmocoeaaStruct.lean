/- Words over rows of structs whose cells lead to no memory ('Flat'): the built-in copy at elements of several cells; rows cut and joined. For any program. -/
import Derived.Test.YtjoimapgmocoeaaWMore
import Derived.Laws.Externs
import Derived.Lib.Overlaps
import Derived.Deep.RegionLaw
set_option linter.unusedVariables false
set_option linter.unusedSimpArgs false
namespace Go.Proofs.Ytjoimapgmocoeaa.Own
open Go.RowKit Go.Proofs.YtjoimapgmocoeaaW.PrintWords Go.Proofs.YtjoimapgmocoeaaW.PrintWords.Kd Go.Proofs.YtjoimapgmocoeaaW.PrintLast
/-! ### copy -/
section
variable {P : Program}
theorem run_copy_cellsK (w : World) (dT sT ty elem : TypeId) (b o dLen dCap : Nat) (a : Addr) (sLen sCap k : Nat) (cs : List Value)
    (hu : P.underlying dT = some (.slice elem)) (hs : (P.info? elem).map (·.size) = some k) (hn : cs.length = Nat.min sLen dLen * k)
    (hsrc : ∀ j v, cs[j]? = some v → w.cell? (a.add j) = some v) (hc : ∀ j, j < cs.length → (w.cell? ⟨b, o + j, none⟩).isSome = true) (hf : ∀ j, j < cs.length → w.frozen? ⟨b, o + j, none⟩ = false) (h1 : ∀ v ∈ cs, v.oneCell' = true) :
    (Builtin.copy_ #[dT, sT] ty #[.slice (some ⟨b, o, none⟩) dLen dCap, .slice (some a) sLen sCap]).run P w = .ok (goInt (Nat.min sLen dLen)) (w.setCells b o cs) := by
  have hl := run_loadCells_list (P := P) w a cs hsrc
  have hst := run_storeCells_cells (P := P) b o cs 0 w (by simpa using hc) (by simpa using hf) h1
  cases hq : P.info? elem with
  | none => simp [hq] at hs
  | some i =>
    have hi : i.size = k := by simpa [hq] using hs
    simp [Builtin.copy_, run_underlying hu, Builtin.lenOf, Builtin.firstCells, sizeOf, typeInfo, hq, hi, ← hn, hl, hst]
theorem run_copy_noneK (w : World) (dT sT ty elem : TypeId) (d a : Option Addr) (dLen dCap sLen sCap : Nat) (hu : P.underlying dT = some (.slice elem)) (hs : ((P.info? elem).map (·.size)).isSome = true) (hn : Nat.min sLen dLen = 0) :
    (Builtin.copy_ #[dT, sT] ty #[.slice d dLen dCap, .slice a sLen sCap]).run P w = .ok (goInt 0) w := by
  cases hq : P.info? elem with
  | none => simp [hq] at hs
  | some i =>
    have hl : ∀ (x : Addr), (loadCells x 0).run P w = .ok #[] w := fun x => by simpa using run_loadCells_list (P := P) w x [] (by simp)
    cases d <;> cases a <;> simp [Builtin.copy_, run_underlying hu, Builtin.lenOf, Builtin.firstCells, sizeOf, typeInfo, hq, hn, storeCells, hl]
theorem wp_copy_run (w : World) {o : Oper} {a : Act} {K : Act → World → Prop} {Q : Exit → Act → World → Prop} (d s : Operand) (t t' : TypeId)
    (ho : o.op = .call { callee := .builtin .copy, args := #[d, s], argTypes := #[t, t'] }) (v u : Value) (hd : a.eval d = v) (hs : a.eval s = u) {v' : Value} {w' : World}
    (hr : (Builtin.copy_ #[t, t'] o.type #[v, u]).run P w = .ok v' w') (h : K (a.put o.dst v') w') : o.wp P a w K Q := by
  unfold Oper.wp execOp
  simp only [ho, resolve, invoke, builtin, Sem.run_bind, Sem.run_pure, Result.andThen_ok, List.map_toArray, List.map_cons, List.map_nil, hd, hs, hr]
  exact h
theorem wpList_copy_run (w : World) {ops : Array Oper} {rest : List Oper} {o : Oper} {a : Act} {Q : Exit → Act → World → Prop} (hgd : o.guard = none) (d s : Operand) (t t' : TypeId)
    (ho : o.op = .call { callee := .builtin .copy, args := #[d, s], argTypes := #[t, t'] }) (v u : Value) (hd : a.eval d = v) (hs : a.eval s = u) {v' : Value} {w' : World}
    (hr : (Builtin.copy_ #[t, t'] o.type #[v, u]).run P w = .ok v' w') (h : wpList P ops Q rest (a.put o.dst v') w') : wpList P ops Q (o :: rest) a w :=
  wpList_plain hgd fun _ hK => wp_copy_run w d s t t' ho v u hd hs hr (hK _ _ h)
theorem step_copy_run {ops : Array Oper} {o : Oper} {a : Act} {w : World} {K : Act → World → Prop} {Q : Exit → Act → World → Prop} {E : Prop}
    (hg : o.guard = none) (d x : Operand) (dT sT : TypeId) (hop : o.op = Op.call { callee := Callee.builtin Builtin.copy, args := #[d, x], argTypes := #[dT, sT] })
    (v u : Value) (hd : a.eval d = v) (hx : a.eval x = u) {v' : Value} {w' : World} (hr : (Builtin.copy_ #[dT, sT] o.type #[v, u]).run P w = .ok v' w') (hK : K (a.put o.dst v') w') :
    if Region.wanted o (yielded ops a.tmps) = true then Oper.wp P o a w K Q else E := by
  have hw : Region.wanted o (yielded ops a.tmps) = true := by simp [Region.wanted, hg]
  rw [if_pos hw]
  unfold Oper.wp
  simp [execOp, hop, resolve, invoke, builtin, hd, hx, hr, Result.andThen]
  exact hK
end
/-! ### rows whose elements lead to no memory -/
section
variable {α : Type} {d : Kd α}
def Flat (d : Kd α) : Prop := ∀ (w w' : World) (base : Nat) (ok : Nat → Prop) (x : α) (cs : List Value), d.K w x cs → d.M w' base ok x cs
/-- Cells that are laid over the first ones of a row's block. -/
theorem own_over {w : World} {base e size n g cap : Nat} {xs cs : List Value} (h : w.ownsRow base e size (.slice (some ⟨g, 0, none⟩) n cap) n xs) (hl : cs.length ≤ n * size) :
    (w.setCells g 0 cs).ownsRow base e size (.slice (some ⟨g, 0, none⟩) n cap) n (cs ++ xs.drop cs.length) ∧ w.grownBy (w.setCells g 0 cs) (some g) ∧ (w.setCells g 0 cs).heap.size = w.heap.size := by
  obtain ⟨h1, h2⟩ := h
  rcases h2 with ⟨h0, _⟩ | ⟨g', cap', cur, he, hb, hh, hnc, hcm, hcs, ht⟩
  · injection h0 with h0 _ _
    cases h0
  · injection he with he _ hc
    injection he with he
    injection he with he _ _
    subst he; subst hc
    have hnn : n * size ≤ cap * size := Nat.mul_le_mul_right _ hnc
    obtain ⟨cur', h3, h4, h5⟩ := setCells_row cs 0 w cur hh (by omega)
    obtain ⟨s1, s2, s3, s4⟩ := setCells_same g cs 0 w
    refine ⟨⟨?_, .inr ⟨g, cap, cur', rfl, hb, h3, hnc, hcm, by rw [h4, hcs], ?_⟩⟩, ⟨s1, s2, s3, by rw [s4]; exact Nat.le_refl _, fun k _ hk => setCells_far _ _ k (fun e' => hk (by rw [e']))⟩, s4⟩
    · rw [List.length_append, List.length_drop]
      omega
    · rw [h5, List.take_zero, List.nil_append, Nat.zero_add, List.take_append, List.take_of_length_le (by omega), ← ht, List.drop_take]
/-- What is read as a row: its first elements' cells. -/
theorem C_cells {w : World} {A : Option Addr} {m : Nat} {ys : List α} (h : d.C w A m ys) (hp : 0 < m) :
    ∃ ad inner, A = some ad ∧ Reps (d.K w) d.sz ys inner ∧ ∀ j u, inner[j]? = some u → w.cell? (ad.add j) = some u := by
  obtain ⟨ad, rfl, hc⟩ := h.2.2 hp
  obtain ⟨inner, h1, h2⟩ := ReadsRow.inner_ (size := d.sz) (R := d.K w) h
  exact ⟨ad, inner, rfl, h1, h2⟩
theorem reps_cell_one {R : α → List Value → Prop} {size : Nat} {ps : List α} {cs : List Value} (h : Reps R size ps cs) (hs0 : 0 < size) (hR : ∀ p c, R p c → ∀ u ∈ c, u.oneCell' = true) : ∀ u ∈ cs, u.oneCell' = true := reps_one h hs0 hR
/-- copy(v, ys), v a row of one's own: its first elements are ys' then. -/
theorem copy_row {P : Program} {e base : Nat} {ok : Nat → Prop} {v : Value} {xs ys : List α} {A : Option Addr} {m c : Nat} {W : World} {t t' ty : TypeId} (hF : Flat d) (hs0 : 0 < d.sz)
    (ht : P.underlying t = some (.slice e)) (hinfo : (P.info? e).map (·.size) = some d.sz) (HO : d.R e W base ok v xs) (HR : d.C W A m ys) :
    ∃ w1, (Builtin.copy_ #[t, t'] ty #[v, .slice A m c]).run P W = .ok (goInt ((min m xs.length : Nat) : Int)) w1 ∧ d.R e w1 base ok v (ys.take (min m xs.length) ++ xs.drop (min m xs.length)) ∧ W.grownBy w1 v.ownBlock ∧ w1.heap.size = W.heap.size := by
  obtain ⟨hok, inner, hown, hrep⟩ := HO
  rcases Nat.eq_zero_or_pos (min m xs.length) with h0 | hp
  · obtain ⟨A', c', rfl⟩ := own_slice hown
    refine ⟨W, ?_, ?_, World.grownBy.refl W _, rfl⟩
    · rw [h0]
      exact run_copy_noneK W t t' ty e A' A xs.length c' m c ht (by rw [hinfo]; rfl) h0
    · rw [h0, List.take_zero, List.drop_zero, List.nil_append]
      exact ⟨hok, inner, hown, hrep⟩
  · have hm : ys.length = m := HR.1
    obtain ⟨ad, innr, rfl, hr, hcell⟩ := C_cells HR (by omega)
    have hown2 := hown
    rcases hown.2 with ⟨_, hx0⟩ | ⟨g, cap, cur, rfl, hb, hh, hnc, hcm, hcs, htake⟩
    · omega
    have hk : min m xs.length ≤ xs.length := Nat.min_le_right _ _
    have hk2 : min m xs.length ≤ ys.length := by omega
    have hrt := reps_take hr hk2
    have hlen : (innr.take (min m xs.length * d.sz)).length = min m xs.length * d.sz := by
      rw [hrt.1, List.length_take]
      congr 1
      omega
    have hle : min m xs.length * d.sz ≤ xs.length * d.sz := Nat.mul_le_mul_right _ hk
    have hle2 : xs.length * d.sz ≤ cap * d.sz := Nat.mul_le_mul_right _ hnc
    have hrun := run_copy_cellsK (P := P) W t t' ty e g 0 xs.length cap ad m c d.sz (innr.take (min m xs.length * d.sz)) ht hinfo (by rw [hlen])
      (fun j u hj => by
        rw [List.getElem?_take] at hj
        split at hj
        · exact hcell j u hj
        · cases hj)
      (fun j hj => by rw [cell_of_row W g _ cur e (0, 0) hh]; simp; omega) (fun j _ => blk_frozen hh _)
      (fun u hu => reps_one hr hs0 (fun p c hp => d.K_one hp) u (List.mem_of_mem_take hu))
    obtain ⟨h1, h2, h3⟩ := own_over hown2 (cs := innr.take (min m xs.length * d.sz)) (by rw [hlen]; exact hle)
    refine ⟨_, hrun, ⟨hok, innr.take (min m xs.length * d.sz) ++ inner.drop (min m xs.length * d.sz), ?_, ?_⟩, h2, h3⟩
    · rw [hlen] at h1
      have e1 : (ys.take (min m xs.length) ++ xs.drop (min m xs.length)).length = xs.length := by
        rw [List.length_append, List.length_take, List.length_drop]
        omega
      rw [e1]
      exact h1
    · refine reps_append (hrt.imp_ (fun p c hp => hF _ _ _ _ _ _ hp)) ((reps_drop hrep).imp_ (fun p c hp => ?_))
      exact hF W _ _ _ _ _ (d.K_of_M hp)
/-- copy of all: where both are as long. -/
theorem copy_all {P : Program} {e base : Nat} {ok : Nat → Prop} {v : Value} {xs ys : List α} {A : Option Addr} {c : Nat} {W : World} {t t' ty : TypeId} (hF : Flat d) (hs0 : 0 < d.sz)
    (ht : P.underlying t = some (.slice e)) (hinfo : (P.info? e).map (·.size) = some d.sz) (HO : d.R e W base ok v xs) (HR : d.C W A ys.length ys) (hl : xs.length = ys.length) :
    ∃ w1, (Builtin.copy_ #[t, t'] ty #[v, .slice A ys.length c]).run P W = .ok (goInt ((ys.length : Nat) : Int)) w1 ∧ d.R e w1 base ok v ys ∧ W.grownBy w1 v.ownBlock ∧ w1.heap.size = W.heap.size := by
  obtain ⟨w1, h1, h2, h3, h4⟩ := copy_row (P := P) (t := t) (t' := t') (ty := ty) (c := c) hF hs0 ht hinfo HO HR
  rw [hl, Nat.min_self] at h1 h2
  rw [List.take_length, List.drop_of_length_le (by omega), List.append_nil] at h2
  exact ⟨w1, h1, h2, h3, h4⟩
end
/-! ### make with room -/
section
variable {α : Type} {d : Kd α} {P : Program}
theorem R_made2 (d : Kd α) {W : World} (base : Nat) (t e : TypeId) (kl kc : IntKind) (n c : Nat)
    (ht : P.underlying t = some (.slice e)) (z : Value) (bytes : Nat) (hinfo : (P.info? e).map (fun i => (i.zero, i.size, i.bytes)) = some (some z, d.sz, bytes)) (hz : z.cells.size = d.sz) (hs0 : 0 < d.sz)
    (z0 : α) {ok : Nat → Prop} (hzero : ∀ (w : World) (base : Nat) (ok : Nat → Prop), d.M w base ok z0 z.cells.toList) (hfresh : ok W.heap.size) (hnc : n ≤ c) (hl : c * bytes ≤ 281474976710656) (hcm : c ≤ maxLen) (hbase : base ≤ W.heap.size) :
    ∃ w1, (Instr.makeSlice t (.int kl (n : Int)) (.int kc (c : Int))).run P W = .ok (.slice (some ⟨W.heap.size, 0, none⟩) n c) w1 ∧ d.R e w1 base ok (.slice (some ⟨W.heap.size, 0, none⟩) n c) (List.replicate n z0) ∧ W.grownBy w1 none ∧ w1.heap.size = W.heap.size + 1 := by
  obtain ⟨i0, hi, hzz⟩ := Option.map_eq_some_iff.1 hinfo
  simp only [Prod.mk.injEq] at hzz
  obtain ⟨hz0, hz1, hz2⟩ := hzz
  have hr := run_make (P := P) W t e i0 z ht hi hz0 kl kc (n : Int) (c : Int) (by omega) (by omega)
    (by
      have h3 : ((i0.bytes * c : Nat) : Int) ≤ 281474976710656 := by rw [hz2, Nat.mul_comm]; omega
      rwa [Int.natCast_mul] at h3) (by unfold maxLen at hcm; omega)
  simp only [Int.toNat_natCast] at hr
  rw [hz1] at hr
  have hle : n * d.sz ≤ c * d.sz := Nat.mul_le_mul_right _ hnc
  refine ⟨_, hr, ⟨fun k hk => ?_, (madeCells z.cells (c * d.sz)).toList.take (n * d.sz), ⟨?_, .inr ⟨W.heap.size, c, madeCells z.cells (c * d.sz), by simp, hbase, ?_, by simpa using hnc, hcm, size_madeCells _ _, by simp⟩⟩, ?_⟩, World.grownBy_alloc W _ none, by simp⟩
  · have : k = W.heap.size := by simpa [Value.ownBlock] using hk.symm
    subst this
    exact hfresh
  · rw [List.length_take, Array.length_toList, size_madeCells, Nat.min_eq_left hle, List.length_replicate]
  · exact blk_new W _
  · have h := reps_take (reps_made (R := d.M (W.alloc (.cells (madeCells z.cells (c * d.sz)) e)) base (fun k => ok k ∧ some k ≠ (Value.slice (some ⟨W.heap.size, 0, none⟩) n c).ownBlock)) hz hs0 (hzero _ _ _) c) (m := n) (by simpa using hnc)
    rw [List.take_replicate, Nat.min_eq_left hnc] at h
    exact h
end
/-! ### a struct's variable: made, then laid over -/
theorem box_store {P : Program} (W : World) (z cs : List Value) (t : TypeId) (hl : cs.length = z.length) (h1 : ∀ v ∈ cs, v.oneCell' = true) :
    ∃ W', (storeCells ⟨W.heap.size, 0, none⟩ cs).run P (W.alloc (.cells z.toArray t (0, 0))) = .ok () W' ∧ W'.heap[W.heap.size]? = some (.cells cs.toArray t (0, 0)) ∧ Below W.heap.size W W' := by
  have hn := blk_new W (.cells z.toArray t (0, 0))
  have hst := run_storeCells_cells (P := P) W.heap.size 0 cs 0 (W.alloc (.cells z.toArray t (0, 0))) (fun j hj => by rw [cell_of_row _ _ _ _ _ (0, 0) hn]; simp; omega) (fun j _ => blk_frozen hn _) h1
  obtain ⟨cur, h2, h3, h4⟩ := setCells_row cs 0 (W.alloc (.cells z.toArray t (0, 0))) z.toArray hn (by simp; omega)
  refine ⟨_, hst, ?_, ?_⟩
  · have h5 : cur = cs.toArray := by
      apply Array.toList_inj.1
      rw [h4]
      simp [hl]
    rw [← h5]
    exact h2
  · obtain ⟨s1, s2, s3, s4⟩ := setCells_same W.heap.size cs 0 (W.alloc (.cells z.toArray t (0, 0)))
    have ha := below_alloc (Below.refl W.heap.size W) (.cells z.toArray t (0, 0))
    refine ⟨s1.trans ha.os, s2.trans ha.tape, s3.trans ha.output, by rw [s4]; exact ha.size, fun k hk => ?_⟩
    rw [setCells_far _ _ k (by omega)]
    exact ha.block k hk
/-! ### a value laid into the middle -/
theorem shift_list {L X : List Value} {a N k : Nat} (ha : a ≤ N) (hX : X.length = k) (hL : N + k ≤ L.length) :
    ((L.take (a + k) ++ (L.take N).drop a ++ L.drop (N + k)).take a ++ X ++ (L.take (a + k) ++ (L.take N).drop a ++ L.drop (N + k)).drop (a + k)).take (N + k) = (L.take N).take a ++ X ++ (L.take N).drop a := by
  have h1 : (L.take (a + k)).length = a + k := by rw [List.length_take]; omega
  have h2 : ((L.take N).drop a).length = N - a := by rw [List.length_drop, List.length_take]; omega
  have e1 : (L.take (a + k) ++ (L.take N).drop a ++ L.drop (N + k)).take a = (L.take N).take a := by
    rw [List.append_assoc, List.take_append_of_le_length (by omega), List.take_take, List.take_take, Nat.min_eq_left (by omega), Nat.min_eq_left ha]
  have e2 : (L.take (a + k) ++ (L.take N).drop a ++ L.drop (N + k)).drop (a + k) = (L.take N).drop a ++ L.drop (N + k) := by
    rw [List.append_assoc, List.drop_append, h1, Nat.sub_self, List.drop_zero, List.drop_of_length_le (by omega), List.nil_append]
  rw [e1, e2]
  have h3 : ((L.take N).take a).length = a := by rw [List.length_take, List.length_take]; omega
  rw [← List.append_assoc, List.take_append_of_le_length (by simp only [List.length_append, h3, hX, h2]; omega), List.take_of_length_le (by simp only [List.length_append, h3, hX, h2]; omega)]
theorem isSome_setCells (b : Nat) (vs : List Value) (o : Nat) (w : World) (h : ∀ j, j < vs.length → (w.cell? ⟨b, o + j, none⟩).isSome = true) (k : Nat) (hk : (w.cell? ⟨b, k, none⟩).isSome = true) : ((w.setCells b o vs).cell? ⟨b, k, none⟩).isSome = true := by
  by_cases hin : o ≤ k ∧ k < o + vs.length
  · have := World.cell?_setCells_in b vs o w h (k - o) (by omega)
    rw [show o + (k - o) = k by omega] at this
    rw [this]; rfl
  · rw [World.cell?_setCells_out b vs o w ⟨b, k, none⟩ (fun _ _ => by show k < o ∨ o + vs.length ≤ k; omega)]
    exact hk
end Go.Proofs.Ytjoimapgmocoeaa.Own
