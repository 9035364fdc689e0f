/- Rows of structs whose cells lead to no memory: an element laid over. For any program. -/
import Derived.Test.YtjoimapgmocoeaaStruct
set_option linter.unusedVariables false
set_option linter.unusedSimpArgs false
namespace Go.Proofs.Ytjoimapgmocoeaa.Own
open Go.RowKit Go.Proofs.YtjoimapgmocoeaaW.PrintWords Go.Proofs.YtjoimapgmocoeaaW.PrintWords.Kd Go.Proofs.YtjoimapgmocoeaaW.PrintLast
section
variable {α : Type} {d : Kd α} {P : Program}
/-- xs[i] = x. -/
theorem row_store {W : World} {e base g n c i : Nat} {ok : Nat → Prop} {xs : List α} {x : α} {cs : List Value} (hF : Flat d) (HO : d.R e W base ok (.slice (some ⟨g, 0, none⟩) n c) xs) (hi : i < xs.length) (hx : d.K W x cs) :
    ∃ W', (storeCells ⟨g, i * d.sz, none⟩ cs).run P W = .ok () W' ∧ d.R e W' base ok (.slice (some ⟨g, 0, none⟩) n c) (xs.set i x) ∧ W.grownBy W' (some g) ∧ W'.heap.size = W.heap.size := by
  obtain ⟨hok, inner, hown, hrep⟩ := HO
  rcases hown.2 with ⟨h0, _⟩ | ⟨g', cap, cur, he, hb, hh, hnc, hcm, hcs, ht⟩
  · injection h0 with h0 _ _
    cases h0
  injection he with he hn hc
  injection he with he
  injection he with he _ _
  subst he; subst hc; subst hn
  have hl : cs.length = d.sz := d.K_len hx
  have hil : inner.length = xs.length * d.sz := hrep.1
  have h1 : i * d.sz + d.sz ≤ xs.length * d.sz := by
    have := Nat.mul_le_mul_right d.sz (show i + 1 ≤ xs.length from hi)
    rwa [Nat.succ_mul] at this
  have h2 : xs.length * d.sz ≤ c * d.sz := Nat.mul_le_mul_right _ hnc
  have hst := run_storeCells_cells (P := P) g (i * d.sz) cs 0 W (fun j hj => by rw [cell_of_row W g _ cur e (0, 0) hh]; simp; omega) (fun j _ => blk_frozen hh _) (fun u hu => d.K_one hx u hu)
  obtain ⟨cur', h3, h4, h5⟩ := setCells_row cs (i * d.sz) W cur hh (by omega)
  obtain ⟨s1, s2, s3, s4⟩ := setCells_same g cs (i * d.sz) W
  refine ⟨_, by simpa using hst, ⟨hok, inner.take (i * d.sz) ++ (cs ++ inner.drop (i * d.sz + d.sz)), ⟨?_, .inr ⟨g, c, cur', by simp, hb, h3, by simpa using hnc, hcm, by rw [h4, hcs], ?_⟩⟩, ?_⟩, ⟨s1, s2, s3, by rw [s4]; exact Nat.le_refl _, fun k _ hk => setCells_far _ _ k (fun e' => hk (by rw [e']))⟩, s4⟩
  · simp only [List.length_append, List.length_take, List.length_drop, List.length_set, hl, hil]
    omega
  · rw [List.length_set, h5, ← ht, hl]
    have a1 : (cur.toList.take (i * d.sz)).length = i * d.sz := by rw [List.length_take, Array.length_toList]; omega
    have a2 : (cur.toList.take (xs.length * d.sz)).take (i * d.sz) = cur.toList.take (i * d.sz) := by rw [List.take_take, Nat.min_eq_left (by omega)]
    have a3 : (cur.toList.take (xs.length * d.sz)).drop (i * d.sz + d.sz) = (cur.toList.drop (i * d.sz + d.sz)).take (xs.length * d.sz - (i * d.sz + d.sz)) := by rw [List.drop_take]
    have a4 : (cur.toList.take (i * d.sz)).take (xs.length * d.sz) = cur.toList.take (i * d.sz) := List.take_of_length_le (by rw [a1]; omega)
    have a5 : cs.take (xs.length * d.sz - i * d.sz) = cs := List.take_of_length_le (by rw [hl]; omega)
    rw [a2, a3, List.append_assoc, List.take_append, a4, a1, List.take_append, a5, hl, show xs.length * d.sz - i * d.sz - d.sz = xs.length * d.sz - (i * d.sz + d.sz) by omega]
  · have e1 : xs.set i x = xs.take i ++ ([x] ++ xs.drop (i + 1)) := by
      rw [List.set_eq_take_append_cons_drop, if_pos hi]
      rfl
    rw [e1]
    have hM : ∀ y cs', d.K W y cs' → d.M (W.setCells g (i * d.sz) cs) base (fun k => ok k ∧ some k ≠ (Value.slice (some ⟨g, 0, none⟩) xs.length c).ownBlock) y cs' := fun y cs' hy => hF _ _ _ _ _ _ hy
    have hrep' : Reps (d.M (W.setCells g (i * d.sz) cs) base (fun k => ok k ∧ some k ≠ (Value.slice (some ⟨g, 0, none⟩) xs.length c).ownBlock)) d.sz xs inner := hrep.imp_ (fun p cs' hp => hM _ _ (d.K_of_M hp))
    refine reps_append (reps_take hrep' (by omega)) (reps_append ?_ ?_)
    · have h1 := Reps.snoc (Reps.none (d.M (W.setCells g (i * d.sz) cs) base (fun k => ok k ∧ some k ≠ (Value.slice (some ⟨g, 0, none⟩) xs.length c).ownBlock)) d.sz) (hM x _ hx) hl
      exact h1
    · have := reps_drop hrep' (m := i + 1)
      rwa [Nat.succ_mul] at this
/-- A variable known whole is laid over. -/
theorem blk_store {W : World} {g : Nat} {t : TypeId} {cs0 : Array Value} {cs : List Value} (h : W.heap[g]? = some (.cells cs0 t (0, 0))) (hl : cs.length = cs0.size) (h1 : ∀ u ∈ cs, u.oneCell' = true) :
    ∃ W', (storeCells ⟨g, 0, none⟩ cs).run P W = .ok () W' ∧ W'.heap[g]? = some (.cells cs.toArray t (0, 0)) ∧ W.grownBy W' (some g) ∧ W'.heap.size = W.heap.size := by
  have hst := run_storeCells_cells (P := P) g 0 cs 0 W (fun j hj => by rw [cell_of_row _ _ _ _ _ (0, 0) h]; simp; omega) (fun j _ => blk_frozen h _) h1
  obtain ⟨cur, h2, h3, h4⟩ := setCells_row cs 0 W cs0 h (by omega)
  obtain ⟨s1, s2, s3, s4⟩ := setCells_same g cs 0 W
  refine ⟨_, hst, ?_, ⟨s1, s2, s3, by rw [s4]; exact Nat.le_refl _, fun k _ hk => setCells_far _ _ k (fun e' => hk (by rw [e']))⟩, s4⟩
  have h5 : cur = cs.toArray := by
    apply Array.toList_inj.1
    rw [h4]
    simp [hl]
  rw [← h5]
  exact h2
end
end Go.Proofs.Ytjoimapgmocoeaa.Own
/- Rows of structs whose cells lead to no memory: one cell of an element laid over. For any program. -/
set_option linter.unusedVariables false
set_option linter.unusedSimpArgs false
namespace Go.Proofs.Ytjoimapgmocoeaa.Own
open Go.RowKit Go.Proofs.YtjoimapgmocoeaaW.PrintWords Go.Proofs.YtjoimapgmocoeaaW.PrintWords.Kd Go.Proofs.YtjoimapgmocoeaaW.PrintLast Go.Proofs.YtjoimapgmocoeaaW.PrintMore
theorem set_mid (L c : List Value) (o f k : Nat) (u : Value) (hk : c.length = k) (hf : f < k) (hL : o + k ≤ L.length) (hc : ∀ j, j < k → L[o + j]? = c[j]?) : L.set (o + f) u = L.take o ++ c.set f u ++ L.drop (o + k) := by
  have h0 : (L.take o).length = o := by rw [List.length_take]; omega
  apply List.ext_getElem?
  intro t
  rw [List.append_assoc]
  rcases Nat.lt_or_ge t o with h | h
  · rw [List.getElem?_append_left (by omega), List.getElem?_take, if_pos h, List.getElem?_set_ne (by omega)]
  · rw [List.getElem?_append_right (by omega), h0]
    rcases Nat.lt_or_ge (t - o) k with h2 | h2
    · rw [List.getElem?_append_left (by rw [List.length_set]; omega)]
      by_cases h3 : t = o + f
      · subst h3
        rw [List.getElem?_set_self (by omega), Nat.add_sub_cancel_left, List.getElem?_set_self (by omega)]
      · rw [List.getElem?_set_ne (by omega), List.getElem?_set_ne (by omega), ← hc (t - o) h2, show o + (t - o) = t by omega]
    · rw [List.getElem?_append_right (by rw [List.length_set]; omega), List.length_set, hk, List.getElem?_drop, List.getElem?_set_ne (by omega), show o + k + (t - o - k) = t by omega]
section
variable {α : Type} {d : Kd α} {P : Program}
/-- One cell of xs[i]. -/
theorem row_cell {W : World} {e base g n cap i f : Nat} {ok : Nat → Prop} {xs : List α} {x' : α} {u : Value} (z : α) (hF : Flat d) (hE : d.E = []) (HO : d.R e W base ok (.slice (some ⟨g, 0, none⟩) n cap) xs) (hi : i < xs.length) (hf : f < d.sz)
    (h1 : u.oneCell' = true) (hx : ∀ cs, d.K W (xs.getD i z) cs → d.K W x' (cs.set f u)) :
    d.R e (W.setCell ⟨g, i * d.sz + f, none⟩ u) base ok (.slice (some ⟨g, 0, none⟩) n cap) (xs.set i x') ∧ W.grownBy (W.setCell ⟨g, i * d.sz + f, none⟩ u) (some g) := by
  obtain ⟨ad, c, e0, hcl, hK, hc0⟩ := Kd.C_get (R_reads' HO).2.2 z (i : Int) (by omega) (by have := (R_reads' HO).1; omega)
  cases e0
  rw [Int.toNat_natCast] at hK hc0
  have hlc : c.length = d.sz := d.K_len hK
  have hnew := hx c hK
  obtain ⟨hok, inner, hown, hrep⟩ := HO
  rcases hown.2 with ⟨h0, _⟩ | ⟨g', cap', cur, he, hb, hh, hnc, hcm, hcs, ht⟩
  · injection h0 with h0 _ _
    cases h0
  injection he with he hn hc
  injection he with he
  injection he with he _ _
  subst he; subst hc; subst hn
  have hil : inner.length = xs.length * d.sz := hrep.1
  have hm : i * d.sz + d.sz ≤ xs.length * d.sz := by
    have := Nat.mul_le_mul_right d.sz (show i + 1 ≤ xs.length from hi)
    rwa [Nat.succ_mul] at this
  have h2 : xs.length * d.sz ≤ cap * d.sz := Nat.mul_le_mul_right _ hnc
  have hcin : ∀ j, j < d.sz → inner[i * d.sz + j]? = c[j]? := fun j hj => by
    have hcj : c[j]? = some c[j] := List.getElem?_eq_getElem (by omega)
    have h3 := hc0 j _ hcj
    rw [add_plain, cell_of_row W g _ cur e (0, 0) hh] at h3
    rw [hcj, ← ht, List.getElem?_take, if_pos (by omega), ← h3]
    simp
  have hset := set_mid inner c (i * d.sz) f d.sz u hlc hf (by omega) hcin
  have hblk := blk_set hh (i * d.sz + f) u
  have hone := World.grownBy.refl W (some g)
  refine ⟨⟨hok, inner.take (i * d.sz) ++ (c.set f u ++ inner.drop (i * d.sz + d.sz)), ⟨?_, .inr ⟨g, cap, _, by simp, hb, hblk, by simpa using hnc, hcm, by simpa using hcs, ?_⟩⟩, ?_⟩, ?_⟩
  · simp only [List.length_append, List.length_take, List.length_drop, List.length_set, hlc, hil]
    omega
  · rw [List.length_set, Array.toList_setIfInBounds, List.take_set, ht, hset, List.append_assoc]
  · have e1 : xs.set i x' = xs.take i ++ ([x'] ++ xs.drop (i + 1)) := by
      rw [List.set_eq_take_append_cons_drop, if_pos hi]
      rfl
    rw [e1]
    obtain ⟨W2, hW2⟩ : ∃ W2, W2 = W.setCell ⟨g, i * d.sz + f, none⟩ u := ⟨_, rfl⟩
    rw [← hW2]
    have hM : ∀ y cs', d.K W y cs' → d.M W2 base (fun k => ok k ∧ some k ≠ (Value.slice (some ⟨g, 0, none⟩) xs.length cap).ownBlock) y cs' := fun y cs' hy => hF _ _ _ _ _ _ hy
    have hrep' : Reps (d.M W2 base (fun k => ok k ∧ some k ≠ (Value.slice (some ⟨g, 0, none⟩) xs.length cap).ownBlock)) d.sz xs inner := hrep.imp_ (fun p cs' hp => hM _ _ (d.K_of_M hp))
    refine reps_append (reps_take hrep' (by omega)) (reps_append ?_ ?_)
    · have h1 := Reps.snoc (Reps.none (d.M W2 base (fun k => ok k ∧ some k ≠ (Value.slice (some ⟨g, 0, none⟩) xs.length cap).ownBlock)) d.sz) (hM x' _ hnew) (by rw [List.length_set]; exact hlc)
      exact h1
    · have := reps_drop hrep' (m := i + 1)
      rwa [Nat.succ_mul] at this
  · exact ⟨rfl, rfl, rfl, by simp, fun k _ hk => Below.heap_setCell W ⟨g, i * d.sz + f, none⟩ u k (fun e' => hk (by rw [e']))⟩
end
end Go.Proofs.Ytjoimapgmocoeaa.Own
