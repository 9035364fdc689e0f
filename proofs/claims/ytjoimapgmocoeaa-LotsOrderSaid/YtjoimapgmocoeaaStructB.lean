/- Rows of structs whose cells lead to no memory: an element laid over. For any program. -/
import Derived.Test.YtjoimapgmocoeaaStruct
set_option linter.unusedVariables false
set_option linter.unusedSimpArgs false
namespace Go.Proofs.Ytjoimapgmocoeaa.Own
open Go.RowKit Go.Proofs.YtjoimapgmocoeaaW.PrintWords Go.Proofs.YtjoimapgmocoeaaW.PrintWords.Kd Go.Proofs.YtjoimapgmocoeaaW.PrintLast
section
variable {α : Type} {d : Kd α} {P : Program}
/-- xs[i] = x. -/
theorem row_store {W : World} {e base g n c i : Nat} {ok : Nat → Prop} {xs : List α} {x : α} {cs : List Value} (hF : Flat d) (HO : d.R e W base ok (.slice (some ⟨g, 0, none⟩) n c) xs) (hi : i < xs.length) (hx : d.K W x cs) :
    ∃ W', (storeCells ⟨g, i * d.sz, none⟩ cs).run P W = .ok () W' ∧ d.R e W' base ok (.slice (some ⟨g, 0, none⟩) n c) (xs.set i x) ∧ W.grownBy W' (some g) ∧ W'.heap.size = W.heap.size := by
  obtain ⟨hok, inner, hown, hrep⟩ := HO
  rcases hown.2 with ⟨h0, _⟩ | ⟨g', cap, cur, he, hb, hh, hnc, hcm, hcs, ht⟩
  · injection h0 with h0 _ _
    cases h0
  injection he with he hn hc
  injection he with he
  injection he with he _ _
  subst he; subst hc; subst hn
  have hl : cs.length = d.sz := d.K_len hx
  have hil : inner.length = xs.length * d.sz := hrep.1
  have h1 : i * d.sz + d.sz ≤ xs.length * d.sz := by
    have := Nat.mul_le_mul_right d.sz (show i + 1 ≤ xs.length from hi)
    rwa [Nat.succ_mul] at this
  have h2 : xs.length * d.sz ≤ c * d.sz := Nat.mul_le_mul_right _ hnc
  have hst := run_storeCells_cells (P := P) g (i * d.sz) cs 0 W (fun j hj => by rw [cell_of_row W g _ cur e (0, 0) hh]; simp; omega) (fun j _ => blk_frozen hh _) (fun u hu => d.K_one hx u hu)
  obtain ⟨cur', h3, h4, h5⟩ := setCells_row cs (i * d.sz) W cur hh (by omega)
  obtain ⟨s1, s2, s3, s4⟩ := setCells_same g cs (i * d.sz) W
  refine ⟨_, by simpa using hst, ⟨hok, inner.take (i * d.sz) ++ (cs ++ inner.drop (i * d.sz + d.sz)), ⟨?_, .inr ⟨g, c, cur', by simp, hb, h3, by simpa using hnc, hcm, by rw [h4, hcs], ?_⟩⟩, ?_⟩, ⟨s1, s2, s3, by rw [s4]; exact Nat.le_refl _, fun k _ hk => setCells_far _ _ k (fun e' => hk (by rw [e']))⟩, s4⟩
  · simp only [List.length_append, List.length_take, List.length_drop, List.length_set, hl, hil]
    omega
  · rw [List.length_set, h5, ← ht, hl]
    have a1 : (cur.toList.take (i * d.sz)).length = i * d.sz := by rw [List.length_take, Array.length_toList]; omega
    have a2 : (cur.toList.take (xs.length * d.sz)).take (i * d.sz) = cur.toList.take (i * d.sz) := by rw [List.take_take, Nat.min_eq_left (by omega)]
    have a3 : (cur.toList.take (xs.length * d.sz)).drop (i * d.sz + d.sz) = (cur.toList.drop (i * d.sz + d.sz)).take (xs.length * d.sz - (i * d.sz + d.sz)) := by rw [List.drop_take]
    have a4 : (cur.toList.take (i * d.sz)).take (xs.length * d.sz) = cur.toList.take (i * d.sz) := List.take_of_length_le (by rw [a1]; omega)
    have a5 : cs.take (xs.length * d.sz - i * d.sz) = cs := List.take_of_length_le (by rw [hl]; omega)
    rw [a2, a3, List.append_assoc, List.take_append, a4, a1, List.take_append, a5, hl, show xs.length * d.sz - i * d.sz - d.sz = xs.length * d.sz - (i * d.sz + d.sz) by omega]
  · have e1 : xs.set i x = xs.take i ++ ([x] ++ xs.drop (i + 1)) := by
      rw [List.set_eq_take_append_cons_drop, if_pos hi]
      rfl
    rw [e1]
    have hM : ∀ y cs', d.K W y cs' → d.M (W.setCells g (i * d.sz) cs) base (fun k => ok k ∧ some k ≠ (Value.slice (some ⟨g, 0, none⟩) xs.length c).ownBlock) y cs' := fun y cs' hy => hF _ _ _ _ _ _ hy
    have hrep' : Reps (d.M (W.setCells g (i * d.sz) cs) base (fun k => ok k ∧ some k ≠ (Value.slice (some ⟨g, 0, none⟩) xs.length c).ownBlock)) d.sz xs inner := hrep.imp_ (fun p cs' hp => hM _ _ (d.K_of_M hp))
    refine reps_append (reps_take hrep' (by omega)) (reps_append ?_ ?_)
    · have h1 := Reps.snoc (Reps.none (d.M (W.setCells g (i * d.sz) cs) base (fun k => ok k ∧ some k ≠ (Value.slice (some ⟨g, 0, none⟩) xs.length c).ownBlock)) d.sz) (hM x _ hx) hl
      exact h1
    · have := reps_drop hrep' (m := i + 1)
      rwa [Nat.succ_mul] at this
/-- A variable known whole is laid over. -/
theorem blk_store {W : World} {g : Nat} {t : TypeId} {cs0 : Array Value} {cs : List Value} (h : W.heap[g]? = some (.cells cs0 t (0, 0))) (hl : cs.length = cs0.size) (h1 : ∀ u ∈ cs, u.oneCell' = true) :
    ∃ W', (storeCells ⟨g, 0, none⟩ cs).run P W = .ok () W' ∧ W'.heap[g]? = some (.cells cs.toArray t (0, 0)) ∧ W.grownBy W' (some g) ∧ W'.heap.size = W.heap.size := by
  have hst := run_storeCells_cells (P := P) g 0 cs 0 W (fun j hj => by rw [cell_of_row _ _ _ _ _ (0, 0) h]; simp; omega) (fun j _ => blk_frozen h _) h1
  obtain ⟨cur, h2, h3, h4⟩ := setCells_row cs 0 W cs0 h (by omega)
  obtain ⟨s1, s2, s3, s4⟩ := setCells_same g cs 0 W
  refine ⟨_, hst, ?_, ⟨s1, s2, s3, by rw [s4]; exact Nat.le_refl _, fun k _ hk => setCells_far _ _ k (fun e' => hk (by rw [e']))⟩, s4⟩
  have h5 : cur = cs.toArray := by
    apply Array.toList_inj.1
    rw [h4]
    simp [hl]
  rw [← h5]
  exact h2
end
end Go.Proofs.Ytjoimapgmocoeaa.Own
