/- Holds without parts, as plain lists: where one stands, what Put and Drop make of them. No program in sight. -/
import Derived.Test.YtpjeklhidebmpaaEv
set_option linter.unusedVariables false
set_option linter.unusedSimpArgs false
namespace Go.Proofs.Ytpjeklhidebmpaa.Lk
/-- A hold that has no parts. -/
structure HN where
  id : Int
  over : Int
  til : Int
def zH : HN := ⟨0, 0, 0⟩
def Srt (xs : List HN) : Prop := xs.Pairwise (fun a b => a.id < b.id)
/-- How many of the front have lesser ids. -/
def pos (id : Int) : List HN → Nat
  | [] => 0
  | x :: xs => if x.id < id then pos id xs + 1 else 0
def hasB (id : Int) (xs : List HN) : Bool := decide (pos id xs < xs.length) && decide ((xs.getD (pos id xs) zH).id = id)
def put (xs : List HN) (h : HN) : List HN := if hasB h.id xs = true then xs.set (pos h.id xs) h else xs.take (pos h.id xs) ++ ([h] ++ xs.drop (pos h.id xs))
def drp (xs : List HN) (id : Int) : List HN := if hasB id xs = true then xs.take (pos id xs) ++ xs.drop (pos id xs + 1) else xs
theorem pos_le (id : Int) : ∀ xs : List HN, pos id xs ≤ xs.length
  | [] => Nat.le_refl _
  | x :: xs => by
    unfold pos
    split
    · simpa using pos_le id xs
    · exact Nat.zero_le _
theorem pos_lt (id : Int) : ∀ (xs : List HN) (j : Nat), j < pos id xs → (xs.getD j zH).id < id
  | [], j, h => by simp [pos] at h
  | x :: xs, j, h => by
    unfold pos at h
    split at h
    · rename_i hx
      cases j with
      | zero => simpa using hx
      | succ j => simpa using pos_lt id xs j (by omega)
    · omega
theorem pos_ge (id : Int) : ∀ (xs : List HN), Srt xs → ∀ j : Nat, pos id xs ≤ j → j < xs.length → id ≤ (xs.getD j zH).id
  | [], _, j, _, h => by simp at h
  | x :: xs, hs, j, h, hj => by
    have h1 := List.pairwise_cons.1 hs
    unfold pos at h
    split at h
    · rename_i hx
      cases j with
      | zero => omega
      | succ j => simpa using pos_ge id xs h1.2 j (by omega) (by simpa using hj)
    · rename_i hx
      cases j with
      | zero => simpa using hx
      | succ j =>
        have hj' : j < xs.length := by simpa using hj
        have := h1.1 (xs[j]) (List.getElem_mem hj')
        simp [hj']
        omega
theorem getD_mem {xs : List HN} {j : Nat} (h : j < xs.length) : xs.getD j zH ∈ xs := by simp [h]
theorem mem_getD {xs : List HN} {x : HN} (h : x ∈ xs) : ∃ j, j < xs.length ∧ xs.getD j zH = x := by
  obtain ⟨j, hj, e⟩ := List.mem_iff_getElem.1 h
  exact ⟨j, hj, by simp [hj, e]⟩
theorem hasB_iff {xs : List HN} (hs : Srt xs) (id : Int) : hasB id xs = true ↔ ∃ x ∈ xs, x.id = id := by
  unfold hasB
  rw [Bool.and_eq_true, decide_eq_true_eq, decide_eq_true_eq]
  constructor
  · rintro ⟨h1, h2⟩
    exact ⟨_, getD_mem h1, h2⟩
  · rintro ⟨x, hx, e⟩
    obtain ⟨j, hj, rfl⟩ := mem_getD hx
    have h1 : ¬ j < pos id xs := fun h => by have := pos_lt id xs j h; omega
    have h2 : pos id xs < xs.length := by omega
    refine ⟨h2, ?_⟩
    have h3 := pos_ge id xs hs (pos id xs) (Nat.le_refl _) h2
    rcases Nat.lt_or_ge (pos id xs) j with h | h
    · have h4 : (xs.getD (pos id xs) zH).id < (xs.getD j zH).id := by
        have := List.pairwise_iff_getElem.1 hs (pos id xs) j h2 hj h
        simpa [h2, hj] using this
      omega
    · have h5 : pos id xs = j := by omega
      rw [h5]
      exact e
theorem pos_succ : ∀ (xs : List HN), Srt xs → ∀ j : Int, pos (j + 1) xs = pos j xs + (if hasB j xs = true then 1 else 0)
  | [], _, j => by simp [pos, hasB]
  | x :: xs, hs, j => by
    have h1 := List.pairwise_cons.1 hs
    have ih := pos_succ xs h1.2 j
    by_cases hx : x.id < j
    · have e1 : pos j (x :: xs) = pos j xs + 1 := by simp [pos, hx]
      have e2 : pos (j + 1) (x :: xs) = pos (j + 1) xs + 1 := by simp [pos, show x.id < j + 1 by omega]
      have e3 : hasB j (x :: xs) = hasB j xs := by simp [hasB, e1]
      rw [e1, e2, e3, ih]
      omega
    · have e1 : pos j (x :: xs) = 0 := by simp [pos, hx]
      by_cases he : x.id = j
      · have e2 : pos (j + 1) (x :: xs) = pos (j + 1) xs + 1 := by simp [pos, show x.id < j + 1 by omega]
        have e4 : pos (j + 1) xs = 0 := by
          cases xs with
          | nil => rfl
          | cons y ys =>
            have := h1.1 y List.mem_cons_self
            simp [pos, show ¬ y.id < j + 1 by omega]
        have e3 : hasB j (x :: xs) = true := by simp [hasB, e1, he]
        rw [e1, e2, e3, e4]
        rfl
      · have e2 : pos (j + 1) (x :: xs) = 0 := by simp [pos, show ¬ x.id < j + 1 by omega]
        have e3 : hasB j (x :: xs) = false := by simp [hasB, e1, he]
        rw [e1, e2, e3]
        rfl
theorem pos_all {id : Int} : ∀ {xs : List HN}, (∀ x ∈ xs, x.id < id) → pos id xs = xs.length
  | [], _ => rfl
  | x :: xs, h => by
    simp [pos, h x List.mem_cons_self]
    exact pos_all (fun y hy => h y (List.mem_cons_of_mem _ hy))
theorem pos_none {id : Int} : ∀ {xs : List HN}, (∀ x ∈ xs, id ≤ x.id) → pos id xs = 0
  | [], _ => rfl
  | x :: xs, h => by
    have := h x List.mem_cons_self
    simp [pos, show ¬ x.id < id by omega]
theorem take_lt (id : Int) : ∀ (xs : List HN), ∀ e ∈ xs.take (pos id xs), e.id < id
  | [], e, he => by simp at he
  | x :: xs, e, he => by
    unfold pos at he
    split at he
    · rename_i hx
      rw [List.take_succ_cons] at he
      rcases List.mem_cons.1 he with rfl | he
      · exact hx
      · exact take_lt id xs e he
    · simp at he
theorem drop_ge (id : Int) : ∀ (xs : List HN), Srt xs → ∀ e ∈ xs.drop (pos id xs), id ≤ e.id
  | [], _, e, he => by simp at he
  | x :: xs, hs, e, he => by
    have h1 := List.pairwise_cons.1 hs
    unfold pos at he
    split at he
    · rw [List.drop_succ_cons] at he
      exact drop_ge id xs h1.2 e he
    · rename_i hx
      rw [List.drop_zero] at he
      rcases List.mem_cons.1 he with rfl | he
      · omega
      · have := h1.1 e he
        omega
theorem split_at {id : Int} {xs : List HN} (h : hasB id xs = true) : xs.drop (pos id xs) = xs.getD (pos id xs) zH :: xs.drop (pos id xs + 1) ∧ (xs.getD (pos id xs) zH).id = id := by
  unfold hasB at h
  rw [Bool.and_eq_true, decide_eq_true_eq, decide_eq_true_eq] at h
  refine ⟨?_, h.2⟩
  rw [List.drop_eq_getElem_cons h.1]
  simp [h.1]
theorem set_split (xs : List HN) (k : Nat) (h : HN) (hk : k < xs.length) : xs.set k h = xs.take k ++ ([h] ++ xs.drop (k + 1)) := by
  rw [List.set_eq_take_append_cons_drop, if_pos hk]
  rfl
/-- What is behind id, strictly. -/
theorem drop_gt {id : Int} {xs : List HN} (hs : Srt xs) (h : hasB id xs = true) : ∀ e ∈ xs.drop (pos id xs + 1), id < e.id := by
  obtain ⟨h1, h2⟩ := split_at h
  have h3 : (xs.drop (pos id xs)).Pairwise (fun a b => a.id < b.id) := hs.sublist (List.drop_sublist _ _)
  rw [h1] at h3
  intro e he
  have := (List.pairwise_cons.1 h3).1 e he
  omega
theorem drop_gt' {id : Int} {xs : List HN} (hs : Srt xs) (h : hasB id xs = false) : ∀ e ∈ xs.drop (pos id xs), id < e.id := by
  intro e he
  have h1 := drop_ge id xs hs e he
  have h2 : ¬ e.id = id := fun e1 => by
    have := (hasB_iff hs id).2 ⟨e, List.mem_of_mem_drop he, e1⟩
    rw [h] at this
    cases this
  omega
theorem srt_mid {a b : List HN} {h : HN} (ha : Srt a) (hb : Srt b) (h1 : ∀ x ∈ a, x.id < h.id) (h2 : ∀ x ∈ b, h.id < x.id) : Srt (a ++ ([h] ++ b)) := by
  refine List.pairwise_append.2 ⟨ha, List.pairwise_cons.2 ⟨h2, hb⟩, fun x hx y hy => ?_⟩
  rcases List.mem_cons.1 hy with rfl | hy
  · exact h1 x hx
  · have := h1 x hx
    have := h2 y hy
    omega
theorem put_form {xs : List HN} (hs : Srt xs) (h : HN) : ∃ a b, put xs h = a ++ ([h] ++ b) ∧ Srt a ∧ Srt b ∧ (∀ x ∈ a, x.id < h.id) ∧ (∀ x ∈ b, h.id < x.id) ∧ ∀ x, x.id ≠ h.id → (x ∈ xs ↔ x ∈ a ∨ x ∈ b) := by
  have hx : xs = xs.take (pos h.id xs) ++ xs.drop (pos h.id xs) := (List.take_append_drop _ _).symm
  by_cases hb : hasB h.id xs = true
  · have hlt : pos h.id xs < xs.length := by
      unfold hasB at hb
      rw [Bool.and_eq_true, decide_eq_true_eq] at hb
      exact hb.1
    refine ⟨xs.take (pos h.id xs), xs.drop (pos h.id xs + 1), ?_, hs.sublist (List.take_sublist _ _), hs.sublist (List.drop_sublist _ _), take_lt _ _, drop_gt hs hb, fun x hne => ?_⟩
    · unfold put
      rw [if_pos hb, set_split _ _ _ hlt]
    · obtain ⟨h1, h2⟩ := split_at hb
      conv => lhs; rw [hx, h1]
      rw [List.mem_append, List.mem_cons]
      constructor
      · rintro (h3 | rfl | h3)
        · exact .inl h3
        · exact absurd h2 hne
        · exact .inr h3
      · rintro (h3 | h3)
        · exact .inl h3
        · exact .inr (.inr h3)
  · refine ⟨xs.take (pos h.id xs), xs.drop (pos h.id xs), ?_, hs.sublist (List.take_sublist _ _), hs.sublist (List.drop_sublist _ _), take_lt _ _, drop_gt' hs (by simpa using hb), fun x hne => ?_⟩
    · unfold put
      rw [if_neg hb]
    · conv => lhs; rw [hx]
      rw [List.mem_append]
theorem put_srt {xs : List HN} (hs : Srt xs) (h : HN) : Srt (put xs h) := by
  obtain ⟨a, b, e, ha, hb, h1, h2, _⟩ := put_form hs h
  rw [e]
  exact srt_mid ha hb h1 h2
theorem put_mem {xs : List HN} (hs : Srt xs) (h : HN) (x : HN) : x ∈ put xs h ↔ x = h ∨ (x ∈ xs ∧ x.id ≠ h.id) := by
  obtain ⟨a, b, e, ha, hb, h1, h2, h3⟩ := put_form hs h
  rw [e, List.mem_append, List.cons_append, List.nil_append, List.mem_cons]
  constructor
  · rintro (h4 | rfl | h4)
    · have := h1 x h4
      exact .inr ⟨(h3 x (by omega)).2 (.inl h4), by omega⟩
    · exact .inl rfl
    · have := h2 x h4
      exact .inr ⟨(h3 x (by omega)).2 (.inr h4), by omega⟩
  · rintro (rfl | ⟨h4, h5⟩)
    · exact .inr (.inl rfl)
    · rcases (h3 x h5).1 h4 with h6 | h6
      · exact .inl h6
      · exact .inr (.inr h6)
theorem drp_srt {xs : List HN} (hs : Srt xs) (id : Int) : Srt (drp xs id) := by
  unfold drp
  split
  · rename_i hb
    refine List.pairwise_append.2 ⟨hs.sublist (List.take_sublist _ _), hs.sublist (List.drop_sublist _ _), fun x hx y hy => ?_⟩
    have := take_lt _ _ x hx
    have := drop_gt hs hb y hy
    omega
  · exact hs
theorem drp_mem {xs : List HN} (hs : Srt xs) (id : Int) (x : HN) : x ∈ drp xs id ↔ x ∈ xs ∧ x.id ≠ id := by
  unfold drp
  split
  · rename_i hb
    obtain ⟨h1, h2⟩ := split_at hb
    have hx : xs = xs.take (pos id xs) ++ xs.drop (pos id xs) := (List.take_append_drop _ _).symm
    conv => rhs; rw [hx, h1]
    rw [List.mem_append, List.mem_append, List.mem_cons]
    constructor
    · rintro (h3 | h3)
      · have := take_lt _ _ x h3
        exact ⟨.inl h3, by omega⟩
      · have := drop_gt hs hb x h3
        exact ⟨.inr (.inr h3), by omega⟩
    · rintro ⟨h3 | rfl | h3, h4⟩
      · exact .inl h3
      · exact absurd h2 h4
      · exact .inr h3
  · rename_i hb
    refine ⟨fun h => ⟨h, fun e => hb ((hasB_iff hs id).2 ⟨x, h, e⟩)⟩, fun h => h.1⟩
/-- Two rising rows of the same holds are one. -/
theorem srt_ext : ∀ {xs ys : List HN}, Srt xs → Srt ys → (∀ x, x ∈ xs ↔ x ∈ ys) → xs = ys
  | [], [], _, _, _ => rfl
  | [], y :: ys, _, _, h => by have := (h y).2 List.mem_cons_self; cases this
  | x :: xs, [], _, _, h => by have := (h x).1 List.mem_cons_self; cases this
  | x :: xs, y :: ys, hx, hy, h => by
    have h1 := List.pairwise_cons.1 hx
    have h2 := List.pairwise_cons.1 hy
    have e : x = y := by
      rcases List.mem_cons.1 ((h x).1 List.mem_cons_self) with e | e
      · exact e
      · rcases List.mem_cons.1 ((h y).2 List.mem_cons_self) with e' | e'
        · exact e'.symm
        · have := h2.1 x e
          have := h1.1 y e'
          omega
    subst e
    rw [srt_ext h1.2 h2.2 (fun z => ?_)]
    constructor
    · intro hz
      have h3 := h1.1 z hz
      rcases List.mem_cons.1 ((h z).1 (List.mem_cons_of_mem _ hz)) with e | e
      · subst e
        omega
      · exact e
    · intro hz
      have h3 := h2.1 z hz
      rcases List.mem_cons.1 ((h z).2 (List.mem_cons_of_mem _ hz)) with e | e
      · subst e
        omega
      · exact e
theorem hasB_put {xs : List HN} (hs : Srt xs) (h : HN) (j : Int) : hasB j (put xs h) = (decide (j = h.id) || hasB j xs) := by
  rw [Bool.eq_iff_iff, hasB_iff (put_srt hs h), Bool.or_eq_true, hasB_iff hs, decide_eq_true_eq]
  constructor
  · rintro ⟨x, hx, e⟩
    rcases (put_mem hs h x).1 hx with rfl | ⟨hx, _⟩
    · exact .inl e.symm
    · exact .inr ⟨x, hx, e⟩
  · rintro (e | ⟨x, hx, e⟩)
    · exact ⟨h, (put_mem hs h h).2 (.inl rfl), e.symm⟩
    · by_cases h1 : x.id = h.id
      · exact ⟨h, (put_mem hs h h).2 (.inl rfl), by omega⟩
      · exact ⟨x, (put_mem hs h x).2 (.inr ⟨hx, h1⟩), e⟩
theorem hasB_drp {xs : List HN} (hs : Srt xs) (id : Int) (j : Int) : hasB j (drp xs id) = (decide (j ≠ id) && hasB j xs) := by
  rw [Bool.eq_iff_iff, hasB_iff (drp_srt hs id), Bool.and_eq_true, hasB_iff hs, decide_eq_true_eq]
  constructor
  · rintro ⟨x, hx, e⟩
    obtain ⟨h1, h2⟩ := (drp_mem hs id x).1 hx
    exact ⟨by omega, x, h1, e⟩
  · rintro ⟨h1, x, hx, e⟩
    exact ⟨x, (drp_mem hs id x).2 ⟨hx, by omega⟩, e⟩
/-- What was put last is found, as it was put. -/
theorem put_find {xs : List HN} (hs : Srt xs) (h : HN) : hasB h.id (put xs h) = true ∧ (put xs h).getD (pos h.id (put xs h)) zH = h := by
  have h1 : hasB h.id (put xs h) = true := by rw [hasB_put hs]; simp
  refine ⟨h1, ?_⟩
  obtain ⟨h2, h3⟩ := split_at h1
  have h4 : (put xs h).getD (pos h.id (put xs h)) zH ∈ put xs h := by
    have : (put xs h).getD (pos h.id (put xs h)) zH ∈ (put xs h).drop (pos h.id (put xs h)) := by rw [h2]; exact List.mem_cons_self
    exact List.mem_of_mem_drop this
  rcases (put_mem hs h _).1 h4 with e | ⟨_, e⟩
  · exact e
  · exact absurd h3 e
theorem drp_drp {xs : List HN} (hs : Srt xs) (id : Int) : drp (drp xs id) id = drp xs id :=
  srt_ext (drp_srt (drp_srt hs id) id) (drp_srt hs id) (fun x => by
    rw [drp_mem (drp_srt hs id), drp_mem hs]
    exact ⟨fun h => h.1, fun h => ⟨h, h.2⟩⟩)
theorem drp_put {xs : List HN} (hs : Srt xs) (h : HN) : drp (put xs h) h.id = drp xs h.id :=
  srt_ext (drp_srt (put_srt hs h) h.id) (drp_srt hs h.id) (fun x => by
    rw [drp_mem (put_srt hs h), drp_mem hs, put_mem hs]
    constructor
    · rintro ⟨rfl | h1, h2⟩
      · exact absurd rfl h2
      · exact h1
    · rintro ⟨h1, h2⟩
      exact ⟨.inr ⟨h1, h2⟩, h2⟩)
theorem put_len {xs : List HN} (h : HN) : (put xs h).length ≤ xs.length + 1 := by
  unfold put
  split
  · simp
  · have := pos_le h.id xs
    simp
    omega
theorem drp_len {xs : List HN} (id : Int) : (drp xs id).length ≤ xs.length := by
  unfold drp
  split
  · simp
    omega
  · exact Nat.le_refl _
end Go.Proofs.Ytpjeklhidebmpaa.Lk
