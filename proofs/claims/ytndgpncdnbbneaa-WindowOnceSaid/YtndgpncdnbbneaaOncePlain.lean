/- WindowOnce: what holds of the window, of what was noted and of what was stale. -/
import Derived.Test.YtndgpncdnbbneaaWinPlain
set_option linter.unusedVariables false
set_option linter.unusedSimpArgs false
namespace Go.Proofs.Ytndgpncdnbbneaa.Lk
open Go.RowKit Go.Proofs.Ytndgpncdnbbneaa.Xa Go.Proofs.YtndgpncdnbbneaaW.PrintWords Go.Proofs.YtndgpncdnbbneaaW.PrintLast Go.Proofs.Ytndgpncdnbbneaa.Own
def Srt (xs : List SE) : Prop := xs.Pairwise (fun a b => a.f0 < b.f0)
theorem askIn_some {id : Int} {a : SA} : ∀ {xs : List SE}, askIn id xs = some a → ∃ e ∈ xs, e.f0 = id ∧ e.f1 = a
  | [], h => by simp [askIn] at h
  | x :: xs, h => by
    simp only [askIn] at h
    split at h
    · rename_i hx
      injection h with h
      exact ⟨x, List.mem_cons_self, hx, h⟩
    · obtain ⟨e, he, h1⟩ := askIn_some h
      exact ⟨e, List.mem_cons_of_mem _ he, h1⟩
theorem askIn_no {id : Int} : ∀ {xs : List SE}, askIn id xs = none → ∀ e ∈ xs, e.f0 ≠ id
  | [], _, e, he => by cases he
  | x :: xs, h, e, he => by
    simp only [askIn] at h
    split at h
    · cases h
    · rename_i hx
      rcases List.mem_cons.1 he with rfl | he
      · exact hx
      · exact askIn_no h e he
theorem noteAt_take (id : Int) : ∀ (xs : List SE), ∀ e ∈ xs.take (noteAt id xs), e.f0 < id
  | [], e, he => by simp at he
  | x :: xs, e, he => by
    unfold noteAt at he
    split at he
    · rename_i hx
      rw [List.take_succ_cons] at he
      rcases List.mem_cons.1 he with rfl | he
      · exact hx
      · exact noteAt_take id xs e he
    · simp at he
theorem noteAt_drop (id : Int) : ∀ (xs : List SE), Srt xs → ∀ e ∈ xs.drop (noteAt id xs), ¬ e.f0 < id
  | [], _, e, he => by simp at he
  | x :: xs, h, e, he => by
    unfold noteAt at he
    have h' := List.pairwise_cons.1 h
    split at he
    · rw [List.drop_succ_cons] at he
      exact noteAt_drop id xs h'.2 e he
    · rename_i hx
      rw [List.drop_zero] at he
      rcases List.mem_cons.1 he with rfl | he
      · exact hx
      · have := h'.1 e he
        omega
/-- The window with one more, before the least goes. -/
def full (xs : List SE) (id : Int) (a : SA) : List SE := xs.take (noteAt id xs) ++ ([(⟨id, a⟩ : SE)] ++ xs.drop (noteAt id xs))
theorem full_len (xs : List SE) (id : Int) (a : SA) : (full xs id a).length = xs.length + 1 := by
  have := noteAt_le id xs
  simp [full]
  omega
theorem full_mem {xs : List SE} {id : Int} {a : SA} {e : SE} : e ∈ full xs id a ↔ e = ⟨id, a⟩ ∨ e ∈ xs := by
  have h := List.take_append_drop (noteAt id xs) xs
  have h2 : e ∈ xs ↔ e ∈ xs.take (noteAt id xs) ∨ e ∈ xs.drop (noteAt id xs) := by rw [← List.mem_append, h]
  rw [h2]
  simp only [full, List.mem_append, List.mem_singleton]
  constructor
  · rintro (h | h | h)
    · exact .inr (.inl h)
    · exact .inl h
    · exact .inr (.inr h)
  · rintro (h | h | h)
    · exact .inr (.inl h)
    · exact .inl h
    · exact .inr (.inr h)
theorem full_srt {xs : List SE} {id : Int} (a : SA) (h : Srt xs) (hn : ∀ e ∈ xs, e.f0 ≠ id) : Srt (full xs id a) := by
  have h1 := noteAt_take id xs
  have h2 := noteAt_drop id xs h
  have h3 : Srt (xs.take (noteAt id xs) ++ xs.drop (noteAt id xs)) := by rw [List.take_append_drop]; exact h
  have h4 := List.pairwise_append.1 h3
  refine List.pairwise_append.2 ⟨h4.1, List.pairwise_append.2 ⟨List.pairwise_singleton _ _, h4.2.1, ?_⟩, ?_⟩
  · intro x hx y hy
    simp only [List.mem_singleton] at hx
    subst hx
    have := h2 y hy
    have := hn y (List.mem_of_mem_drop hy)
    show id < y.f0
    omega
  · intro x hx y hy
    rcases List.mem_append.1 hy with hy | hy
    · simp only [List.mem_singleton] at hy
      subst hy
      exact h1 x hx
    · exact h4.2.2 x hx y hy
theorem full_head {x : SE} {xs : List SE} {id : Int} {a : SA} (h : x.f0 < id) : full (x :: xs) id a = x :: full xs id a := by
  unfold full
  simp [noteAt, h]
def upd (f : Int → Int) (i v : Int) : Int → Int := fun j => if j = i then v else f j
def updB (f : Int → Bool) (i : Int) : Int → Bool := fun j => if j = i then true else f j
/-- The least id. -/
def least (xs : List SE) : Int := (xs.getD 0 zE).f0
structure OInv (nt : Int → Int) (st : Int → Bool) (xs : List SE) : Prop where
  len : xs.length ≤ 12
  srt : Srt xs
  ent : ∀ e ∈ xs, 1 ≤ e.f0 ∧ e.f0 ≤ 99 ∧ nt e.f0 = e.f1.f3 ∧ 0 < e.f1.f3
  not : ∀ id, 1 ≤ id → id ≤ 99 → 0 < nt id → (∃ e ∈ xs, e.f0 = id) ∨ (xs.length = 12 ∧ id < least xs)
  old : ∀ id, 1 ≤ id → id ≤ 99 → st id = true → xs.length = 12 ∧ id < least xs
theorem OInv.start : OInv (fun _ => 0) (fun _ => false) [] := ⟨by simp, List.Pairwise.nil, (fun e he => by cases he), (fun id _ _ h => absurd h (by simp)), (fun id _ _ h => by cases h)⟩
theorem ask_three (xs : List SE) (id : Int) (hl : xs.length ≤ 12) : (∃ e ∈ xs, e.f0 = id ∧ askSpec xs id = (1, e.f1)) ∨ (askSpec xs id = (2, zA) ∧ xs.length = 12 ∧ id < least xs) ∨ (askSpec xs id = (0, zA) ∧ (∀ e ∈ xs, e.f0 ≠ id) ∧ ¬ (xs.length = 12 ∧ id < least xs)) := by
  unfold askSpec
  cases h : askIn id xs with
  | some a =>
    obtain ⟨e, he, h1, h2⟩ := askIn_some h
    exact .inl ⟨e, he, h1, by rw [h2]⟩
  | none =>
    by_cases h2 : 12 ≤ xs.length ∧ id < (xs.getD 0 zE).f0
    · exact .inr (.inl ⟨if_pos h2, by omega, h2.2⟩)
    · exact .inr (.inr ⟨if_neg h2, askIn_no h, fun h3 => h2 ⟨by omega, h3.2⟩⟩)
/-- A known one. -/
theorem OInv.known {nt : Int → Int} {st : Int → Bool} {xs : List SE} (h : OInv nt st xs) {e : SE} (he : e ∈ xs) : nt e.f0 = e.f1.f3 ∧ nt e.f0 ≠ 0 := by
  obtain ⟨_, _, h1, h2⟩ := h.ent e he
  omega
/-- A new one was neither noted nor stale. -/
theorem OInv.fresh {nt : Int → Int} {st : Int → Bool} {xs : List SE} (h : OInv nt st xs) {id : Int} (h1 : 1 ≤ id) (h2 : id ≤ 99) (hn : ∀ e ∈ xs, e.f0 ≠ id) (ho : ¬ (xs.length = 12 ∧ id < least xs)) : ¬ 0 < nt id ∧ st id = false := by
  constructor
  · intro h3
    rcases h.not id h1 h2 h3 with ⟨e, he, h4⟩ | h4
    · exact hn e he h4
    · exact ho h4
  · cases h3 : st id with
    | false => rfl
    | true => exact absurd (h.old id h1 h2 h3) ho
theorem OInv.stale {nt : Int → Int} {st : Int → Bool} {xs : List SE} (h : OInv nt st xs) {id : Int} (ho : xs.length = 12 ∧ id < least xs) : OInv nt (updB st id) xs :=
  ⟨h.len, h.srt, h.ent, h.not, fun j h1 h2 h3 => by
    unfold updB at h3
    split at h3
    · rename_i hj
      rw [hj]
      exact ho
    · exact h.old j h1 h2 h3⟩
theorem OInv.note {nt : Int → Int} {st : Int → Bool} {xs : List SE} (h : OInv nt st xs) {id : Int} (h1 : 1 ≤ id) (h2 : id ≤ 99) (hn : ∀ e ∈ xs, e.f0 ≠ id) (ho : ¬ (xs.length = 12 ∧ id < least xs)) (a : SA) (ha : 0 < a.f3) : OInv (upd nt id a.f3) st (noteSpec xs id a) ∧ (noteSpec xs id a).length ≤ 12 := by
  have hs := full_srt a h.srt hn
  have hl := full_len xs id a
  have he : noteSpec xs id a = (full xs id a).drop (xs.length + 1 - 12) := rfl
  have hent : ∀ e ∈ full xs id a, 1 ≤ e.f0 ∧ e.f0 ≤ 99 ∧ upd nt id a.f3 e.f0 = e.f1.f3 ∧ 0 < e.f1.f3 := by
    intro e hx
    rcases full_mem.1 hx with rfl | hx
    · exact ⟨h1, h2, if_pos rfl, ha⟩
    · obtain ⟨a1, a2, a3, a4⟩ := h.ent e hx
      exact ⟨a1, a2, by rw [← a3]; exact if_neg (hn e hx), a4⟩
  by_cases hc : xs.length = 12
  · match xs, hc, hn, ho, hs, hl, he, hent, h with
    | x :: xs, hc, hn, ho, hs, hl, he, hent, h =>
    have hx : x.f0 < id := by
      have := hn x List.mem_cons_self
      have h3 : ¬ id < x.f0 := fun h4 => ho ⟨hc, h4⟩
      omega
    have hf := full_head (xs := xs) (a := a) hx
    rw [hc] at he
    rw [hf] at he hs hent hl
    have he2 : noteSpec (x :: xs) id a = full xs id a := he
    rw [he2]
    have hs2 := List.pairwise_cons.1 hs
    have hl2 : (full xs id a).length = 12 := by simp at hl hc; omega
    have hlt : x.f0 < least (full xs id a) := by
      match hfl : full xs id a, hl2 with
      | y :: ys, _ => exact hs2.1 y (by rw [hfl]; exact List.mem_cons_self)
    refine ⟨⟨by omega, hs2.2, fun e hx => hent e (List.mem_cons_of_mem _ hx), ?_, ?_⟩, by omega⟩
    · intro j j1 j2 j3
      by_cases hj : j = id
      · subst hj
        exact .inl ⟨⟨j, a⟩, full_mem.2 (.inl rfl), rfl⟩
      · rw [show upd nt id a.f3 j = nt j from if_neg hj] at j3
        rcases h.not j j1 j2 j3 with ⟨e, hx, hej⟩ | ⟨_, hlo⟩
        · rcases List.mem_cons.1 hx with rfl | hx
          · exact .inr ⟨hl2, by rw [← hej]; exact hlt⟩
          · exact .inl ⟨e, full_mem.2 (.inr hx), hej⟩
        · exact .inr ⟨hl2, Int.lt_trans hlo hlt⟩
    · intro j j1 j2 j3
      exact ⟨hl2, Int.lt_trans (h.old j j1 j2 j3).2 hlt⟩
  · have hl12 := h.len
    rw [show xs.length + 1 - 12 = 0 by omega, List.drop_zero] at he
    rw [he]
    refine ⟨⟨by omega, hs, hent, ?_, ?_⟩, by omega⟩
    · intro j j1 j2 j3
      by_cases hj : j = id
      · subst hj
        exact .inl ⟨⟨j, a⟩, full_mem.2 (.inl rfl), rfl⟩
      · rw [show upd nt id a.f3 j = nt j from if_neg hj] at j3
        rcases h.not j j1 j2 j3 with ⟨e, hx, hej⟩ | ⟨h5, _⟩
        · exact .inl ⟨e, full_mem.2 (.inr hx), hej⟩
        · exact absurd h5 hc
    · intro j j1 j2 j3
      exact absurd (h.old j j1 j2 j3).1 hc
/-! ### the count from above -/
def cnt (xs : List SE) (j : Int) : Nat := (xs.filter (fun e => decide (j < e.f0))).length
theorem cnt_le (xs : List SE) (j : Int) : cnt xs j ≤ xs.length := List.length_filter_le _ _
theorem cnt_step : ∀ {xs : List SE} (j : Int), Srt xs → cnt xs (j - 1) = cnt xs j + (askIn j xs).elim 0 (fun _ => 1)
  | [], j, _ => rfl
  | x :: xs, j, h => by
    have h' := List.pairwise_cons.1 h
    have ih := cnt_step (xs := xs) j h'.2
    unfold cnt at ih ⊢
    simp only [List.filter_cons, askIn]
    by_cases h1 : x.f0 = j
    · have h2 : askIn j xs = none := askIn_none (fun e he => by have := h'.1 e he; omega)
      rw [h2] at ih
      rw [if_pos (by simp; omega), if_neg (by simp; omega), if_pos h1]
      simp only [Option.elim, List.length_cons] at ih ⊢
      omega
    · rw [if_neg h1]
      by_cases h2 : j < x.f0
      · rw [if_pos (by simp; omega), if_pos (by simpa using h2)]
        simp only [List.length_cons]
        omega
      · rw [if_neg (by simp; omega), if_neg (by simpa using h2)]
        exact ih
theorem cnt_top {nt : Int → Int} {st : Int → Bool} {xs : List SE} (h : OInv nt st xs) : cnt xs 99 = 0 := by
  unfold cnt
  rw [List.length_eq_zero_iff, List.filter_eq_nil_iff]
  intro e he
  have := (h.ent e he).2.1
  simp
  omega
theorem cnt_all {nt : Int → Int} {st : Int → Bool} {xs : List SE} (h : OInv nt st xs) : cnt xs 0 = xs.length := by
  unfold cnt
  rw [List.filter_eq_self.2]
  intro e he
  have := (h.ent e he).1
  simp
  omega
theorem cnt_full {xs : List SE} {j : Int} (h : cnt xs j = xs.length) : ∀ e ∈ xs, j < e.f0 := by
  intro e he
  have := List.length_filter_eq_length_iff.1 h e he
  simpa using this
/-- What the law's inner loop meets at j. -/
theorem OInv.at_j {nt : Int → Int} {st : Int → Bool} {xs : List SE} (h : OInv nt st xs) (j : Int) (h1 : 1 ≤ j) (h2 : j ≤ 99) :
    (0 < nt j ∧ cnt xs j < 12 → (∃ a, askSpec xs j = (1, a)) ∧ cnt xs (j - 1) = cnt xs j + 1) ∧ (¬ (0 < nt j ∧ cnt xs j < 12) → cnt xs (j - 1) = cnt xs j) := by
  have hc := cnt_step j h.srt
  constructor
  · rintro ⟨h3, h4⟩
    rcases h.not j h1 h2 h3 with ⟨e, he, hej⟩ | ⟨h5, h6⟩
    · cases hq : askIn j xs with
      | none => exact absurd hej (askIn_no hq e he)
      | some a =>
        rw [hq] at hc
        exact ⟨⟨a, by unfold askSpec; rw [hq]⟩, hc⟩
    · exfalso
      have h7 : cnt xs j = xs.length := by
        unfold cnt
        rw [List.filter_eq_self.2]
        intro e he
        have h8 : least xs ≤ e.f0 := by
          match xs, he, h.srt with
          | x :: xs, he, hs =>
            rcases List.mem_cons.1 he with rfl | he
            · exact Int.le_refl _
            · exact Int.le_of_lt ((List.pairwise_cons.1 hs).1 e he)
        simp
        omega
      omega
  · intro h3
    cases hq : askIn j xs with
    | none =>
      rw [hq] at hc
      simpa using hc
    | some a =>
      exfalso
      obtain ⟨e, he, hej, _⟩ := askIn_some hq
      obtain ⟨_, _, h4, h5⟩ := h.ent e he
      rw [hej] at h4
      have h6 := cnt_le xs j
      have h7 := h.len
      have h8 : cnt xs j = xs.length := by
        by_cases h9 : cnt xs j < 12
        · exact absurd ⟨by omega, h9⟩ h3
        · omega
      have := cnt_full h8 e he
      omega
end Go.Proofs.Ytndgpncdnbbneaa.Lk
