/- What Take does, lot by lot: an order of places, how much of each place, in two goes or in one; Good's lots are fit for it. -/
import Derived.Test.YtjoimapgmocoeaaLotPlain
import Derived.Test.YtjoimapgmocoeaaLotTake
import Derived.Test.YtjoimapgmocoeaaXa14
import Derived.Test.YtjoimapgmocoeaaXa3
set_option linter.unusedVariables false
set_option linter.unusedSimpArgs false
namespace Go.Proofs.Ytjoimapgmocoeaa.Lk
open Go.RowKit Go.Proofs.YtjoimapgmocoeaaW.PrintWords Go.Proofs.YtjoimapgmocoeaaW.PrintLast Go.Proofs.YtjoimapgmocoeaaW.PrintMore Go.Proofs.Ytjoimapgmocoeaa.Xa
theorem takeGo_zero (l : List SL) (ps : List SP) : ∀ is : List Int, takeGo l ps 0 is = (l, ps, 0)
  | [] => rfl
  | i :: is => by
    unfold takeGo
    rw [if_pos (by omega)]
theorem take_f (l : List SL) (n now : Int) (hl : l.length < 15) : lots_Take.f l n now = some (takeW l n now) := by
  unfold lots_Take.f
  rw [if_pos hl]
theorem use_f (l : List SL) (ps : List SP) (n now : Int) (hl : l.length < 15) (hp : ps.length < 1000000) : lots_Use.f l ps n now = some (useW l n now ps) := by
  unfold lots_Use.f
  rw [if_pos hl, if_pos hp]
/-- The numbers of a lot are small, and what has gone does not exceed what was granted. -/
structure LotOk (x : SL) : Prop where
  b4 : x.f4 ≤ 4000
  b5 : 0 ≤ x.f5
  b6 : 0 ≤ x.f6
  b7 : 0 ≤ x.f7
  b8 : 0 ≤ x.f8
  sum : x.f5 + x.f6 + x.f7 + x.f8 ≤ x.f4
/-- And its bounds are. -/
structure LotIn (x : SL) : Prop where
  ok : LotOk x
  b0 : 0 < x.f0
  c0 : x.f0 ≤ 1000
  b1 : 0 ≤ x.f1
  c1 : x.f1 ≤ 2
  b2 : 0 ≤ x.f2
  b3 : x.f2 < x.f3
  c3 : x.f3 ≤ 200000
theorem LotOk.rest {x : SL} (h : LotOk x) : restW x = x.f4 - x.f5 - x.f6 - x.f7 - x.f8 := by
  obtain ⟨h1, h2, h3, h4, h5, h6⟩ := h
  unfold restW
  rw [w64 (x := x.f4 - x.f5) (by omega) (by omega), w64 (x := x.f4 - x.f5 - x.f6) (by omega) (by omega), w64 (x := x.f4 - x.f5 - x.f6 - x.f7) (by omega) (by omega), w64 (by omega) (by omega)]
theorem goodOne_in (now id : Int) (x : SL) (h0 : 0 ≤ now) (h1 : now < 100000) (h2 : 0 ≤ id) (h3 : id ≤ 900) : LotIn (goodOne now id x) := by
  have b0 := Int.emod_nonneg x.f0 (show (3 : Int) ≠ 0 by decide)
  have c0 := Int.emod_lt_of_pos x.f0 (show (0 : Int) < 3 by decide)
  have b1 := Int.emod_nonneg x.f1 (show (3 : Int) ≠ 0 by decide)
  have c1 := Int.emod_lt_of_pos x.f1 (show (0 : Int) < 3 by decide)
  have b2 := Int.emod_nonneg x.f2 (show (8 : Int) ≠ 0 by decide)
  have c2 := Int.emod_lt_of_pos x.f2 (show (0 : Int) < 8 by decide)
  have b3 := Int.emod_nonneg x.f3 (show (9 : Int) ≠ 0 by decide)
  have c3 := Int.emod_lt_of_pos x.f3 (show (0 : Int) < 9 by decide)
  have b5 := Int.emod_nonneg x.f5 (show (1000 : Int) ≠ 0 by decide)
  have c5 := Int.emod_lt_of_pos x.f5 (show (0 : Int) < 1000 by decide)
  have b7 := Int.emod_nonneg x.f7 (show (9 : Int) ≠ 0 by decide)
  have c7 := Int.emod_lt_of_pos x.f7 (show (0 : Int) < 9 by decide)
  have b8 := Int.emod_nonneg x.f8 (show (9 : Int) ≠ 0 by decide)
  have c8 := Int.emod_lt_of_pos x.f8 (show (0 : Int) < 9 by decide)
  have b4 := Int.emod_nonneg x.f4 (show (1000 : Int) ≠ 0 by decide)
  have c4 := Int.emod_lt_of_pos x.f4 (show (0 : Int) < 1000 by decide)
  refine ⟨⟨?_, ?_, ?_, ?_, ?_, ?_⟩, ?_, ?_, ?_, ?_, ?_, ?_, ?_⟩ <;> simp only [goodOne] <;> omega
theorem goodOne_id (now id : Int) (x : SL) : (goodOne now id x).f0 = id + 1 + x.f0 % 3 := rfl
theorem goodGo_in (now : Int) (h0 : 0 ≤ now) (h1 : now < 100000) : ∀ (xs : List SL) (id : Int), 0 ≤ id → id + 3 * (xs.length : Int) ≤ 900 → ∀ y ∈ goodGo now id xs, LotIn y
  | [], _, _, _, y, hy => by simp [goodGo] at hy
  | x :: xs, id, h2, h3, y, hy => by
    have b0 := Int.emod_nonneg x.f0 (show (3 : Int) ≠ 0 by decide)
    have c0 := Int.emod_lt_of_pos x.f0 (show (0 : Int) < 3 by decide)
    simp only [List.length_cons] at h3
    simp only [goodGo, List.mem_cons] at hy
    rcases hy with rfl | hy
    · exact goodOne_in now id x h0 h1 h2 (by omega)
    · exact goodGo_in now h0 h1 xs _ (by omega) (by omega) y hy
theorem goodL_in (l : List SL) (now : Int) (h0 : 0 ≤ now) (h1 : now < 100000) : ∀ y ∈ goodL l now, LotIn y := by
  unfold goodL
  refine goodGo_in now h0 h1 _ 0 (by decide) ?_
  rw [List.length_take]
  omega
/-- lt orders the places that D holds of. -/
structure SOrd (lt : Int → Int → Bool) (D : Int → Prop) : Prop where
  total : ∀ a b, D a → D b → a ≠ b → lt a b = true ∨ lt b a = true
  trans : ∀ a b c, D a → D b → D c → lt a b = true → lt b c = true → lt a c = true
  asym : ∀ a b, D a → D b → lt a b = true → lt b a = true → False
theorem insAt_sorted {lt : Int → Int → Bool} {D : Int → Prop} (h : SOrd lt D) (x : Int) (acc : List Int) (hx : D x) (hD : ∀ a ∈ acc, D a) (hn : x ∉ acc) (hs : acc.Pairwise (fun a b => lt a b = true)) : ∀ j, j ≤ acc.length → (∀ y ∈ acc.drop j, lt x y = true) → (insAt lt x acc j).Pairwise (fun a b => lt a b = true)
  | 0, _, hy => by
    unfold insAt
    exact List.pairwise_cons.2 ⟨fun y h => hy y (by simpa using h), hs⟩
  | j + 1, hj, hy => by
    have hjl : j < acc.length := by omega
    have e : acc.getD j 0 = acc[j] := by simp [hjl]
    unfold insAt
    rw [e]
    by_cases hl : lt x acc[j] = true
    · rw [if_pos hl]
      refine insAt_sorted h x acc hx hD hn hs j (by omega) (fun y g => ?_)
      rw [List.drop_eq_getElem_cons hjl] at g
      rcases List.mem_cons.1 g with rfl | g
      · exact hl
      · exact hy y g
    · rw [if_neg hl]
      have hj' : acc[j] ∈ acc := List.getElem_mem hjl
      have hlt : lt acc[j] x = true := by
        rcases h.total x acc[j] hx (hD _ hj') (fun g => hn (by rw [g]; exact hj')) with g | g
        · exact absurd g hl
        · exact g
      have hs' := hs
      rw [← List.take_append_drop (j + 1) acc, List.pairwise_append] at hs'
      obtain ⟨s1, s2, s3⟩ := hs'
      have hle : ∀ y ∈ acc.take (j + 1), lt y x = true := fun y g => by
        rw [List.take_succ_eq_append_getElem hjl] at g s1
        rcases List.mem_append.1 g with g1 | g1
        · have := (List.pairwise_append.1 s1).2.2 y g1 acc[j] (by simp)
          exact h.trans y acc[j] x (hD _ (List.mem_of_mem_take g1)) (hD _ hj') hx this hlt
        · rw [List.mem_singleton.1 g1]
          exact hlt
      refine List.pairwise_append.2 ⟨s1, List.pairwise_cons.2 ⟨hy, s2⟩, fun y g z k => ?_⟩
      rcases List.mem_cons.1 k with rfl | k
      · exact hle y g
      · exact s3 y g z k
theorem sortFold_sorted {lt : Int → Int → Bool} {D : Int → Prop} (h : SOrd lt D) : ∀ (xs acc : List Int), (∀ a ∈ xs, D a) → (∀ a ∈ acc, D a) → xs.Nodup → (∀ a ∈ xs, a ∉ acc) → acc.Pairwise (fun a b => lt a b = true) → (xs.foldl (fun acc x => insAt lt x acc acc.length) acc).Pairwise (fun a b => lt a b = true)
  | [], acc, _, _, _, _, hs => hs
  | x :: xs, acc, hx, ha, hn, hd, hs => by
    have hp := insAt_perm lt x acc acc.length
    obtain ⟨n1, n2⟩ := List.nodup_cons.1 hn
    refine sortFold_sorted h xs _ (fun a g => hx a (List.mem_cons_of_mem _ g)) (fun a g => ?_) n2 (fun a g k => ?_) (insAt_sorted h x acc (hx x (List.mem_cons_self ..)) ha (hd x (List.mem_cons_self ..)) hs _ (Nat.le_refl _) (by simp))
    · rcases List.mem_cons.1 (hp.mem_iff.1 g) with rfl | g
      · exact hx _ (List.mem_cons_self ..)
      · exact ha a g
    · rcases List.mem_cons.1 (hp.mem_iff.1 k) with rfl | k
      · exact n1 g
      · exact hd a (List.mem_cons_of_mem _ g) k
theorem sortL_sorted {lt : Int → Int → Bool} {D : Int → Prop} (h : SOrd lt D) (xs : List Int) (hx : ∀ a ∈ xs, D a) (hn : xs.Nodup) : (sortL lt xs).Pairwise (fun a b => lt a b = true) :=
  sortFold_sorted h xs [] hx (by simp) hn (by simp) List.Pairwise.nil
theorem sorted_unique {lt : Int → Int → Bool} {D : Int → Prop} (h : SOrd lt D) : ∀ (a b : List Int), (∀ x ∈ a, D x) → a.Perm b → a.Pairwise (fun a b => lt a b = true) → b.Pairwise (fun a b => lt a b = true) → a = b
  | [], b, _, hp, _, _ => (List.nil_perm.1 hp).symm
  | x :: a, [], _, hp, _, _ => absurd hp.length_eq (by simp)
  | x :: a, y :: bs, hD, hp, ha, hb => by
    obtain ⟨a1, a2⟩ := List.pairwise_cons.1 ha
    obtain ⟨b1, b2⟩ := List.pairwise_cons.1 hb
    have hxy : x = y := by
      by_cases e : x = y
      · exact e
      · exfalso
        have m1 : x ∈ y :: bs := hp.mem_iff.1 (List.mem_cons_self ..)
        have m2 : y ∈ x :: a := hp.mem_iff.2 (List.mem_cons_self ..)
        have m3 : x ∈ bs := by
          rcases List.mem_cons.1 m1 with g | g
          · exact absurd g e
          · exact g
        have m4 : y ∈ a := by
          rcases List.mem_cons.1 m2 with g | g
          · exact absurd g.symm e
          · exact g
        exact h.asym x y (hD x (List.mem_cons_self ..)) (hD y m2) (a1 y m4) (b1 x m3)
    subst hxy
    rw [sorted_unique h a bs (fun z g => hD z (List.mem_cons_of_mem _ g)) (List.perm_cons _ |>.1 hp) a2 b2]
/-- The lots' ids tell them apart. -/
def Apart (l : List SL) : Prop := ∀ a b : Nat, a < l.length → b < l.length → (l.getD a zL).f0 = (l.getD b zL).f0 → a = b
theorem ltL_iff (l : List SL) (a b : Int) : ltL l a b = true ↔ (l.getD a.toNat zL).f3 < (l.getD b.toNat zL).f3 ∨ (l.getD a.toNat zL).f3 = (l.getD b.toNat zL).f3 ∧ (l.getD a.toNat zL).f0 < (l.getD b.toNat zL).f0 := by
  unfold ltL
  generalize l.getD a.toNat zL = x
  generalize l.getD b.toNat zL = y
  by_cases h1 : x.f3 < y.f3
  · rw [if_pos h1]
    exact ⟨fun _ => .inl h1, fun _ => rfl⟩
  · rw [if_neg h1]
    by_cases h2 : y.f3 < x.f3
    · rw [if_pos h2]
      exact ⟨fun h => (by cases h), fun h => (by omega)⟩
    · rw [if_neg h2]
      exact ⟨fun h => .inr ⟨by omega, of_decide_eq_true h⟩, fun h => decide_eq_true (by omega)⟩
theorem ltL_ord (l : List SL) (h : Apart l) : SOrd (ltL l) (fun a => 0 ≤ a ∧ a < (l.length : Int)) where
  total a b ha hb e := by
    have := h a.toNat b.toNat (by omega) (by omega)
    rw [ltL_iff, ltL_iff]
    generalize l.getD a.toNat zL = x at *
    generalize l.getD b.toNat zL = y at *
    omega
  trans a b c _ _ _ h1 h2 := by
    rw [ltL_iff] at *
    generalize l.getD a.toNat zL = x at *
    generalize l.getD b.toNat zL = y at *
    generalize l.getD c.toNat zL = z at *
    omega
  asym a b _ _ h1 h2 := by
    rw [ltL_iff] at *
    generalize l.getD a.toNat zL = x at *
    generalize l.getD b.toNat zL = y at *
    omega
theorem mem_candL (now a : Int) : ∀ (i : Nat) (l : List SL), a ∈ candL now i l ↔ ∃ j : Nat, j < l.length ∧ a = ((i + j : Nat) : Int) ∧ validB (l.getD j zL) now = true ∧ 0 < restW (l.getD j zL)
  | i, [] => by simp [candL]
  | i, x :: xs => by
    have ih := mem_candL now a (i + 1) xs
    unfold candL
    constructor
    · intro h
      split at h
      · rename_i hc
        rcases List.mem_cons.1 h with rfl | h
        · refine ⟨0, by simp, by simp, ?_⟩
          simpa using hc
        · obtain ⟨j, h1, h2, h3⟩ := ih.1 h
          exact ⟨j + 1, by simpa using h1, by rw [h2]; congr 1; omega, h3⟩
      · obtain ⟨j, h1, h2, h3⟩ := ih.1 h
        exact ⟨j + 1, by simpa using h1, by rw [h2]; congr 1; omega, h3⟩
    · rintro ⟨j, h1, h2, h3, h4⟩
      cases j with
      | zero =>
        simp only [List.getD_cons_zero] at h3 h4
        rw [if_pos (by simp [h3, h4])]
        exact List.mem_cons.2 (.inl (by simpa using h2))
      | succ j =>
        have hm := ih.2 ⟨j, by simpa using h1, by rw [h2]; congr 1; omega, by simpa using h3, by simpa using h4⟩
        split
        · exact List.mem_cons_of_mem _ hm
        · exact hm
theorem candL_nodup (now : Int) : ∀ (i : Nat) (l : List SL), (candL now i l).Nodup
  | _, [] => List.nodup_nil
  | i, x :: xs => by
    unfold candL
    split
    · refine List.nodup_cons.2 ⟨fun h => ?_, candL_nodup now (i + 1) xs⟩
      obtain ⟨j, _, h2, _⟩ := (mem_candL now _ _ _).1 h
      omega
    · exact candL_nodup now (i + 1) xs
theorem mem_orderL (l : List SL) (now a : Int) : a ∈ orderL l now ↔ ∃ j : Nat, j < l.length ∧ a = (j : Int) ∧ validB (l.getD j zL) now = true ∧ 0 < restW (l.getD j zL) := by
  unfold orderL
  rw [(sortL_perm _ _).mem_iff, mem_candL]
  simp
theorem orderL_nodup (l : List SL) (now : Int) : (orderL l now).Nodup := ((sortL_perm _ _).nodup_iff).2 (candL_nodup now 0 l)
theorem orderL_sorted (l : List SL) (now : Int) (h : Apart l) : (orderL l now).Pairwise (fun a b => ltL l a b = true) := by
  refine sortL_sorted (ltL_ord l h) _ (fun a g => ?_) (candL_nodup now 0 l)
  obtain ⟨j, h1, h2, _⟩ := (mem_candL now a 0 l).1 g
  omega
/-- How much is taken of place j. -/
def am (r : Nat → Int) : Int → List Nat → Nat → Int
  | _, [], _ => 0
  | n, i :: is, j => if j = i then min n (r i) else am r (n - min n (r i)) is j
/-- What lacks. -/
def lk (r : Nat → Int) : Int → List Nat → Int
  | n, [] => n
  | n, i :: is => lk r (n - min n (r i)) is
/-- The parts. -/
def pts (l : List SL) (r : Nat → Int) : Int → List Nat → List SP
  | _, [] => []
  | n, i :: is => if min n (r i) ≤ 0 then [] else ⟨(l.getD i zL).f0, min n (r i)⟩ :: pts l r (n - min n (r i)) is
theorem am_head (r : Nat → Int) (n : Int) (i : Nat) (is : List Nat) : am r n (i :: is) i = min n (r i) := by
  unfold am
  exact if_pos rfl
theorem am_tail (r : Nat → Int) (n : Int) (i j : Nat) (is : List Nat) (h : j ≠ i) : am r n (i :: is) j = am r (n - min n (r i)) is j := by
  rw [am]
  exact if_neg h
theorem am_not (r : Nat → Int) (j : Nat) : ∀ (n : Int) (is : List Nat), j ∉ is → am r n is j = 0
  | _, [], _ => rfl
  | n, i :: is, h => by
    simp only [am]
    rw [if_neg (fun e => h (by rw [e]; exact List.mem_cons_self ..)), am_not r j _ is (fun g => h (List.mem_cons_of_mem _ g))]
theorem am_zero (r : Nat → Int) (j : Nat) : ∀ (is : List Nat), (∀ i ∈ is, 0 ≤ r i) → am r 0 is j = 0
  | [], _ => rfl
  | i :: is, h => by
    have h0 := h i (List.mem_cons_self ..)
    simp only [am]
    rw [show min 0 (r i) = 0 by omega]
    split
    · rfl
    · exact am_zero r j is (fun k g => h k (List.mem_cons_of_mem _ g))
theorem lk_zero (r : Nat → Int) : ∀ (is : List Nat), (∀ i ∈ is, 0 ≤ r i) → lk r 0 is = 0
  | [], _ => rfl
  | i :: is, h => by
    have h0 := h i (List.mem_cons_self ..)
    simp only [lk]
    rw [show (0 : Int) - min 0 (r i) = 0 by omega]
    exact lk_zero r is (fun k g => h k (List.mem_cons_of_mem _ g))
theorem am_congr {r q : Nat → Int} (j : Nat) : ∀ (n : Int) (is : List Nat), (∀ i ∈ is, r i = q i) → am r n is j = am q n is j
  | _, [], _ => rfl
  | n, i :: is, h => by
    simp only [am]
    rw [h i (List.mem_cons_self ..), am_congr j _ is (fun k g => h k (List.mem_cons_of_mem _ g))]
theorem lk_congr {r q : Nat → Int} : ∀ (n : Int) (is : List Nat), (∀ i ∈ is, r i = q i) → lk r n is = lk q n is
  | _, [], _ => rfl
  | n, i :: is, h => by
    simp only [lk]
    rw [h i (List.mem_cons_self ..), lk_congr _ is (fun k g => h k (List.mem_cons_of_mem _ g))]
theorem pts_congr {l m : List SL} {r q : Nat → Int} : ∀ (n : Int) (is : List Nat), (∀ i ∈ is, r i = q i) → (∀ i ∈ is, (l.getD i zL).f0 = (m.getD i zL).f0) → pts l r n is = pts m q n is
  | _, [], _, _ => rfl
  | n, i :: is, h, g => by
    simp only [pts]
    rw [h i (List.mem_cons_self ..), g i (List.mem_cons_self ..), pts_congr _ is (fun k e => h k (List.mem_cons_of_mem _ e)) (fun k e => g k (List.mem_cons_of_mem _ e))]
theorem am_bnd (r : Nat → Int) (j : Nat) : ∀ (n : Int) (is : List Nat), 0 ≤ n → (∀ i ∈ is, 0 ≤ r i) → 0 ≤ am r n is j ∧ am r n is j ≤ n ∧ (am r n is j ≤ r j ∨ am r n is j = 0)
  | n, [], h, _ => ⟨Int.le_refl _, h, .inr rfl⟩
  | n, i :: is, h, hr => by
    have h0 := hr i (List.mem_cons_self ..)
    by_cases e : j = i
    · subst e
      rw [am_head]
      omega
    · rw [am_tail _ _ _ _ _ e]
      have := am_bnd r j (n - min n (r i)) is (by omega) (fun k g => hr k (List.mem_cons_of_mem _ g))
      omega
theorem am_le (r : Nat → Int) (j : Nat) (n : Int) (is : List Nat) (h : 0 ≤ n) (hr : ∀ i ∈ is, 0 ≤ r i) (hj : 0 ≤ r j) : am r n is j ≤ r j := by
  have := am_bnd r j n is h hr
  omega
theorem lk_bnd (r : Nat → Int) : ∀ (n : Int) (is : List Nat), 0 ≤ n → (∀ i ∈ is, 0 ≤ r i) → 0 ≤ lk r n is ∧ lk r n is ≤ n
  | n, [], h, _ => by
    simp only [lk]
    omega
  | n, i :: is, h, hr => by
    have h0 := hr i (List.mem_cons_self ..)
    simp only [lk]
    have := lk_bnd r (n - min n (r i)) is (by omega) (fun k g => hr k (List.mem_cons_of_mem _ g))
    omega
theorem am_two (j : Nat) : ∀ (is : List Nat) (r : Nat → Int) (n m : Int), is.Nodup → 0 ≤ n → 0 ≤ m → (∀ i ∈ is, 0 ≤ r i) → am r n is j + am (fun k => r k - am r n is k) m is j = am r (n + m) is j ∧ lk r (n + m) is = lk r n is + lk (fun k => r k - am r n is k) m is
  | [], r, n, m, _, _, _, _ => by simp [am, lk]
  | i :: is, r, n, m, hn, h0, h1, hr => by
    obtain ⟨n1, n2⟩ := List.nodup_cons.1 hn
    have hi := hr i (List.mem_cons_self ..)
    have ih := am_two j is r (n - min n (r i)) (m - min m (r i - min n (r i))) n2 (by omega) (by omega) (fun k g => hr k (List.mem_cons_of_mem _ g))
    have hc : ∀ k ∈ is, r k - am r n (i :: is) k = r k - am r (n - min n (r i)) is k := fun k g => by
      rw [am_tail _ _ _ _ _ (fun e => n1 (by rw [← e]; exact g))]
    have hz : r i - am r n (i :: is) i = r i - min n (r i) := by rw [am_head]
    have e2 : n + m - min (n + m) (r i) = n - min n (r i) + (m - min m (r i - min n (r i))) := by omega
    obtain ⟨g, hg⟩ : ∃ g, g = fun k => r k - am r n (i :: is) k := ⟨_, rfl⟩
    have hgc : ∀ k ∈ is, g k = r k - am r (n - min n (r i)) is k := fun k q => by rw [hg]; exact hc k q
    have hgi : g i = r i - min n (r i) := by rw [hg]; exact hz
    rw [← hg]
    constructor
    · simp only [am]
      rw [hgi, e2]
      by_cases e : j = i
      · rw [if_pos e, if_pos e, if_pos e]
        omega
      · rw [if_neg e, if_neg e, if_neg e, am_congr j _ is hgc]
        exact ih.1
    · simp only [lk]
      rw [hgi, e2, lk_congr _ is hgc]
      exact ih.2
theorem am_skip (r : Nat → Int) (j : Nat) : ∀ (n : Int) (is : List Nat), is.Nodup → 0 ≤ n → (∀ i ∈ is, 0 ≤ r i) → am r n (is.filter (fun i => decide (0 < r i))) j = am r n is j ∧ lk r n (is.filter (fun i => decide (0 < r i))) = lk r n is
  | _, [], _, _, _ => ⟨rfl, rfl⟩
  | n, i :: is, hn, h0, hr => by
    obtain ⟨n1, n2⟩ := List.nodup_cons.1 hn
    have hi := hr i (List.mem_cons_self ..)
    have ih := am_skip r j (n - min n (r i)) is n2 (by omega) (fun k g => hr k (List.mem_cons_of_mem _ g))
    by_cases h : 0 < r i
    · rw [List.filter_cons_of_pos (by simpa using h)]
      simp only [am, lk]
      rw [ih.1, ih.2]
      exact ⟨rfl, rfl⟩
    · rw [List.filter_cons_of_neg (by simpa using h)]
      have e : n - min n (r i) = n := by omega
      rw [e] at ih
      simp only [am, lk]
      rw [e, ih.1, ih.2]
      refine ⟨?_, rfl⟩
      by_cases q : j = i
      · rw [if_pos q, am_not r j n is (by rw [q]; exact n1)]
        omega
      · rw [if_neg q]
/-- As much more held of each place. -/
def addH (l : List SL) (f : Nat → Int) : List SL := l.mapIdx fun j x => { x with f6 := x.f6 + f j }
theorem addH_len (l : List SL) (f : Nat → Int) : (addH l f).length = l.length := by simp [addH]
theorem addH_get (l : List SL) (f : Nat → Int) (j : Nat) (h : j < l.length) : (addH l f).getD j zL = { l.getD j zL with f6 := (l.getD j zL).f6 + f j } := by
  simp [addH, h]
theorem ext_get {l m : List SL} (h : l.length = m.length) (e : ∀ j, j < l.length → l.getD j zL = m.getD j zL) : l = m := by
  apply List.ext_getElem h
  intro j h1 h2
  have := e j h1
  simpa [h1, h2] using this
theorem addH_addH (l : List SL) (f g : Nat → Int) : addH (addH l f) g = addH l (fun j => f j + g j) := by
  apply ext_get (by simp [addH_len])
  intro j h
  rw [addH_len, addH_len] at h
  rw [addH_get _ _ _ (by rw [addH_len]; exact h), addH_get _ _ _ h, addH_get _ _ _ h]
  simp [Int.add_assoc]
theorem addH_congr (l : List SL) {f g : Nat → Int} (h : ∀ j, j < l.length → f j = g j) : addH l f = addH l g := by
  apply ext_get (by simp [addH_len])
  intro j hj
  rw [addH_len] at hj
  rw [addH_get _ _ _ hj, addH_get _ _ _ hj, h j hj]
theorem addH_zero (l : List SL) {f : Nat → Int} (h : ∀ j, j < l.length → f j = 0) : addH l f = l := by
  apply ext_get (by simp [addH_len])
  intro j hj
  rw [addH_len] at hj
  rw [addH_get _ _ _ hj, h j hj]
  simp
def AllOk (l : List SL) : Prop := ∀ j, j < l.length → LotOk (l.getD j zL)
abbrev rst (l : List SL) (j : Nat) : Int := restW (l.getD j zL)
theorem addH_ok (l : List SL) (f : Nat → Int) (h : AllOk l) (hf : ∀ j, j < l.length → 0 ≤ f j ∧ f j ≤ rst l j) : AllOk (addH l f) ∧ ∀ j, j < l.length → rst (addH l f) j = rst l j - f j := by
  have hk : AllOk (addH l f) := fun j hj => by
    rw [addH_len] at hj
    have hr := (h j hj).rest
    have hb := hf j hj
    unfold rst at hb
    rw [addH_get _ _ _ hj]
    obtain ⟨h1, h2, h3, h4, h5, h6⟩ := h j hj
    constructor <;> simp only [] <;> omega
  refine ⟨hk, fun j hj => ?_⟩
  have hr := (h j hj).rest
  have hr2 := (hk j (by rw [addH_len]; exact hj)).rest
  unfold rst
  rw [hr2, hr, addH_get _ _ _ hj]
  simp only []
  omega
theorem takeGo_spec : ∀ (is : List Int) (l : List SL) (ps : List SP) (n : Int), AllOk l → 0 ≤ n → n ≤ 1000000000 → (is.map Int.toNat).Nodup → (∀ i ∈ is, 0 ≤ i ∧ i < (l.length : Int) ∧ 0 < rst l i.toNat) → takeGo l ps n is = (addH l (am (rst l) n (is.map Int.toNat)), ps ++ pts l (rst l) n (is.map Int.toNat), lk (rst l) n (is.map Int.toNat))
  | [], l, ps, n, _, _, _, _, _ => by
    simp only [takeGo, List.map_nil, am, pts, lk, List.append_nil]
    rw [addH_zero l (fun _ _ => rfl)]
  | i :: is, l, ps, n, hk, h0, h1, hn, hi => by
    obtain ⟨i1, i2, i3⟩ := hi i (List.mem_cons_self ..)
    obtain ⟨n1, n2⟩ := List.nodup_cons.1 (by simpa only [List.map_cons] using hn)
    have hil : i.toNat < l.length := by omega
    have hpos : ∀ k ∈ (is.map Int.toNat), 0 ≤ rst l k := fun k g => by
      obtain ⟨a, ha, rfl⟩ := List.mem_map.1 g
      have := (hi a (List.mem_cons_of_mem _ ha)).2.2
      omega
    unfold takeGo
    by_cases h : min n (restW (l.getD i.toNat zL)) ≤ 0
    · have hn0 : n = 0 := by unfold rst at i3; omega
      rw [if_pos h, List.map_cons]
      have hall : ∀ k ∈ i.toNat :: is.map Int.toNat, 0 ≤ rst l k := fun k g => by
        rcases List.mem_cons.1 g with rfl | g
        · omega
        · exact hpos k g
      rw [hn0] at h ⊢
      rw [addH_zero l (fun j _ => am_zero _ j _ hall), lk_zero _ _ hall]
      simp only [pts]
      rw [if_pos h, List.append_nil]
    · rw [if_neg h]
      have ho := hk _ hil
      have hr := ho.rest
      obtain ⟨a, ha⟩ : ∃ a, a = min n (restW (l.getD i.toNat zL)) := ⟨_, rfl⟩
      obtain ⟨o1, o2, o3, o4, o5, o6⟩ := ho
      rw [← ha] at h ⊢
      rw [w64 (x := n - a) (by omega) (by omega), w64 (x := (l.getD i.toNat zL).f6 + a) (by omega) (by omega)]
      obtain ⟨l1, hl1⟩ : ∃ l1, l1 = l.set i.toNat { l.getD i.toNat zL with f6 := (l.getD i.toNat zL).f6 + a } := ⟨_, rfl⟩
      have hlen : l1.length = l.length := by rw [hl1, List.length_set]
      have hat : l1.getD i.toNat zL = { l.getD i.toNat zL with f6 := (l.getD i.toNat zL).f6 + a } := by rw [hl1]; simp [hil]
      have hne : ∀ k, k ≠ i.toNat → l1.getD k zL = l.getD k zL := fun k g => by
        rw [hl1]
        simp [List.getElem?_set_ne (Ne.symm g)]
      have hk1 : AllOk l1 := fun k g => by
        by_cases e : k = i.toNat
        · rw [e, hat]
          constructor <;> simp only [] <;> omega
        · rw [hne k e]
          exact hk k (by omega)
      have hsame : ∀ k ∈ is.map Int.toNat, rst l1 k = rst l k := fun k g => by
        unfold rst
        rw [hne k (fun e => n1 (e ▸ g))]
      rw [← hl1, takeGo_spec is l1 _ (n - a) hk1 (by omega) (by omega) n2 (fun k g => by
        obtain ⟨q1, q2, q3⟩ := hi k (List.mem_cons_of_mem _ g)
        rw [hsame _ (List.mem_map_of_mem g), hlen]
        exact ⟨q1, q2, q3⟩)]
      rw [List.map_cons]
      simp only [lk, pts]
      rw [show min n (rst l i.toNat) = a from ha.symm, if_neg h, lk_congr _ _ hsame, pts_congr (m := l) _ _ hsame (fun k g => by rw [hne k (fun e => n1 (e ▸ g))]), List.append_assoc, List.singleton_append]
      have hA : addH l1 (am (rst l1) (n - a) (is.map Int.toNat)) = addH l (am (rst l) n (i.toNat :: is.map Int.toNat)) := by
        apply ext_get (by rw [addH_len, addH_len, hlen])
        intro k g
        rw [addH_len] at g
        rw [addH_get _ _ _ g, addH_get _ _ _ (by omega), am_congr k _ _ hsame]
        simp only [am]
        rw [show min n (rst l i.toNat) = a from ha.symm]
        by_cases e : k = i.toNat
        · rw [if_pos e, e, hat, am_not _ _ _ _ n1]
          simp
        · rw [if_neg e, hne k e]
      rw [hA]
def ordN (l : List SL) (now : Int) : List Nat := (orderL l now).map Int.toNat
theorem nodup_toNat : ∀ (is : List Int), (∀ i ∈ is, 0 ≤ i) → is.Nodup → (is.map Int.toNat).Nodup
  | [], _, _ => List.nodup_nil
  | i :: is, h, hn => by
    obtain ⟨n1, n2⟩ := List.nodup_cons.1 hn
    refine List.nodup_cons.2 ⟨fun g => ?_, nodup_toNat is (fun k e => h k (List.mem_cons_of_mem _ e)) n2⟩
    obtain ⟨a, ha, e⟩ := List.mem_map.1 g
    have h1 := h i (List.mem_cons_self ..)
    have h2 := h a (List.mem_cons_of_mem _ ha)
    exact n1 (by rw [show i = a by omega]; exact ha)
theorem ordN_nodup (l : List SL) (now : Int) : (ordN l now).Nodup := nodup_toNat _ (fun i h => (orderL_mem h).1) (orderL_nodup l now)
theorem mem_ordN (l : List SL) (now : Int) (j : Nat) : j ∈ ordN l now ↔ j < l.length ∧ validB (l.getD j zL) now = true ∧ 0 < rst l j := by
  unfold ordN
  rw [List.mem_map]
  constructor
  · rintro ⟨a, ha, rfl⟩
    obtain ⟨j, h1, rfl, h2⟩ := (mem_orderL l now a).1 ha
    exact ⟨h1, h2⟩
  · rintro ⟨h1, h2⟩
    exact ⟨(j : Int), (mem_orderL l now _).2 ⟨j, h1, rfl, h2⟩, Int.toNat_natCast j⟩
theorem takeW_spec (l : List SL) (n now : Int) (hk : AllOk l) (h0 : 0 ≤ n) (h1 : n ≤ 1000000000) : takeW l n now = (addH l (am (rst l) n (ordN l now)), pts l (rst l) n (ordN l now), lk (rst l) n (ordN l now)) := by
  unfold takeW
  rw [takeGo_spec (orderL l now) l [] n hk h0 h1 (ordN_nodup l now) (fun i h => ?_), List.nil_append]
  · rfl
  · obtain ⟨j, q1, rfl, _, q3⟩ := (mem_orderL l now i).1 h
    exact ⟨by omega, by omega, q3⟩
theorem addH_out (l : List SL) (f : Nat → Int) (j : Nat) (h : ¬ j < l.length) : (addH l f).getD j zL = l.getD j zL := by
  simp [addH, h]
theorem addH_rest (l : List SL) (f : Nat → Int) (j : Nat) : ((addH l f).getD j zL).f0 = (l.getD j zL).f0 ∧ ((addH l f).getD j zL).f3 = (l.getD j zL).f3 ∧ ((addH l f).getD j zL).f2 = (l.getD j zL).f2 := by
  by_cases h : j < l.length
  · rw [addH_get _ _ _ h]
    exact ⟨rfl, rfl, rfl⟩
  · rw [addH_out _ _ _ h]
    exact ⟨rfl, rfl, rfl⟩
theorem addH_lt (l : List SL) (f : Nat → Int) : ltL (addH l f) = ltL l := by
  funext a b
  unfold ltL
  rw [(addH_rest l f a.toNat).1, (addH_rest l f a.toNat).2.1, (addH_rest l f b.toNat).1, (addH_rest l f b.toNat).2.1]
theorem addH_apart {l : List SL} (f : Nat → Int) (h : Apart l) : Apart (addH l f) := fun a b ha hb e => by
  rw [addH_len] at ha hb
  rw [(addH_rest l f a).1, (addH_rest l f b).1] at e
  exact h a b ha hb e
theorem perm_nodup {a b : List Int} (ha : a.Nodup) (hb : b.Nodup) (h : ∀ x, x ∈ a ↔ x ∈ b) : a.Perm b := (List.perm_ext_iff_of_nodup ha hb).2 h
theorem order_after (l : List SL) (now : Int) (f : Nat → Int) (hp : Apart l) (hk : AllOk l) (hf : ∀ j, j < l.length → 0 ≤ f j ∧ f j ≤ rst l j) : ordN (addH l f) now = (ordN l now).filter (fun j => decide (0 < rst (addH l f) j)) := by
  have hr := (addH_ok l f hk hf).2
  have hv : ∀ j, validB ((addH l f).getD j zL) now = validB (l.getD j zL) now := fun j => by
    unfold validB
    rw [(addH_rest l f j).2.1, (addH_rest l f j).2.2]
  have key : orderL (addH l f) now = (orderL l now).filter (fun a => decide (0 < rst (addH l f) a.toNat)) := by
    have s1 := orderL_sorted (addH l f) now (addH_apart f hp)
    rw [addH_lt] at s1
    refine sorted_unique (ltL_ord l hp) _ _ (fun x hx => ?_) (perm_nodup (orderL_nodup _ _) ((orderL_nodup l now).filter _) (fun x => ?_)) s1 ((orderL_sorted l now hp).filter _)
    · have := orderL_mem hx
      rw [addH_len] at this
      exact this
    · rw [List.mem_filter, mem_orderL, mem_orderL, addH_len]
      constructor
      · rintro ⟨j, h1, rfl, h2, h3⟩
        rw [hv] at h2
        have h4 := hr j h1
        have h5 := hf j h1
        unfold rst at h4 h5
        exact ⟨⟨j, h1, rfl, h2, by omega⟩, by rw [Int.toNat_natCast]; exact decide_eq_true h3⟩
      · rintro ⟨⟨j, h1, rfl, h2, h3⟩, h4⟩
        rw [Int.toNat_natCast] at h4
        exact ⟨j, h1, rfl, by rw [hv]; exact h2, of_decide_eq_true h4⟩
  unfold ordN
  rw [key, List.filter_map]
  rfl
/-- Ids that rise. -/
def Rise : Int → List SL → Prop
  | _, [] => True
  | id, x :: xs => id < x.f0 ∧ Rise x.f0 xs
theorem rise_get : ∀ (l : List SL) (id : Int) (j : Nat), Rise id l → j < l.length → id < (l.getD j zL).f0
  | [], _, _, _, h => absurd h (by simp)
  | x :: xs, id, 0, hr, _ => by simpa using hr.1
  | x :: xs, id, j + 1, hr, h => by
    have := rise_get xs x.f0 j hr.2 (by simpa using h)
    have := hr.1
    simp only [List.getD_cons_succ]
    omega
theorem rise_lt : ∀ (l : List SL) (id : Int) (a b : Nat), Rise id l → a < b → b < l.length → (l.getD a zL).f0 < (l.getD b zL).f0
  | [], _, _, _, _, _, h => absurd h (by simp)
  | x :: xs, id, 0, b + 1, hr, _, h => by
    simp only [List.getD_cons_zero, List.getD_cons_succ]
    exact rise_get xs x.f0 b hr.2 (by simpa using h)
  | x :: xs, id, a + 1, b + 1, hr, hab, h => by
    simp only [List.getD_cons_succ]
    exact rise_lt xs x.f0 a b hr.2 (by omega) (by simpa using h)
theorem rise_apart (l : List SL) (id : Int) (h : Rise id l) : Apart l := fun a b ha hb e => by
  rcases Nat.lt_trichotomy a b with g | g | g
  · have := rise_lt l id a b h g hb
    omega
  · exact g
  · have := rise_lt l id b a h g ha
    omega
theorem goodGo_rise (now : Int) : ∀ (id : Int) (xs : List SL), Rise id (goodGo now id xs)
  | _, [] => True.intro
  | id, x :: xs => by
    have b0 := Int.emod_nonneg x.f0 (show (3 : Int) ≠ 0 by decide)
    refine ⟨?_, goodGo_rise now _ xs⟩
    rw [goodOne_id]
    omega
theorem goodL_apart (l : List SL) (now : Int) : Apart (goodL l now) := rise_apart _ 0 (goodGo_rise now 0 _)
theorem goodL_ok (l : List SL) (now : Int) (h0 : 0 ≤ now) (h1 : now < 100000) : AllOk (goodL l now) := fun j hj => by
  have e : (goodL l now).getD j zL = (goodL l now)[j] := by simp [hj]
  rw [e]
  exact (goodL_in l now h0 h1 _ (List.getElem_mem hj)).ok
theorem rst_nonneg {l : List SL} (h : AllOk l) (j : Nat) : 0 ≤ rst l j := by
  by_cases hj : j < l.length
  · have := (h j hj).rest
    have := (h j hj).sum
    unfold rst
    omega
  · unfold rst
    have e : l.getD j zL = zL := by simp [hj]
    have ho : LotOk zL := by constructor <;> decide
    rw [e, ho.rest]
    decide
theorem take_two (l : List SL) (n m now : Int) (hk : AllOk l) (hp : Apart l) (h0 : 0 ≤ n) (h1 : n ≤ 100000) (h2 : 0 ≤ m) (h3 : m ≤ 100000) : (takeW (takeW l n now).1 m now).1 = (takeW l (n + m) now).1 ∧ (takeW l (n + m) now).2.2 = (takeW l n now).2.2 + (takeW (takeW l n now).1 m now).2.2 := by
  have hr0 : ∀ i ∈ ordN l now, 0 ≤ rst l i := fun i _ => rst_nonneg hk i
  obtain ⟨f, hf⟩ : ∃ f, f = am (rst l) n (ordN l now) := ⟨_, rfl⟩
  have hb : ∀ j, j < l.length → 0 ≤ f j ∧ f j ≤ rst l j := fun j hj => by
    rw [hf]
    exact ⟨(am_bnd _ j n _ h0 hr0).1, am_le _ j n _ h0 hr0 (rst_nonneg hk j)⟩
  obtain ⟨hk2, hr2⟩ := addH_ok l f hk hb
  rw [takeW_spec l n now hk h0 (by omega), takeW_spec l (n + m) now hk (by omega) (by omega)]
  simp only []
  rw [← hf, takeW_spec (addH l f) m now hk2 h2 (by omega), order_after l now f hp hk hb]
  simp only []
  have hg : ∀ i ∈ ordN l now, rst (addH l f) i = rst l i - am (rst l) n (ordN l now) i := fun i hi => by
    rw [hr2 i ((mem_ordN l now i).1 hi).1, hf]
  have hs := fun j => am_skip (rst (addH l f)) j m (ordN l now) (ordN_nodup l now) h2 (fun i _ => rst_nonneg hk2 i)
  have ht := fun j => am_two j (ordN l now) (rst l) n m (ordN_nodup l now) h0 h2 hr0
  refine ⟨?_, ?_⟩
  · rw [addH_addH]
    refine addH_congr l (fun j _ => ?_)
    show f j + _ = _
    rw [(hs j).1, am_congr j m _ hg, hf]
    exact (ht j).1
  · rw [(hs 0).2, lk_congr m _ hg]
    exact (ht 0).2
end Go.Proofs.Ytjoimapgmocoeaa.Lk
