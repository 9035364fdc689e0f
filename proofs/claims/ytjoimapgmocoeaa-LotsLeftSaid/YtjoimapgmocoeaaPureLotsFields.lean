/- LotsFields, in plain lists: Good's lots are in order; one number out of its bounds is found. -/
import Derived.Test.YtjoimapgmocoeaaLotLeft
import Derived.Test.YtjoimapgmocoeaaXa19
set_option linter.unusedVariables false
set_option linter.unusedSimpArgs false
namespace Go.Proofs.Ytjoimapgmocoeaa.Lk
open Go.RowKit Go.Proofs.YtjoimapgmocoeaaW.PrintWords Go.Proofs.YtjoimapgmocoeaaW.PrintLast Go.Proofs.YtjoimapgmocoeaaW.PrintMore Go.Proofs.Ytjoimapgmocoeaa.Xa
/-- The numbers of a lot are small, and what has gone does not exceed what was granted. -/
structure LotOk (x : SL) : Prop where
  b4 : x.f4 ≤ 4000
  b5 : 0 ≤ x.f5
  b6 : 0 ≤ x.f6
  b7 : 0 ≤ x.f7
  b8 : 0 ≤ x.f8
  sum : x.f5 + x.f6 + x.f7 + x.f8 ≤ x.f4
/-- And its bounds are. -/
structure LotIn (x : SL) : Prop where
  ok : LotOk x
  b0 : 0 < x.f0
  c0 : x.f0 ≤ 1000
  b1 : 0 ≤ x.f1
  c1 : x.f1 ≤ 2
  b2 : 0 ≤ x.f2
  b3 : x.f2 < x.f3
  c3 : x.f3 ≤ 200000
theorem LotOk.rest {x : SL} (h : LotOk x) : restW x = x.f4 - x.f5 - x.f6 - x.f7 - x.f8 := by
  obtain ⟨h1, h2, h3, h4, h5, h6⟩ := h
  unfold restW
  rw [w64 (x := x.f4 - x.f5) (by omega) (by omega), w64 (x := x.f4 - x.f5 - x.f6) (by omega) (by omega), w64 (x := x.f4 - x.f5 - x.f6 - x.f7) (by omega) (by omega), w64 (by omega) (by omega)]
theorem LotIn.wrong {x : SL} (h : LotIn x) {last : Int} (hl : last < x.f0) : wrongW x last = 0 := by
  have hr := h.ok.rest
  obtain ⟨⟨h1, h2, h3, h4, h5, h6⟩, h7, h8, h9, h10, h11, h12, h13⟩ := h
  unfold wrongW
  rw [if_neg (by omega), if_neg (by omega), if_neg (by omega), if_pos]
  refine ⟨?_, by omega⟩
  simp only [numB, Bool.and_eq_true, decide_eq_true_eq]
  omega
theorem goodOne_in (now id : Int) (x : SL) (h0 : 0 ≤ now) (h1 : now < 100000) (h2 : 0 ≤ id) (h3 : id ≤ 900) : LotIn (goodOne now id x) := by
  have b0 := Int.emod_nonneg x.f0 (show (3 : Int) ≠ 0 by decide)
  have c0 := Int.emod_lt_of_pos x.f0 (show (0 : Int) < 3 by decide)
  have b1 := Int.emod_nonneg x.f1 (show (3 : Int) ≠ 0 by decide)
  have c1 := Int.emod_lt_of_pos x.f1 (show (0 : Int) < 3 by decide)
  have b2 := Int.emod_nonneg x.f2 (show (8 : Int) ≠ 0 by decide)
  have c2 := Int.emod_lt_of_pos x.f2 (show (0 : Int) < 8 by decide)
  have b3 := Int.emod_nonneg x.f3 (show (9 : Int) ≠ 0 by decide)
  have c3 := Int.emod_lt_of_pos x.f3 (show (0 : Int) < 9 by decide)
  have b5 := Int.emod_nonneg x.f5 (show (1000 : Int) ≠ 0 by decide)
  have c5 := Int.emod_lt_of_pos x.f5 (show (0 : Int) < 1000 by decide)
  have b7 := Int.emod_nonneg x.f7 (show (9 : Int) ≠ 0 by decide)
  have c7 := Int.emod_lt_of_pos x.f7 (show (0 : Int) < 9 by decide)
  have b8 := Int.emod_nonneg x.f8 (show (9 : Int) ≠ 0 by decide)
  have c8 := Int.emod_lt_of_pos x.f8 (show (0 : Int) < 9 by decide)
  have b4 := Int.emod_nonneg x.f4 (show (1000 : Int) ≠ 0 by decide)
  have c4 := Int.emod_lt_of_pos x.f4 (show (0 : Int) < 1000 by decide)
  refine ⟨⟨?_, ?_, ?_, ?_, ?_, ?_⟩, ?_, ?_, ?_, ?_, ?_, ?_, ?_⟩ <;> simp only [goodOne] <;> omega
theorem goodOne_id (now id : Int) (x : SL) : (goodOne now id x).f0 = id + 1 + x.f0 % 3 := rfl
theorem goodGo_in (now : Int) (h0 : 0 ≤ now) (h1 : now < 100000) : ∀ (xs : List SL) (id : Int), 0 ≤ id → id + 3 * (xs.length : Int) ≤ 900 → ∀ y ∈ goodGo now id xs, LotIn y
  | [], _, _, _, y, hy => by simp [goodGo] at hy
  | x :: xs, id, h2, h3, y, hy => by
    have b0 := Int.emod_nonneg x.f0 (show (3 : Int) ≠ 0 by decide)
    have c0 := Int.emod_lt_of_pos x.f0 (show (0 : Int) < 3 by decide)
    simp only [List.length_cons] at h3
    simp only [goodGo, List.mem_cons] at hy
    rcases hy with rfl | hy
    · exact goodOne_in now id x h0 h1 h2 (by omega)
    · exact goodGo_in now h0 h1 xs _ (by omega) (by omega) y hy
theorem goodL_in (l : List SL) (now : Int) (h0 : 0 ≤ now) (h1 : now < 100000) : ∀ y ∈ goodL l now, LotIn y := by
  unfold goodL
  refine goodGo_in now h0 h1 _ 0 (by decide) ?_
  rw [List.length_take]
  omega
/-- Good's lots with one altered: what is wrong with that one is what Check finds. -/
theorem check_at (now : Int) (h0 : 0 ≤ now) (h1 : now < 100000) (y : SL) (e : Int) (he : e ≠ 0) : ∀ (xs : List SL) (id : Int) (i : Nat), 0 ≤ id → id + 3 * (xs.length : Int) ≤ 900 → i < xs.length → (∀ last, 0 ≤ last → last < ((goodGo now id xs).getD i zL).f0 → wrongW y last = e) → checkGo id ((goodGo now id xs).set i y) = e
  | [], _, _, _, _, h, _ => absurd h (by simp)
  | x :: xs, id, 0, h2, h3, _, hw => by
    have b0 := Int.emod_nonneg x.f0 (show (3 : Int) ≠ 0 by decide)
    have hy := hw id h2 (by simp only [goodGo, List.getD_cons_zero, goodOne_id]; omega)
    simp only [goodGo, List.set_cons_zero, checkGo]
    rw [if_neg (by omega), hy]
  | x :: xs, id, i + 1, h2, h3, hi, hw => by
    have b0 := Int.emod_nonneg x.f0 (show (3 : Int) ≠ 0 by decide)
    have c0 := Int.emod_lt_of_pos x.f0 (show (0 : Int) < 3 by decide)
    simp only [List.length_cons] at h3 hi
    simp only [goodGo, List.set_cons_succ, checkGo]
    rw [if_pos ((goodOne_in now id x h0 h1 h2 (by omega)).wrong (by rw [goodOne_id]; omega)), goodOne_id]
    exact check_at now h0 h1 y e he xs _ i (by omega) (by omega) (by omega) (fun last g0 g1 => hw last g0 (by simpa only [goodGo, List.getD_cons_succ] using g1))
theorem fields_j0 (L : List SL) (f b k w : Int) (hL : L.length < 15) (hf : f % 8 ≠ 1) : Ev (fun n => tolllaw10_LotsFields.j0 n L f b k w) (checkGo 0 L == w) := by
  refine Ev.step (fun k => by simp only [tolllaw10_LotsFields.j0]; rfl) ?_
  by_cases h : (L.length : Int) > 1
  · refine Ev.ite_pos h (Ev.bindc (within_f _ _ (by decide) (by decide)) (Ev.ite_neg hf ?_))
    exact Ev.bind (check_f L hL) (Ev.now _)
  · refine Ev.ite_neg h ?_
    exact Ev.bind (check_f L hL) (Ev.now _)
theorem LotsFields_pure (l : List SL) (a1 a2 a3 a4 : Int) : Ev (fun k => tolllaw10_LotsFields.f k l a1 a2 a3 a4) true := by
  have b1 := Int.emod_nonneg a1 (show (100000 : Int) ≠ 0 by decide)
  have c1 := Int.emod_lt_of_pos a1 (show (0 : Int) < 100000 by decide)
  have b3 := Int.emod_nonneg a3 (show (8 : Int) ≠ 0 by decide)
  have c3 := Int.emod_lt_of_pos a3 (show (0 : Int) < 8 by decide)
  have b4 := Int.emod_nonneg a4 (show (100 : Int) ≠ 0 by decide)
  have c4 := Int.emod_lt_of_pos a4 (show (0 : Int) < 100 by decide)
  have hg := goodL_len l (a1 % 100000)
  unfold tolllaw10_LotsFields.f
  refine Ev.bindc known_f (Ev.ite_pos rfl (Ev.bindc (within_f _ _ (by decide) (by decide)) ?_))
  refine Ev.bind (good_f l _ b1 c1) ?_
  obtain ⟨now, hnow⟩ : ∃ n, n = a1 % 100000 := ⟨_, rfl⟩
  rw [← hnow] at hg b1 c1 ⊢
  by_cases hz : ((goodL l now).length : Int) = 0
  · exact Ev.ite_pos hz (Ev.now _)
  refine Ev.ite_neg hz (Ev.bindc (within_f _ _ (by omega) (by omega)) (Ev.bindc (within_f _ _ (by decide) (by decide)) (Ev.bindc (within_f _ _ (by decide) (by decide)) ?_)))
  obtain ⟨i, hi, hil⟩ : ∃ i : Nat, (i : Int) = a2 % ((goodL l now).length : Int) ∧ i < (goodL l now).length := by
    have b2 := Int.emod_nonneg a2 hz
    have c2 := Int.emod_lt_of_pos a2 (show (0 : Int) < ((goodL l now).length : Int) by omega)
    exact ⟨(a2 % ((goodL l now).length : Int)).toNat, by omega, by omega⟩
  obtain ⟨b, hb⟩ : ∃ b, b = 1 + a4 % 100 := ⟨_, rfl⟩
  obtain ⟨x, hx⟩ : ∃ x, x = (goodL l now)[i] := ⟨_, rfl⟩
  have hin : LotIn x := by rw [hx]; exact goodL_in l now b1 c1 _ (List.getElem_mem hil)
  have hrd : rd_T33 (goodL l now) (i : Int) = x := by simp [rd_T33, hil, hx]
  have hgd : (goodL l now).getD i zL = x := by simp [hil, hx]
  have hset : ∀ y : SL, ((goodL l now).set i y).length < 15 := fun y => by rw [List.length_set]; omega
  rw [w64 (x := 1 + a4 % 100) (by omega) (by omega), ← hb, ← hi, hrd]
  have at1 : ∀ (y : SL) (e : Int), e ≠ 0 → (∀ last, 0 ≤ last → last < x.f0 → wrongW y last = e) → checkGo 0 ((goodL l now).set i y) = e := fun y e he hw => by
    have hlen : (l.take 14).length ≤ 14 := by rw [List.length_take]; omega
    refine check_at now b1 c1 y e he (l.take 14) 0 i (by decide) (by omega) (by unfold goodL at hil; rw [goodGo_len] at hil; exact hil) (fun last g0 g1 => hw last g0 ?_)
    rw [← hgd]
    exact g1
  have lo : (0 : Int) ≤ (i : Int) := by omega
  have hi2 : (i : Int) < ((goodL l now).length : Int) := by omega
  have fin : ∀ (y : SL) (e : Int), a3 % 8 ≠ 1 → e ≠ 0 → (∀ last, 0 ≤ last → last < x.f0 → wrongW y last = e) → Ev (fun n => tolllaw10_LotsFields.j0 n ((goodL l now).set (i : Int).toNat y) a3 b (i : Int) e) true := fun y e h1 he hw => by
    rw [Int.toNat_natCast]
    refine Ev.eq (fields_j0 _ a3 b _ e (hset y) h1) ?_
    rw [at1 y e he hw]
    simp
  have hr := hin.ok.rest
  obtain ⟨⟨o1, o2, o3, o4, o5, o6⟩, o7, o8, o9, o10, o11, o12, o13⟩ := hin
  by_cases f0 : a3 % 8 = 0
  · refine Ev.ite_pos f0 (Ev.ite_pos lo (Ev.ite_pos hi2 ?_))
    rw [w64 (x := -b) (by omega) (by omega)]
    refine fin _ 1 (by omega) (by decide) (fun last g0 g1 => ?_)
    unfold wrongW
    rw [if_pos (.inl (by show -b ≤ last; omega))]
  refine Ev.ite_neg f0 ?_
  by_cases f1 : a3 % 8 = 1
  · refine Ev.ite_pos f1 (Ev.ite_pos lo (Ev.ite_pos hi2 ?_))
    rw [w64 (x := 2 + b) (by omega) (by omega), Int.toNat_natCast]
    have k3 : ∀ k : Int, k < 0 ∨ 2 < k → ∀ last, 0 ≤ last → last < x.f0 → wrongW ⟨x.f0, k, x.f2, x.f3, x.f4, x.f5, x.f6, x.f7, x.f8⟩ last = 3 := fun k hk last g0 g1 => by
      unfold wrongW
      rw [if_neg (by show ¬ (x.f0 ≤ last ∨ 1099511627776 < x.f0); omega), if_pos hk]
    refine Ev.step (fun k => by simp only [tolllaw10_LotsFields.j0]; rfl) ?_
    rw [List.length_set]
    have one : Ev (fun k => (lots_Check.f k ((goodL l now).set i ⟨x.f0, 2 + b, x.f2, x.f3, x.f4, x.f5, x.f6, x.f7, x.f8⟩)).bind fun t => some (t == (3 : Int))) true := by
      refine Ev.bind (check_f _ (hset _)) ?_
      rw [at1 _ 3 (by decide) (k3 (2 + b) (by omega))]
      exact Ev.now _
    by_cases h : ((goodL l now).length : Int) > 1
    · refine Ev.ite_pos h (Ev.bindc (within_f _ _ (by decide) (by decide)) (Ev.ite_pos f1 ?_))
      by_cases h2 : (i : Int) > 0
      · have hrd2 : rd_T33 ((goodL l now).set i ⟨x.f0, 2 + b, x.f2, x.f3, x.f4, x.f5, x.f6, x.f7, x.f8⟩) (i : Int) = ⟨x.f0, 2 + b, x.f2, x.f3, x.f4, x.f5, x.f6, x.f7, x.f8⟩ := by simp [rd_T33, hil]
        refine Ev.ite_pos h2 (Ev.ite_pos lo (Ev.ite_pos hi2 ?_))
        rw [hrd2, Int.toNat_natCast, List.set_set, w64 (x := -b) (by omega) (by omega)]
        refine Ev.bind (check_f _ (hset _)) ?_
        rw [at1 _ 3 (by decide) (k3 (-b) (by omega))]
        exact Ev.now _
      · exact Ev.ite_neg h2 one
    · exact Ev.ite_neg h one
  refine Ev.ite_neg f1 ?_
  by_cases f2 : a3 % 8 = 2
  · refine Ev.ite_pos f2 (Ev.ite_pos lo (Ev.ite_pos hi2 ?_))
    rw [w64 (x := -b) (by omega) (by omega)]
    refine fin _ 1 (by omega) (by decide) (fun last g0 g1 => ?_)
    unfold wrongW
    rw [if_neg (by show ¬ (x.f0 ≤ last ∨ 1099511627776 < x.f0); omega), if_neg (by show ¬ (x.f1 < 0 ∨ 2 < x.f1); omega), if_pos (.inl (by show -b < 0; omega))]
  refine Ev.ite_neg f2 ?_
  by_cases f3 : a3 % 8 = 3
  · refine Ev.ite_pos f3 (Ev.ite_pos lo (Ev.ite_pos hi2 ?_))
    refine fin _ 1 (by omega) (by decide) (fun last g0 g1 => ?_)
    unfold wrongW
    rw [if_neg (by show ¬ (x.f0 ≤ last ∨ 1099511627776 < x.f0); omega), if_neg (by show ¬ (x.f1 < 0 ∨ 2 < x.f1); omega), if_pos (.inr (.inl (Int.le_refl _)))]
  refine Ev.ite_neg f3 ?_
  have last11 : ∀ (y : SL) (last : Int), y.f0 = x.f0 → y.f1 = x.f1 → y.f2 = x.f2 → y.f3 = x.f3 → last < x.f0 → (numB y.f4 = false ∨ numB y.f6 = false ∨ numB y.f7 = false ∨ restW y < 0) → wrongW y last = 11 := fun y last e0 e1 e2 e3 g1 hw => by
    unfold wrongW
    rw [e0, e1, e2, e3, if_neg (by omega), if_neg (by omega), if_neg (by omega), if_neg]
    rintro ⟨q1, q2⟩
    simp only [Bool.and_eq_true] at q1
    obtain ⟨⟨⟨⟨q3, q4⟩, q5⟩, q6⟩, q7⟩ := q1
    rcases hw with hw | hw | hw | hw
    · rw [hw] at q3; cases q3
    · rw [hw] at q5; cases q5
    · rw [hw] at q6; cases q6
    · exact q2 hw
  by_cases f4 : a3 % 8 = 4
  · refine Ev.ite_pos f4 (Ev.ite_pos lo (Ev.ite_pos hi2 ?_))
    rw [w64 (x := -b) (by omega) (by omega)]
    refine fin _ 11 (by omega) (by decide) (fun last g0 g1 => last11 _ last rfl rfl rfl rfl g1 (.inr (.inl ?_)))
    simp only [numB, Bool.and_eq_false_iff, decide_eq_false_iff_not]
    left; omega
  refine Ev.ite_neg f4 ?_
  by_cases f5 : a3 % 8 = 5
  · refine Ev.ite_pos f5 (Ev.ite_pos lo (Ev.ite_pos hi2 ?_))
    rw [w64 (x := x.f5 + x.f7) (by omega) (by omega), w64 (x := x.f5 + x.f7 + x.f8) (by omega) (by omega), w64 (x := x.f5 + x.f7 + x.f8 - b) (by omega) (by omega)]
    refine fin _ 11 (by omega) (by decide) (fun last g0 g1 => last11 _ last rfl rfl rfl rfl g1 (.inr (.inr (.inr ?_))))
    unfold restW
    simp only []
    rw [w64 (x := x.f5 + x.f7 + x.f8 - b - x.f5) (by omega) (by omega), w64 (x := x.f5 + x.f7 + x.f8 - b - x.f5 - x.f6) (by omega) (by omega), w64 (x := x.f5 + x.f7 + x.f8 - b - x.f5 - x.f6 - x.f7) (by omega) (by omega), w64 (by omega) (by omega)]
    omega
  refine Ev.ite_neg f5 ?_
  by_cases f6 : a3 % 8 = 6
  · refine Ev.ite_pos f6 (Ev.ite_pos lo (Ev.ite_pos hi2 ?_))
    rw [w64 (x := 1099511627776 + b) (by omega) (by omega)]
    refine fin _ 11 (by omega) (by decide) (fun last g0 g1 => last11 _ last rfl rfl rfl rfl g1 (.inr (.inr (.inl ?_))))
    simp only [numB, Bool.and_eq_false_iff, decide_eq_false_iff_not]
    right; omega
  refine Ev.ite_neg f6 ?_
  refine Ev.ite_pos (by omega) (Ev.ite_pos lo (Ev.ite_pos hi2 ?_))
  rw [w64 (x := 1099511627776 + b) (by omega) (by omega)]
  refine fin _ 1 (by omega) (by decide) (fun last g0 g1 => ?_)
  unfold wrongW
  rw [if_neg (by show ¬ (x.f0 ≤ last ∨ 1099511627776 < x.f0); omega), if_neg (by show ¬ (x.f1 < 0 ∨ 2 < x.f1); omega), if_pos (.inr (.inr (by show 1099511627776 < 1099511627776 + b; omega)))]
theorem fields_walk (a0 : Option Addr) (l0 : List SL) (c0 : Nat) (a1 a2 a3 a4 : Int) (w : World) (hC : k33.C w a0 l0.length l0) (hc : l0.length ≤ c0) (w1 : (Lit.int .i64 a1).wf = true) (w2 : (Lit.int .i64 a2).wf = true) (w3 : (Lit.int .i64 a3).wf = true) (w4 : (Lit.int .i64 a4).wf = true) :
    Calls Try.prog 7 #[.slice a0 l0.length c0, .int .i64 a1, .int .i64 a2, .int .i64 a3, .int .i64 a4] w fun e w' => e = .returned (.bool true) ∧ Below w.heap.size w w' := by
  obtain ⟨k, hk⟩ := Ev.rounds (LotsFields_pure l0 a1 a2 a3 a4)
  exact tolllaw10_LotsFields.calls k a0 c0 l0 a1 a2 a3 a4 true w hC hc hk
end Go.Proofs.Ytjoimapgmocoeaa.Lk
