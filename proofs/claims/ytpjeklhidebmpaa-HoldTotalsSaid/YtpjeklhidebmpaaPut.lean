/- Put and Drop of holds without parts. -/
import Derived.Test.YtpjeklhidebmpaaInsert
import Derived.Test.YtpjeklhidebmpaaDelete
set_option linter.unusedVariables false
set_option linter.unusedSimpArgs false
namespace Go.Proofs.Ytpjeklhidebmpaa.Lk
open Go.RowKit Go.Proofs.YtpjeklhidebmpaaW.PrintWords Go.Proofs.YtpjeklhidebmpaaW.PrintWords.Kd Go.Proofs.YtpjeklhidebmpaaW.PrintLast Go.Proofs.YtpjeklhidebmpaaW.PrintMore Go.Proofs.Ytpjeklhidebmpaa.Xa Go.Proofs.Ytpjeklhidebmpaa.Own
theorem hasB_lt {xs : List HN} {id : Int} (h : hasB id xs = true) : pos id xs < xs.length := by
  unfold hasB at h
  rw [Bool.and_eq_true, decide_eq_true_eq] at h
  exact h.1
/-- A row of holds of one's own. -/
def Own (w : World) (base : Nat) (v : Value) (xs : List HN) : Prop := kH.R 26 w base (fun _ => True) v xs
theorem insert_any (W : World) (base g vb i : Nat) (xs : List HN) (x : HN) (hi : i ≤ xs.length) (hb : base ≤ W.heap.size) (HO : kH.R 26 W base (fun _ => True) (.slice (some ⟨g, 0, none⟩) xs.length xs.length) xs)
    (HV : W.heap[vb]? = some (.cells (aH x) 26 (0, 0))) (hl : xs.length < 1000000) :
    Calls Try.prog 15 #[.slice (some ⟨g, 0, none⟩) xs.length xs.length, .int .i64 i, .slice (some ⟨vb, 0, none⟩) 1 1] W fun e w' =>
      ∃ v1, e = .returned v1 ∧ kH.R 26 w' base (fun _ => True) v1 (xs.take i ++ ([x] ++ xs.drop i)) ∧ W.grownBy w' (some g) := by
  rcases Nat.lt_or_eq_of_le hi with h | h
  · exact insert_grow W base g vb i xs x h HO HV hl hb
  · subst h
    have := insert_end W base xs.length xs.length g vb xs x rfl hb HO (cells_C HV) hl
    rw [List.take_length, List.drop_length, List.append_nil]
    exact this
set_option maxHeartbeats 4000000 in
theorem put_calls (A : Option Addr) (c : Nat) (xs : List HN) (x : HN) (w : World) (hs : Srt xs) (hC : Kd.C kH w A xs.length xs) (hc : xs.length ≤ c) (hl : xs.length < 1000000) :
    Calls Try.prog 8 #[.slice A xs.length c, .agg #[.int .i64 x.id, .slice none 0 0, .int .i64 x.over, .int .i64 x.til]] w fun e w' =>
      ∃ v1, e = .returned v1 ∧ Own w' w.heap.size v1 (put xs x) ∧ Below w.heap.size w w' := by
  have HC := Aside0.mk hC
  have HS := Aside0.mk hs
  have HL := Aside0.mk hl
  clear hs hC hl
  go_enter Try.func8, Try.ntmps8
  go_wp2_with fail
  have hb0 : Below w.heap.size w (w.alloc (.cells #[.int .i64 x.id, .slice none 0 0, .int .i64 x.over, .int .i64 x.til] 26)) := below_alloc (Below.refl _ _) _
  refine (twins_calls A c xs _ (C_below HC.out hb0) hc HL.out).mono ?_
  rintro e w1 ⟨g, rfl, ho1, hb1⟩
  have hk1 : w1.heap[w.heap.size]? = some (.cells (aH x) 26 (0, 0)) := blk_below (blk_new w (.cells #[.int .i64 x.id, .slice none 0 0, .int .i64 x.over, .int .i64 x.til] 26)) hb1
  obtain ⟨hc0, hc1, hc2, hc3⟩ := cells_aH hk1
  have HB1 := Aside0.mk (below_step hb0 hb1)
  have hg1 : w.heap.size < g := by
    obtain ⟨_, inner, hown, _⟩ := ho1
    have := own_base hown g (by simp [Value.ownBlock])
    simp at this
    omega
  have HG := Aside0.mk hg1
  have HO1 := Aside0.mk (R_lower ho1 (show w.heap.size ≤ _ by simp))
  have HK1 := Aside0.mk hk1
  clear hb0 hb1 hk1 ho1 hg1
  go_wp2_with fail
  refine (place_calls (some ⟨g, 0, none⟩) xs.length xs x.id w1 HS.out (R_reads' HO1.out).2.2 HL.out).mono ?_
  rintro e w2 ⟨rfl, hb2⟩
  have hk2 := blk_below HK1.out hb2
  obtain ⟨hc0, hc1, hc2, hc3⟩ := cells_aH hk2
  have HB2 := Aside0.mk (below_step HB1.out hb2)
  have HO2 := Aside0.mk (R_below HO1.out hb2)
  have HK2 := Aside0.mk hk2
  clear hb2 hk2 HB1 HO1 HK1
  have hpl := Aside0.mk (pos_le x.id xs)
  cases hB : hasB x.id xs with
  | true =>
    have hlt := hasB_lt hB
    have HP : Aside0 (put xs x = xs.set (pos x.id xs) x) := ⟨by unfold put; rw [if_pos hB]⟩
    obtain ⟨i, hi⟩ : ∃ i, i = pos x.id xs := ⟨_, rfl⟩
    rw [← hi] at hlt HP ⊢
    clear hB hi hpl
    go_wp2_with fail
    refine (twinA_calls _ _).mono ?_
    rintro e w3 ⟨rfl, hb3⟩
    obtain ⟨w4, hst, ho4, hg4, hs4⟩ := storeH (i := i) x (R_below HO2.out hb3) hlt
    have p : 0 ≤ (i : Int) := by omega
    have q : (i : Int) < (xs.length : Int) := by omega
    have HB4 := Aside0.mk (pw_below_grown (below_step HB2.out hb3) _ (below_size (below_step HB2.out hb3)) hg4 (fun k hk => by have := HG.out; simp at hk; omega))
    have HO4 := Aside0.mk ho4
    clear hb3 ho4 hg4 hs4 hc0 hc1 hc2 hc3
    go_wp2
    go_ret
    exact ⟨_, rfl, by rw [HP.out]; exact HO4.out, HB4.out⟩
  | false =>
    have HP : Aside0 (put xs x = xs.take (pos x.id xs) ++ ([x] ++ xs.drop (pos x.id xs))) := ⟨by unfold put; rw [if_neg (by rw [hB]; decide)]⟩
    obtain ⟨i, hi⟩ : ∃ i, i = pos x.id xs := ⟨_, rfl⟩
    rw [← hi] at HP hpl ⊢
    clear hB hi
    go_wp2_with fail
    refine (twin_calls x _).mono ?_
    rintro e w3 ⟨rfl, hb3⟩
    have HB3 := Aside0.mk (below_step HB2.out hb3)
    have HO3 := Aside0.mk (R_below HO2.out hb3)
    clear hb3 hc0 hc1 hc2 hc3
    go_wp2_with fail
    refine (insert_any _ w.heap.size g w3.heap.size i xs x hpl.out (by have := HB3.out.size; simp; omega) (R_alloc HO3.out _) (blk_new w3 _) HL.out).mono ?_
    rintro e w4 ⟨v1, rfl, ho4, hg4⟩
    have HB4 := Aside0.mk (pw_below_grown (below_alloc HB3.out _) _ (below_size (below_alloc HB3.out _)) hg4 (fun k hk => by have := HG.out; simp at hk; omega))
    have HO4 := Aside0.mk ho4
    clear ho4 hg4
    go_wp2
    go_ret
    exact ⟨_, rfl, by rw [HP.out]; exact HO4.out, HB4.out⟩
set_option maxHeartbeats 4000000 in
theorem drop_calls (A : Option Addr) (c : Nat) (xs : List HN) (id : Int) (w : World) (hs : Srt xs) (hC : Kd.C kH w A xs.length xs) (hc : xs.length ≤ c) (hl : xs.length < 1000000) :
    Calls Try.prog 9 #[.slice A xs.length c, .int .i64 id] w fun e w' =>
      ∃ v1, e = .returned v1 ∧ Own w' w.heap.size v1 (drp xs id) ∧ Below w.heap.size w w' := by
  have HC := Aside0.mk hC
  have HS := Aside0.mk hs
  have HL := Aside0.mk hl
  clear hs hC hl
  go_enter Try.func9, Try.ntmps9
  go_wp2_with fail
  refine (twins_calls A c xs _ HC.out hc HL.out).mono ?_
  rintro e w1 ⟨g, rfl, ho1, hb1⟩
  have HB1 := Aside0.mk hb1
  have hg1 : w.heap.size ≤ g := by
    obtain ⟨_, inner, hown, _⟩ := ho1
    exact own_base hown g (by simp [Value.ownBlock])
  have HG := Aside0.mk hg1
  have HO1 := Aside0.mk ho1
  clear hb1 ho1 hg1
  go_wp2_with fail
  refine (place_calls (some ⟨g, 0, none⟩) xs.length xs id w1 HS.out (R_reads' HO1.out).2.2 HL.out).mono ?_
  rintro e w2 ⟨rfl, hb2⟩
  have HB2 := Aside0.mk (below_step HB1.out hb2)
  have HO2 := Aside0.mk (R_below HO1.out hb2)
  clear hb2 HB1 HO1
  cases hB : hasB id xs with
  | true =>
    have hlt := hasB_lt hB
    have HP : Aside0 (drp xs id = xs.take (pos id xs) ++ xs.drop (pos id xs + 1)) := ⟨by unfold drp; rw [if_pos hB]⟩
    obtain ⟨i, hi⟩ : ∃ i, i = pos id xs := ⟨_, rfl⟩
    obtain ⟨m, hm⟩ : ∃ m, xs.length = i + 1 + m := ⟨xs.length - (i + 1), by omega⟩
    rw [← hi] at hlt HP ⊢
    have HM := Aside0.mk hm
    have hwi : wrap64 ((i : Int) + 1) = (i : Int) + 1 := by have := HL.out; unfold wrap64; omega
    clear hB hi hm hlt
    have HO3 : Aside0 (kH.R 26 w2 w.heap.size (fun _ => True) (.slice (some ⟨g, 0, none⟩) (i + 1 + m) (i + 1 + m)) xs) := ⟨by rw [← HM.out]; exact HO2.out⟩
    clear HO2
    go_wp2_with fail
    try rw [hwi]
    rw [HM.out]
    refine (delete_calls w2 w.heap.size g i m xs HM.out HO3.out HL.out).mono ?_
    rintro e w3 ⟨rfl, ho3, hg3⟩
    have HB4 := Aside0.mk (pw_below_grown HB2.out _ (below_size HB2.out) hg3 (fun k hk => by have := HG.out; simp at hk; omega))
    have HO4 := Aside0.mk ho3
    clear ho3 hg3
    go_wp2
    go_ret
    exact ⟨_, rfl, by rw [HP.out]; exact HO4.out, HB4.out⟩
  | false =>
    have HP : Aside0 (drp xs id = xs) := ⟨by unfold drp; rw [if_neg (by rw [hB]; decide)]⟩
    clear hB
    go_wp2
    go_ret
    exact ⟨_, rfl, by rw [HP.out]; exact HO2.out, HB2.out⟩
end Go.Proofs.Ytpjeklhidebmpaa.Lk
