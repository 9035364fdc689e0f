/- Find. -/
import Derived.Test.YtpjeklhidebmpaaTwins
set_option linter.unusedVariables false
set_option linter.unusedSimpArgs false
namespace Go.Proofs.Ytpjeklhidebmpaa.Lk
open Go.RowKit Go.Proofs.YtpjeklhidebmpaaW.PrintWords Go.Proofs.YtpjeklhidebmpaaW.PrintWords.Kd Go.Proofs.YtpjeklhidebmpaaW.PrintLast Go.Proofs.YtpjeklhidebmpaaW.PrintMore Go.Proofs.Ytpjeklhidebmpaa.Xa Go.Proofs.Ytpjeklhidebmpaa.Own
def findH (xs : List HN) (id : Int) : HN := if hasB id xs = true then xs.getD (pos id xs) zH else zH
theorem aH_len (x : HN) : (aH x).toList.length = 4 := rfl
theorem aH_one (x : HN) : ∀ u ∈ (aH x).toList, u.oneCell' = true := cellsH_one x
theorem cells_aH {w : World} {g : Nat} {x : HN} (h : w.heap[g]? = some (.cells (aH x) 26 (0, 0))) : w.cell? ⟨g, 0, none⟩ = some (.int .i64 x.id) ∧ w.cell? ⟨g, 1, none⟩ = some (.slice none 0 0) ∧ w.cell? ⟨g, 2, none⟩ = some (.int .i64 x.over) ∧ w.cell? ⟨g, 3, none⟩ = some (.int .i64 x.til) := by
  refine ⟨?_, ?_, ?_, ?_⟩ <;> (rw [cell_of_row w g _ _ _ (0, 0) h]; rfl)
set_option maxHeartbeats 4000000 in
theorem find_calls (A : Option Addr) (c : Nat) (xs : List HN) (id : Int) (w : World) (hs : Srt xs) (hC : Kd.C kH w A xs.length xs) (hl : xs.length < 1000000) :
    Calls Try.prog 10 #[.slice A xs.length c, .int .i64 id] w fun e w' => e = .returned (.tuple #[.agg (aH (findH xs id)), .bool (hasB id xs)]) ∧ Below w.heap.size w w' := by
  have HC := Aside0.mk hC
  have HS := Aside0.mk hs
  have hlt : hasB id xs = true → pos id xs < xs.length := fun h => by
    unfold hasB at h
    rw [Bool.and_eq_true, decide_eq_true_eq] at h
    exact h.1
  have HT := Aside0.mk hlt
  clear hs hC hlt
  go_enter Try.func10, Try.ntmps10
  go_wp2_with fail
  have hb0 : Below w.heap.size w (w.alloc (.cells #[.int .i64 0, .slice none 0 0, .int .i64 0, .int .i64 0] 26)) := below_alloc (Below.refl _ _) _
  refine (place_calls A c xs id _ HS.out (C_below HC.out hb0) hl).mono ?_
  rintro e w1 ⟨rfl, hb1⟩
  have hk1 := blk_below (blk_new w (.cells #[.int .i64 0, .slice none 0 0, .int .i64 0, .int .i64 0] 26)) hb1
  have HB1 := Aside0.mk (below_step hb0 hb1)
  have HK1 := Aside0.mk hk1
  clear hb0 hb1 hk1
  cases hB : hasB id xs with
  | false =>
    have HF := Aside0.mk (show findH xs id = zH by unfold findH; rw [if_neg (by rw [hB]; decide)])
    have HB0 := Aside0.mk hB
    obtain ⟨i, hi⟩ : ∃ i, i = pos id xs := ⟨_, rfl⟩
    rw [← hi]
    clear hB hi
    obtain ⟨hc0, hc1, hc2, hc3⟩ := cells_aH (x := zH) HK1.out
    have hf0 := blk_frozen HK1.out 0
    have hf1 := blk_frozen HK1.out 1
    have hf2 := blk_frozen HK1.out 2
    have hf3 := blk_frozen HK1.out 3
    go_wp2
    exact bodyPost_ret (v := .tuple #[.agg (aH zH), .bool false]) (by simp [results, Try.results10, go_sem, hc0, hc1, hc2, hc3, aH, zH]) rfl ⟨by rw [HF.out, HB0.out], below_set (below_set (below_set (below_set HB1.out (Nat.le_refl _)) (Nat.le_refl _)) (Nat.le_refl _)) (Nat.le_refl _)⟩
  | true =>
    have HF := Aside0.mk (show findH xs id = rdH xs (pos id xs : Int) by unfold findH; rw [if_pos hB]; simp [rdH])
    have HB0 := Aside0.mk hB
    have hi1 := HT.out hB
    obtain ⟨i, hi⟩ : ∃ i, i = pos id xs := ⟨_, rfl⟩
    rw [← hi] at HF hi1 ⊢
    clear hB hi
    have p : 0 ≤ (i : Int) := by omega
    have q : (i : Int) < (xs.length : Int) := by omega
    obtain ⟨ad, rfl, hx0, hx1, hx2, hx3⟩ := at_H (C_below HC.out HB1.out) (i : Int) p q
    simp only [Int.toNat_natCast] at hx0 hx1 hx2 hx3
    go_wp2_with fail
    refine (twinA_calls _ _).mono ?_
    rintro e w2 ⟨rfl, hb⟩
    obtain ⟨w3, hst, hk3, hg3, hs3⟩ := blk_store (P := Try.prog) (cs := (aH (rdH xs (i : Int))).toList) (blk_below HK1.out hb) rfl (aH_one _)
    obtain ⟨hc0, hc1, hc2, hc3⟩ := cells_aH (x := rdH xs (i : Int)) hk3
    have HB3 := Aside0.mk (pw_below_grown (below_step HB1.out hb) _ (below_size (below_step HB1.out hb)) hg3 (fun k hk => by simp at hk; omega))
    clear hb hk3 hg3 hs3
    go_wp2
    exact bodyPost_ret (v := .tuple #[.agg (aH (rdH xs (i : Int))), .bool true]) (by simp [results, Try.results10, go_sem, hc0, hc1, hc2, hc3, aH]) rfl ⟨by rw [HF.out, HB0.out], HB3.out⟩
end Go.Proofs.Ytpjeklhidebmpaa.Lk
