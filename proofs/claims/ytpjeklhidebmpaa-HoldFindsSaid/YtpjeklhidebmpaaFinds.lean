/- HoldFinds: its walk. -/
import Derived.Test.YtpjeklhidebmpaaAgain
set_option linter.unusedVariables false
set_option linter.unusedSimpArgs false
namespace Go.Proofs.Ytpjeklhidebmpaa.Lk
open Go.RowKit Go.Proofs.YtpjeklhidebmpaaW.PrintWords Go.Proofs.YtpjeklhidebmpaaW.PrintWords.Kd Go.Proofs.YtpjeklhidebmpaaW.PrintLast Go.Proofs.YtpjeklhidebmpaaW.PrintMore Go.Proofs.Ytpjeklhidebmpaa.Xa Go.Proofs.Ytpjeklhidebmpaa.Own
theorem fix40 (a : Int) : (Int.tmod a 40 < 0 ∧ Int.tmod a 40 + 40 = a % 40) ∨ (¬ Int.tmod a 40 < 0 ∧ Int.tmod a 40 = a % 40) := by
  have h2 := Int.tmod_lt_of_pos a (show (0 : Int) < 40 by decide)
  have h3 : -40 < Int.tmod a 40 := Int.lt_tmod_of_pos a (by decide)
  have h4 := Int.emod_nonneg a (show (40 : Int) ≠ 0 by decide)
  have h5 := Int.emod_lt_of_pos a (show (0 : Int) < 40 by decide)
  have h6 : Int.tmod a 40 = a % 40 ∨ Int.tmod a 40 = a % 40 - 40 := by
    rw [Int.tmod_eq_emod]
    split
    · left; omega
    · right; omega
  omega
def arrB (f : Int → Bool) : List Value := (List.range 40).map fun (j : Nat) => .bool (f (j : Int))
def updB (f : Int → Bool) (j : Int) (b : Bool) : Int → Bool := fun k => if k = j then b else f k
theorem cellB {w : World} {g : Nat} {f : Int → Bool} (h : w.heap[g]? = some (.cells (arrB f).toArray 34 (0, 0))) (j : Int) (h0 : 0 ≤ j) (h1 : j < 40) : w.cell? ⟨g, j.toNat, none⟩ = some (.bool (f j)) := by
  rw [cell_of_row w _ _ _ _ (0, 0) h]
  have h2 : j.toNat < 40 := by omega
  have h3 : ((j.toNat : Nat) : Int) = j := Int.toNat_of_nonneg h0
  simp [arrB, h2, h3]
theorem setB {w : World} {g : Nat} {f : Int → Bool} (h : w.heap[g]? = some (.cells (arrB f).toArray 34 (0, 0))) (j : Int) (b : Bool) (h0 : 0 ≤ j) (h1 : j < 40) : (w.setCell ⟨g, j.toNat, none⟩ (.bool b)).heap[g]? = some (.cells (arrB (updB f j b)).toArray 34 (0, 0)) := by
  refine blk_put h _ _ (Array.toList_inj.1 ?_)
  simp only [Array.toList_setIfInBounds]
  refine List.ext_getElem (by simp [arrB]) fun k h2 h3 => ?_
  rw [List.getElem_set]
  have h4 : k < 40 := by simpa [arrB] using h3
  by_cases h5 : j.toNat = k
  · rw [if_pos h5]
    simp [arrB, updB, show (k : Int) = j by omega]
  · rw [if_neg h5]
    simp [arrB, updB, show ¬ (k : Int) = j by omega]
theorem zero40 (w : World) : (zeroValue 34).run Try.prog w = .ok (.agg (arrB fun _ => false).toArray) w := by kernel_rfl
/-- What holds at each round: the row rises, its ids are from 0 to 39, and 'has' tells them. -/
structure FInv (has : Int → Bool) (xs : List HN) : Prop where
  srt : Srt xs
  ids : ∀ x ∈ xs, 0 ≤ x.id ∧ x.id < 40
  has_ : ∀ j, 0 ≤ j → j < 40 → has j = hasB j xs
theorem FInv.start : FInv (fun _ => false) [] := ⟨List.Pairwise.nil, fun _ h => (by cases h), fun _ _ _ => by simp [hasB]⟩
theorem FInv.put {has : Int → Bool} {xs : List HN} (h : FInv has xs) (x : HN) (h0 : 0 ≤ x.id) (h1 : x.id < 40) : FInv (updB has x.id true) (put xs x) := by
  refine ⟨put_srt h.srt x, fun y hy => ?_, fun j hj0 hj1 => ?_⟩
  · rcases (put_mem h.srt x y).1 hy with rfl | ⟨hy, _⟩
    · exact ⟨h0, h1⟩
    · exact h.ids y hy
  · rw [hasB_put h.srt x j, ← h.has_ j hj0 hj1]
    unfold updB
    split
    · rename_i e
      simp [e]
    · rename_i e
      simp [e]
theorem FInv.drop {has : Int → Bool} {xs : List HN} (h : FInv has xs) (id : Int) : FInv (updB has id false) (drp xs id) := by
  refine ⟨drp_srt h.srt id, fun y hy => h.ids y ((drp_mem h.srt id y).1 hy).1, fun j hj0 hj1 => ?_⟩
  rw [hasB_drp h.srt id j, ← h.has_ j hj0 hj1]
  unfold updB
  split
  · rename_i e
    simp [e]
  · rename_i e
    simp [e]
theorem FInv.count {has : Int → Bool} {xs : List HN} (h : FInv has xs) (j : Int) (h0 : 0 ≤ j) (h1 : j < 40) : (pos (j + 1) xs : Int) = pos j xs + (if has j = true then 1 else 0) := by
  rw [h.has_ j h0 h1, pos_succ xs h.srt j]
  split <;> simp
theorem FInv.zero {has : Int → Bool} {xs : List HN} (h : FInv has xs) : pos 0 xs = 0 := pos_none (fun x hx => (h.ids x hx).1)
theorem FInv.all {has : Int → Bool} {xs : List HN} (h : FInv has xs) : pos 40 xs = xs.length := pos_all (fun x hx => (h.ids x hx).2)
theorem FInv.find {has : Int → Bool} {xs : List HN} (h : FInv has xs) (j : Int) (h0 : 0 ≤ j) (h1 : j < 40) : hasB j xs = has j ∧ (has j = true → (findH xs j).id = j) ∧ (has j = false → (findH xs j).over = 0) := by
  refine ⟨(h.has_ j h0 h1).symm, fun e => ?_, fun e => ?_⟩
  · rw [h.has_ j h0 h1] at e
    unfold findH
    rw [if_pos e]
    exact (split_at e).2
  · rw [h.has_ j h0 h1] at e
    unfold findH
    rw [if_neg (by rw [e]; decide)]
    rfl
theorem FInv.rise {has : Int → Bool} {xs : List HN} (h : FInv has xs) (i : Nat) (h0 : 0 < i) (h1 : i < xs.length) : ¬ (rdH xs (i : Int)).id ≤ (rdH xs ((i : Int) - 1)).id := by
  have := List.pairwise_iff_getElem.1 h.srt (i - 1) i (by omega) h1 (by omega)
  have e : ((i : Int) - 1).toNat = i - 1 := by omega
  simp only [rdH, e, Int.toNat_natCast]
  simp [h1, show i - 1 < xs.length by omega]
  omega
theorem Own.far {w : World} {base g o : Nat} {v u : Value} {xs : List HN} (h : Own w base v xs) (hg : g < base) : Own (w.setCell ⟨g, o, none⟩ u) base v xs :=
  R_mono (R_far (p := ⟨g, o, none⟩) (R_bound h) (fun k hk => by have h2 := hk.2.1; show k ≠ g; omega) u) (fun _ _ => trivial)
theorem ways60 (i n : Int) : (i < n ∧ i < 60) ∨ (i < n ∧ ¬ i < 60) ∨ ¬ i < n := by omega
set_option maxHeartbeats 8000000 in
set_option maxRecDepth 100000 in
theorem finds_calls (A0 : Option Addr) (c0 : Nat) (l0 : List Int) (A1 : Option Addr) (n1 c1 : Nat) (B : Nat → Bool) (w : World) (hr0 : Kd.C (Kd.int .i64) w A0 l0.length l0) (hc0 : l0.length ≤ c0)
    (hn1 : n1 ≤ c1) (hc1 : c1 ≤ maxLen) (hB : ∀ i, i < n1 → ∃ x, A1 = some x ∧ w.cell? (x.add i) = some (.bool (B i))) :
    Calls Try.prog 4 #[.slice A0 l0.length c0, .slice A1 n1 c1] w fun e w' => e = .returned (.bool true) ∧ Below w.heap.size w w' := by
  have HR := Aside0.mk hr0
  have HC := Aside0.mk hc0
  have HD := Aside0.mk hB
  have HN1 := Aside0.mk hn1
  have HM := Aside0.mk hc1
  clear hr0 hc0 hB hn1 hc1
  go_enter Try.func4, Try.ntmps4
  go_wp2_with fail
  refine (known_calls _).mono ?_
  rintro e w1 ⟨rfl, hb⟩
  have HB := Aside0.mk hb
  clear hb
  go_wp2_with fail
  generalize hw2 : w1.alloc _ = w2
  obtain ⟨g, hg0⟩ : ∃ g, g = w1.heap.size := ⟨_, rfl⟩
  have HX : Aside0 (w2.heap[g]? = some (.cells (arrB fun _ => false).toArray 34 (0, 0))) := ⟨by rw [← hw2, hg0]; exact blk_new w1 _⟩
  have HB2 : Aside0 (Below w1.heap.size w1 w2) := ⟨by rw [← hw2]; exact below_alloc (Below.refl _ _) _⟩
  rw [← hg0]
  have hg : w.heap.size ≤ g ∧ g < w2.heap.size := ⟨by rw [hg0]; exact below_size HB.out, blk_lt HX.out⟩
  have HG := Aside0.mk hg
  have HB4 := Aside0.mk (below_step HB.out HB2.out)
  clear hg HB HB2 hw2 hg0
  obtain ⟨B0, hB0⟩ : ∃ B0, B0 = w2.heap.size := ⟨_, rfl⟩
  rw [← hB0] at HG
  have HB0 := Aside0.mk hB0
  clear hB0
  go_loopg [5, 7] 61 (fun kq v5 v7 w' => ∃ (v : Value) (i : Int) (xs : List HN) (has : Int → Bool), v5 = v ∧ v7 = .int .i64 i ∧ Aside0 (0 ≤ i ∧ i ≤ 60 ∧ (kq : Int) + i = 61 ∧ (xs.length : Int) ≤ i) ∧ Aside0 (FInv has xs) ∧ Aside0 (Own w' B0 v xs) ∧ Aside0 (w'.heap[g]? = some (.cells (arrB has).toArray 34 (0, 0))) ∧ Aside0 (B0 ≤ w'.heap.size) ∧ Aside0 (Below w.heap.size w w'))
  case atStart => exact ⟨_, 0, [], _, rfl, rfl, ⟨⟨by decide, by decide, rfl, by decide⟩⟩, ⟨FInv.start⟩, ⟨own_nil _ _⟩, HX, ⟨by rw [HB0.out]; exact Nat.le_refl _⟩, HB4⟩
  case round =>
    clear HX HB4
    obtain ⟨v, i, xs, has, rfl, rfl, HI, HF, HO, HX, HS, HB⟩ := hrel
    cases gk with
    | zero => exact absurd HI.out (by omega)
    | succ k1 =>
    have p : 0 ≤ i := HI.out.1
    rcases ways60 i (l0.length : Int) with ⟨h1, h2⟩ | ⟨h1, h2⟩ | h1
    rotate_left
    · have c1b : decide (i < (l0.length : Int)) = true := decide_eq_true h1
      have c2b : decide (i < 60) = false := decide_eq_false h2
      go_wp2
      go_ret
      exact ⟨rfl, HB.out⟩
    · have c1b : decide (i < (l0.length : Int)) = false := decide_eq_false h1
      go_wp2
      go_ret
      exact ⟨rfl, HB.out⟩
    have c1b : decide (i < (l0.length : Int)) = true := decide_eq_true h1
    have c2b : decide (i < 60) = true := decide_eq_true h2
    obtain ⟨ad, e, hx⟩ := Kd.at_int HR.out i p h1
    cases e
    have hx1 := (HB.out.cell (World.block_lt_of_cell? w _ hx)).trans hx
    obtain ⟨a, ha⟩ : ∃ a, a = rd l0 i := ⟨_, rfl⟩
    rw [← ha] at hx1
    clear hx ha
    have hf := fix40 a
    obtain ⟨k, hk⟩ : ∃ k, k = a % 40 := ⟨_, rfl⟩
    have hk0 : 0 ≤ k := by omega
    have hk1 : k < 40 := by omega
    rw [← hk] at hf
    have HFX := Aside0.mk hf
    clear hf hk
    go_upto_if 32 with fail
    go_cut [8] (fun s8 wx => s8 = .int .i64 k ∧ wx = wr)
    case first =>
      rcases HFX.out with ⟨f1, f2⟩ | ⟨f1, f2⟩
      · have hd : decide (Int.tmod a 40 < 0) = true := decide_eq_true f1
        have hw : wrap64 (Int.tmod a 40 + 40) = k := by rw [f2]; exact w64 (by omega) (by omega)
        have F2 := Aside0.mk f2
        clear f1 f2
        rw [hd]
        clear hd
        go_wp2_with fail
        go_meet
        exact ⟨by first | rfl | rw [hw] | rw [F2.out], rfl⟩
      · have hd : decide (Int.tmod a 40 < 0) = false := decide_eq_false f1
        have F2 := Aside0.mk f2
        clear f1 f2
        rw [hd]
        clear hd
        go_wp2_with fail
        go_meet
        exact ⟨by rw [F2.out], rfl⟩
    case rest =>
    obtain ⟨rfl, rfl⟩ := hcut
    clear hx1 HFX
    go_upto_region 11 with fail
    go_cut [44] (fun s44 wx => ∃ b : Bool, s44 = .bool b ∧ wx = wc)
    case first =>
      by_cases h3 : i < (n1 : Int)
      · have c3b : decide (i < (n1 : Int)) = true := decide_eq_true h3
        obtain ⟨x, e, hd⟩ := HD.out i.toNat (by omega)
        cases e
        have hd1 := (HB.out.cell (World.block_lt_of_cell? w _ hd)).trans hd
        clear hd
        go_wp2_with fail
        go_meet
        exact ⟨_, rfl, rfl⟩
      · have c3b : decide (i < (n1 : Int)) = false := decide_eq_false h3
        go_wp2_with fail
        go_meet
        exact ⟨_, rfl, rfl⟩
    case rest =>
    obtain ⟨b, rfl, rfl⟩ := hcut
    go_upto_if 44 with fail
    go_cut [5] (fun s5 wx => ∃ (v : Value) (xs : List HN) (has : Int → Bool), v = s5 ∧ Aside0 ((xs.length : Int) ≤ i + 1) ∧ Aside0 (FInv has xs) ∧ Aside0 (Own wx B0 v xs) ∧ Aside0 (wx.heap[g]? = some (.cells (arrB has).toArray 34 (0, 0))) ∧ Aside0 (B0 ≤ wx.heap.size) ∧ Aside0 (Below w.heap.size w wx))
    case first =>
      cases b with
      | true =>
        go_wp2_with fail
        refine (drop_own HO.out HF.out.srt (by have := HI.out; omega) k HS.out).mono ?_
        rintro e w4 ⟨v4, rfl, ho4, hb4⟩
        have O4 := Aside0.mk ho4
        have B4 := Aside0.mk (below_step HB.out hb4)
        have hX4 := blk_below HX.out hb4
        have X4 := Aside0.mk hX4
        have S4 := Aside0.mk (Nat.le_trans HS.out hb4.size)
        have hf4 : w4.frozen? ⟨g, k.toNat, none⟩ = false := blk_frozen hX4 _
        have hc4 := cellB hX4 k hk0 hk1
        clear ho4 hb4 hX4
        go_wp2_with fail
        go_meet
        exact ⟨v4, drp xs k, updB has k false, rfl, ⟨by have := HI.out; have := drp_len (xs := xs) k; omega⟩, ⟨HF.out.drop k⟩, ⟨O4.out.far HG.out.2⟩, ⟨setB X4.out k false hk0 hk1⟩, ⟨by simpa using S4.out⟩, ⟨below_set B4.out HG.out.1⟩⟩
      | false =>
        go_wp2_with fail
        refine (put_own HO.out HF.out.srt (by have := HI.out; omega) ⟨k, i, 0⟩ HS.out).mono ?_
        rintro e w4 ⟨v4, rfl, ho4, hb4⟩
        have O4 := Aside0.mk ho4
        have B4 := Aside0.mk (below_step HB.out hb4)
        have hX4 := blk_below HX.out hb4
        have X4 := Aside0.mk hX4
        have S4 := Aside0.mk (Nat.le_trans HS.out hb4.size)
        have hf4 : w4.frozen? ⟨g, k.toNat, none⟩ = false := blk_frozen hX4 _
        have hc4 := cellB hX4 k hk0 hk1
        clear ho4 hb4 hX4
        go_wp2_with fail
        go_meet
        exact ⟨v4, put xs ⟨k, i, 0⟩, updB has k true, rfl, ⟨by have := HI.out; have := put_len (xs := xs) ⟨k, i, 0⟩; omega⟩, ⟨HF.out.put ⟨k, i, 0⟩ hk0 hk1⟩, ⟨O4.out.far HG.out.2⟩, ⟨setB X4.out k true hk0 hk1⟩, ⟨by simpa using S4.out⟩, ⟨below_set B4.out HG.out.1⟩⟩
    case rest =>
    clear HF HO HX HS HB
    obtain ⟨v, xs, has, rfl, HLN, HF, HO, HX, HS, HB⟩ := hcut
    go_wp2_with fail
    go_loopg [9, 10] 41 (fun kq v9 v10 w' => ∃ (n j : Int), v9 = .int .i64 n ∧ v10 = .int .i64 j ∧ Aside0 (0 ≤ j ∧ j ≤ 40 ∧ (kq : Int) + j = 41 ∧ n = (pos j xs : Int)) ∧ Aside0 (Own w' B0 v xs) ∧ Aside0 (w'.heap[g]? = some (.cells (arrB has).toArray 34 (0, 0))) ∧ Aside0 (B0 ≤ w'.heap.size) ∧ Aside0 (Below w.heap.size w w'))
    case atStart => exact ⟨0, 0, rfl, rfl, ⟨⟨by decide, by decide, rfl, by rw [HF.out.zero]; rfl⟩⟩, HO, HX, HS, HB⟩
    case round =>
      clear HO HX HS HB
      obtain ⟨n, j, rfl, rfl, HJ, HO, HX, HS, HB⟩ := hrel
      cases gk with
      | zero => exact absurd HJ.out (by omega)
      | succ k2 =>
      have pj : 0 ≤ j := HJ.out.1
      by_cases hj : j < 40
      · have hjb : decide (j < 40) = true := decide_eq_true hj
        have hwj : wrap64 (j + 1) = j + 1 := w64 (by omega) (by omega)
        have HFI := Aside0.mk (HF.out.find j pj hj)
        have HCN0 := Aside0.mk (HF.out.count j pj hj)
        go_wp2_with fail
        refine (find_own HO.out HF.out.srt (by have := HLN.out; have := HI.out; omega) j).mono ?_
        rintro e w4 ⟨rfl, hb4⟩
        have hfi := HFI.out
        have hcn := HCN0.out
        clear HFI HCN0
        rw [hfi.1]
        obtain ⟨x, hx⟩ : ∃ x, x = findH xs j := ⟨_, rfl⟩
        rw [← hx] at hfi ⊢
        rw [show aH x = #[.int .i64 x.id, .slice none 0 0, .int .i64 x.over, .int .i64 x.til] from rfl]
        have O4 := Aside0.mk (HO.out.below hb4)
        have B4 := Aside0.mk (below_step HB.out hb4)
        have S4 := Aside0.mk (Nat.le_trans HS.out hb4.size)
        have X4 := Aside0.mk (blk_below HX.out hb4)
        have hc4 := cellB (blk_alloc X4.out (.cells #[.int .i64 x.id, .slice none 0 0, .int .i64 x.over, .int .i64 x.til] 26)) j pj hj
        clear hb4 hx HO HX HS HB
        cases hh : has j with
        | true =>
          rw [hh] at hc4
          have hid : x.id = j := hfi.2.1 hh
          rw [if_pos hh] at hcn
          have hib : (x.id != j) = false := by rw [hid]; exact bne_self_eq_false _
          have hwn : wrap64 (n + 1) = n + 1 := w64 (by have := HJ.out; omega) (by have := HJ.out; have := pos_le j xs; have := HLN.out; have := HI.out; omega)
          have HCN := Aside0.mk (show n + 1 = (pos (j + 1) xs : Int) by have := HJ.out; omega)
          clear hid hfi hcn hh
          go_wp2_with fail
          go_roundg k2
          case measure => omega
          case rel => exact ⟨n + 1, j + 1, by first | rfl | rw [hwn], by first | rfl | rw [hwj], ⟨⟨by omega, by omega, by have := HJ.out; omega, HCN.out⟩⟩, ⟨O4.out.below (below_alloc (Below.refl _ _) _)⟩, ⟨blk_alloc X4.out _⟩, ⟨by have := S4.out; simp; omega⟩, ⟨below_alloc B4.out _⟩⟩
        | false =>
          rw [hh] at hc4
          have hov : x.over = 0 := hfi.2.2 hh
          rw [if_neg (by rw [hh]; decide)] at hcn
          have hib : (x.over != 0) = false := by rw [hov]; rfl
          have HCN := Aside0.mk (show n = (pos (j + 1) xs : Int) by have := HJ.out; omega)
          clear hov hfi hcn hh
          go_wp2_with fail
          go_roundg k2
          case measure => omega
          case rel => exact ⟨n, j + 1, rfl, by first | rfl | rw [hwj], ⟨⟨by omega, by omega, by have := HJ.out; omega, HCN.out⟩⟩, ⟨O4.out.below (below_alloc (Below.refl _ _) _)⟩, ⟨blk_alloc X4.out _⟩, ⟨by have := S4.out; simp; omega⟩, ⟨below_alloc B4.out _⟩⟩
      · have hjb : decide (j < 40) = false := decide_eq_false hj
        have hnl : n = (xs.length : Int) := by
          have h5 := HJ.out
          have e : j = 40 := by omega
          rw [h5.2.2.2, e, HF.out.all]
        subst hnl
        have HXL := Aside0.mk (show xs.length < 1000000 by have := HLN.out; have := HI.out; omega)
        obtain ⟨A5, c5, rfl, _, _⟩ := own_reads HO.out
        go_wp2_with fail
        go_loopg [13] (xs.length + 1) (fun kq v13 w' => ∃ (m : Nat), v13 = .int .i64 ((m : Int) + 1) ∧ Aside0 (m ≤ xs.length ∧ kq + m = xs.length + 1) ∧ Aside0 (Own w' B0 (.slice A5 xs.length c5) xs) ∧ Aside0 (w'.heap[g]? = some (.cells (arrB has).toArray 34 (0, 0))) ∧ Aside0 (B0 ≤ w'.heap.size) ∧ Aside0 (Below w.heap.size w w'))
        case atStart => exact ⟨0, rfl, ⟨⟨Nat.zero_le _, rfl⟩⟩, HO, HX, HS, HB⟩
        case round =>
          clear HO HX HS HB
          obtain ⟨m, rfl, HM2, HO, HX, HS, HB⟩ := hrel
          cases gk with
          | zero => exact absurd HM2.out (by omega)
          | succ k3 =>
          have HML := Aside0.mk (show m < 1000000 by have := HM2.out; have := HXL.out; omega)
          by_cases hm : m + 1 < xs.length
          · have hmb : decide ((m : Int) + 1 < (xs.length : Int)) = true := decide_eq_true (by omega)
            have hmb2 : decide (m + 1 < xs.length) = true := decide_eq_true hm
            have p1 : (0 : Int) ≤ (m : Int) + 1 := by omega
            have q1 : (m : Int) + 1 < (xs.length : Int) := by omega
            have p2 : (0 : Int) ≤ (m : Int) := by omega
            have q2 : (m : Int) < (xs.length : Int) := by omega
            have hC5 := (R_reads' HO.out).2.2
            obtain ⟨ad5, e, hx0, _⟩ := at_H hC5 ((m : Int) + 1) p1 q1
            obtain ⟨ad6, e', hy0, _⟩ := at_H hC5 (m : Int) p2 q2
            cases e
            cases e'
            have ht1 : ((m : Int) + 1).toNat = m + 1 := by omega
            rw [ht1] at hx0
            rw [Int.toNat_natCast] at hy0
            have hri := HF.out.rise (m + 1) (by omega) hm
            rw [show ((m + 1 : Nat) : Int) = (m : Int) + 1 by omega, show (m : Int) + 1 - 1 = (m : Int) by omega] at hri
            have hle : decide ((rdH xs ((m : Int) + 1)).id ≤ (rdH xs (m : Int)).id) = false := decide_eq_false hri
            have hw1 : IntKind.i64.wrap ((m : Int) + 1 - 1) = (m : Int) := by rw [IntKind.wrap_i64]; have := HML.out; omega
            have hw3 : IntKind.i64.wrap (m : Int) = (m : Int) := by rw [IntKind.wrap_i64]; have := HML.out; omega
            have hw2 : wrap64 ((m : Int) + 1 + 1) = (m : Int) + 1 + 1 := w64 (by omega) (by have := HML.out; omega)
            clear hri hC5
            go_wp2_with fail
            go_quiet (fail)
            clear hx0 hy0 hle hw1 hw3 ht1
            have HB6 := Aside0.mk (pw_below_drewN HB.out nq)
            go_wp2_with fail
            go_roundg k3
            case measure => omega
            case rel => exact ⟨m + 1, by simp [hw2], ⟨⟨by omega, by have := HM2.out; omega⟩⟩, ⟨HO.out.below (pw_below_drewN (Below.refl _ _) nq)⟩, ⟨blk_drewN HX.out nq⟩, HS, HB6⟩
          · have hmb : decide ((m : Int) + 1 < (xs.length : Int)) = false := decide_eq_false (by omega)
            have hmb2 : decide (m + 1 < xs.length) = false := decide_eq_false hm
            have hne : ((xs.length : Int) != (xs.length : Int)) = false := bne_self_eq_false _
            have hwi : wrap64 (i + 1) = i + 1 := w64 (by omega) (by omega)
            go_wp2_with fail
            go_roundg k1
            case measure => omega
            case rel => exact ⟨_, i + 1, xs, has, rfl, by first | rfl | rw [hwi], ⟨⟨by omega, by omega, by have := HI.out; omega, HLN.out⟩⟩, HF, HO, HX, HS, HB⟩
theorem finds_walk (a0 : Option Addr) (len0 cap0 : Nat) (z0 : List Int) (a1 : Option Addr) (len1 cap1 : Nat) (B1 : Nat → Bool) (w : World) (w0 : (a0 = none ∧ len0 = 0 ∧ cap0 = 0 ∧ z0 = []) ∨ ∃ x, a0 = some x ∧ len0 ≤ cap0 ∧ cap0 ≤ maxLen ∧ z0.length = cap0 ∧ (∀ i, i < z0.length → w.cell? (x.add i) = some (.int .i64 (z0.getD i 0))) ∧ ∀ n ∈ z0, (Lit.int .i64 n).wf = true) (y0 : len0 * 8 ≤ 140737488351232)
    (w1 : (a1 = none ∧ len1 = 0 ∧ cap1 = 0) ∨ ∃ x, a1 = some x ∧ len1 ≤ cap1 ∧ cap1 ≤ maxLen ∧ ∀ i, i < cap1 → w.cell? (x.add i) = some (.bool (B1 i))) :
    Calls Try.prog 4 #[.slice a0 len0 cap0, .slice a1 len1 cap1] w fun e w' => e = .returned (.bool true) ∧ Below w.heap.size w w' := by
  obtain ⟨l0, rfl, hr0, hm0, hw0, hc0⟩ := ReadsInt.ofRowC w0
  have h1 : len1 ≤ cap1 ∧ cap1 ≤ maxLen ∧ ∀ i, i < len1 → ∃ x, a1 = some x ∧ w.cell? (x.add i) = some (.bool (B1 i)) := by
    rcases w1 with ⟨rfl, rfl, rfl⟩ | ⟨x, rfl, h2, h3, h4⟩
    · exact ⟨Nat.le_refl _, Nat.zero_le _, fun i hi => absurd hi (Nat.not_lt_zero _)⟩
    · exact ⟨h2, h3, fun i hi => ⟨x, rfl, h4 i (by omega)⟩⟩
  exact finds_calls a0 cap0 l0 a1 len1 cap1 B1 w (Kd.C_of_reads (d := (0 : Int)) (h1 := fun _ => rfl) hr0) hc0 h1.1 h1.2.1 h1.2.2
end Go.Proofs.Ytpjeklhidebmpaa.Lk
