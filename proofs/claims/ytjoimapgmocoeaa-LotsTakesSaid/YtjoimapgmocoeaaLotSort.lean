/- slices' insertion sort of whole numbers by a function: a row of one's own. -/
import Derived.Test.YtjoimapgmocoeaaLotCmp
import Derived.Test.YtjoimapgmocoeaaStruct
import Derived.BigRegion
import Derived.Outline
set_option linter.unusedVariables false
set_option linter.unusedSimpArgs false
namespace Go.Proofs.Ytjoimapgmocoeaa.Lk
open Go.RowKit Go.Proofs.YtjoimapgmocoeaaW.PrintWords Go.Proofs.YtjoimapgmocoeaaW.PrintWords.Kd Go.Proofs.YtjoimapgmocoeaaW.PrintLast Go.Proofs.YtjoimapgmocoeaaW.PrintMore Go.Proofs.Ytjoimapgmocoeaa.Xa Go.Proofs.Ytjoimapgmocoeaa.Own
/-! ### the row -/
def cont (x : Int) (acc : List Int) (j : Nat) : List Int := acc.take j ++ x :: acc.drop j
theorem cont_len (x : Int) (acc : List Int) (j : Nat) : (cont x acc j).length = acc.length + 1 := by
  unfold cont
  simp
  omega
theorem cont_at (x : Int) (acc rest : List Int) (j : Nat) (h : j ≤ acc.length) : (cont x acc j ++ rest).getD j 0 = x := by
  have h1 : (acc.take j).length = j := by rw [List.length_take]; omega
  unfold cont
  rw [List.append_assoc, List.cons_append, List.getD_eq_getElem?_getD, List.getElem?_append_right (by omega), h1, Nat.sub_self]
  rfl
theorem cont_before (x : Int) (acc rest : List Int) (j m : Nat) (h : j ≤ acc.length) (hm : m < j) : (cont x acc j ++ rest).getD m 0 = acc.getD m 0 := by
  have h1 : (acc.take j).length = j := by rw [List.length_take]; omega
  unfold cont
  rw [List.append_assoc, List.getD_eq_getElem?_getD, List.getElem?_append_left (by omega), List.getElem?_take, if_pos hm, List.getD_eq_getElem?_getD]
theorem cont_swap (x : Int) (acc rest : List Int) (m : Nat) (h : m < acc.length) : ((cont x acc (m + 1) ++ rest).set (m + 1) (acc.getD m 0)).set m x = cont x acc m ++ rest := by
  have e1 : acc.take (m + 1) = acc.take m ++ [acc[m]] := by rw [List.take_succ_eq_append_getElem h]
  have e2 : acc.drop m = acc[m] :: acc.drop (m + 1) := List.drop_eq_getElem_cons h
  have h1 : (acc.take m).length = m := by rw [List.length_take]; omega
  have e3 : acc.getD m 0 = acc[m] := by simp [h]
  unfold cont
  rw [e1, e2, e3]
  simp only [List.append_assoc, List.cons_append, List.nil_append]
  rw [List.set_append_right _ _ (by omega), h1, show m + 1 - m = 1 by omega, List.set_append_right _ _ (by omega), h1, Nat.sub_self]
  rfl
theorem insAt_len (lt : Int → Int → Bool) (x : Int) (acc : List Int) : ∀ j, (insAt lt x acc j).length = acc.length + 1
  | 0 => by simp [insAt]
  | j + 1 => by
    unfold insAt
    split
    · exact insAt_len lt x acc j
    · simp
      omega
theorem insAt_stop {lt : Int → Int → Bool} {x : Int} {acc : List Int} {j : Nat} (h : lt x (acc.getD j 0) = false) : insAt lt x acc (j + 1) = cont x acc (j + 1) := by
  unfold insAt
  rw [if_neg (by rw [h]; decide)]
  rfl
theorem insAt_go {lt : Int → Int → Bool} {x : Int} {acc : List Int} {j : Nat} (h : lt x (acc.getD j 0) = true) : insAt lt x acc (j + 1) = insAt lt x acc j := by
  conv => lhs; unfold insAt
  rw [if_pos h]
theorem fold_snoc (lt : Int → Int → Bool) (xs : List Int) (i : Nat) (h : i < xs.length) : sortL lt (xs.take (i + 1)) = insAt lt (xs.getD i 0) (sortL lt (xs.take i)) (sortL lt (xs.take i)).length := by
  unfold sortL
  rw [List.take_succ_eq_append_getElem h, List.foldl_append]
  simp [h]
theorem sortL_len (lt : Int → Int → Bool) : ∀ (xs : List Int), (sortL lt xs).length = xs.length := by
  intro xs
  have h : ∀ (ys acc : List Int), (ys.foldl (fun acc x => insAt lt x acc acc.length) acc).length = acc.length + ys.length := by
    intro ys
    induction ys with
    | nil => intro acc; simp
    | cons y ys ih =>
      intro acc
      simp only [List.foldl_cons]
      rw [ih, insAt_len]
      simp
      omega
  unfold sortL
  rw [h]
  simp
theorem insAt_perm (lt : Int → Int → Bool) (x : Int) (acc : List Int) : ∀ j, (insAt lt x acc j).Perm (x :: acc)
  | 0 => List.Perm.refl _
  | j + 1 => by
    unfold insAt
    split
    · exact insAt_perm lt x acc j
    · have h : (acc.take (j + 1) ++ x :: acc.drop (j + 1)).Perm (x :: (acc.take (j + 1) ++ acc.drop (j + 1))) := List.perm_middle
      rwa [List.take_append_drop] at h
theorem sortL_perm (lt : Int → Int → Bool) (xs : List Int) : (sortL lt xs).Perm xs := by
  have h : ∀ (ys acc : List Int), (ys.foldl (fun acc x => insAt lt x acc acc.length) acc).Perm (acc ++ ys) := by
    intro ys
    induction ys with
    | nil => intro acc; simp
    | cons y ys ih =>
      intro acc
      simp only [List.foldl_cons]
      refine (ih _).trans ?_
      have h1 := (insAt_perm lt y acc acc.length).append_right ys
      exact h1.trans (by simpa using (List.perm_middle (a := y) (l₁ := acc) (l₂ := ys)).symm)
  exact h xs []
theorem sort_start (lt : Int → Int → Bool) (xs : List Int) : sortL lt (xs.take (0 + 1)) ++ xs.drop (0 + 1) = xs := by
  cases xs with
  | nil => rfl
  | cons x xs => rfl
/-! ### worlds -/
theorem grown_trans {W W1 W2 : World} {row : Option Nat} (h : W.grownBy W1 row) (k : W1.grownBy W2 row) : W.grownBy W2 row :=
  ⟨k.os.trans h.os, k.tape.trans h.tape, k.output.trans h.output, Nat.le_trans h.size k.size, fun j hj hne => (k.block j (Nat.lt_of_lt_of_le hj h.size) hne).trans (h.block j hj hne)⟩
theorem grown_below {W W1 : World} (row : Option Nat) (h : Below W.heap.size W W1) : W.grownBy W1 row := ⟨h.os, h.tape, h.output, h.size, fun j hj _ => h.block j hj⟩
theorem grown_drewN {W : World} (row : Option Nat) (q : Nat) : W.grownBy (W.drewN q) row := grown_below row (pw_below_drewN (Below.refl _ _) q)
/-- A row of whole numbers of one's own. -/
abbrev OwnI (w : World) (base : Nat) (v : Value) (xs : List Int) : Prop := (Kd.int .i64).R 3 w base (fun _ => True) v xs
theorem OwnI.put {w : World} {base g cap : Nat} {xs : List Int} (h : OwnI w base (.slice (some ⟨g, 0, none⟩) xs.length cap) xs) (i : Nat) (x : Int) :
    OwnI (w.setCell ⟨g, i, none⟩ (.int .i64 x)) base (.slice (some ⟨g, 0, none⟩) xs.length cap) (xs.set i x) ∧ w.grownBy (w.setCell ⟨g, i, none⟩ (.int .i64 x)) (some g) := by
  have := R_put (enc := Value.int .i64) (h1 := fun _ => rfl) h (i : Int) x
  rw [Int.toNat_natCast] at this
  exact this
theorem OwnI.below {w w' : World} {base : Nat} {v : Value} {xs : List Int} (h : OwnI w base v xs) (hb : Below w.heap.size w w') : OwnI w' base v xs := R_below h hb
theorem OwnI.cell {w : World} {base g cap : Nat} {xs : List Int} (h : OwnI w base (.slice (some ⟨g, 0, none⟩) xs.length cap) xs) (i : Nat) (hi : i < xs.length) : w.cell? ⟨g, i, none⟩ = some (.int .i64 (xs.getD i 0)) := by
  obtain ⟨ad, e, hx⟩ := Kd.at_int (R_reads' h).2.2 (i : Int) (by omega) (by omega)
  cases e
  rw [add_plain, Int.toNat_natCast] at hx
  simpa [rd] using hx
theorem OwnI.blk {w : World} {base g n cap : Nat} {xs : List Int} (h : OwnI w base (.slice (some ⟨g, 0, none⟩) n cap) xs) : ∃ cells, w.heap[g]? = some (.cells cells 3 (0, 0)) := by
  obtain ⟨_, inner, hown, _⟩ := h
  exact own_typed hown g (by simp [Value.ownBlock])
set_option maxHeartbeats 8000000 in
set_option maxRecDepth 100000 in
theorem insertion_calls (gf : Nat) (cb : Array Value) (cmpF : Int → Int → Int) (base g cap : Nat) (xs : List Int) (w : World) (eg : ∀ args w, (callFunc gf args).run Try.prog w = .ok (.enter gf args) w) (HO : OwnI w base (.slice (some ⟨g, 0, none⟩) xs.length cap) xs) (hl : xs.length < 1000000)
    (hf : ∀ (W : World) (a b : Int), w.grownBy W (some g) → a ∈ xs → b ∈ xs → Calls Try.prog gf (#[.int .i64 a, .int .i64 b] ++ cb) W fun e w' => e = .returned (.int .i64 (cmpF a b)) ∧ Below W.heap.size W w') :
    Calls Try.prog 41 #[.slice (some ⟨g, 0, none⟩) xs.length cap, .int .i64 0, .int .i64 xs.length, .func (.func gf) #[] cb] w fun e w' =>
      e = .returned (.tuple #[]) ∧ OwnI w' base (.slice (some ⟨g, 0, none⟩) xs.length cap) (sortL (fun a b => decide (cmpF a b < 0)) xs) ∧ w.grownBy w' (some g) := by
  obtain ⟨lt, hlt⟩ : ∃ lt : Int → Int → Bool, lt = fun a b => decide (cmpF a b < 0) := ⟨_, rfl⟩
  rw [← hlt]
  have HLT := Aside0.mk hlt
  have HF := Aside0.mk hf
  have HO0 := Aside0.mk HO
  clear hlt hf HO
  go_enter Try.func41, Try.ntmps41
  go_wp2_with fail
  go_loopg [8] (xs.length + 2) (fun kq v8 w' => ∃ i : Nat, v8 = .int .i64 ((i : Int) + 1) ∧ Aside0 (i ≤ xs.length ∧ kq + i = xs.length + 2) ∧ Aside0 (OwnI w' base (.slice (some ⟨g, 0, none⟩) xs.length cap) (sortL lt (xs.take (i + 1)) ++ xs.drop (i + 1))) ∧ Aside0 (w.grownBy w' (some g)))
  case atStart => exact ⟨0, rfl, ⟨⟨Nat.zero_le _, rfl⟩⟩, ⟨by rw [sort_start]; exact HO0.out⟩, ⟨World.grownBy.refl _ _⟩⟩
  case round =>
    obtain ⟨i, rfl, HI, HO, HG⟩ := hrel
    cases gk with
    | zero => exact absurd HI.out (by omega)
    | succ k1 =>
    by_cases h1 : i + 1 < xs.length
    · have c1b : decide ((i : Int) + 1 < (xs.length : Int)) = true := decide_eq_true (by omega)
      have c1c : decide (i + 1 < xs.length) = true := decide_eq_true h1
      have hw2 : wrap64 ((i : Int) + 1 + 1) = (i : Int) + 1 + 1 := by unfold wrap64; omega
      obtain ⟨x, hx⟩ : ∃ x, x = xs.getD (i + 1) 0 := ⟨_, rfl⟩
      obtain ⟨acc, hacc⟩ : ∃ acc, acc = sortL lt (xs.take (i + 1)) := ⟨_, rfl⟩
      obtain ⟨rest, hrest⟩ : ∃ rest, rest = xs.drop (i + 2) := ⟨_, rfl⟩
      have hal : acc.length = i + 1 := by rw [hacc, sortL_len, List.length_take]; omega
      have hcont : sortL lt (xs.take (i + 1)) ++ xs.drop (i + 1) = cont x acc (i + 1) ++ rest := by
        have t1 : acc.take (i + 1) = acc := List.take_of_length_le (by omega)
        have t2 : acc.drop (i + 1) = [] := List.drop_of_length_le (by omega)
        unfold cont
        rw [← hacc, t1, t2, List.drop_eq_getElem_cons h1, hrest, hx]
        simp [h1]
      have hnext : sortL lt (xs.take (i + 1 + 1)) ++ xs.drop (i + 1 + 1) = insAt lt x acc (i + 1) ++ rest := by
        rw [fold_snoc lt xs (i + 1) h1, ← hacc, hal, ← hx, hrest]
      have hxm : x ∈ xs := by rw [hx]; simp [h1]
      have ham : ∀ m, m < i + 1 → acc.getD m 0 ∈ xs := fun m hm => by
        have h2 : acc.getD m 0 ∈ acc := by
          rw [List.getD_eq_getElem?_getD, List.getElem?_eq_getElem (by omega)]
          exact List.getElem_mem _
        have h3 : acc.getD m 0 ∈ xs.take (i + 1) := (sortL_perm lt (xs.take (i + 1))).mem_iff.1 (by rw [← hacc]; exact h2)
        exact List.mem_of_mem_take h3
      have hlc : ∀ j, j ≤ i + 1 → (cont x acc j ++ rest).length = xs.length := fun j hj => by
        rw [List.length_append, cont_len, hrest, List.length_drop]
        omega
      rw [hcont] at HO
      have HN := Aside0.mk hnext
      have HXM := Aside0.mk hxm
      have HAM := Aside0.mk ham
      have HLC := Aside0.mk hlc
      have HAL := Aside0.mk hal
      clear hx hacc hrest hal hcont hnext hxm ham hlc
      go_wp2_with fail
      go_loopg [9] (i + 2) (fun kq v9 w' => ∃ j : Nat, v9 = .int .i64 (j : Int) ∧ Aside0 (j ≤ i + 1 ∧ kq = j + 1) ∧ Aside0 (OwnI w' base (.slice (some ⟨g, 0, none⟩) xs.length cap) (cont x acc j ++ rest)) ∧ Aside0 (insAt lt x acc j = insAt lt x acc (i + 1)) ∧ Aside0 (w.grownBy w' (some g)))
      case atStart => exact ⟨i + 1, rfl, ⟨⟨Nat.le_refl _, rfl⟩⟩, HO, ⟨rfl⟩, HG⟩
      case round =>
        clear HO HG
        obtain ⟨j, rfl, HJ, HO, HE, HG⟩ := hrel
        cases j with
        | zero =>
          have hz : decide ((0 : Int) < 0) = false := by decide
          have hz2 : decide (0 < 0) = false := by decide
          go_wp2_with fail
          go_quiet (fail)
          go_wp2_with fail
          go_roundg k1
          case measure => omega
          case rel => exact ⟨i + 1, by simp [hw2], ⟨⟨by omega, by have := HI.out; omega⟩⟩, ⟨by rw [HN.out, ← HE.out]; exact HO.out.below (pw_below_drewN (Below.refl _ _) nq)⟩, ⟨grown_trans HG.out (grown_drewN _ nq)⟩⟩
        | succ m =>
          have hmi : m < i + 1 := by have := HJ.out; omega
          have hm6 : m < 1000000 := by omega
          have hz : decide ((0 : Int) < (m : Int) + 1) = true := decide_eq_true (by omega)
          have hz2 : decide (0 < m + 1) = true := decide_eq_true (by omega)
          have p1 : (0 : Int) ≤ (m : Int) + 1 := by omega
          have q1 : (m : Int) + 1 < (xs.length : Int) := by omega
          have q1' : m + 1 < xs.length := by omega
          have p2 : (0 : Int) ≤ (m : Int) := by omega
          have q2 : (m : Int) < (xs.length : Int) := by omega
          have ht1 : ((m : Int) + 1).toNat = m + 1 := by omega
          have hw3 : IntKind.i64.wrap (m : Int) = (m : Int) := by rw [IntKind.wrap_i64]; omega
          have hw4 : IntKind.i64.wrap ((m : Int) + 1 - 1) = (m : Int) := by rw [IntKind.wrap_i64]; omega
          have hlen := HLC.out (m + 1) (by omega)
          have HO2 : OwnI wr base (.slice (some ⟨g, 0, none⟩) (cont x acc (m + 1) ++ rest).length cap) (cont x acc (m + 1) ++ rest) := by rw [hlen]; exact HO.out
          have hc1 := HO2.cell (m + 1) (by omega)
          have hc0 := HO2.cell m (by omega)
          rw [cont_at x acc rest (m + 1) (by rw [HAL.out]; omega)] at hc1
          rw [cont_before x acc rest (m + 1) m (by rw [HAL.out]; omega) (by omega)] at hc0
          obtain ⟨y, hy⟩ : ∃ y, y = acc.getD m 0 := ⟨_, rfl⟩
          have hym : y ∈ xs := by rw [hy]; exact HAM.out m hmi
          rw [← hy] at hc0
          have HY := Aside0.mk hy
          have HYM := Aside0.mk hym
          have HL2 := Aside0.mk hlen
          clear hlen HO2 hy hym
          go_wp2_with fail
          refine wp_region_still_tail 14 (by kernel_rfl) (by kernel_rfl) ?_
          simp only [List.take_succ_cons, List.take_zero, List.drop_succ_cons, List.drop_zero]
          repeat still_step
          refine wpStill_nil ?_
          change wpList _ _ _ _ _ wr.drew
          obtain ⟨w5, hw5⟩ : ∃ w5, w5 = wr.drew := ⟨_, rfl⟩
          rw [← hw5]
          have hb5 : Below wr.heap.size wr w5 := by rw [hw5]; exact pw_below_drewN (Below.refl _ _) 1
          have O5 := Aside0.mk (HO.out.below hb5)
          have G5 := Aside0.mk (grown_trans HG.out (grown_below _ hb5))
          clear hw5 hb5 hc0 hc1 HO HG
          go_wp2_with fail
          refine (HF.out w5 x y G5.out HXM.out HYM.out).mono ?_
          rintro e w6 ⟨rfl, hb6⟩
          have O6 := Aside0.mk (O5.out.below hb6)
          have G6 := Aside0.mk (grown_trans G5.out (grown_below _ hb6))
          clear hb6 O5 G5
          have hlx : lt x y = decide (cmpF x y < 0) := by rw [HLT.out]
          have HLX := Aside0.mk hlx
          clear hlx
          by_cases hcm : cmpF x y < 0
          · have hcb : decide (cmpF x y < 0) = true := decide_eq_true hcm
            clear hcm
            have O6L : OwnI w6 base (.slice (some ⟨g, 0, none⟩) (cont x acc (m + 1) ++ rest).length cap) (cont x acc (m + 1) ++ rest) := by rw [HL2.out]; exact O6.out
            have hc1 := O6L.cell (m + 1) (by rw [HL2.out]; omega)
            have hc0 := O6L.cell m (by rw [HL2.out]; omega)
            rw [cont_at x acc rest (m + 1) (by rw [HAL.out]; omega)] at hc1
            rw [cont_before x acc rest (m + 1) m (by rw [HAL.out]; omega) (by omega), ← HY.out] at hc0
            obtain ⟨cells, hblk⟩ := O6L.blk
            have hf0 := blk_frozen hblk m
            have hf1 := blk_frozen hblk (m + 1)
            have O6M := Aside0.mk O6L
            clear O6L hblk
            go_wp2_with fail
            go_region
            have HP := O6M.out.put (m + 1) y
            have HP2 := (show OwnI _ base (.slice (some ⟨g, 0, none⟩) ((cont x acc (m + 1) ++ rest).set (m + 1) y).length cap) _ from by rw [List.length_set]; exact HP.1).put m x
            rw [List.length_set] at HP2
            have hsw := cont_swap x acc rest m (by rw [HAL.out]; omega)
            rw [← HY.out] at hsw
            rw [hsw] at HP2
            have O7 := Aside0.mk HP2.1
            have G7 := Aside0.mk (grown_trans G6.out (grown_trans HP.2 HP2.2))
            have hwm : wrap64 ((m : Int) + 1 - 1) = (m : Int) := by unfold wrap64; omega
            clear HP HP2 hsw hc1 hc0 hf0 hf1
            go_wp2_with fail
            go_roundg (m + 1)
            case measure => have := HJ.out; omega
            case rel => exact ⟨m, by simp [hwm], ⟨⟨by omega, rfl⟩⟩, ⟨by rw [← HL2.out]; exact O7.out⟩, ⟨by rw [← HE.out, insAt_go (by rw [← HY.out, HLX.out]; exact hcb)]⟩, ⟨grown_trans G7.out (grown_drewN _ 1)⟩⟩
          · have hcb : decide (cmpF x y < 0) = false := decide_eq_false hcm
            clear hcm
            go_wp2_with fail
            go_roundg k1
            case measure => omega
            case rel => exact ⟨i + 1, by simp [hw2], ⟨⟨by omega, by have := HI.out; omega⟩⟩, ⟨by rw [HN.out, ← HE.out, insAt_stop (by rw [← HY.out, HLX.out]; exact hcb)]; exact O6.out⟩, G6⟩
    · have c1b : decide ((i : Int) + 1 < (xs.length : Int)) = false := decide_eq_false (by omega)
      have c1c : decide (i + 1 < xs.length) = false := decide_eq_false h1
      go_wp2_with fail
      have ht : xs.take (i + 1) = xs := List.take_of_length_le (by omega)
      have hd : xs.drop (i + 1) = [] := List.drop_of_length_le (by omega)
      have h9 := HO.out
      rw [ht, hd, List.append_nil] at h9
      go_end0
      exact ⟨rfl, h9, HG.out⟩
end Go.Proofs.Ytjoimapgmocoeaa.Lk
