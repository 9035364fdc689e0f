/- order: the places of the lots that may be taken of, as they are taken. -/
import Derived.Test.YtjoimapgmocoeaaLotSort
import Derived.Test.YtjoimapgmocoeaaXa10
import Derived.Test.YtjoimapgmocoeaaXa11
set_option linter.unusedVariables false
set_option linter.unusedSimpArgs false
namespace Go.Proofs.Ytjoimapgmocoeaa.Lk
open Go.RowKit Go.Proofs.YtjoimapgmocoeaaW.PrintWords Go.Proofs.YtjoimapgmocoeaaW.PrintWords.Kd Go.Proofs.YtjoimapgmocoeaaW.PrintLast Go.Proofs.YtjoimapgmocoeaaW.PrintMore Go.Proofs.Ytjoimapgmocoeaa.Xa Go.Proofs.Ytjoimapgmocoeaa.Own
set_option maxHeartbeats 2000000 in
theorem insertion_empty (gf : Nat) (cb : Array Value) (v : Value) (w : World) :
    Calls Try.prog 41 #[v, .int .i64 0, .int .i64 0, .func (.func gf) #[] cb] w fun e w' => e = .returned (.tuple #[]) ∧ w = w' := by
  go_enter Try.func41, Try.ntmps41
  go_wp2_with fail
  go_loopg [8] 1 (fun kq v8 w' => v8 = .int .i64 1 ∧ w = w')
  case atStart => exact ⟨rfl, rfl⟩
  case round =>
    obtain ⟨rfl, rfl⟩ := hrel
    go_wp2_with fail
    go_end0
    exact ⟨rfl, rfl⟩
/-- What is known of the sort of a short row. -/
def Sorts (base : Nat) (v : Value) (xs : List Int) (lt : Int → Int → Bool) (w : World) (e : Ending) (w' : World) : Prop :=
  e = .returned (.tuple #[]) ∧ OwnI w' base v (sortL lt xs) ∧ w.grownBy w' v.ownBlock
theorem insertion_any (gf : Nat) (cb : Array Value) (cmpF : Int → Int → Int) (base : Nat) (v : Value) (xs : List Int) (w : World) (eg : ∀ args w, (callFunc gf args).run Try.prog w = .ok (.enter gf args) w) (HO : OwnI w base v xs) (hl : xs.length < 20)
    (hf : ∀ (W : World) (a b : Int), w.grownBy W v.ownBlock → a ∈ xs → b ∈ xs → Calls Try.prog gf (#[.int .i64 a, .int .i64 b] ++ cb) W fun e w' => e = .returned (.int .i64 (cmpF a b)) ∧ Below W.heap.size W w') :
    Calls Try.prog 41 #[v, .int .i64 0, .int .i64 xs.length, .func (.func gf) #[] cb] w (Sorts base v xs (fun a b => decide (cmpF a b < 0)) w) := by
  cases hx : xs with
  | nil =>
    subst hx
    exact (insertion_empty gf cb v w).mono fun e w' ⟨h1, h2⟩ => by subst h2; exact ⟨h1, HO, World.grownBy.refl _ _⟩
  | cons y ys =>
    rw [← hx]
    have h0 : 0 < xs.length := by rw [hx]; simp
    obtain ⟨g, cap, rfl⟩ : ∃ g cap, v = .slice (some ⟨g, 0, none⟩) xs.length cap := by
      obtain ⟨_, inner, hown, hr⟩ := HO
      rcases hown.2 with ⟨_, h1⟩ | ⟨g, cap, cur, he, _⟩
      · omega
      · exact ⟨g, cap, he⟩
    exact insertion_calls gf cb cmpF base g cap xs w eg HO (by omega) hf
set_option maxHeartbeats 2000000 in
theorem stable_calls (gf : Nat) (cb : Array Value) (cmpF : Int → Int → Int) (base : Nat) (v : Value) (xs : List Int) (w : World) (eg : ∀ args w, (callFunc gf args).run Try.prog w = .ok (.enter gf args) w) (HO : OwnI w base v xs) (hl : xs.length < 20)
    (hf : ∀ (W : World) (a b : Int), w.grownBy W v.ownBlock → a ∈ xs → b ∈ xs → Calls Try.prog gf (#[.int .i64 a, .int .i64 b] ++ cb) W fun e w' => e = .returned (.int .i64 (cmpF a b)) ∧ Below W.heap.size W w') :
    Calls Try.prog 39 #[v, .int .i64 xs.length, .func (.func gf) #[] cb] w (Sorts base v xs (fun a b => decide (cmpF a b < 0)) w) := by
  have HI := Aside0.mk (insertion_any gf cb cmpF base v xs w eg HO hl hf)
  have h1 : decide ((20 : Int) ≤ (xs.length : Int)) = false := decide_eq_false (by omega)
  have h2 : decide ((20 : Int) < (xs.length : Int)) = false := decide_eq_false (by omega)
  clear hf HO
  go_enter Try.func39, Try.ntmps39
  go_wp2_with fail
  go_loopg [7, 8] 1 (fun kq v7 v8 w' => v7 = .int .i64 0 ∧ v8 = .int .i64 20 ∧ w = w')
  case atStart => exact ⟨rfl, rfl, rfl⟩
  case round =>
    obtain ⟨rfl, rfl, rfl⟩ := hrel
    go_wp2_with fail
    refine HI.out.mono ?_
    rintro e w1 ⟨rfl, h3, h4⟩
    have H3 := Aside0.mk h3
    have H4 := Aside0.mk h4
    clear h3 h4
    go_wp2_with fail
    go_loopg [6, 7, 8] 1 (fun kq v6 v7 v8 w' => v6 = .int .i64 20 ∧ w1 = w')
    case atStart => exact ⟨rfl, rfl⟩
    case round =>
      obtain ⟨rfl, rfl⟩ := hrel
      go_wp2_with fail
      go_end0
      exact ⟨rfl, H3.out, H4.out⟩
set_option maxHeartbeats 2000000 in
theorem sortStable_calls (gf : Nat) (cb : Array Value) (cmpF : Int → Int → Int) (base : Nat) (v : Value) (xs : List Int) (w : World) (eg : ∀ args w, (callFunc gf args).run Try.prog w = .ok (.enter gf args) w) (HO : OwnI w base v xs) (hl : xs.length < 20)
    (hf : ∀ (W : World) (a b : Int), w.grownBy W v.ownBlock → a ∈ xs → b ∈ xs → Calls Try.prog gf (#[.int .i64 a, .int .i64 b] ++ cb) W fun e w' => e = .returned (.int .i64 (cmpF a b)) ∧ Below W.heap.size W w') :
    Calls Try.prog 34 #[v, .func (.func gf) #[] cb] w (Sorts base v xs (fun a b => decide (cmpF a b < 0)) w) := by
  have HI := Aside0.mk (stable_calls gf cb cmpF base v xs w eg HO hl hf)
  obtain ⟨A, c, rfl, _, _⟩ := R_reads HO
  clear hf HO
  go_enter Try.func34, Try.ntmps34
  go_wp2_with fail
  refine HI.out.mono ?_
  rintro e w1 ⟨rfl, h3, h4⟩
  have H3 := Aside0.mk h3
  have H4 := Aside0.mk h4
  clear h3 h4
  go_wp2_with fail
  go_end0
  exact ⟨rfl, H3.out, H4.out⟩
theorem candL_len (now : Int) : ∀ (i : Nat) (l : List SL), (candL now i l).length ≤ l.length
  | _, [] => Nat.le_refl _
  | i, x :: xs => by
    unfold candL
    have := candL_len now (i + 1) xs
    split
    · simpa using this
    · simp
      omega
theorem candL_mem (now : Int) (a : Int) : ∀ (i : Nat) (l : List SL), a ∈ candL now i l → (i : Int) ≤ a ∧ a < (i : Int) + (l.length : Int)
  | _, [], h => by cases h
  | i, x :: xs, h => by
    unfold candL at h
    have ih := candL_mem now a (i + 1) xs
    split at h
    · rcases List.mem_cons.1 h with rfl | h
      · simp
        omega
      · have := ih h
        simp
        omega
    · have := ih h
      simp
      omega
theorem valid_calls (x : SL) (now : Int) (w : World) : Calls Try.prog 29 #[.agg #[.int .i64 x.f0, .int .i64 x.f1, .int .i64 x.f2, .int .i64 x.f3, .int .i64 x.f4, .int .i64 x.f5, .int .i64 x.f6, .int .i64 x.f7, .int .i64 x.f8], .int .i64 now] w fun e w' => e = .returned (.bool (validB x now)) ∧ Below w.heap.size w w' :=
  lots_valid.calls x.f0 x.f1 x.f2 x.f3 x.f4 x.f5 x.f6 x.f7 x.f8 now _ w (by unfold lots_valid.f validB; split <;> simp [*])
theorem rest_calls (x : SL) (w : World) : Calls Try.prog 18 #[.agg #[.int .i64 x.f0, .int .i64 x.f1, .int .i64 x.f2, .int .i64 x.f3, .int .i64 x.f4, .int .i64 x.f5, .int .i64 x.f6, .int .i64 x.f7, .int .i64 x.f8]] w fun e w' => e = .returned (.int .i64 (restW x)) ∧ Below w.heap.size w w' :=
  lots_Rest.calls x.f0 x.f1 x.f2 x.f3 x.f4 x.f5 x.f6 x.f7 x.f8 _ w rfl
theorem infoI : (Try.prog.info? 3).map (fun i => (i.zero, i.size, i.bytes)) = some (some (.int .i64 0), 1, 8) := by kernel_rfl
theorem nine {w : World} {g : Nat} {v0 v1 v2 v3 v4 v5 v6 v7 v8 : Value} {t : TypeId} (h : w.heap[g]? = some (.cells #[v0, v1, v2, v3, v4, v5, v6, v7, v8] t (0, 0))) : w.cell? ⟨g, 0, none⟩ = some v0 ∧ w.cell? ⟨g, 1, none⟩ = some v1 ∧ w.cell? ⟨g, 2, none⟩ = some v2 ∧ w.cell? ⟨g, 3, none⟩ = some v3 ∧ w.cell? ⟨g, 4, none⟩ = some v4 ∧ w.cell? ⟨g, 5, none⟩ = some v5 ∧ w.cell? ⟨g, 6, none⟩ = some v6 ∧ w.cell? ⟨g, 7, none⟩ = some v7 ∧ w.cell? ⟨g, 8, none⟩ = some v8 := by
  refine ⟨?_, ?_, ?_, ?_, ?_, ?_, ?_, ?_, ?_⟩ <;> (rw [cell_of_row w g _ _ _ (0, 0) h]; rfl)
theorem one_I {W : World} {g : Nat} {x : Int} (H : W.heap[g]? = some (.cells #[.int .i64 x] 3 (0, 0))) : (Kd.int .i64).C W (some ⟨g, 0, none⟩) 1 [x] := by
  refine ⟨rfl, by decide, fun _ => ⟨_, rfl, fun j p hj => ?_⟩⟩
  have h0 : j = 0 := by
    cases j with
    | zero => rfl
    | succ j => simp at hj
  subst h0
  simp at hj
  subst hj
  refine ⟨[.int .i64 x], rfl, rfl, fun i u hi => ?_⟩
  rw [add_plain, cell_of_row W g _ _ _ (0, 0) H]
  have hi2 := (List.getElem?_eq_some_iff.1 hi).1
  have : i = 0 := by simp at hi2; omega
  subst this
  simpa using hi
theorem flatI : Flat (Kd.int .i64) := fun w w' base ok x cs h => h
set_option maxHeartbeats 8000000 in
set_option maxRecDepth 100000 in
theorem order_calls (A : Option Addr) (c : Nat) (l : List SL) (now : Int) (w : World) (hC : Kd.C kL w A l.length l) (hl : l.length < 15) :
    Calls Try.prog 28 #[.slice A l.length c, .int .i64 now] w fun e w' => ∃ v1, e = .returned v1 ∧ OwnI w' w.heap.size v1 (orderL l now) ∧ Below w.heap.size w w' := by
  have eg : ∀ args w, (callFunc 35 args).run Try.prog w = .ok (.enter 35 args) w := Go.Proofs.enters_of Try.func35 (by kernel_rfl) rfl
  have HC := Aside0.mk hC
  clear hC
  go_enter Try.func28, Try.ntmps28
  go_wp2_with fail
  generalize hw2 : w.alloc _ = w2
  obtain ⟨b0, hb0⟩ : ∃ b0, b0 = w.heap.size := ⟨_, rfl⟩
  have hk : w2.heap[b0]? = some (.cells #[.slice A l.length c] 22 (0, 0)) := by rw [← hw2, hb0]; exact blk_new w _
  have hs2 : b0 + 1 ≤ w2.heap.size := by rw [← hw2, hb0]; simp
  have hB2 : Below w.heap.size w w2 := by rw [← hw2]; exact below_alloc (Below.refl _ _) _
  rw [← hb0] at hB2 ⊢
  have HB := Aside0.mk hB2
  have HK := Aside0.mk hk
  have HS := Aside0.mk hs2
  have HB0 := Aside0.mk hb0
  clear hw2 hk hs2 hB2 hb0
  go_loopg [5, 10] (l.length + 1) (fun kq v5 v10 w' => ∃ (i : Nat) (v : Value) (ys : List Int), v = v5 ∧ v10 = .int .i64 (i : Int) ∧ Aside0 (i ≤ l.length ∧ kq + i = l.length + 1) ∧ Aside0 (ys ++ candL now i (l.drop i) = candL now 0 l) ∧ Aside0 (OwnI w' (b0 + 1) v ys) ∧ Aside0 (w'.heap[b0]? = some (.cells #[.slice A l.length c] 22 (0, 0))) ∧ Aside0 (b0 + 1 ≤ w'.heap.size) ∧ Aside0 (Below b0 w w'))
  case atStart => exact ⟨0, _, [], rfl, rfl, ⟨⟨Nat.zero_le _, rfl⟩⟩, ⟨rfl⟩, ⟨R_nil _ _ _ _ _⟩, HK, HS, HB⟩
  case round =>
    clear HK HS HB
    obtain ⟨i, v, ys, rfl, rfl, HI, HY, HO, HK, HS, HB⟩ := hrel
    cases gk with
    | zero => exact absurd HI.out (by omega)
    | succ k1 =>
    by_cases h1 : i < l.length
    · have c1b : decide ((i : Int) < (l.length : Int)) = true := decide_eq_true (by omega)
      have c1c : decide (i < l.length) = true := decide_eq_true h1
      have p1 : (0 : Int) ≤ (i : Int) := by omega
      have q1 : (i : Int) < (l.length : Int) := by omega
      have hwi : wrap64 ((i : Int) + 1) = (i : Int) + 1 := by unfold wrap64; omega
      obtain ⟨ad, e, hx0, hx1, hx2, hx3, hx4, hx5, hx6, hx7, hx8⟩ := at_T33 (C_below HC.out (by rw [← HB0.out]; exact HB.out)) (i : Int) p1 q1
      cases e
      simp only [Int.toNat_natCast] at hx0 hx1 hx2 hx3 hx4 hx5 hx6 hx7 hx8
      obtain ⟨x, hx⟩ : ∃ x, x = rd_T33 l (i : Int) := ⟨_, rfl⟩
      rw [← hx] at hx0 hx1 hx2 hx3 hx4 hx5 hx6 hx7 hx8
      have hdr : l.drop i = x :: l.drop (i + 1) := by
        rw [List.drop_eq_getElem_cons h1, hx]
        simp [rd_T33, h1]
      have HDR := Aside0.mk hdr
      clear hx hdr
      go_wp2_with fail
      refine (valid_calls x now _).mono ?_
      rintro e w3 ⟨rfl, hb3⟩
      have hk3 := blk_below (blk_new wr (.cells #[.int .i64 x.f0, .int .i64 x.f1, .int .i64 x.f2, .int .i64 x.f3, .int .i64 x.f4, .int .i64 x.f5, .int .i64 x.f6, .int .i64 x.f7, .int .i64 x.f8] 33)) hb3
      obtain ⟨hz0, hz1, hz2, hz3, hz4, hz5, hz6, hz7, hz8⟩ := nine hk3
      have hb3' := below_step (below_alloc (Below.refl wr.heap.size wr) _) hb3
      have O3 := Aside0.mk (HO.out.below hb3')
      have K3 := Aside0.mk (blk_below HK.out hb3')
      have S3 := Aside0.mk (Nat.le_trans HS.out hb3'.size)
      have B3 := Aside0.mk (below_then HB.out (Nat.le_trans (Nat.le_succ _) HS.out) hb3')
      clear hb3 hb3' hk3 HO HK HS HB
      cases hv : validB x now with
      | false =>
        have HY2 := Aside0.mk (show ys ++ candL now (i + 1) (l.drop (i + 1)) = candL now 0 l by rw [← HY.out, HDR.out]; simp only [candL]; rw [hv]; rfl)
        clear hv
        go_wp2_with fail
        go_roundg k1
        case measure => omega
        case rel => exact ⟨i + 1, _, ys, rfl, by first | rfl | simp [hwi], ⟨⟨by omega, by have := HI.out; omega⟩⟩, HY2, O3, K3, S3, B3⟩
      | true =>
        have HV := Aside0.mk hv
        clear hv
        go_wp2_with fail
        refine (rest_calls x _).mono ?_
        rintro e w4 ⟨rfl, hb4⟩
        have O4 := Aside0.mk (O3.out.below hb4)
        have K4 := Aside0.mk (blk_below K3.out hb4)
        have S4 := Aside0.mk (Nat.le_trans S3.out hb4.size)
        have B4 := Aside0.mk (below_then B3.out (Nat.le_trans (Nat.le_succ _) S3.out) hb4)
        clear hb4 O3 K3 S3 B3 hz0 hz1 hz2 hz3 hz4 hz5 hz6 hz7 hz8
        by_cases hr : 0 < restW x
        · have hrb : decide (0 < restW x) = true := decide_eq_true hr
          have HY2 := Aside0.mk (show (ys ++ [(i : Int)]) ++ candL now (i + 1) (l.drop (i + 1)) = candL now 0 l by rw [← HY.out, HDR.out]; simp only [candL]; rw [HV.out, hrb]; simp)
          clear hr
          have hyl : ys.length < 15 := by
            have h2 := congrArg List.length HY.out
            rw [List.length_append] at h2
            have := candL_len now 0 l
            omega
          have hl' : (ys.length + 1) * 8 ≤ 140737488355328 := by omega
          have HO1 := Aside0.mk (O4.out.below (below_alloc (Below.refl _ _) (.cells #[.int .i64 (i : Int)] 3)))
          have HP1 := Aside0.mk (one_I (x := (i : Int)) (blk_new w4 _))
          have hown : ∀ k, v.ownBlock = some k → b0 + 1 ≤ k := fun k hk => by
            obtain ⟨_, inner, ho, _⟩ := O4.out
            exact own_base ho k hk
          have HW := Aside0.mk hown
          have hsn := S4.out
          clear hown
          go_wp2_with (first | (at_builtin; refine R_append_rows (Kd.int .i64) (Rr := (Kd.int .i64).K (w4.alloc (.cells #[.int .i64 (i : Int)] 3))) (w0 := w4.alloc (.cells #[.int .i64 (i : Int)] 3)) (b0 + 1) rfl (.tmp 23) (.tmp 25) 31 3 _ 8 rfl Try.underlying31 infoI rfl (by decide) (by decide) _ ys [(i : Int)] (some ⟨w4.heap.size, 0, none⟩) 1 1 (fun _ => True) (fun k => True ∧ some k ≠ v.ownBlock) rfl rfl HO1.out HP1.out (fun y cs hy => flatI _ _ _ _ _ _ hy) (fun k hk => hk) (fun _ _ => trivial) (Below.refl _ _) (by simp; omega) hl' ?_; intro v1 w5 h1 h2 h3 h4; have H1 := Aside0.mk h1; have H3 : Aside0 (World.grownBy (w4.alloc (.cells #[.int .i64 (i : Int)] 3)) w5 v.ownBlock) := ⟨h3⟩; clear h1 h2 h3 h4))
          go_roundg k1
          case measure => omega
          case rel => exact ⟨i + 1, _, ys ++ [(i : Int)], rfl, by first | rfl | simp [hwi], ⟨⟨by omega, by have := HI.out; omega⟩⟩, HY2, ⟨H1.out⟩, ⟨blk_grown (blk_alloc K4.out _) H3.out (fun e => by have := HW.out b0 e.symm; omega)⟩, ⟨by have := H3.out.size; simp at this; omega⟩, ⟨pw_below_grown (below_then B4.out (by omega) (below_alloc (Below.refl _ _) _)) _ (by simp; omega) H3.out (fun k hk => by have := HW.out k hk; omega)⟩⟩
        · have hrb : decide (0 < restW x) = false := decide_eq_false hr
          have HY2 := Aside0.mk (show ys ++ candL now (i + 1) (l.drop (i + 1)) = candL now 0 l by rw [← HY.out, HDR.out]; simp only [candL]; rw [HV.out, hrb]; simp)
          clear hr
          go_wp2_with fail
          go_roundg k1
          case measure => omega
          case rel => exact ⟨i + 1, _, ys, rfl, by first | rfl | simp [hwi], ⟨⟨by omega, by have := HI.out; omega⟩⟩, HY2, O4, K4, S4, B4⟩
    · have c1b : decide ((i : Int) < (l.length : Int)) = false := decide_eq_false (by omega)
      have c1c : decide (i < l.length) = false := decide_eq_false h1
      have hys : ys = candL now 0 l := by
        have := HY.out
        rw [List.drop_of_length_le (by omega)] at this
        simpa [candL] using this
      have HYS := Aside0.mk hys
      clear hys
      go_wp2_with fail
      have hb0w : b0 = w.heap.size := HB0.out
      have hBw : Below w.heap.size w wr := by rw [← hb0w]; exact HB.out
      have hCr := C_below HC.out hBw
      have hlen : ys.length < 20 := by rw [HYS.out]; have := candL_len now 0 l; omega
      have hownb : ∀ k, v.ownBlock = some k → b0 + 1 ≤ k := fun k hk => by
        obtain ⟨_, inner, ho, _⟩ := HO.out
        exact own_base ho k hk
      refine (sortStable_calls 35 #[.pointer (some ⟨b0, 0, none⟩)] (cmpL l) (b0 + 1) v ys wr eg HO.out hlen (fun W a b hg ha hb => ?_)).mono ?_
      · rw [HYS.out] at ha hb
        have ha2 := candL_mem now a 0 l ha
        have hb2 := candL_mem now b 0 l hb
        have hBW : Below w.heap.size w W := pw_below_grown hBw _ (below_size hBw) hg (fun k hk => by have := hownb k hk; omega)
        have hkW := blk_grown HK.out hg (fun e => by have := hownb b0 e.symm; omega)
        exact cmp_calls A c l b0 a b W (by simpa using ha2.1) (by simpa using ha2.2) (by simpa using hb2.1) (by simpa using hb2.2) (C_below HC.out hBW) (by rw [cell_of_row W _ _ _ _ (0, 0) hkW]; rfl)
      rintro e w6 ⟨rfl, h3, h4⟩
      have hfin : OwnI w6 w.heap.size v (orderL l now) ∧ Below w.heap.size w w6 := by
        refine ⟨R_lower ?_ (show w.heap.size ≤ b0 + 1 by omega), pw_below_grown hBw _ (below_size hBw) h4 (fun k hk => by have := hownb k hk; omega)⟩
        have e1 : (fun a b => decide (cmpL l a b < 0)) = ltL l := by funext a b; exact cmpL_lt l a b
        rw [e1, HYS.out] at h3
        exact h3
      have HF := Aside0.mk hfin
      clear hfin h3 h4 hCr hlen hBw hb0w hownb
      go_wp2
      go_ret
      exact ⟨_, rfl, HF.out.1, HF.out.2⟩
end Go.Proofs.Ytjoimapgmocoeaa.Lk
