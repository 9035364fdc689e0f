/- LotsOrder: its walk. -/
import Derived.Test.YtjoimapgmocoeaaOrderPlain
import Derived.Test.YtjoimapgmocoeaaLotTake
import Derived.Test.YtjoimapgmocoeaaXa4
import Derived.Test.YtjoimapgmocoeaaXa5
set_option linter.unusedVariables false
set_option linter.unusedSimpArgs false
namespace Go.Proofs.Ytjoimapgmocoeaa.Lk
open Go.RowKit Go.Proofs.YtjoimapgmocoeaaW.PrintWords Go.Proofs.YtjoimapgmocoeaaW.PrintWords.Kd Go.Proofs.YtjoimapgmocoeaaW.PrintLast Go.Proofs.YtjoimapgmocoeaaW.PrintMore Go.Proofs.Ytjoimapgmocoeaa.Xa Go.Proofs.Ytjoimapgmocoeaa.Own
theorem one_L {W : World} {g : Nat} {x : SL} (H : W.heap[g]? = some (.cells #[.int .i64 x.f0, .int .i64 x.f1, .int .i64 x.f2, .int .i64 x.f3, .int .i64 x.f4, .int .i64 x.f5, .int .i64 x.f6, .int .i64 x.f7, .int .i64 x.f8] 33 (0, 0))) : kL.C W (some ⟨g, 0, none⟩) 1 [x] := by
  refine ⟨rfl, by decide, fun _ => ⟨_, rfl, fun j p hj => ?_⟩⟩
  have h0 : j = 0 := by
    cases j with
    | zero => rfl
    | succ j => simp at hj
  subst h0
  simp at hj
  subst hj
  refine ⟨[.int .i64 x.f0, .int .i64 x.f1, .int .i64 x.f2, .int .i64 x.f3, .int .i64 x.f4, .int .i64 x.f5, .int .i64 x.f6, .int .i64 x.f7, .int .i64 x.f8], rfl, k33_mk _ _, fun i u hi => ?_⟩
  rw [add_plain, cell_of_row W g _ _ _ (0, 0) H]
  have hi2 := (List.getElem?_eq_some_iff.1 hi).1
  have : i = 0 ∨ i = 1 ∨ i = 2 ∨ i = 3 ∨ i = 4 ∨ i = 5 ∨ i = 6 ∨ i = 7 ∨ i = 8 := by simp at hi2; omega
  rcases this with rfl | rfl | rfl | rfl | rfl | rfl | rfl | rfl | rfl <;> simpa using hi
def order_T12 : Bool × List (List Nat × List Nat) := (true, [([], []), ([], []), ([], []), ([2], [2]), ([1, 3], [1, 3]), ([4], [4]), ([5], [5]), ([6], [6]), ([0, 7], [0, 7]), ([8], [8]), ([], []), ([], []), ([], []), ([11, 12], [11, 12]), ([13], [13]), ([14], [14]), ([15], [15]), ([10, 16], [10, 16]), ([17], [17]), ([], []), ([], []), ([19, 9, 0, 1, 2, 3, 4, 5, 6, 7, 8, 9, 19, 20], [9, 19]), ([20, 18, 21, 0, 1, 2, 3, 4, 5, 6, 7, 8, 9, 10, 11, 12, 13, 14, 15, 16, 17, 18, 19, 20, 21], [18, 20])])
def order_B12 : List Nat := [0, 0, 0, 4, 14, 30, 62, 126, 255, 511, 0, 0, 0, 6144, 14336, 30720, 63488, 130048, 261120, 0, 0, 1573887, 4194303]
theorem order_tab12 : rtab .any (opsOf Try.f4 12) = order_T12 := by kernel_rfl
theorem order_bits12 : waitsOk order_T12.2 order_B12 = true := by kernel_rfl
def cellsP (w : World) (ad : Addr) (j : Int) (x : SP) : Prop := w.cell? (ad.add (j.toNat * 2)) = some (.int .i64 x.f0) ∧ w.cell? ⟨(ad.add (j.toNat * 2)).block, (ad.add (j.toNat * 2)).off + 1, none⟩ = some (.int .i64 x.f1)
theorem cells_P {w : World} {ad : Addr} {n : Nat} {xs : List SP} (h : Kd.C kP w (some ad) n xs) (j : Int) (h0 : 0 ≤ j) (h1 : j < n) : cellsP w ad j (rd_T35 xs j) := by
  obtain ⟨ad', e, c0, c1⟩ := at_T35 h j h0 h1
  cases e
  exact ⟨c0, c1⟩
def cellsL (w : World) (ad : Addr) (j : Int) (x : SL) : Prop := w.cell? (ad.add (j.toNat * 9)) = some (.int .i64 x.f0) ∧ w.cell? ⟨(ad.add (j.toNat * 9)).block, (ad.add (j.toNat * 9)).off + 1, none⟩ = some (.int .i64 x.f1) ∧ w.cell? ⟨(ad.add (j.toNat * 9)).block, (ad.add (j.toNat * 9)).off + 2, none⟩ = some (.int .i64 x.f2) ∧ w.cell? ⟨(ad.add (j.toNat * 9)).block, (ad.add (j.toNat * 9)).off + 3, none⟩ = some (.int .i64 x.f3) ∧ w.cell? ⟨(ad.add (j.toNat * 9)).block, (ad.add (j.toNat * 9)).off + 4, none⟩ = some (.int .i64 x.f4) ∧ w.cell? ⟨(ad.add (j.toNat * 9)).block, (ad.add (j.toNat * 9)).off + 5, none⟩ = some (.int .i64 x.f5) ∧ w.cell? ⟨(ad.add (j.toNat * 9)).block, (ad.add (j.toNat * 9)).off + 6, none⟩ = some (.int .i64 x.f6) ∧ w.cell? ⟨(ad.add (j.toNat * 9)).block, (ad.add (j.toNat * 9)).off + 7, none⟩ = some (.int .i64 x.f7) ∧ w.cell? ⟨(ad.add (j.toNat * 9)).block, (ad.add (j.toNat * 9)).off + 8, none⟩ = some (.int .i64 x.f8)
theorem cells_L {w : World} {ad : Addr} {n : Nat} {xs : List SL} (h : Kd.C kL w (some ad) n xs) (j : Int) (h0 : 0 ≤ j) (h1 : j < n) : cellsL w ad j (rd_T33 xs j) := by
  obtain ⟨ad', e, c0, c1, c2, c3, c4, c5, c6, c7, c8⟩ := at_T33 h j h0 h1
  cases e
  exact ⟨c0, c1, c2, c3, c4, c5, c6, c7, c8⟩
def set9 (w : World) (g : Nat) (x : SL) : World := (((((((((w.setCell ⟨g, 0, none⟩ (.int .i64 x.f0)).setCell ⟨g, 1, none⟩ (.int .i64 x.f1)).setCell ⟨g, 2, none⟩ (.int .i64 x.f2)).setCell ⟨g, 3, none⟩ (.int .i64 x.f3)).setCell ⟨g, 4, none⟩ (.int .i64 x.f4)).setCell ⟨g, 5, none⟩ (.int .i64 x.f5)).setCell ⟨g, 6, none⟩ (.int .i64 x.f6)).setCell ⟨g, 7, none⟩ (.int .i64 x.f7)).setCell ⟨g, 8, none⟩ (.int .i64 x.f8))
theorem set9_blk {w : World} {g : Nat} {t : TypeId} (h : w.heap[g]? = some (.cells #[.int .i64 0, .int .i64 0, .int .i64 0, .int .i64 0, .int .i64 0, .int .i64 0, .int .i64 0, .int .i64 0, .int .i64 0] t (0, 0))) (x : SL) : (set9 w g x).heap[g]? = some (.cells #[.int .i64 x.f0, .int .i64 x.f1, .int .i64 x.f2, .int .i64 x.f3, .int .i64 x.f4, .int .i64 x.f5, .int .i64 x.f6, .int .i64 x.f7, .int .i64 x.f8] t (0, 0)) := by
  have h0 := blk_set (blk_set (blk_set (blk_set (blk_set (blk_set (blk_set (blk_set (blk_set h 0 (.int .i64 x.f0)) 1 (.int .i64 x.f1)) 2 (.int .i64 x.f2)) 3 (.int .i64 x.f3)) 4 (.int .i64 x.f4)) 5 (.int .i64 x.f5)) 6 (.int .i64 x.f6)) 7 (.int .i64 x.f7)) 8 (.int .i64 x.f8)
  simp only [List.setIfInBounds_toArray, List.set_cons_zero, List.set_cons_succ] at h0
  exact h0
theorem set_far {w : World} {g k o : Nat} {b : Obj} {u : Value} (h : w.heap[k]? = some b) (hn : k ≠ g) : (w.setCell ⟨g, o, none⟩ u).heap[k]? = some b := (Below.heap_setCell w ⟨g, o, none⟩ u k (fun e => hn e)).trans h
theorem set9_far {w : World} {g k : Nat} {b : Obj} (h : w.heap[k]? = some b) (x : SL) (hn : k ≠ g) : (set9 w g x).heap[k]? = some b := by
  unfold set9
  exact set_far (set_far (set_far (set_far (set_far (set_far (set_far (set_far (set_far h hn) hn) hn) hn) hn) hn) hn) hn) hn
theorem set9_below {w0 w : World} {B g : Nat} (h : Below B w0 w) (x : SL) (hg : B ≤ g) : Below B w0 (set9 w g x) := by
  unfold set9
  exact ((((((((h.setCell (p := ⟨g, 0, none⟩) hg _).setCell (p := ⟨g, 1, none⟩) hg _).setCell (p := ⟨g, 2, none⟩) hg _).setCell (p := ⟨g, 3, none⟩) hg _).setCell (p := ⟨g, 4, none⟩) hg _).setCell (p := ⟨g, 5, none⟩) hg _).setCell (p := ⟨g, 6, none⟩) hg _).setCell (p := ⟨g, 7, none⟩) hg _).setCell (p := ⟨g, 8, none⟩) hg _
attribute [local go_sem] max_two min_two
/-- What the loop over the parts asks of two that stand side by side. -/
def OneBehind (us : List Int) (ps : List SP) (j i : Int) : Prop := ∃ a b : Int, 0 ≤ a ∧ a < (us.length : Int) ∧ 0 ≤ b ∧ b < (us.length : Int) ∧ (rd_T35 ps j).f0 = a + 1 ∧ (rd_T35 ps i).f0 = b + 1 ∧ (rd_T35 ps j).f1 = 3 ∧ ((rd_T33 (oL us) a).f3 < (rd_T33 (oL us) b).f3 ∨ (rd_T33 (oL us) a).f3 = (rd_T33 (oL us) b).f3 ∧ (rd_T33 (oL us) a).f0 < (rd_T33 (oL us) b).f0)
theorem one_behind (us : List Int) (n : Int) (h0 : 0 ≤ n) (h1 : n < 60) (j i : Int) (hj : 0 ≤ j) (hi : i = j + 1) (hl : i < ((takeW (oL us) n 2).2.1.length : Int)) : OneBehind us (takeW (oL us) n 2).2.1 j i := by
  obtain ⟨a, b, ha, hb, e1, e2, e3, e4⟩ := (order_plain us n h0 h1).2 i.toNat (by omega) (by omega)
  have hj2 : i.toNat - 1 = j.toNat := by omega
  rw [hj2] at e1 e3
  exact ⟨a, b, by omega, by omega, by omega, by omega, e1, e2, e3, e4⟩
set_option maxHeartbeats 8000000 in
set_option maxRecDepth 100000 in
theorem order_walk (A0 : Option Addr) (c0 : Nat) (l0 : List Int) (a1 : Int) (w : World) (hr0 : Kd.C (Kd.int .i64) w A0 l0.length l0) (hc0 : l0.length ≤ c0) :
    Calls Try.prog 4 #[.slice A0 l0.length c0, .int .i64 a1] w fun e w' => e = .returned (.bool true) ∧ Below w.heap.size w w' := by
  have HR := Aside0.mk hr0
  have HC := Aside0.mk hc0
  clear hr0 hc0
  go_enter Try.func4, Try.ntmps4
  go_wp2_with fail
  refine (tolllaw10_known.calls true _ known_f).mono ?_
  rintro e w1 ⟨rfl, hb⟩
  have HB := Aside0.mk hb
  clear hb
  go_wp2_with fail
  go_loopg [5, 6] 15 (fun kq v5 v6 w' => ∃ (v : Value) (i : Int), v = v5 ∧ v6 = .int .i64 i ∧ Aside0 (0 ≤ i ∧ i ≤ 14 ∧ i ≤ (l0.length : Int) ∧ (kq : Int) + i = 15) ∧ Aside0 (OwnL w' w.heap.size v (oL (l0.take i.toNat))) ∧ Aside0 (Below w.heap.size w w'))
  case atStart => exact ⟨_, 0, rfl, rfl, ⟨⟨by decide, by decide, by omega, rfl⟩⟩, ⟨R_nil _ _ _ _ _⟩, HB⟩
  case round =>
    clear HB
    obtain ⟨v, i, rfl, rfl, HI, HO, HB⟩ := hrel
    cases gk with
    | zero => exact absurd HI.out (by omega)
    | succ k1 =>
    have p : 0 ≤ i := HI.out.1
    by_cases h1 : i < (l0.length : Int) ∧ i < 14
    · obtain ⟨h1, h2⟩ := h1
      have c1b : decide (i < (l0.length : Int)) = true := decide_eq_true h1
      have c2b : decide (i < 14) = true := decide_eq_true h2
      have hw1 : wrap64 (i + 1) = i + 1 := w64 (by omega) (by omega)
      obtain ⟨ad, e, hx⟩ := Kd.at_int (C_below HR.out HB.out) i p h1
      subst e
      obtain ⟨u, hu⟩ : ∃ u, u = rd l0 i := ⟨_, rfl⟩
      rw [← hu] at hx
      have hU := Aside0.mk hu
      have b5 := Int.emod_nonneg u (show (5 : Int) ≠ 0 by decide)
      have d5 := Int.emod_lt_of_pos u (show (0 : Int) < 5 by decide)
      have hw2 : wrap64 (10 + u % 5) = 10 + u % 5 := w64 (by omega) (by omega)
      clear hu b5 d5
      go_wp2_with fail
      refine (tolllaw10_within.calls u 5 (u % 5) _ (within_f u 5 (by decide) (by decide))).mono ?_
      rintro e w2 ⟨rfl, rfl⟩
      have P6 := Aside0.mk (show OwnL (wr.alloc (.cells #[.int .i64 (i + 1), .int .i64 0, .int .i64 0, .int .i64 (10 + u % 5), .int .i64 3, .int .i64 0, .int .i64 0, .int .i64 0, .int .i64 0] 33 (0, 0))) w.heap.size v (oL (l0.take i.toNat)) from R_below HO.out (below_alloc (Below.refl _ _) _))
      have C6 := Aside0.mk (one_L (x := ⟨i + 1, 0, 0, 10 + u % 5, 3, 0, 0, 0, 0⟩) (blk_new wr (.cells #[.int .i64 (i + 1), .int .i64 0, .int .i64 0, .int .i64 (10 + u % 5), .int .i64 3, .int .i64 0, .int .i64 0, .int .i64 0, .int .i64 0] 33 (0, 0))))
      have hsn : w.heap.size ≤ wr.heap.size := below_size HB.out
      have hl' : ((oL (l0.take i.toNat)).length + 1) * 72 ≤ 140737488355328 := by rw [oL_len, List.length_take]; omega
      go_wp2_with (first | (at_builtin; refine R_append_rows kL (Rr := kL.K (wr.alloc (.cells #[.int .i64 (i + 1), .int .i64 0, .int .i64 0, .int .i64 (10 + u % 5), .int .i64 3, .int .i64 0, .int .i64 0, .int .i64 0, .int .i64 0] 33 (0, 0)))) (w0 := wr.alloc (.cells #[.int .i64 (i + 1), .int .i64 0, .int .i64 0, .int .i64 (10 + u % 5), .int .i64 3, .int .i64 0, .int .i64 0, .int .i64 0, .int .i64 0] 33 (0, 0))) w.heap.size rfl (.tmp 25) (.tmp 35) 22 33 _ 72 rfl Try.underlying22 infoL rfl (by decide) (by decide) _ (oL (l0.take i.toNat)) [⟨i + 1, 0, 0, 10 + u % 5, 3, 0, 0, 0, 0⟩] (some ⟨wr.heap.size, 0, none⟩) 1 1 (fun _ => True) (fun k => True ∧ some k ≠ v.ownBlock) rfl rfl P6.out C6.out (fun y cs hy => flatL _ _ _ _ _ _ hy) (fun k hk => hk) (fun _ _ => trivial) (Below.refl _ _) (by simp; omega) hl' ?_; intro v7 w7 h1 h2 h3 h4; have H1 := Aside0.mk h1; have H3 : Aside0 (World.grownBy (wr.alloc (.cells #[.int .i64 (i + 1), .int .i64 0, .int .i64 0, .int .i64 (10 + u % 5), .int .i64 3, .int .i64 0, .int .i64 0, .int .i64 0, .int .i64 0] 33 (0, 0))) w7 v.ownBlock) := ⟨h3⟩; clear h1 h2 h3 h4))
      go_roundg k1
      case measure => omega
      case rel =>
        refine ⟨v7, i + 1, rfl, by first | rfl | simp [hw1], ⟨⟨by omega, by omega, by omega, by have := HI.out; omega⟩⟩, ⟨?_⟩, ⟨?_⟩⟩
        · have hil : i.toNat < l0.length := by omega
          have e : (i + 1).toNat = i.toNat + 1 := by omega
          have e2 : oOne i.toNat l0[i.toNat] = ⟨i + 1, 0, 0, 10 + u % 5, 3, 0, 0, 0, 0⟩ := by
            have : u = l0[i.toNat] := by rw [hU.out]; simp [rd, hil]
            rw [this]
            simp [oOne, Int.toNat_of_nonneg p]
          rw [e, oL_snoc l0 i.toNat hil, e2]
          exact H1.out
        · exact pw_below_grown (below_then HB.out hsn (below_alloc (Below.refl _ _) _)) _ (by simp; omega) H3.out (fun k hk => by
            obtain ⟨_, inner, ho, _⟩ := HO.out
            exact own_base ho k hk)
    · have HUS : Aside0 ((l0.take i.toNat).length < 15) := ⟨by rw [List.length_take]; have := HI.out; omega⟩
      have HI2 := HI
      obtain ⟨us, hus⟩ : ∃ us, us = l0.take i.toNat := ⟨_, rfl⟩
      rw [← hus] at HO HUS
      clear hus
      rcases (show (¬ i < (l0.length : Int)) ∨ (i < (l0.length : Int) ∧ ¬ i < 14) by omega) with q1 | ⟨q1, q2⟩
      · have c1b : decide (i < (l0.length : Int)) = false := decide_eq_false q1
        clear q1 h1 HI HI2
        go_wp2_with fail
        refine (tolllaw10_within.calls a1 60 (a1 % 60) _ (within_f a1 60 (by decide) (by decide))).mono ?_
        rintro e w2 ⟨rfl, rfl⟩
        obtain ⟨Al, cl, rfl, hcl, hCl⟩ := R_reads HO.out
        have HCl := Aside0.mk hCl
        have Hcl := Aside0.mk hcl
        clear hCl hcl HO
        go_wp2_with fail
        refine (take_calls Al cl (oL us) (a1 % 60) 2 wr HCl.out Hcl.out (by rw [oL_len]; exact HUS.out)).mono ?_
        rintro e w3 ⟨vl, vp, rfl, hol, hop, hb3⟩
        obtain ⟨Ap, cp, rfl, hcp, hCp⟩ := R_reads hop
        obtain ⟨ps, hps⟩ : ∃ ps, ps = (takeW (oL us) (a1 % 60) 2).2.1 := ⟨_, rfl⟩
        have HPL : Aside0 ((ps.length : Int) = min ((a1 % 60 + 2) / 3) (us.length : Int) ∧ ∀ j i : Int, 0 ≤ j → i = j + 1 → i < (ps.length : Int) → OneBehind us ps j i) := ⟨by
          rw [hps]
          have b0 := Int.emod_nonneg a1 (show (60 : Int) ≠ 0 by decide)
          have b1 := Int.emod_lt_of_pos a1 (show (0 : Int) < 60 by decide)
          exact ⟨(order_plain us (a1 % 60) b0 b1).1, fun j i hj hi hl => one_behind us (a1 % 60) b0 b1 j i hj hi hl⟩⟩
        rw [← hps] at hCp ⊢
        obtain ⟨nl, hnl⟩ : ∃ nl : Int, nl = (takeW (oL us) (a1 % 60) 2).2.2 := ⟨_, rfl⟩
        rw [← hnl]
        have HCp := Aside0.mk hCp
        have HCl3 := Aside0.mk (C_below HCl.out hb3)
        have HB3 := Aside0.mk (below_then HB.out (below_size HB.out) hb3)
        obtain ⟨Vl, hVl⟩ : ∃ V, V = vl := ⟨_, rfl⟩
        rw [← hVl]
        have hll : (oL us).length = us.length := oL_len us
        rw [hll] at HCl3 ⊢
        have HPM : Aside0 (ps.length ≤ 20) := ⟨by have := HPL.out.1; have := HUS.out; omega⟩
        clear hCp hb3 hol hop hcp hps hnl hVl hll HCl Hcl HB
        go_wp2_with fail
        go_loopg [10] (ps.length + 1) (fun kq v10 w' => ∃ (i : Int), v10 = .int .i64 i ∧ Aside0 (1 ≤ i ∧ i ≤ (ps.length : Int) + 1 ∧ (kq : Int) + i = (ps.length : Int) + 2) ∧ Aside0 (Kd.C kL w' Al us.length (oL us)) ∧ Aside0 (Kd.C kP w' Ap ps.length ps) ∧ Aside0 (Below w.heap.size w w'))
        case atStart => exact ⟨1, rfl, ⟨⟨by decide, by omega, by omega⟩⟩, HCl3, HCp, HB3⟩
        case round =>
          clear HCl3 HCp HB3
          obtain ⟨i, rfl, HI, HCl, HCp, HB⟩ := hrel
          cases gk with
          | zero => exact absurd HI.out (by omega)
          | succ k1 =>
          by_cases h1 : i < (ps.length : Int)
          · have c1b : decide (i < (ps.length : Int)) = true := decide_eq_true h1
            obtain ⟨j, hj⟩ : ∃ j : Int, j = i - 1 := ⟨_, rfl⟩
            have hi1 : 1 ≤ i := HI.out.1
            obtain ⟨a, b, ha0, ha1, hb0, hb1, e1, e2, e3, e4⟩ := HPL.out.2 j i (by omega) (by omega) h1
            have pj : 0 ≤ j := by omega
            have qj : j < (ps.length : Int) := by omega
            have p2 : 0 ≤ i := by omega
            have HC2 := Aside0.mk (show Kd.C kL wr.drew Al us.length (oL us) from C_drew HCl.out)
            have HD2 := Aside0.mk (show Kd.C kP wr.drew Ap ps.length ps from C_drew HCp.out)
            obtain ⟨w2, hw2⟩ : ∃ w2, w2 = wr.drew := ⟨_, rfl⟩
            rw [← hw2] at HC2 HD2
            have HB2 : Aside0 (Below w.heap.size w w2) := ⟨by rw [hw2]; exact below_drew1 HB.out⟩
            have HW2 := Aside0.mk hw2
            obtain ⟨ap, eap, _⟩ := at_T35 HD2.out i p2 h1
            obtain ⟨al, eal, _⟩ := at_T33 HC2.out a ha0 ha1
            subst eap
            subst eal
            obtain ⟨x, hx⟩ : ∃ x, x = rd_T35 ps j := ⟨_, rfl⟩
            obtain ⟨y, hy⟩ : ∃ y, y = rd_T35 ps i := ⟨_, rfl⟩
            obtain ⟨x1, hx1⟩ : ∃ x1, x1 = rd_T33 (oL us) a := ⟨_, rfl⟩
            obtain ⟨x2, hx2⟩ : ∃ x2, x2 = rd_T33 (oL us) b := ⟨_, rfl⟩
            rw [← hx] at e1 e3
            rw [← hy] at e2
            rw [← hx1, ← hx2] at e4
            have HP1 : Aside0 (∀ w', Below w2.heap.size w2 w' → cellsP w' ap j x) := ⟨fun w' h => by rw [hx]; exact cells_P (C_below HD2.out h) j pj qj⟩
            have HP2 : Aside0 (∀ w', Below w2.heap.size w2 w' → cellsP w' ap i y) := ⟨fun w' h => by rw [hy]; exact cells_P (C_below HD2.out h) i p2 h1⟩
            have HL1 : Aside0 (∀ w', Below w2.heap.size w2 w' → cellsL w' al a x1) := ⟨fun w' h => by rw [hx1]; exact cells_L (C_below HC2.out h) a ha0 ha1⟩
            have HL2 : Aside0 (∀ w', Below w2.heap.size w2 w' → cellsL w' al b x2) := ⟨fun w' h => by rw [hx2]; exact cells_L (C_below HC2.out h) b hb0 hb1⟩
            have HE3 := Aside0.mk e3
            have HE4 := Aside0.mk e4
            have hs2 : i ≤ 21 := by have := HPM.out; omega
            have hu2 : us.length < 15 := HUS.out
            have hwj : IntKind.i64.wrap (i - 1) = j := by rw [i64_w, hj]; exact w64 (by omega) (by omega)
            have hwa : IntKind.i64.wrap (x.f0 - 1) = a := by rw [i64_w, e1, show a + 1 - 1 = a by omega]; exact w64 (by omega) (by omega)
            have hwb : IntKind.i64.wrap (y.f0 - 1) = b := by rw [i64_w, e2, show b + 1 - 1 = b by omega]; exact w64 (by omega) (by omega)
            have hwj2 : wrap64 (i - 1) = j := by rw [hj]; exact w64 (by omega) (by omega)
            have hwi : wrap64 (i + 1) = i + 1 := w64 (by omega) (by omega)
            have HJ := Aside0.mk hj
            clear e1 e2 e3 e4 hx hy hx1 hx2 hw2 hj HC2 HD2 hs2 hu2
            replace p2 := eq_true p2
            replace h1 := eq_true h1
            replace pj := eq_true pj
            replace qj := eq_true qj
            replace ha0 := eq_true ha0
            replace ha1 := eq_true ha1
            replace hb0 := eq_true hb0
            replace hb1 := eq_true hb1
            go_wp2_with fail
            refine start_ (n := 23) (S := fun w' => Below w2.heap.size w2 w') (ds := []) #[false, false, false, false, false, false, false, false, false, false, false, false, false, false, false, false, false, false, false, false, false, false, false] (by kernel_rfl) rfl rfl (by rw [HW2.out]; exact Below.refl _ _) (fun hS => ?_)
            refine with_tabW order_tab12 order_bits12 (fun HT_ HW_ => ?_)
            rw [← HW2.out] at hS ⊢
            refine pure_ (i := 0) (N := some 51) (v := ?_) (a' := ?_) (bA 23 1) rfl rfl (any_of HT_.out (by kernel_rfl)) (fun _ _ _ h => h) (Or.inl ⟨by rfl, ?_⟩) ?_ ?_
            rotate_left
            · intro w'
              go_simp
              with_reducible rfl
            rotate_left
            · simp only [Act.put, List.setIfInBounds_toArray, List.set_cons_zero, List.set_cons_succ, i64_w, i32_w]
              rfl
            refine pure_ (i := 1) (N := some 52) (v := ?_) (a' := ?_) (bA 23 3) rfl rfl (any_of HT_.out (by kernel_rfl)) (fun _ _ _ h => h) (Or.inl ⟨by rfl, ?_⟩) ?_ ?_
            rotate_left
            · intro w'
              go_simp
              with_reducible rfl
            rotate_left
            · simp only [Act.put, List.setIfInBounds_toArray, List.set_cons_zero, List.set_cons_succ, i64_w, i32_w]
              rfl
            refine pure_ (i := 2) (N := some 53) (v := ?_) (a' := ?_) (bA 23 7) rfl rfl (any_of HT_.out (by kernel_rfl)) (fun _ _ _ h => h) (Or.inl ⟨by rfl, ?_⟩) ?_ ?_
            rotate_left
            · intro w'
              go_simp
              with_reducible rfl
            rotate_left
            · simp only [Act.put, List.setIfInBounds_toArray, List.set_cons_zero, List.set_cons_succ, i64_w, i32_w]
              rfl
            refine pure_ (i := 3) (N := some 54) (v := ?_) (a' := ?_) (bA 23 15) rfl rfl (any_of HT_.out (by kernel_rfl)) (fun _ _ _ h => h) (Or.inl ⟨by rfl, ?_⟩) ?_ ?_
            rotate_left
            · intro w'
              go_simp
              with_reducible rfl
            rotate_left
            · simp only [Act.put, List.setIfInBounds_toArray, List.set_cons_zero, List.set_cons_succ, i64_w, i32_w]
              rfl
            refine pure_ (i := 4) (N := some 55) (v := ?_) (a' := ?_) (bA 23 31) rfl rfl (any_of HT_.out (by kernel_rfl)) (fun _ _ _ h => h) (Or.inl ⟨by rfl, ?_⟩) ?_ ?_
            rotate_left
            · intro w'
              go_simp
              with_reducible rfl
            rotate_left
            · simp only [Act.put, List.setIfInBounds_toArray, List.set_cons_zero, List.set_cons_succ, i64_w, i32_w]
              rfl
            refine pure_ (i := 5) (N := some 56) (v := ?_) (a' := ?_) (bA 23 63) rfl rfl (any_of HT_.out (by kernel_rfl)) (fun _ _ _ h => h) (Or.inl ⟨by rfl, ?_⟩) ?_ ?_
            rotate_left
            · intro w'
              go_simp
              with_reducible rfl
            rotate_left
            · simp only [Act.put, List.setIfInBounds_toArray, List.set_cons_zero, List.set_cons_succ, i64_w, i32_w]
              rfl
            refine pure_ (i := 10) (N := some 61) (v := ?_) (a' := ?_) (bA 23 1087) rfl rfl (any_of HT_.out (by kernel_rfl)) (fun _ _ _ h => h) (Or.inl ⟨by rfl, ?_⟩) ?_ ?_
            rotate_left
            · intro w'
              go_simp
              with_reducible rfl
            rotate_left
            · simp only [Act.put, List.setIfInBounds_toArray, List.set_cons_zero, List.set_cons_succ, i64_w, i32_w]
              rfl
            refine pure_ (i := 11) (N := some 62) (v := ?_) (a' := ?_) (bA 23 3135) rfl rfl (any_of HT_.out (by kernel_rfl)) (fun _ _ _ h => h) (Or.inl ⟨by rfl, ?_⟩) ?_ ?_
            rotate_left
            · intro w'
              go_simp
              with_reducible rfl
            rotate_left
            · simp only [Act.put, List.setIfInBounds_toArray, List.set_cons_zero, List.set_cons_succ, i64_w, i32_w]
              rfl
            refine pure_ (i := 12) (N := some 63) (v := ?_) (a' := ?_) (bA 23 7231) rfl rfl (any_of HT_.out (by kernel_rfl)) (fun _ _ _ h => h) (Or.inl ⟨by rfl, ?_⟩) ?_ ?_
            rotate_left
            · intro w'
              go_simp
              with_reducible rfl
            rotate_left
            · simp only [Act.put, List.setIfInBounds_toArray, List.set_cons_zero, List.set_cons_succ, i64_w, i32_w]
              rfl
            refine pure_ (i := 13) (N := some 64) (v := ?_) (a' := ?_) (bA 23 15423) rfl rfl (any_of HT_.out (by kernel_rfl)) (fun _ _ _ h => h) (Or.inl ⟨by rfl, ?_⟩) ?_ ?_
            rotate_left
            · intro w'
              go_simp
              with_reducible rfl
            rotate_left
            · simp only [Act.put, List.setIfInBounds_toArray, List.set_cons_zero, List.set_cons_succ, i64_w, i32_w]
              rfl
            refine pure_ (i := 14) (N := some 65) (v := ?_) (a' := ?_) (bA 23 31807) rfl rfl (any_of HT_.out (by kernel_rfl)) (fun _ _ _ h => h) (Or.inl ⟨by rfl, ?_⟩) ?_ ?_
            rotate_left
            · intro w'
              go_simp
              with_reducible rfl
            rotate_left
            · simp only [Act.put, List.setIfInBounds_toArray, List.set_cons_zero, List.set_cons_succ, i64_w, i32_w]
              rfl
            refine take_ (i := 6) (N := some 57) (v := ?_) (a' := ?_) (bA 23 31871) rfl rfl (take_ofW HT_.out HW_.out (by kernel_rfl)) (fun _ _ _ h => h) (Or.inl ⟨by rfl, ?_⟩) hS ?_ ?_
            rotate_left
            · intro w' hs
              have s0 := (HP1.out w' hs).1
              go_simp
              with_reducible rfl
            rotate_left
            · simp only [Act.put, List.setIfInBounds_toArray, List.set_cons_zero, List.set_cons_succ, i64_w, i32_w]
              rfl
            refine pure_ (i := 7) (N := some 58) (v := ?_) (a' := ?_) (bA 23 31999) rfl rfl (any_of HT_.out (by kernel_rfl)) (fun _ _ _ h => h) (Or.inl ⟨by rfl, ?_⟩) ?_ ?_
            rotate_left
            · intro w'
              go_simp
              with_reducible rfl
            rotate_left
            · simp only [Act.put, List.setIfInBounds_toArray, List.set_cons_zero, List.set_cons_succ, i64_w, i32_w]
              rfl
            refine pure_ (i := 8) (N := some 59) (v := ?_) (a' := ?_) (bA 23 32255) rfl rfl (any_of HT_.out (by kernel_rfl)) (fun _ _ _ h => h) (Or.inl ⟨by rfl, ?_⟩) ?_ ?_
            rotate_left
            · intro w'
              go_simp
              with_reducible rfl
            rotate_left
            · simp only [Act.put, List.setIfInBounds_toArray, List.set_cons_zero, List.set_cons_succ, i64_w, i32_w]
              rfl
            refine take_ (i := 9) (N := some 60) (v := ?_) (a' := ?_) (bA 23 32767) rfl rfl (take_ofW HT_.out HW_.out (by kernel_rfl)) (fun _ _ _ h => h) (Or.inl ⟨by rfl, ?_⟩) hS ?_ ?_
            rotate_left
            · intro w' hs
              obtain ⟨s0, s1, s2, s3, s4, s5, s6, s7, s8⟩ := HL1.out w' hs
              go_simp
              with_reducible rfl
            rotate_left
            · simp only [Act.put, List.setIfInBounds_toArray, List.set_cons_zero, List.set_cons_succ, i64_w, i32_w]
              rfl
            refine take_ (i := 15) (N := some 66) (v := ?_) (a' := ?_) (bA 23 65535) rfl rfl (take_ofW HT_.out HW_.out (by kernel_rfl)) (fun _ _ _ h => h) (Or.inl ⟨by rfl, ?_⟩) hS ?_ ?_
            rotate_left
            · intro w' hs
              have s0 := (HP2.out w' hs).1
              go_simp
              with_reducible rfl
            rotate_left
            · simp only [Act.put, List.setIfInBounds_toArray, List.set_cons_zero, List.set_cons_succ, i64_w, i32_w]
              rfl
            refine pure_ (i := 16) (N := some 67) (v := ?_) (a' := ?_) (bA 23 131071) rfl rfl (any_of HT_.out (by kernel_rfl)) (fun _ _ _ h => h) (Or.inl ⟨by rfl, ?_⟩) ?_ ?_
            rotate_left
            · intro w'
              go_simp
              with_reducible rfl
            rotate_left
            · simp only [Act.put, List.setIfInBounds_toArray, List.set_cons_zero, List.set_cons_succ, i64_w, i32_w]
              rfl
            refine pure_ (i := 17) (N := some 68) (v := ?_) (a' := ?_) (bA 23 262143) rfl rfl (any_of HT_.out (by kernel_rfl)) (fun _ _ _ h => h) (Or.inl ⟨by rfl, ?_⟩) ?_ ?_
            rotate_left
            · intro w'
              go_simp
              with_reducible rfl
            rotate_left
            · simp only [Act.put, List.setIfInBounds_toArray, List.set_cons_zero, List.set_cons_succ, i64_w, i32_w]
              rfl
            refine take_ (i := 18) (N := some 69) (v := ?_) (a' := ?_) (bA 23 524287) rfl rfl (take_ofW HT_.out HW_.out (by kernel_rfl)) (fun _ _ _ h => h) (Or.inl ⟨by rfl, ?_⟩) hS ?_ ?_
            rotate_left
            · intro w' hs
              obtain ⟨s0, s1, s2, s3, s4, s5, s6, s7, s8⟩ := HL2.out w' hs
              go_simp
              with_reducible rfl
            rotate_left
            · simp only [Act.put, List.setIfInBounds_toArray, List.set_cons_zero, List.set_cons_succ, i64_w, i32_w]
              rfl
            refine join_ (σ := Nat × Nat) 2 (bA 23 2097151) (fun s_ => [(11, .pointer (some ⟨s_.1, 0, none⟩)), (12, .pointer (some ⟨s_.2, 0, none⟩))]) (fun s_ w' => Below w2.heap.size w2 w' ∧ w'.heap[s_.1]? = some (.cells #[.int .i64 0, .int .i64 0, .int .i64 0, .int .i64 0, .int .i64 0, .int .i64 0, .int .i64 0, .int .i64 0, .int .i64 0] 33 (0, 0)) ∧ w'.heap[s_.2]? = some (.cells #[.int .i64 0, .int .i64 0, .int .i64 0, .int .i64 0, .int .i64 0, .int .i64 0, .int .i64 0, .int .i64 0, .int .i64 0] 33 (0, 0)) ∧ w2.heap.size ≤ s_.1 ∧ w2.heap.size ≤ s_.2 ∧ s_.1 ≠ s_.2) ?_ ?_
            rotate_left
            · intro hCont
              refine two_ (i := 19) (j := 20) (Ni := some 11) (Nj := some 12) (bA 23 1048575) (bA 23 1572863) rfl rfl rfl rfl (two_of HT_.out (by kernel_rfl)) (by decide) (by decide) (fun K hK => ?_) (fun K hK => ?_)
              · skip
                refine box_step ?hg (N := 11) ?hd (cs := #[.int .i64 0, .int .i64 0, .int .i64 0, .int .i64 0, .int .i64 0, .int .i64 0, .int .i64 0, .int .i64 0, .int .i64 0]) (t := 33) ?hr ?_; (case hd => rfl); (case hg => rfl); (case hr => first | (go_simp; done) | (go_simp; rfl))
                intro ga hga wa hba hbb
                have hSa : Below w2.heap.size w2 wa := below_then hS hS.size hbb
                have hza : w2.heap.size ≤ ga := by rw [hga]; exact hS.size
                refine hK.out _ _ hSa (fun _ => ?_)
                clear hK K
                refine norm_ (a' := ?_) ?_ ?_
                rotate_left
                · show Act.put _ (some 11) _ = _
                  simp only [Act.put, List.setIfInBounds_toArray, List.set_cons_zero, List.set_cons_succ, i64_w, i32_w]
                  rfl
                refine one_ (i := 20) (N := some 12) (bA 23 2097151) rfl rfl (one_of HT_.out (by kernel_rfl)) (by decide) (fun K hK => ?_)
                refine box_step ?hg (N := 12) ?hd (cs := #[.int .i64 0, .int .i64 0, .int .i64 0, .int .i64 0, .int .i64 0, .int .i64 0, .int .i64 0, .int .i64 0, .int .i64 0]) (t := 33) ?hr ?_; (case hd => rfl); (case hg => rfl); (case hr => first | (go_simp; done) | (go_simp; rfl))
                intro gb hgb wb hbc hbd
                have hSb : Below w2.heap.size w2 wb := below_then hSa hSa.size hbd
                have hzb : w2.heap.size ≤ gb := by rw [hgb]; exact hSa.size
                have hne : ga ≠ gb := by rw [hgb]; exact Nat.ne_of_lt (blk_lt hba)
                have hba2 := blk_below hba hbd
                refine hK.out _ _ hSb (fun _ => ?_)
                clear hK K
                refine norm_ (a' := ?_) ?_ ?_
                rotate_left
                · show Act.put _ (some 12) _ = _
                  simp only [Act.put, List.setIfInBounds_toArray, List.set_cons_zero, List.set_cons_succ, i64_w, i32_w]
                  rfl
                exact norm_ (by simp only [putAll, Act.put, List.setIfInBounds_toArray, List.set_cons_zero, List.set_cons_succ]) (hCont (ga, gb) _ ⟨hSb, hba2, hbc, hza, hzb, hne⟩)
              · skip
                refine box_step ?hg (N := 12) ?hd (cs := #[.int .i64 0, .int .i64 0, .int .i64 0, .int .i64 0, .int .i64 0, .int .i64 0, .int .i64 0, .int .i64 0, .int .i64 0]) (t := 33) ?hr ?_; (case hd => rfl); (case hg => rfl); (case hr => first | (go_simp; done) | (go_simp; rfl))
                intro ga hga wa hba hbb
                have hSa : Below w2.heap.size w2 wa := below_then hS hS.size hbb
                have hza : w2.heap.size ≤ ga := by rw [hga]; exact hS.size
                refine hK.out _ _ hSa (fun _ => ?_)
                clear hK K
                refine norm_ (a' := ?_) ?_ ?_
                rotate_left
                · show Act.put _ (some 12) _ = _
                  simp only [Act.put, List.setIfInBounds_toArray, List.set_cons_zero, List.set_cons_succ, i64_w, i32_w]
                  rfl
                refine one_ (i := 19) (N := some 11) (bA 23 2097151) rfl rfl (one_of HT_.out (by kernel_rfl)) (by decide) (fun K hK => ?_)
                refine box_step ?hg (N := 11) ?hd (cs := #[.int .i64 0, .int .i64 0, .int .i64 0, .int .i64 0, .int .i64 0, .int .i64 0, .int .i64 0, .int .i64 0, .int .i64 0]) (t := 33) ?hr ?_; (case hd => rfl); (case hg => rfl); (case hr => first | (go_simp; done) | (go_simp; rfl))
                intro gb hgb wb hbc hbd
                have hSb : Below w2.heap.size w2 wb := below_then hSa hSa.size hbd
                have hzb : w2.heap.size ≤ gb := by rw [hgb]; exact hSa.size
                have hne : ga ≠ gb := by rw [hgb]; exact Nat.ne_of_lt (blk_lt hba)
                have hba2 := blk_below hba hbd
                refine hK.out _ _ hSb (fun _ => ?_)
                clear hK K
                refine norm_ (a' := ?_) ?_ ?_
                rotate_left
                · show Act.put _ (some 11) _ = _
                  simp only [Act.put, List.setIfInBounds_toArray, List.set_cons_zero, List.set_cons_succ, i64_w, i32_w]
                  rfl
                exact norm_ (by simp only [putAll, Act.put, List.setIfInBounds_toArray, List.set_cons_zero, List.set_cons_succ]) (hCont (gb, ga) _ ⟨hSb, hbc, hba2, hzb, hza, hne.symm⟩)
            rintro ⟨ga, gb⟩ w3 ⟨hS3, hba, hbb, hza, hzb, hne⟩
            refine norm_ (a' := ?_) ?_ ?_
            rotate_left
            · simp only [putAll, Act.put, List.setIfInBounds_toArray, List.set_cons_zero, List.set_cons_succ]
              rfl
            obtain ⟨w4, hw4⟩ : ∃ w4, w4 = set9 w3 ga x1 := ⟨_, rfl⟩
            have hba4 : w4.heap[ga]? = some (.cells #[.int .i64 x1.f0, .int .i64 x1.f1, .int .i64 x1.f2, .int .i64 x1.f3, .int .i64 x1.f4, .int .i64 x1.f5, .int .i64 x1.f6, .int .i64 x1.f7, .int .i64 x1.f8] 33 (0, 0)) := by rw [hw4]; exact set9_blk hba x1
            have hbb4 : w4.heap[gb]? = some (.cells #[.int .i64 0, .int .i64 0, .int .i64 0, .int .i64 0, .int .i64 0, .int .i64 0, .int .i64 0, .int .i64 0, .int .i64 0] 33 (0, 0)) := by rw [hw4]; exact set9_far hbb x1 hne.symm
            have hS4 : Below w2.heap.size w2 w4 := by rw [hw4]; exact set9_below hS3 x1 hza
            have HX4 := Aside0.mk hba4
            have HY3 := Aside0.mk hbb
            have HY4 := Aside0.mk hbb4
            have HX3 := Aside0.mk hba
            have HN := Aside0.mk hne
            clear hba hbb hba4 hbb4 hS hS3
            refine one_ (i := 21) (N := none) (bA 23 4194303) rfl rfl (one_of HT_.out (by kernel_rfl)) (by decide) (fun K hK => ?_)
            have hs0 : w3.cell? ⟨ga, 0, none⟩ = some (.int .i64 0) := (blk_cell HX3.out 0).trans rfl
            have hfs0 := blk_frozen HX3.out 0
            have hs1 : w3.cell? ⟨ga, 1, none⟩ = some (.int .i64 0) := (blk_cell HX3.out 1).trans rfl
            have hfs1 := blk_frozen HX3.out 1
            have hs2 : w3.cell? ⟨ga, 2, none⟩ = some (.int .i64 0) := (blk_cell HX3.out 2).trans rfl
            have hfs2 := blk_frozen HX3.out 2
            have hs3 : w3.cell? ⟨ga, 3, none⟩ = some (.int .i64 0) := (blk_cell HX3.out 3).trans rfl
            have hfs3 := blk_frozen HX3.out 3
            have hs4 : w3.cell? ⟨ga, 4, none⟩ = some (.int .i64 0) := (blk_cell HX3.out 4).trans rfl
            have hfs4 := blk_frozen HX3.out 4
            have hs5 : w3.cell? ⟨ga, 5, none⟩ = some (.int .i64 0) := (blk_cell HX3.out 5).trans rfl
            have hfs5 := blk_frozen HX3.out 5
            have hs6 : w3.cell? ⟨ga, 6, none⟩ = some (.int .i64 0) := (blk_cell HX3.out 6).trans rfl
            have hfs6 := blk_frozen HX3.out 6
            have hs7 : w3.cell? ⟨ga, 7, none⟩ = some (.int .i64 0) := (blk_cell HX3.out 7).trans rfl
            have hfs7 := blk_frozen HX3.out 7
            have hs8 : w3.cell? ⟨ga, 8, none⟩ = some (.int .i64 0) := (blk_cell HX3.out 8).trans rfl
            have hfs8 := blk_frozen HX3.out 8
            refine skip_ (w1 := set9 w3 ga x1) (by rfl) rfl ?_ ?_
            · go_simp
              rfl
            rw [← hw4]
            clear hs0 hfs0 hs1 hfs1 hs2 hfs2 hs3 hfs3 hs4 hfs4 hs5 hfs5 hs6 hfs6 hs7 hfs7 hs8 hfs8 hw4
            refine hK.out _ _ hS4 (fun _ => ?_)
            clear hK K
            refine one_ (i := 22) (N := none) (bA 23 8388607) rfl rfl (one_of HT_.out (by kernel_rfl)) (by decide) (fun K hK => ?_)
            have hs0 : w4.cell? ⟨gb, 0, none⟩ = some (.int .i64 0) := (blk_cell HY4.out 0).trans rfl
            have hfs0 := blk_frozen HY4.out 0
            have hs1 : w4.cell? ⟨gb, 1, none⟩ = some (.int .i64 0) := (blk_cell HY4.out 1).trans rfl
            have hfs1 := blk_frozen HY4.out 1
            have hs2 : w4.cell? ⟨gb, 2, none⟩ = some (.int .i64 0) := (blk_cell HY4.out 2).trans rfl
            have hfs2 := blk_frozen HY4.out 2
            have hs3 : w4.cell? ⟨gb, 3, none⟩ = some (.int .i64 0) := (blk_cell HY4.out 3).trans rfl
            have hfs3 := blk_frozen HY4.out 3
            have hs4 : w4.cell? ⟨gb, 4, none⟩ = some (.int .i64 0) := (blk_cell HY4.out 4).trans rfl
            have hfs4 := blk_frozen HY4.out 4
            have hs5 : w4.cell? ⟨gb, 5, none⟩ = some (.int .i64 0) := (blk_cell HY4.out 5).trans rfl
            have hfs5 := blk_frozen HY4.out 5
            have hs6 : w4.cell? ⟨gb, 6, none⟩ = some (.int .i64 0) := (blk_cell HY4.out 6).trans rfl
            have hfs6 := blk_frozen HY4.out 6
            have hs7 : w4.cell? ⟨gb, 7, none⟩ = some (.int .i64 0) := (blk_cell HY4.out 7).trans rfl
            have hfs7 := blk_frozen HY4.out 7
            have hs8 : w4.cell? ⟨gb, 8, none⟩ = some (.int .i64 0) := (blk_cell HY4.out 8).trans rfl
            have hfs8 := blk_frozen HY4.out 8
            refine skip_ (w1 := set9 w4 gb x2) (by rfl) rfl ?_ ?_
            · go_simp
              rfl
            have hS5 : Below w2.heap.size w2 (set9 w4 gb x2) := set9_below hS4 x2 hzb
            have hba5 : (set9 w4 gb x2).heap[ga]? = some (.cells #[.int .i64 x1.f0, .int .i64 x1.f1, .int .i64 x1.f2, .int .i64 x1.f3, .int .i64 x1.f4, .int .i64 x1.f5, .int .i64 x1.f6, .int .i64 x1.f7, .int .i64 x1.f8] 33 (0, 0)) := set9_far HX4.out x2 HN.out
            have hbb5 : (set9 w4 gb x2).heap[gb]? = some (.cells #[.int .i64 x2.f0, .int .i64 x2.f1, .int .i64 x2.f2, .int .i64 x2.f3, .int .i64 x2.f4, .int .i64 x2.f5, .int .i64 x2.f6, .int .i64 x2.f7, .int .i64 x2.f8] 33 (0, 0)) := set9_blk HY4.out x2
            obtain ⟨w5, hw5⟩ : ∃ w5, w5 = set9 w4 gb x2 := ⟨_, rfl⟩
            rw [← hw5] at hS5 hba5 hbb5 ⊢
            refine hK.out _ _ hS5 (fun _ => ?_)
            have HX := Aside0.mk hba5
            have HY := Aside0.mk hbb5
            have HS5 := Aside0.mk hS5
            clear hK K hS4 hs0 hfs0 hs1 hfs1 hs2 hfs2 hs3 hfs3 hs4 hfs4 hs5 hfs5 hs6 hfs6 hs7 hfs7 hs8 hfs8 hw5 hba5 hbb5 hS5
            refine done_ (done_of HT_.out (by kernel_rfl)) ?_
            have hf3a : w5.cell? ⟨ga, 3, none⟩ = some (.int .i64 x1.f3) := (blk_cell HX.out 3).trans rfl
            have hf3b : w5.cell? ⟨gb, 3, none⟩ = some (.int .i64 x2.f3) := (blk_cell HY.out 3).trans rfl
            have hf0a : w5.cell? ⟨ga, 0, none⟩ = some (.int .i64 x1.f0) := (blk_cell HX.out 0).trans rfl
            have hf0b : w5.cell? ⟨gb, 0, none⟩ = some (.int .i64 x2.f0) := (blk_cell HY.out 0).trans rfl
            have hcx := (HP1.out w5 HS5.out).2
            rw [HE3.out] at hcx
            have HB5 := Aside0.mk (below_then HB2.out (below_size HB2.out) HS5.out)
            have HP5 : Aside0 (Kd.C kP w5 (some ap) ps.length ps) := ⟨C_below (by rw [HW2.out]; exact C_drew HCp.out) HS5.out⟩
            have HL5 : Aside0 (Kd.C kL w5 (some al) us.length (oL us)) := ⟨C_below (by rw [HW2.out]; exact C_drew HCl.out) HS5.out⟩
            have hgt : decide (x2.f3 < x1.f3) = false := decide_eq_false (by have := HE4.out; omega)
            rcases HE4.out with hlt | ⟨heq, hid⟩
            · have heb : (x1.f3 == x2.f3) = false := beq_eq_false_iff_ne.mpr (by omega)
              clear hlt hza hzb HCl HCp
              go_wp2_with fail
              go_roundg k1
              case measure => omega
              case rel => exact ⟨i + 1, rfl, ⟨⟨by omega, by have := HI.out; have := of_eq_true h1; omega, by have := HI.out; omega⟩⟩, HL5, HP5, HB5⟩
            · have heb : (x1.f3 == x2.f3) = true := beq_iff_eq.mpr heq
              have hge : decide (x2.f0 ≤ x1.f0) = false := decide_eq_false (by omega)
              clear heq hid hza hzb HCl HCp
              go_wp2_with fail
              go_roundg k1
              case measure => omega
              case rel => exact ⟨i + 1, rfl, ⟨⟨by omega, by have := HI.out; have := of_eq_true h1; omega, by have := HI.out; omega⟩⟩, HL5, HP5, HB5⟩
          · have c1b : decide (i < (ps.length : Int)) = false := decide_eq_false h1
            have b0 := Int.emod_nonneg a1 (show (60 : Int) ≠ 0 by decide)
            have b1 := Int.emod_lt_of_pos a1 (show (0 : Int) < 60 by decide)
            have hw1 : wrap64 (a1 % 60 + 2) = a1 % 60 + 2 := w64 (by omega) (by omega)
            go_wp2_with fail
            refine (tolllaw10_within.calls a1 60 (a1 % 60) _ (within_f a1 60 (by decide) (by decide))).mono ?_
            rintro e w4 ⟨rfl, rfl⟩
            obtain ⟨m, hm⟩ : ∃ m : Int, m = min ((a1 % 60 + 2) / 3) (us.length : Int) := ⟨_, rfl⟩
            have hmin : ∀ k k', Builtin.min2 (.int k ((a1 % 60 + 2) / 3)) (.int k' (us.length : Int)) = pure (.int k m) := fun k k' => by rw [min2_min, hm]
            have hme : ((ps.length : Int) == m) = true := beq_iff_eq.mpr (by rw [hm]; exact HPL.out.1)
            clear hm b0 b1 hw1
            go_wp2_with fail
            go_ret
            exact ⟨rfl, HB.out⟩
      · have c1b : decide (i < (l0.length : Int)) = true := decide_eq_true q1
        have c2b : decide (i < 14) = false := decide_eq_false q2
        clear q1 q2 h1 HI HI2
        go_wp2_with fail
        refine (tolllaw10_within.calls a1 60 (a1 % 60) _ (within_f a1 60 (by decide) (by decide))).mono ?_
        rintro e w2 ⟨rfl, rfl⟩
        obtain ⟨Al, cl, rfl, hcl, hCl⟩ := R_reads HO.out
        have HCl := Aside0.mk hCl
        have Hcl := Aside0.mk hcl
        clear hCl hcl HO
        go_wp2_with fail
        refine (take_calls Al cl (oL us) (a1 % 60) 2 wr HCl.out Hcl.out (by rw [oL_len]; exact HUS.out)).mono ?_
        rintro e w3 ⟨vl, vp, rfl, hol, hop, hb3⟩
        obtain ⟨Ap, cp, rfl, hcp, hCp⟩ := R_reads hop
        obtain ⟨ps, hps⟩ : ∃ ps, ps = (takeW (oL us) (a1 % 60) 2).2.1 := ⟨_, rfl⟩
        have HPL : Aside0 ((ps.length : Int) = min ((a1 % 60 + 2) / 3) (us.length : Int) ∧ ∀ j i : Int, 0 ≤ j → i = j + 1 → i < (ps.length : Int) → OneBehind us ps j i) := ⟨by
          rw [hps]
          have b0 := Int.emod_nonneg a1 (show (60 : Int) ≠ 0 by decide)
          have b1 := Int.emod_lt_of_pos a1 (show (0 : Int) < 60 by decide)
          exact ⟨(order_plain us (a1 % 60) b0 b1).1, fun j i hj hi hl => one_behind us (a1 % 60) b0 b1 j i hj hi hl⟩⟩
        rw [← hps] at hCp ⊢
        obtain ⟨nl, hnl⟩ : ∃ nl : Int, nl = (takeW (oL us) (a1 % 60) 2).2.2 := ⟨_, rfl⟩
        rw [← hnl]
        have HCp := Aside0.mk hCp
        have HCl3 := Aside0.mk (C_below HCl.out hb3)
        have HB3 := Aside0.mk (below_then HB.out (below_size HB.out) hb3)
        obtain ⟨Vl, hVl⟩ : ∃ V, V = vl := ⟨_, rfl⟩
        rw [← hVl]
        have hll : (oL us).length = us.length := oL_len us
        rw [hll] at HCl3 ⊢
        have HPM : Aside0 (ps.length ≤ 20) := ⟨by have := HPL.out.1; have := HUS.out; omega⟩
        clear hCp hb3 hol hop hcp hps hnl hVl hll HCl Hcl HB
        go_wp2_with fail
        go_loopg [10] (ps.length + 1) (fun kq v10 w' => ∃ (i : Int), v10 = .int .i64 i ∧ Aside0 (1 ≤ i ∧ i ≤ (ps.length : Int) + 1 ∧ (kq : Int) + i = (ps.length : Int) + 2) ∧ Aside0 (Kd.C kL w' Al us.length (oL us)) ∧ Aside0 (Kd.C kP w' Ap ps.length ps) ∧ Aside0 (Below w.heap.size w w'))
        case atStart => exact ⟨1, rfl, ⟨⟨by decide, by omega, by omega⟩⟩, HCl3, HCp, HB3⟩
        case round =>
          clear HCl3 HCp HB3
          obtain ⟨i, rfl, HI, HCl, HCp, HB⟩ := hrel
          cases gk with
          | zero => exact absurd HI.out (by omega)
          | succ k1 =>
          by_cases h1 : i < (ps.length : Int)
          · have c1b : decide (i < (ps.length : Int)) = true := decide_eq_true h1
            obtain ⟨j, hj⟩ : ∃ j : Int, j = i - 1 := ⟨_, rfl⟩
            have hi1 : 1 ≤ i := HI.out.1
            obtain ⟨a, b, ha0, ha1, hb0, hb1, e1, e2, e3, e4⟩ := HPL.out.2 j i (by omega) (by omega) h1
            have pj : 0 ≤ j := by omega
            have qj : j < (ps.length : Int) := by omega
            have p2 : 0 ≤ i := by omega
            have HC2 := Aside0.mk (show Kd.C kL wr.drew Al us.length (oL us) from C_drew HCl.out)
            have HD2 := Aside0.mk (show Kd.C kP wr.drew Ap ps.length ps from C_drew HCp.out)
            obtain ⟨w2, hw2⟩ : ∃ w2, w2 = wr.drew := ⟨_, rfl⟩
            rw [← hw2] at HC2 HD2
            have HB2 : Aside0 (Below w.heap.size w w2) := ⟨by rw [hw2]; exact below_drew1 HB.out⟩
            have HW2 := Aside0.mk hw2
            obtain ⟨ap, eap, _⟩ := at_T35 HD2.out i p2 h1
            obtain ⟨al, eal, _⟩ := at_T33 HC2.out a ha0 ha1
            subst eap
            subst eal
            obtain ⟨x, hx⟩ : ∃ x, x = rd_T35 ps j := ⟨_, rfl⟩
            obtain ⟨y, hy⟩ : ∃ y, y = rd_T35 ps i := ⟨_, rfl⟩
            obtain ⟨x1, hx1⟩ : ∃ x1, x1 = rd_T33 (oL us) a := ⟨_, rfl⟩
            obtain ⟨x2, hx2⟩ : ∃ x2, x2 = rd_T33 (oL us) b := ⟨_, rfl⟩
            rw [← hx] at e1 e3
            rw [← hy] at e2
            rw [← hx1, ← hx2] at e4
            have HP1 : Aside0 (∀ w', Below w2.heap.size w2 w' → cellsP w' ap j x) := ⟨fun w' h => by rw [hx]; exact cells_P (C_below HD2.out h) j pj qj⟩
            have HP2 : Aside0 (∀ w', Below w2.heap.size w2 w' → cellsP w' ap i y) := ⟨fun w' h => by rw [hy]; exact cells_P (C_below HD2.out h) i p2 h1⟩
            have HL1 : Aside0 (∀ w', Below w2.heap.size w2 w' → cellsL w' al a x1) := ⟨fun w' h => by rw [hx1]; exact cells_L (C_below HC2.out h) a ha0 ha1⟩
            have HL2 : Aside0 (∀ w', Below w2.heap.size w2 w' → cellsL w' al b x2) := ⟨fun w' h => by rw [hx2]; exact cells_L (C_below HC2.out h) b hb0 hb1⟩
            have HE3 := Aside0.mk e3
            have HE4 := Aside0.mk e4
            have hs2 : i ≤ 21 := by have := HPM.out; omega
            have hu2 : us.length < 15 := HUS.out
            have hwj : IntKind.i64.wrap (i - 1) = j := by rw [i64_w, hj]; exact w64 (by omega) (by omega)
            have hwa : IntKind.i64.wrap (x.f0 - 1) = a := by rw [i64_w, e1, show a + 1 - 1 = a by omega]; exact w64 (by omega) (by omega)
            have hwb : IntKind.i64.wrap (y.f0 - 1) = b := by rw [i64_w, e2, show b + 1 - 1 = b by omega]; exact w64 (by omega) (by omega)
            have hwj2 : wrap64 (i - 1) = j := by rw [hj]; exact w64 (by omega) (by omega)
            have hwi : wrap64 (i + 1) = i + 1 := w64 (by omega) (by omega)
            have HJ := Aside0.mk hj
            clear e1 e2 e3 e4 hx hy hx1 hx2 hw2 hj HC2 HD2 hs2 hu2
            replace p2 := eq_true p2
            replace h1 := eq_true h1
            replace pj := eq_true pj
            replace qj := eq_true qj
            replace ha0 := eq_true ha0
            replace ha1 := eq_true ha1
            replace hb0 := eq_true hb0
            replace hb1 := eq_true hb1
            go_wp2_with fail
            refine start_ (n := 23) (S := fun w' => Below w2.heap.size w2 w') (ds := []) #[false, false, false, false, false, false, false, false, false, false, false, false, false, false, false, false, false, false, false, false, false, false, false] (by kernel_rfl) rfl rfl (by rw [HW2.out]; exact Below.refl _ _) (fun hS => ?_)
            refine with_tabW order_tab12 order_bits12 (fun HT_ HW_ => ?_)
            rw [← HW2.out] at hS ⊢
            refine pure_ (i := 0) (N := some 51) (v := ?_) (a' := ?_) (bA 23 1) rfl rfl (any_of HT_.out (by kernel_rfl)) (fun _ _ _ h => h) (Or.inl ⟨by rfl, ?_⟩) ?_ ?_
            rotate_left
            · intro w'
              go_simp
              with_reducible rfl
            rotate_left
            · simp only [Act.put, List.setIfInBounds_toArray, List.set_cons_zero, List.set_cons_succ, i64_w, i32_w]
              rfl
            refine pure_ (i := 1) (N := some 52) (v := ?_) (a' := ?_) (bA 23 3) rfl rfl (any_of HT_.out (by kernel_rfl)) (fun _ _ _ h => h) (Or.inl ⟨by rfl, ?_⟩) ?_ ?_
            rotate_left
            · intro w'
              go_simp
              with_reducible rfl
            rotate_left
            · simp only [Act.put, List.setIfInBounds_toArray, List.set_cons_zero, List.set_cons_succ, i64_w, i32_w]
              rfl
            refine pure_ (i := 2) (N := some 53) (v := ?_) (a' := ?_) (bA 23 7) rfl rfl (any_of HT_.out (by kernel_rfl)) (fun _ _ _ h => h) (Or.inl ⟨by rfl, ?_⟩) ?_ ?_
            rotate_left
            · intro w'
              go_simp
              with_reducible rfl
            rotate_left
            · simp only [Act.put, List.setIfInBounds_toArray, List.set_cons_zero, List.set_cons_succ, i64_w, i32_w]
              rfl
            refine pure_ (i := 3) (N := some 54) (v := ?_) (a' := ?_) (bA 23 15) rfl rfl (any_of HT_.out (by kernel_rfl)) (fun _ _ _ h => h) (Or.inl ⟨by rfl, ?_⟩) ?_ ?_
            rotate_left
            · intro w'
              go_simp
              with_reducible rfl
            rotate_left
            · simp only [Act.put, List.setIfInBounds_toArray, List.set_cons_zero, List.set_cons_succ, i64_w, i32_w]
              rfl
            refine pure_ (i := 4) (N := some 55) (v := ?_) (a' := ?_) (bA 23 31) rfl rfl (any_of HT_.out (by kernel_rfl)) (fun _ _ _ h => h) (Or.inl ⟨by rfl, ?_⟩) ?_ ?_
            rotate_left
            · intro w'
              go_simp
              with_reducible rfl
            rotate_left
            · simp only [Act.put, List.setIfInBounds_toArray, List.set_cons_zero, List.set_cons_succ, i64_w, i32_w]
              rfl
            refine pure_ (i := 5) (N := some 56) (v := ?_) (a' := ?_) (bA 23 63) rfl rfl (any_of HT_.out (by kernel_rfl)) (fun _ _ _ h => h) (Or.inl ⟨by rfl, ?_⟩) ?_ ?_
            rotate_left
            · intro w'
              go_simp
              with_reducible rfl
            rotate_left
            · simp only [Act.put, List.setIfInBounds_toArray, List.set_cons_zero, List.set_cons_succ, i64_w, i32_w]
              rfl
            refine pure_ (i := 10) (N := some 61) (v := ?_) (a' := ?_) (bA 23 1087) rfl rfl (any_of HT_.out (by kernel_rfl)) (fun _ _ _ h => h) (Or.inl ⟨by rfl, ?_⟩) ?_ ?_
            rotate_left
            · intro w'
              go_simp
              with_reducible rfl
            rotate_left
            · simp only [Act.put, List.setIfInBounds_toArray, List.set_cons_zero, List.set_cons_succ, i64_w, i32_w]
              rfl
            refine pure_ (i := 11) (N := some 62) (v := ?_) (a' := ?_) (bA 23 3135) rfl rfl (any_of HT_.out (by kernel_rfl)) (fun _ _ _ h => h) (Or.inl ⟨by rfl, ?_⟩) ?_ ?_
            rotate_left
            · intro w'
              go_simp
              with_reducible rfl
            rotate_left
            · simp only [Act.put, List.setIfInBounds_toArray, List.set_cons_zero, List.set_cons_succ, i64_w, i32_w]
              rfl
            refine pure_ (i := 12) (N := some 63) (v := ?_) (a' := ?_) (bA 23 7231) rfl rfl (any_of HT_.out (by kernel_rfl)) (fun _ _ _ h => h) (Or.inl ⟨by rfl, ?_⟩) ?_ ?_
            rotate_left
            · intro w'
              go_simp
              with_reducible rfl
            rotate_left
            · simp only [Act.put, List.setIfInBounds_toArray, List.set_cons_zero, List.set_cons_succ, i64_w, i32_w]
              rfl
            refine pure_ (i := 13) (N := some 64) (v := ?_) (a' := ?_) (bA 23 15423) rfl rfl (any_of HT_.out (by kernel_rfl)) (fun _ _ _ h => h) (Or.inl ⟨by rfl, ?_⟩) ?_ ?_
            rotate_left
            · intro w'
              go_simp
              with_reducible rfl
            rotate_left
            · simp only [Act.put, List.setIfInBounds_toArray, List.set_cons_zero, List.set_cons_succ, i64_w, i32_w]
              rfl
            refine pure_ (i := 14) (N := some 65) (v := ?_) (a' := ?_) (bA 23 31807) rfl rfl (any_of HT_.out (by kernel_rfl)) (fun _ _ _ h => h) (Or.inl ⟨by rfl, ?_⟩) ?_ ?_
            rotate_left
            · intro w'
              go_simp
              with_reducible rfl
            rotate_left
            · simp only [Act.put, List.setIfInBounds_toArray, List.set_cons_zero, List.set_cons_succ, i64_w, i32_w]
              rfl
            refine take_ (i := 6) (N := some 57) (v := ?_) (a' := ?_) (bA 23 31871) rfl rfl (take_ofW HT_.out HW_.out (by kernel_rfl)) (fun _ _ _ h => h) (Or.inl ⟨by rfl, ?_⟩) hS ?_ ?_
            rotate_left
            · intro w' hs
              have s0 := (HP1.out w' hs).1
              go_simp
              with_reducible rfl
            rotate_left
            · simp only [Act.put, List.setIfInBounds_toArray, List.set_cons_zero, List.set_cons_succ, i64_w, i32_w]
              rfl
            refine pure_ (i := 7) (N := some 58) (v := ?_) (a' := ?_) (bA 23 31999) rfl rfl (any_of HT_.out (by kernel_rfl)) (fun _ _ _ h => h) (Or.inl ⟨by rfl, ?_⟩) ?_ ?_
            rotate_left
            · intro w'
              go_simp
              with_reducible rfl
            rotate_left
            · simp only [Act.put, List.setIfInBounds_toArray, List.set_cons_zero, List.set_cons_succ, i64_w, i32_w]
              rfl
            refine pure_ (i := 8) (N := some 59) (v := ?_) (a' := ?_) (bA 23 32255) rfl rfl (any_of HT_.out (by kernel_rfl)) (fun _ _ _ h => h) (Or.inl ⟨by rfl, ?_⟩) ?_ ?_
            rotate_left
            · intro w'
              go_simp
              with_reducible rfl
            rotate_left
            · simp only [Act.put, List.setIfInBounds_toArray, List.set_cons_zero, List.set_cons_succ, i64_w, i32_w]
              rfl
            refine take_ (i := 9) (N := some 60) (v := ?_) (a' := ?_) (bA 23 32767) rfl rfl (take_ofW HT_.out HW_.out (by kernel_rfl)) (fun _ _ _ h => h) (Or.inl ⟨by rfl, ?_⟩) hS ?_ ?_
            rotate_left
            · intro w' hs
              obtain ⟨s0, s1, s2, s3, s4, s5, s6, s7, s8⟩ := HL1.out w' hs
              go_simp
              with_reducible rfl
            rotate_left
            · simp only [Act.put, List.setIfInBounds_toArray, List.set_cons_zero, List.set_cons_succ, i64_w, i32_w]
              rfl
            refine take_ (i := 15) (N := some 66) (v := ?_) (a' := ?_) (bA 23 65535) rfl rfl (take_ofW HT_.out HW_.out (by kernel_rfl)) (fun _ _ _ h => h) (Or.inl ⟨by rfl, ?_⟩) hS ?_ ?_
            rotate_left
            · intro w' hs
              have s0 := (HP2.out w' hs).1
              go_simp
              with_reducible rfl
            rotate_left
            · simp only [Act.put, List.setIfInBounds_toArray, List.set_cons_zero, List.set_cons_succ, i64_w, i32_w]
              rfl
            refine pure_ (i := 16) (N := some 67) (v := ?_) (a' := ?_) (bA 23 131071) rfl rfl (any_of HT_.out (by kernel_rfl)) (fun _ _ _ h => h) (Or.inl ⟨by rfl, ?_⟩) ?_ ?_
            rotate_left
            · intro w'
              go_simp
              with_reducible rfl
            rotate_left
            · simp only [Act.put, List.setIfInBounds_toArray, List.set_cons_zero, List.set_cons_succ, i64_w, i32_w]
              rfl
            refine pure_ (i := 17) (N := some 68) (v := ?_) (a' := ?_) (bA 23 262143) rfl rfl (any_of HT_.out (by kernel_rfl)) (fun _ _ _ h => h) (Or.inl ⟨by rfl, ?_⟩) ?_ ?_
            rotate_left
            · intro w'
              go_simp
              with_reducible rfl
            rotate_left
            · simp only [Act.put, List.setIfInBounds_toArray, List.set_cons_zero, List.set_cons_succ, i64_w, i32_w]
              rfl
            refine take_ (i := 18) (N := some 69) (v := ?_) (a' := ?_) (bA 23 524287) rfl rfl (take_ofW HT_.out HW_.out (by kernel_rfl)) (fun _ _ _ h => h) (Or.inl ⟨by rfl, ?_⟩) hS ?_ ?_
            rotate_left
            · intro w' hs
              obtain ⟨s0, s1, s2, s3, s4, s5, s6, s7, s8⟩ := HL2.out w' hs
              go_simp
              with_reducible rfl
            rotate_left
            · simp only [Act.put, List.setIfInBounds_toArray, List.set_cons_zero, List.set_cons_succ, i64_w, i32_w]
              rfl
            refine join_ (σ := Nat × Nat) 2 (bA 23 2097151) (fun s_ => [(11, .pointer (some ⟨s_.1, 0, none⟩)), (12, .pointer (some ⟨s_.2, 0, none⟩))]) (fun s_ w' => Below w2.heap.size w2 w' ∧ w'.heap[s_.1]? = some (.cells #[.int .i64 0, .int .i64 0, .int .i64 0, .int .i64 0, .int .i64 0, .int .i64 0, .int .i64 0, .int .i64 0, .int .i64 0] 33 (0, 0)) ∧ w'.heap[s_.2]? = some (.cells #[.int .i64 0, .int .i64 0, .int .i64 0, .int .i64 0, .int .i64 0, .int .i64 0, .int .i64 0, .int .i64 0, .int .i64 0] 33 (0, 0)) ∧ w2.heap.size ≤ s_.1 ∧ w2.heap.size ≤ s_.2 ∧ s_.1 ≠ s_.2) ?_ ?_
            rotate_left
            · intro hCont
              refine two_ (i := 19) (j := 20) (Ni := some 11) (Nj := some 12) (bA 23 1048575) (bA 23 1572863) rfl rfl rfl rfl (two_of HT_.out (by kernel_rfl)) (by decide) (by decide) (fun K hK => ?_) (fun K hK => ?_)
              · skip
                refine box_step ?hg (N := 11) ?hd (cs := #[.int .i64 0, .int .i64 0, .int .i64 0, .int .i64 0, .int .i64 0, .int .i64 0, .int .i64 0, .int .i64 0, .int .i64 0]) (t := 33) ?hr ?_; (case hd => rfl); (case hg => rfl); (case hr => first | (go_simp; done) | (go_simp; rfl))
                intro ga hga wa hba hbb
                have hSa : Below w2.heap.size w2 wa := below_then hS hS.size hbb
                have hza : w2.heap.size ≤ ga := by rw [hga]; exact hS.size
                refine hK.out _ _ hSa (fun _ => ?_)
                clear hK K
                refine norm_ (a' := ?_) ?_ ?_
                rotate_left
                · show Act.put _ (some 11) _ = _
                  simp only [Act.put, List.setIfInBounds_toArray, List.set_cons_zero, List.set_cons_succ, i64_w, i32_w]
                  rfl
                refine one_ (i := 20) (N := some 12) (bA 23 2097151) rfl rfl (one_of HT_.out (by kernel_rfl)) (by decide) (fun K hK => ?_)
                refine box_step ?hg (N := 12) ?hd (cs := #[.int .i64 0, .int .i64 0, .int .i64 0, .int .i64 0, .int .i64 0, .int .i64 0, .int .i64 0, .int .i64 0, .int .i64 0]) (t := 33) ?hr ?_; (case hd => rfl); (case hg => rfl); (case hr => first | (go_simp; done) | (go_simp; rfl))
                intro gb hgb wb hbc hbd
                have hSb : Below w2.heap.size w2 wb := below_then hSa hSa.size hbd
                have hzb : w2.heap.size ≤ gb := by rw [hgb]; exact hSa.size
                have hne : ga ≠ gb := by rw [hgb]; exact Nat.ne_of_lt (blk_lt hba)
                have hba2 := blk_below hba hbd
                refine hK.out _ _ hSb (fun _ => ?_)
                clear hK K
                refine norm_ (a' := ?_) ?_ ?_
                rotate_left
                · show Act.put _ (some 12) _ = _
                  simp only [Act.put, List.setIfInBounds_toArray, List.set_cons_zero, List.set_cons_succ, i64_w, i32_w]
                  rfl
                exact norm_ (by simp only [putAll, Act.put, List.setIfInBounds_toArray, List.set_cons_zero, List.set_cons_succ]) (hCont (ga, gb) _ ⟨hSb, hba2, hbc, hza, hzb, hne⟩)
              · skip
                refine box_step ?hg (N := 12) ?hd (cs := #[.int .i64 0, .int .i64 0, .int .i64 0, .int .i64 0, .int .i64 0, .int .i64 0, .int .i64 0, .int .i64 0, .int .i64 0]) (t := 33) ?hr ?_; (case hd => rfl); (case hg => rfl); (case hr => first | (go_simp; done) | (go_simp; rfl))
                intro ga hga wa hba hbb
                have hSa : Below w2.heap.size w2 wa := below_then hS hS.size hbb
                have hza : w2.heap.size ≤ ga := by rw [hga]; exact hS.size
                refine hK.out _ _ hSa (fun _ => ?_)
                clear hK K
                refine norm_ (a' := ?_) ?_ ?_
                rotate_left
                · show Act.put _ (some 12) _ = _
                  simp only [Act.put, List.setIfInBounds_toArray, List.set_cons_zero, List.set_cons_succ, i64_w, i32_w]
                  rfl
                refine one_ (i := 19) (N := some 11) (bA 23 2097151) rfl rfl (one_of HT_.out (by kernel_rfl)) (by decide) (fun K hK => ?_)
                refine box_step ?hg (N := 11) ?hd (cs := #[.int .i64 0, .int .i64 0, .int .i64 0, .int .i64 0, .int .i64 0, .int .i64 0, .int .i64 0, .int .i64 0, .int .i64 0]) (t := 33) ?hr ?_; (case hd => rfl); (case hg => rfl); (case hr => first | (go_simp; done) | (go_simp; rfl))
                intro gb hgb wb hbc hbd
                have hSb : Below w2.heap.size w2 wb := below_then hSa hSa.size hbd
                have hzb : w2.heap.size ≤ gb := by rw [hgb]; exact hSa.size
                have hne : ga ≠ gb := by rw [hgb]; exact Nat.ne_of_lt (blk_lt hba)
                have hba2 := blk_below hba hbd
                refine hK.out _ _ hSb (fun _ => ?_)
                clear hK K
                refine norm_ (a' := ?_) ?_ ?_
                rotate_left
                · show Act.put _ (some 11) _ = _
                  simp only [Act.put, List.setIfInBounds_toArray, List.set_cons_zero, List.set_cons_succ, i64_w, i32_w]
                  rfl
                exact norm_ (by simp only [putAll, Act.put, List.setIfInBounds_toArray, List.set_cons_zero, List.set_cons_succ]) (hCont (gb, ga) _ ⟨hSb, hbc, hba2, hzb, hza, hne.symm⟩)
            rintro ⟨ga, gb⟩ w3 ⟨hS3, hba, hbb, hza, hzb, hne⟩
            refine norm_ (a' := ?_) ?_ ?_
            rotate_left
            · simp only [putAll, Act.put, List.setIfInBounds_toArray, List.set_cons_zero, List.set_cons_succ]
              rfl
            obtain ⟨w4, hw4⟩ : ∃ w4, w4 = set9 w3 ga x1 := ⟨_, rfl⟩
            have hba4 : w4.heap[ga]? = some (.cells #[.int .i64 x1.f0, .int .i64 x1.f1, .int .i64 x1.f2, .int .i64 x1.f3, .int .i64 x1.f4, .int .i64 x1.f5, .int .i64 x1.f6, .int .i64 x1.f7, .int .i64 x1.f8] 33 (0, 0)) := by rw [hw4]; exact set9_blk hba x1
            have hbb4 : w4.heap[gb]? = some (.cells #[.int .i64 0, .int .i64 0, .int .i64 0, .int .i64 0, .int .i64 0, .int .i64 0, .int .i64 0, .int .i64 0, .int .i64 0] 33 (0, 0)) := by rw [hw4]; exact set9_far hbb x1 hne.symm
            have hS4 : Below w2.heap.size w2 w4 := by rw [hw4]; exact set9_below hS3 x1 hza
            have HX4 := Aside0.mk hba4
            have HY3 := Aside0.mk hbb
            have HY4 := Aside0.mk hbb4
            have HX3 := Aside0.mk hba
            have HN := Aside0.mk hne
            clear hba hbb hba4 hbb4 hS hS3
            refine one_ (i := 21) (N := none) (bA 23 4194303) rfl rfl (one_of HT_.out (by kernel_rfl)) (by decide) (fun K hK => ?_)
            have hs0 : w3.cell? ⟨ga, 0, none⟩ = some (.int .i64 0) := (blk_cell HX3.out 0).trans rfl
            have hfs0 := blk_frozen HX3.out 0
            have hs1 : w3.cell? ⟨ga, 1, none⟩ = some (.int .i64 0) := (blk_cell HX3.out 1).trans rfl
            have hfs1 := blk_frozen HX3.out 1
            have hs2 : w3.cell? ⟨ga, 2, none⟩ = some (.int .i64 0) := (blk_cell HX3.out 2).trans rfl
            have hfs2 := blk_frozen HX3.out 2
            have hs3 : w3.cell? ⟨ga, 3, none⟩ = some (.int .i64 0) := (blk_cell HX3.out 3).trans rfl
            have hfs3 := blk_frozen HX3.out 3
            have hs4 : w3.cell? ⟨ga, 4, none⟩ = some (.int .i64 0) := (blk_cell HX3.out 4).trans rfl
            have hfs4 := blk_frozen HX3.out 4
            have hs5 : w3.cell? ⟨ga, 5, none⟩ = some (.int .i64 0) := (blk_cell HX3.out 5).trans rfl
            have hfs5 := blk_frozen HX3.out 5
            have hs6 : w3.cell? ⟨ga, 6, none⟩ = some (.int .i64 0) := (blk_cell HX3.out 6).trans rfl
            have hfs6 := blk_frozen HX3.out 6
            have hs7 : w3.cell? ⟨ga, 7, none⟩ = some (.int .i64 0) := (blk_cell HX3.out 7).trans rfl
            have hfs7 := blk_frozen HX3.out 7
            have hs8 : w3.cell? ⟨ga, 8, none⟩ = some (.int .i64 0) := (blk_cell HX3.out 8).trans rfl
            have hfs8 := blk_frozen HX3.out 8
            refine skip_ (w1 := set9 w3 ga x1) (by rfl) rfl ?_ ?_
            · go_simp
              rfl
            rw [← hw4]
            clear hs0 hfs0 hs1 hfs1 hs2 hfs2 hs3 hfs3 hs4 hfs4 hs5 hfs5 hs6 hfs6 hs7 hfs7 hs8 hfs8 hw4
            refine hK.out _ _ hS4 (fun _ => ?_)
            clear hK K
            refine one_ (i := 22) (N := none) (bA 23 8388607) rfl rfl (one_of HT_.out (by kernel_rfl)) (by decide) (fun K hK => ?_)
            have hs0 : w4.cell? ⟨gb, 0, none⟩ = some (.int .i64 0) := (blk_cell HY4.out 0).trans rfl
            have hfs0 := blk_frozen HY4.out 0
            have hs1 : w4.cell? ⟨gb, 1, none⟩ = some (.int .i64 0) := (blk_cell HY4.out 1).trans rfl
            have hfs1 := blk_frozen HY4.out 1
            have hs2 : w4.cell? ⟨gb, 2, none⟩ = some (.int .i64 0) := (blk_cell HY4.out 2).trans rfl
            have hfs2 := blk_frozen HY4.out 2
            have hs3 : w4.cell? ⟨gb, 3, none⟩ = some (.int .i64 0) := (blk_cell HY4.out 3).trans rfl
            have hfs3 := blk_frozen HY4.out 3
            have hs4 : w4.cell? ⟨gb, 4, none⟩ = some (.int .i64 0) := (blk_cell HY4.out 4).trans rfl
            have hfs4 := blk_frozen HY4.out 4
            have hs5 : w4.cell? ⟨gb, 5, none⟩ = some (.int .i64 0) := (blk_cell HY4.out 5).trans rfl
            have hfs5 := blk_frozen HY4.out 5
            have hs6 : w4.cell? ⟨gb, 6, none⟩ = some (.int .i64 0) := (blk_cell HY4.out 6).trans rfl
            have hfs6 := blk_frozen HY4.out 6
            have hs7 : w4.cell? ⟨gb, 7, none⟩ = some (.int .i64 0) := (blk_cell HY4.out 7).trans rfl
            have hfs7 := blk_frozen HY4.out 7
            have hs8 : w4.cell? ⟨gb, 8, none⟩ = some (.int .i64 0) := (blk_cell HY4.out 8).trans rfl
            have hfs8 := blk_frozen HY4.out 8
            refine skip_ (w1 := set9 w4 gb x2) (by rfl) rfl ?_ ?_
            · go_simp
              rfl
            have hS5 : Below w2.heap.size w2 (set9 w4 gb x2) := set9_below hS4 x2 hzb
            have hba5 : (set9 w4 gb x2).heap[ga]? = some (.cells #[.int .i64 x1.f0, .int .i64 x1.f1, .int .i64 x1.f2, .int .i64 x1.f3, .int .i64 x1.f4, .int .i64 x1.f5, .int .i64 x1.f6, .int .i64 x1.f7, .int .i64 x1.f8] 33 (0, 0)) := set9_far HX4.out x2 HN.out
            have hbb5 : (set9 w4 gb x2).heap[gb]? = some (.cells #[.int .i64 x2.f0, .int .i64 x2.f1, .int .i64 x2.f2, .int .i64 x2.f3, .int .i64 x2.f4, .int .i64 x2.f5, .int .i64 x2.f6, .int .i64 x2.f7, .int .i64 x2.f8] 33 (0, 0)) := set9_blk HY4.out x2
            obtain ⟨w5, hw5⟩ : ∃ w5, w5 = set9 w4 gb x2 := ⟨_, rfl⟩
            rw [← hw5] at hS5 hba5 hbb5 ⊢
            refine hK.out _ _ hS5 (fun _ => ?_)
            have HX := Aside0.mk hba5
            have HY := Aside0.mk hbb5
            have HS5 := Aside0.mk hS5
            clear hK K hS4 hs0 hfs0 hs1 hfs1 hs2 hfs2 hs3 hfs3 hs4 hfs4 hs5 hfs5 hs6 hfs6 hs7 hfs7 hs8 hfs8 hw5 hba5 hbb5 hS5
            refine done_ (done_of HT_.out (by kernel_rfl)) ?_
            have hf3a : w5.cell? ⟨ga, 3, none⟩ = some (.int .i64 x1.f3) := (blk_cell HX.out 3).trans rfl
            have hf3b : w5.cell? ⟨gb, 3, none⟩ = some (.int .i64 x2.f3) := (blk_cell HY.out 3).trans rfl
            have hf0a : w5.cell? ⟨ga, 0, none⟩ = some (.int .i64 x1.f0) := (blk_cell HX.out 0).trans rfl
            have hf0b : w5.cell? ⟨gb, 0, none⟩ = some (.int .i64 x2.f0) := (blk_cell HY.out 0).trans rfl
            have hcx := (HP1.out w5 HS5.out).2
            rw [HE3.out] at hcx
            have HB5 := Aside0.mk (below_then HB2.out (below_size HB2.out) HS5.out)
            have HP5 : Aside0 (Kd.C kP w5 (some ap) ps.length ps) := ⟨C_below (by rw [HW2.out]; exact C_drew HCp.out) HS5.out⟩
            have HL5 : Aside0 (Kd.C kL w5 (some al) us.length (oL us)) := ⟨C_below (by rw [HW2.out]; exact C_drew HCl.out) HS5.out⟩
            have hgt : decide (x2.f3 < x1.f3) = false := decide_eq_false (by have := HE4.out; omega)
            rcases HE4.out with hlt | ⟨heq, hid⟩
            · have heb : (x1.f3 == x2.f3) = false := beq_eq_false_iff_ne.mpr (by omega)
              clear hlt hza hzb HCl HCp
              go_wp2_with fail
              go_roundg k1
              case measure => omega
              case rel => exact ⟨i + 1, rfl, ⟨⟨by omega, by have := HI.out; have := of_eq_true h1; omega, by have := HI.out; omega⟩⟩, HL5, HP5, HB5⟩
            · have heb : (x1.f3 == x2.f3) = true := beq_iff_eq.mpr heq
              have hge : decide (x2.f0 ≤ x1.f0) = false := decide_eq_false (by omega)
              clear heq hid hza hzb HCl HCp
              go_wp2_with fail
              go_roundg k1
              case measure => omega
              case rel => exact ⟨i + 1, rfl, ⟨⟨by omega, by have := HI.out; have := of_eq_true h1; omega, by have := HI.out; omega⟩⟩, HL5, HP5, HB5⟩
          · have c1b : decide (i < (ps.length : Int)) = false := decide_eq_false h1
            have b0 := Int.emod_nonneg a1 (show (60 : Int) ≠ 0 by decide)
            have b1 := Int.emod_lt_of_pos a1 (show (0 : Int) < 60 by decide)
            have hw1 : wrap64 (a1 % 60 + 2) = a1 % 60 + 2 := w64 (by omega) (by omega)
            go_wp2_with fail
            refine (tolllaw10_within.calls a1 60 (a1 % 60) _ (within_f a1 60 (by decide) (by decide))).mono ?_
            rintro e w4 ⟨rfl, rfl⟩
            obtain ⟨m, hm⟩ : ∃ m : Int, m = min ((a1 % 60 + 2) / 3) (us.length : Int) := ⟨_, rfl⟩
            have hmin : ∀ k k', Builtin.min2 (.int k ((a1 % 60 + 2) / 3)) (.int k' (us.length : Int)) = pure (.int k m) := fun k k' => by rw [min2_min, hm]
            have hme : ((ps.length : Int) == m) = true := beq_iff_eq.mpr (by rw [hm]; exact HPL.out.1)
            clear hm b0 b1 hw1
            go_wp2_with fail
            go_ret
            exact ⟨rfl, HB.out⟩
theorem order_law (a0 : Option Addr) (len0 cap0 : Nat) (z0 : List Int) (a1 : Int) (w : World) (w0 : (a0 = none ∧ len0 = 0 ∧ cap0 = 0 ∧ z0 = []) ∨ ∃ x, a0 = some x ∧ len0 ≤ cap0 ∧ cap0 ≤ maxLen ∧ z0.length = cap0 ∧ (∀ i, i < z0.length → w.cell? (x.add i) = some (.int .i64 (z0.getD i 0))) ∧ ∀ n ∈ z0, (Lit.int .i64 n).wf = true) (y0 : len0 * 8 ≤ 140737488351232) (w1 : (Lit.int .i64 a1).wf = true) :
    Calls Try.prog 4 #[.slice a0 len0 cap0, .int .i64 a1] w fun e w' => e = .returned (.bool true) ∧ Below w.heap.size w w' := by
  obtain ⟨l0, rfl, hr0, hm0, hw0, hc0⟩ := ReadsInt.ofRowC w0
  exact order_walk a0 cap0 l0 a1 w (Kd.C_of_reads (d := (0 : Int)) (h1 := fun _ => rfl) hr0) hc0
end Go.Proofs.Ytjoimapgmocoeaa.Lk
