/- LotsPlays, in plain lists: the document's Take and Left are the program's, and the numbers stay small (never import it beside LotLeft: its words on Left stand here again). -/
import Derived.Test.YtjoimapgmocoeaaTakeAll
import Derived.Test.YtjoimapgmocoeaaXa10
import Derived.Test.YtjoimapgmocoeaaXa11
import Derived.Test.YtjoimapgmocoeaaXa12
import Derived.Test.YtjoimapgmocoeaaXa20
import Derived.Test.YtjoimapgmocoeaaXa21
import Derived.Test.YtjoimapgmocoeaaXa22
import Derived.Test.YtjoimapgmocoeaaXa23
import Derived.Test.YtjoimapgmocoeaaXa24
import Derived.Test.YtjoimapgmocoeaaXa26
set_option linter.unusedVariables false
set_option linter.unusedSimpArgs false
namespace Go.Proofs.Ytjoimapgmocoeaa.Lk
open Go.RowKit Go.Proofs.YtjoimapgmocoeaaW.PrintWords Go.Proofs.YtjoimapgmocoeaaW.PrintLast Go.Proofs.YtjoimapgmocoeaaW.PrintMore Go.Proofs.Ytjoimapgmocoeaa.Xa
theorem valid_f (x : SL) (now : Int) : lots_valid.f x.f0 x.f1 x.f2 x.f3 x.f4 x.f5 x.f6 x.f7 x.f8 now = some (validB x now) := by
  unfold lots_valid.f validB
  split <;> simp [*]
theorem rest_f (x : SL) : lots_Rest.f x.f0 x.f1 x.f2 x.f3 x.f4 x.f5 x.f6 x.f7 x.f8 = some (restW x) := rfl
/-- What remains in valid lots, behind n. -/
def leftGo (now : Int) : Int → List SL → Int
  | n, [] => n
  | n, x :: xs => leftGo now (if validB x now = true then wrap64 (n + restW x) else n) xs
def leftW (l : List SL) (now : Int) : Int := leftGo now 0 l
theorem left_l0 (l : List SL) (now : Int) (hl : l.length < 15) (d : Nat) : ∀ (i : Nat) (n : Int), i + d = l.length → Ev (fun k => lots_Left.l0 k now n l (l.length : Int) (i : Int)) (leftGo now n (l.drop i)) := by
  induction d with
  | zero =>
    intro i n hi
    have hd : l.drop i = [] := List.drop_of_length_le (by omega)
    rw [hd]
    refine Ev.step (fun k => by simp only [lots_Left.l0]; rfl) ?_
    refine Ev.ite_neg (by omega) ?_
    exact Ev.now _
  | succ d ih =>
    intro i n hi
    have hil : i < l.length := by omega
    have e : rd_T33 l (i : Int) = l[i] := by simp [rd_T33, hil]
    refine Ev.step (fun k => by simp only [lots_Left.l0]; rfl) ?_
    refine Ev.ite_pos (by omega) (Ev.ite_pos (by omega) (Ev.ite_pos (by omega) ?_))
    rw [e, List.drop_eq_getElem_cons hil]
    refine Ev.bindc (valid_f _ _) ?_
    simp only [leftGo]
    by_cases h : validB l[i] now = true
    · refine Ev.ite_pos h (Ev.bindc (rest_f _) ?_)
      rw [if_pos h, w64 (x := (i : Int) + 1) (by omega) (by omega)]
      exact ih (i + 1) _ (by omega)
    · refine Ev.ite_neg h ?_
      rw [if_neg h, w64 (x := (i : Int) + 1) (by omega) (by omega)]
      exact ih (i + 1) _ (by omega)
theorem left_f (l : List SL) (now : Int) (hl : l.length < 15) : Ev (fun k => lots_Left.f k l now) (leftW l now) := left_l0 l now hl l.length 0 0 (by omega)
theorem rvalid_f (x : SL) (now : Int) : tollref10_Valid.f x.f0 x.f1 x.f2 x.f3 x.f4 x.f5 x.f6 x.f7 x.f8 now = some (validB x now) := by
  unfold tollref10_Valid.f validB
  split <;> simp [*]
theorem rrest_f (x : SL) : tollref10_Rest.f x.f0 x.f1 x.f2 x.f3 x.f4 x.f5 x.f6 x.f7 x.f8 = some (restW x) := rfl
theorem rd_at (l : List SL) (i : Nat) : rd_T33 l (i : Int) = l.getD i zL := by simp [rd_T33]
def Cand (l : List SL) (now : Int) (j : Nat) : Prop := j < l.length ∧ validB (l.getD j zL) now = true ∧ 0 < restW (l.getD j zL)
/-- What 'first' holds after so many places: none was fit, or the one that ends first, of these the first one. -/
def Best (l : List SL) (now : Int) (i : Nat) (b : Int) : Prop :=
  (b = -1 ∧ ∀ j, j < i → ¬ Cand l now j) ∨ ∃ k : Nat, b = (k : Int) ∧ k < i ∧ Cand l now k ∧ ∀ j, j < i → Cand l now j → (l.getD k zL).f3 < (l.getD j zL).f3 ∨ (l.getD k zL).f3 = (l.getD j zL).f3 ∧ k ≤ j
theorem Best.skip {l : List SL} {now : Int} {i : Nat} {b : Int} (h : Best l now i b) (hc : ¬ Cand l now i) : Best l now (i + 1) b := by
  rcases h with ⟨h1, h2⟩ | ⟨k, h1, h2, h3, h4⟩
  · refine .inl ⟨h1, fun j hj => ?_⟩
    by_cases e : j = i
    · rw [e]; exact hc
    · exact h2 j (by omega)
  · refine .inr ⟨k, h1, by omega, h3, fun j hj hcj => ?_⟩
    by_cases e : j = i
    · rw [e] at hcj; exact absurd hcj hc
    · exact h4 j (by omega) hcj
theorem first_l0 (l : List SL) (now : Int) (hl : l.length < 15) (d : Nat) : ∀ (i : Nat) (b : Int), i + d = l.length → Best l now i b → ∃ r, Best l now l.length r ∧ Ev (fun k => tollref10_first.l0 k l now b (i : Int)) r := by
  induction d with
  | zero =>
    intro i b hi hb
    refine ⟨b, by rw [show l.length = i by omega]; exact hb, ?_⟩
    refine Ev.step (fun k => by simp only [tollref10_first.l0]; rfl) ?_
    refine Ev.ite_neg (by omega) ?_
    exact Ev.now _
  | succ d ih =>
    intro i b hi hb
    have hil : i < l.length := by omega
    have hw : wrap64 ((i : Int) + 1) = ((i + 1 : Nat) : Int) := by rw [w64 (by omega) (by omega)]; rfl
    by_cases h1 : validB (l.getD i zL) now = true
    · by_cases h2 : 0 < restW (l.getD i zL)
      · have hc : Cand l now i := ⟨hil, h1, h2⟩
        rcases hb with ⟨b1, b2⟩ | ⟨k, b1, b2, b3, b4⟩
        · obtain ⟨r, hr, he⟩ := ih (i + 1) (i : Int) (by omega) (.inr ⟨i, rfl, by omega, hc, fun j hj hcj => by
            by_cases e : j = i
            · rw [e]; exact .inr ⟨rfl, Nat.le_refl _⟩
            · exact absurd hcj (b2 j (by omega))⟩)
          refine ⟨r, hr, ?_⟩
          refine Ev.step (fun k => by simp only [tollref10_first.l0]; rfl) ?_
          rw [rd_at, hw]
          refine Ev.ite_pos (by omega) (Ev.ite_pos (by omega) (Ev.bindc (rvalid_f _ _) (Ev.ite_pos h1 (Ev.bindc (rrest_f _) (Ev.ite_pos h2 (Ev.ite_pos (by omega) he))))))
        · by_cases h3 : (l.getD i zL).f3 < (l.getD k zL).f3
          · obtain ⟨r, hr, he⟩ := ih (i + 1) (i : Int) (by omega) (.inr ⟨i, rfl, by omega, hc, fun j hj hcj => by
              by_cases e : j = i
              · rw [e]; exact .inr ⟨rfl, Nat.le_refl _⟩
              · have := b4 j (by omega) hcj
                omega⟩)
            refine ⟨r, hr, ?_⟩
            subst b1
            refine Ev.step (fun k => by simp only [tollref10_first.l0]; rfl) ?_
            rw [rd_at, rd_at, hw]
            refine Ev.ite_pos (by omega) (Ev.ite_pos (by omega) (Ev.bindc (rvalid_f _ _) (Ev.ite_pos h1 (Ev.bindc (rrest_f _) (Ev.ite_pos h2 (Ev.ite_neg (by omega) (Ev.ite_pos (by omega) (Ev.ite_pos (by omega) (Ev.ite_pos h3 he)))))))))
          · obtain ⟨r, hr, he⟩ := ih (i + 1) b (by omega) (.inr ⟨k, b1, by omega, b3, fun j hj hcj => by
              by_cases e : j = i
              · rw [e]; omega
              · exact b4 j (by omega) hcj⟩)
            refine ⟨r, hr, ?_⟩
            subst b1
            refine Ev.step (fun k => by simp only [tollref10_first.l0]; rfl) ?_
            rw [rd_at, rd_at, hw]
            refine Ev.ite_pos (by omega) (Ev.ite_pos (by omega) (Ev.bindc (rvalid_f _ _) (Ev.ite_pos h1 (Ev.bindc (rrest_f _) (Ev.ite_pos h2 (Ev.ite_neg (by omega) (Ev.ite_pos (by omega) (Ev.ite_pos (by omega) (Ev.ite_neg h3 he)))))))))
      · obtain ⟨r, hr, he⟩ := ih (i + 1) b (by omega) (hb.skip (fun h => h2 h.2.2))
        refine ⟨r, hr, ?_⟩
        refine Ev.step (fun k => by simp only [tollref10_first.l0]; rfl) ?_
        rw [rd_at, hw]
        refine Ev.ite_pos (by omega) (Ev.ite_pos (by omega) (Ev.bindc (rvalid_f _ _) (Ev.ite_pos h1 (Ev.bindc (rrest_f _) (Ev.ite_neg (by omega) he)))))
    · obtain ⟨r, hr, he⟩ := ih (i + 1) b (by omega) (hb.skip (fun h => h1 h.2.1))
      refine ⟨r, hr, ?_⟩
      refine Ev.step (fun k => by simp only [tollref10_first.l0]; rfl) ?_
      rw [rd_at, hw]
      refine Ev.ite_pos (by omega) (Ev.ite_pos (by omega) (Ev.bindc (rvalid_f _ _) (Ev.ite_neg h1 he)))
def headI : List Int → Int
  | [] => -1
  | a :: _ => a
theorem best_head (l : List SL) (now : Int) (hr : Rise 0 l) (b : Int) (h : Best l now l.length b) : b = headI (orderL l now) := by
  have hm := fun j => (mem_orderL l now (j : Int))
  have hs := orderL_sorted l now (rise_apart l 0 hr)
  have hcand : ∀ j : Nat, Cand l now j → (j : Int) ∈ orderL l now := fun j hc => (mem_orderL l now (j : Int)).2 ⟨j, hc.1, rfl, hc.2⟩
  cases e : orderL l now with
  | nil =>
    rcases h with ⟨h1, h2⟩ | ⟨k, h1, h2, h3, h4⟩
    · exact h1
    · have := hcand k h3
      rw [e] at this
      simp at this
  | cons a tl =>
    have ha : a ∈ orderL l now := by rw [e]; exact List.mem_cons_self ..
    obtain ⟨j, j1, rfl, j2, j3⟩ := (mem_orderL l now a).1 ha
    rcases h with ⟨h1, h2⟩ | ⟨k, h1, h2, h3, h4⟩
    · exact absurd ⟨j1, j2, j3⟩ (h2 j j1)
    · show b = (j : Int)
      have h5 := h4 j j1 ⟨j1, j2, j3⟩
      have h6 := hcand k h3
      rw [e] at h6 hs
      rcases List.mem_cons.1 h6 with h7 | h7
      · rw [h1, h7]
      · have h8 := (List.pairwise_cons.1 hs).1 _ h7
        rw [ltL_iff, Int.toNat_natCast, Int.toNat_natCast] at h8
        rcases Nat.lt_trichotomy j k with g | g | g
        · omega
        · rw [h1, g]
        · have := rise_lt l 0 k j hr g j1
          omega
theorem first_f (l : List SL) (now : Int) (hl : l.length < 15) (hr : Rise 0 l) : Ev (fun k => tollref10_first.f k l now) (headI (orderL l now)) := by
  obtain ⟨r, h1, h2⟩ := first_l0 l now hl l.length 0 (-1) (by omega) (.inl ⟨rfl, fun j hj => absurd hj (by omega)⟩)
  rw [← best_head l now hr r h1]
  exact h2
/-- The numbers of a lot are from -B to B. -/
structure Small (B : Int) (x : SL) : Prop where
  a4 : -B ≤ x.f4
  b4 : x.f4 ≤ B
  a5 : -B ≤ x.f5
  b5 : x.f5 ≤ B
  a6 : -B ≤ x.f6
  b6 : x.f6 ≤ B
  a7 : -B ≤ x.f7
  b7 : x.f7 ≤ B
  a8 : -B ≤ x.f8
  b8 : x.f8 ≤ B
theorem Small.rest {B : Int} {x : SL} (h : Small B x) (hB : B ≤ 1000000000000) : restW x = x.f4 - x.f5 - x.f6 - x.f7 - x.f8 := by
  obtain ⟨h1, h2, h3, h4, h5, h6, h7, h8, h9, h10⟩ := h
  unfold restW
  rw [w64 (x := x.f4 - x.f5) (by omega) (by omega), w64 (x := x.f4 - x.f5 - x.f6) (by omega) (by omega), w64 (x := x.f4 - x.f5 - x.f6 - x.f7) (by omega) (by omega), w64 (by omega) (by omega)]
theorem Small.mono {B C : Int} {x : SL} (h : Small B x) (hB : B ≤ C) : Small C x := by
  obtain ⟨h1, h2, h3, h4, h5, h6, h7, h8, h9, h10⟩ := h
  constructor <;> omega
def SmallL (B : Int) (l : List SL) : Prop := ∀ j, j < l.length → Small B (l.getD j zL)
theorem getD_set (l : List SL) (i k : Nat) (x : SL) (hi : i < l.length) : (l.set i x).getD k zL = if k = i then x else l.getD k zL := by
  by_cases e : k = i
  · rw [e, if_pos rfl]
    simp [hi]
  · rw [if_neg e]
    simp [List.getElem?_set_ne (Ne.symm e)]
theorem SmallL.set {B C : Int} {l : List SL} {i : Nat} {x : SL} (h : SmallL B l) (hi : i < l.length) (hB : B ≤ C) (hx : Small C x) : SmallL C (l.set i x) := fun j hj => by
  rw [List.length_set] at hj
  rw [getD_set l i j x hi]
  split
  · exact hx
  · exact (h j hj).mono hB
theorem rise_set : ∀ (l : List SL) (id : Int) (i : Nat) (x : SL), i < l.length → x.f0 = (l.getD i zL).f0 → Rise id l → Rise id (l.set i x)
  | [], _, _, _, h, _, _ => absurd h (by simp)
  | y :: ys, id, 0, x, _, e, hr => by
    have e' : x.f0 = y.f0 := by simpa using e
    exact ⟨by rw [e']; exact hr.1, by rw [e']; exact hr.2⟩
  | y :: ys, id, i + 1, x, h, e, hr => ⟨hr.1, rise_set ys y.f0 i x (by simpa using h) (by simpa using e) hr.2⟩
/-- The first place's lot has nothing left now: the order is that of the others. -/
theorem order_drop (l : List SL) (now : Int) (i : Nat) (is : List Int) (x : SL) (hr : Rise 0 l) (ho : orderL l now = (i : Int) :: is) (hi : i < l.length) (h0 : x.f0 = (l.getD i zL).f0) (h2 : x.f2 = (l.getD i zL).f2) (h3 : x.f3 = (l.getD i zL).f3) (hz : restW x = 0) : orderL (l.set i x) now = is := by
  have hr' := rise_set l 0 i x hi h0 hr
  have hlt : ltL (l.set i x) = ltL l := by
    have e0 : ∀ k, ((l.set i x).getD k zL).f0 = (l.getD k zL).f0 := fun k => by
      rw [getD_set l i k x hi]
      split
      · rename_i e; rw [e]; exact h0
      · rfl
    have e3 : ∀ k, ((l.set i x).getD k zL).f3 = (l.getD k zL).f3 := fun k => by
      rw [getD_set l i k x hi]
      split
      · rename_i e; rw [e]; exact h3
      · rfl
    funext a b
    unfold ltL
    rw [e0, e0, e3, e3]
  have hn := orderL_nodup l now
  rw [ho] at hn
  obtain ⟨n1, n2⟩ := List.nodup_cons.1 hn
  have hs := orderL_sorted l now (rise_apart l 0 hr)
  rw [ho] at hs
  have hs' := orderL_sorted (l.set i x) now (rise_apart _ 0 hr')
  rw [hlt] at hs'
  refine sorted_unique (ltL_ord l (rise_apart l 0 hr)) _ _ (fun a ha => ?_) (perm_nodup (orderL_nodup _ _) n2 (fun a => ?_)) hs' (List.pairwise_cons.1 hs).2
  · have := orderL_mem ha
    rw [List.length_set] at this
    exact this
  · rw [mem_orderL]
    constructor
    · rintro ⟨j, j1, rfl, j2, j3⟩
      rw [List.length_set] at j1
      rw [getD_set l i j x hi] at j2 j3
      by_cases e : j = i
      · rw [if_pos e] at j3
        omega
      · rw [if_neg e] at j2 j3
        have hm : (j : Int) ∈ orderL l now := (mem_orderL l now _).2 ⟨j, j1, rfl, j2, j3⟩
        rw [ho] at hm
        rcases List.mem_cons.1 hm with g | g
        · exact absurd (by omega) e
        · exact g
    · intro ha
      have hm : a ∈ orderL l now := by rw [ho]; exact List.mem_cons_of_mem _ ha
      obtain ⟨j, j1, rfl, j2, j3⟩ := (mem_orderL l now a).1 hm
      have e : j ≠ i := fun e => n1 (by rw [← e]; exact ha)
      exact ⟨j, by rw [List.length_set]; exact j1, rfl, by rw [getD_set l i j x hi, if_neg e]; exact j2, by rw [getD_set l i j x hi, if_neg e]; exact j3⟩
theorem mn_min (a b : Int) : mn a b = min a b := by unfold mn; split <;> omega
theorem ref_take_l0 (now : Int) (d : Nat) : ∀ (l : List SL) (n : Int) (ps : List SP) (B : Int), (orderL l now).length ≤ d → l.length < 15 → Rise 0 l → SmallL B l → 0 ≤ B → 0 ≤ n → B + n ≤ 1000000000 → ps.length + d < 1000 → Ev (fun k => tollref10_Take.l0 k l n now ps) (takeGo l ps n (orderL l now)) := by
  induction d with
  | zero =>
    intro l n ps B hd hl hr hs hB hn hBn hp
    have e : orderL l now = [] := List.eq_nil_of_length_eq_zero (by omega)
    have hf := first_f l now hl hr
    rw [e] at hf ⊢
    refine Ev.step (fun k => by simp only [tollref10_Take.l0]; rfl) ?_
    by_cases h : 0 < n
    · exact Ev.ite_pos h (Ev.bind hf (Ev.ite_pos (by decide) (Ev.now _)))
    · exact Ev.ite_neg h (Ev.now _)
  | succ d ih =>
    intro l n ps B hd hl hr hs hB hn hBn hp
    have hf := first_f l now hl hr
    cases e : orderL l now with
    | nil =>
      rw [e] at hf
      refine Ev.step (fun k => by simp only [tollref10_Take.l0]; rfl) ?_
      by_cases h : 0 < n
      · exact Ev.ite_pos h (Ev.bind hf (Ev.ite_pos (by decide) (Ev.now _)))
      · exact Ev.ite_neg h (Ev.now _)
    | cons a is =>
      have ha : a ∈ orderL l now := by rw [e]; exact List.mem_cons_self ..
      obtain ⟨i, hi, rfl, hv, hrs⟩ := (mem_orderL l now a).1 ha
      rw [e] at hf
      obtain ⟨x, hx⟩ : ∃ x, x = l.getD i zL := ⟨_, rfl⟩
      have hsx := hs i hi
      rw [← hx] at hsx hrs
      have hre := hsx.rest (by omega)
      refine Ev.step (fun k => by simp only [tollref10_Take.l0]; rfl) ?_
      by_cases h : 0 < n
      · refine Ev.ite_pos h (Ev.bind hf ?_)
        obtain ⟨m, hm⟩ : ∃ m, m = min n (restW x) := ⟨_, rfl⟩
        have hm0 : 0 < m := by omega
        have hmn : m ≤ n := by omega
        have hmr : m ≤ restW x := by omega
        simp only [headI]
        rw [rd_at, ← hx]
        refine Ev.ite_neg (by omega) (Ev.ite_pos (by omega) (Ev.ite_pos (by omega) (Ev.bindc (rrest_f _) (Ev.bindc rfl (Ev.ite_pos (by omega) ?_)))))
        obtain ⟨y, hy⟩ : ∃ y : SL, y = { x with f6 := wrap64 (x.f6 + m) } := ⟨_, rfl⟩
        obtain ⟨q1, q2, q3, q4, q5, q6, q7, q8, q9, q10⟩ := hsx
        have hy6 : wrap64 (x.f6 + m) = x.f6 + m := w64 (by omega) (by omega)
        have hset : (l.set ((i : Int)).toNat (⟨x.f0, x.f1, x.f2, x.f3, x.f4, x.f5, wrap64 (x.f6 + mn n (restW x)), x.f7, x.f8⟩ : SL)) = l.set i y := by
          rw [mn_min, ← hm, hy, Int.toNat_natCast]
        rw [hset, rd_at, getD_set l i i y hi, if_pos rfl, mn_min, ← hm, w64 (x := n - m) (by omega) (by omega)]
        have hsy : Small (B + m) y := by
          rw [hy, hy6]
          constructor <;> simp only [] <;> omega
        have hgo : takeGo l ps n ((i : Int) :: is) = takeGo (l.set i y) (ps ++ [⟨y.f0, m⟩]) (n - m) is := by
          rw [takeGo, Int.toNat_natCast, ← hx, ← hm, if_neg (by omega), w64 (x := n - m) (by omega) (by omega), hy]
        rw [hgo]
        by_cases hz : n - m = 0
        · rw [hz, takeGo_zero]
          refine Ev.step (fun k => by simp only [tollref10_Take.l0]; rfl) ?_
          exact Ev.ite_neg (by decide) (Ev.now _)
        · have hyz : restW y = 0 := by
            rw [hsy.rest (by omega), hy, hy6]
            simp only []
            omega
          have hod := order_drop l now i is y hr e hi (by rw [hy, ← hx]) (by rw [hy, ← hx]) (by rw [hy, ← hx]) hyz
          have hlen : is.length ≤ d := by
            rw [e] at hd
            simpa using hd
          have := ih (l.set i y) (n - m) (ps ++ [⟨y.f0, m⟩]) (B + m) (by rw [hod]; exact hlen) (by rw [List.length_set]; exact hl) (rise_set l 0 i y hi (by rw [hy, ← hx]) hr) (SmallL.set hs hi (by omega) hsy) (by omega) (by omega) (by omega) (by simp; omega)
          rw [hod] at this
          exact this
      · have hn0 : n = 0 := by omega
        rw [hn0, takeGo_zero]
        exact Ev.ite_neg (by decide) (Ev.now _)
theorem ref_take (l : List SL) (n now B : Int) (hl : l.length < 15) (hr : Rise 0 l) (hs : SmallL B l) (hB : 0 ≤ B) (hn : 0 ≤ n) (hBn : B + n ≤ 1000000000) : Ev (fun k => tollref10_Take.f k l n now) (takeW l n now) := by
  unfold tollref10_Take.f takeW
  refine Ev.bindc rfl (Ev.ite_pos (by simp; omega) ?_)
  rw [List.nil_append]
  have := orderL_len l now
  exact ref_take_l0 now 14 l n [] B (by omega) hl hr hs hB hn hBn (by simp)
theorem rleft_l0 (l : List SL) (now : Int) (hl : l.length < 15) (d : Nat) : ∀ (i : Nat) (n : Int), i + d = l.length → Ev (fun k => tollref10_Left.l0 k l now n (i : Int)) (leftGo now n (l.drop i)) := by
  induction d with
  | zero =>
    intro i n hi
    have hd : l.drop i = [] := List.drop_of_length_le (by omega)
    rw [hd]
    refine Ev.step (fun k => by simp only [tollref10_Left.l0]; rfl) ?_
    refine Ev.ite_neg (by omega) ?_
    exact Ev.now _
  | succ d ih =>
    intro i n hi
    have hil : i < l.length := by omega
    have e : rd_T33 l (i : Int) = l[i] := by simp [rd_T33, hil]
    refine Ev.step (fun k => by simp only [tollref10_Left.l0]; rfl) ?_
    refine Ev.ite_pos (by omega) (Ev.ite_pos (by omega) ?_)
    rw [e, List.drop_eq_getElem_cons hil]
    refine Ev.bindc (rvalid_f _ _) ?_
    simp only [leftGo]
    by_cases h : validB l[i] now = true
    · refine Ev.ite_pos h (Ev.bindc (rrest_f _) ?_)
      rw [if_pos h, w64 (x := (i : Int) + 1) (by omega) (by omega)]
      exact ih (i + 1) _ (by omega)
    · refine Ev.ite_neg h ?_
      rw [if_neg h, w64 (x := (i : Int) + 1) (by omega) (by omega)]
      exact ih (i + 1) _ (by omega)
theorem rleft_f (l : List SL) (now : Int) (hl : l.length < 15) : Ev (fun k => tollref10_Left.f k l now) (leftW l now) := rleft_l0 l now hl l.length 0 0 (by omega)
theorem sameP_l0 (l : List SP) (hl : l.length < 1000) (d : Nat) : ∀ i : Nat, i + d = l.length → Ev (fun k => tollref6_SameParts.l0 k l l (i : Int)) true := by
  induction d with
  | zero =>
    intro i hi
    refine Ev.step (fun k => by simp only [tollref6_SameParts.l0]; rfl) ?_
    refine Ev.ite_neg (by omega) ?_
    exact Ev.now _
  | succ d ih =>
    intro i hi
    refine Ev.step (fun k => by simp only [tollref6_SameParts.l0]; rfl) ?_
    refine Ev.ite_pos (by omega) (Ev.ite_pos (by omega) (Ev.ite_pos (by omega) ?_))
    refine Ev.ite_neg (by simp) ?_
    rw [w64 (by omega) (by omega)]
    exact ih (i + 1) (by omega)
theorem sameP_f (l : List SP) (hl : l.length < 1000) : Ev (fun k => tollref6_SameParts.f k l l) true := by
  unfold tollref6_SameParts.f
  exact Ev.ite_pos rfl (sameP_l0 l hl l.length 0 (by omega))
/-- What stands of lots whatever is taken and used. -/
structure Stand (B : Int) (l : List SL) : Prop where
  len : l.length ≤ 14
  rise : Rise 0 l
  small : SmallL B l
theorem Stand.set {B C : Int} {l : List SL} (h : Stand B l) (i : Nat) (x : SL) (hi : i < l.length) (h0 : x.f0 = (l.getD i zL).f0) (hB : B ≤ C) (hx : Small C x) : Stand C (l.set i x) :=
  ⟨by rw [List.length_set]; exact h.len, rise_set l 0 i x hi h0 h.rise, h.small.set hi hB hx⟩
theorem Stand.mono {B C : Int} {l : List SL} (h : Stand B l) (hB : B ≤ C) : Stand C l := ⟨h.len, h.rise, fun j hj => (h.small j hj).mono hB⟩
theorem takeGo_stand : ∀ (is : List Int) (l : List SL) (ps : List SP) (n B : Int), Stand B l → (∀ i ∈ is, 0 ≤ i ∧ i < (l.length : Int)) → 0 ≤ n → 0 ≤ B → B + n ≤ 1000000000 → Stand (B + n) (takeGo l ps n is).1 ∧ (takeGo l ps n is).2.1.length ≤ ps.length + is.length ∧ ∀ p ∈ (takeGo l ps n is).2.1, p ∈ ps ∨ (0 ≤ p.f1 ∧ p.f1 ≤ n)
  | [], l, ps, n, B, hs, _, hn, hB, hBn => by
    simp only [takeGo]
    exact ⟨hs.mono (by omega), by simp, fun p hp => .inl hp⟩
  | i :: is, l, ps, n, B, hs, hi, hn, hB, hBn => by
    obtain ⟨i0, i1⟩ := hi i (List.mem_cons_self ..)
    have hil : i.toNat < l.length := by omega
    unfold takeGo
    obtain ⟨m, hm⟩ : ∃ m, m = min n (restW (l.getD i.toNat zL)) := ⟨_, rfl⟩
    rw [← hm]
    by_cases h : m ≤ 0
    · rw [if_pos h]
      exact ⟨hs.mono (by omega), by simp, fun p hp => .inl hp⟩
    · rw [if_neg h]
      have hsx := hs.small _ hil
      obtain ⟨x, hx⟩ : ∃ x, x = l.getD i.toNat zL := ⟨_, rfl⟩
      rw [← hx] at hsx hm ⊢
      have hmn : m ≤ n := by omega
      obtain ⟨q1, q2, q3, q4, q5, q6, q7, q8, q9, q10⟩ := hsx
      rw [w64 (x := n - m) (by omega) (by omega), w64 (x := x.f6 + m) (by omega) (by omega)]
      have hsy : Small (B + m) { x with f6 := x.f6 + m } := by constructor <;> simp only [] <;> omega
      obtain ⟨r1, r2, r3⟩ := takeGo_stand is (l.set i.toNat { x with f6 := x.f6 + m }) (ps ++ [⟨x.f0, m⟩]) (n - m) (B + m) (hs.set i.toNat _ hil (by rw [← hx]) (by omega) hsy) (fun k hk => by rw [List.length_set]; exact hi k (List.mem_cons_of_mem _ hk)) (by omega) (by omega) (by omega)
      refine ⟨r1.mono (by omega), by simp at r2 ⊢; omega, fun p hp => ?_⟩
      rcases r3 p hp with g | g
      · rcases List.mem_append.1 g with g | g
        · exact .inl g
        · rw [List.mem_singleton.1 g]
          exact .inr ⟨by show 0 ≤ m; omega, by show m ≤ n; omega⟩
      · exact .inr ⟨g.1, by omega⟩
theorem takeW_stand (l : List SL) (n now B : Int) (hs : Stand B l) (hn : 0 ≤ n) (hB : 0 ≤ B) (hBn : B + n ≤ 1000000000) : Stand (B + n) (takeW l n now).1 ∧ (takeW l n now).2.1.length ≤ 14 ∧ ∀ p ∈ (takeW l n now).2.1, 0 ≤ p.f1 ∧ p.f1 ≤ n := by
  obtain ⟨r1, r2, r3⟩ := takeGo_stand (orderL l now) l [] n B hs (fun i hi => orderL_mem hi) hn hB hBn
  have := orderL_len l now
  have := hs.len
  refine ⟨r1, by unfold takeW; simp at r2; omega, fun p hp => ?_⟩
  rcases r3 p hp with g | g
  · simp at g
  · exact g
theorem useW_stand (now : Int) : ∀ (ps : List SP) (l : List SL) (n B : Int), Stand B l → (∀ p ∈ ps, 0 ≤ p.f1 ∧ p.f1 ≤ 3000) → 0 ≤ n → n ≤ 3000 → 0 ≤ B → B + 3000 * (ps.length : Int) ≤ 1000000000 → Stand (B + 3000 * (ps.length : Int)) (useW l n now ps).1
  | [], l, n, B, hs, _, _, _, _, _ => hs.mono (by simp)
  | p :: ps, l, n, B, hs, hp, h0, h1, hB, hBn => by
    obtain ⟨p0, p1⟩ := hp p (List.mem_cons_self ..)
    simp only [List.length_cons] at hBn ⊢
    have hp' := fun q hq => hp q (List.mem_cons_of_mem _ hq)
    unfold useW
    split
    · exact (useW_stand now ps l n B hs hp' h0 h1 hB (by omega)).mono (by omega)
    · rename_i i hi
      have hil := atL_lt hi
      have hsx := hs.small _ hil
      obtain ⟨x, hx⟩ : ∃ x, x = l.getD i zL := ⟨_, rfl⟩
      obtain ⟨k, hk⟩ : ∃ k, k = min n p.f1 := ⟨_, rfl⟩
      rw [← hx] at hsx ⊢
      rw [← hk]
      obtain ⟨q1, q2, q3, q4, q5, q6, q7, q8, q9, q10⟩ := hsx
      have hy : Small (B + 3000) (useOne x p.f1 k now) := by
        unfold useOne
        rw [w64 (x := x.f6 - p.f1) (by omega) (by omega), w64 (x := x.f5 + k) (by omega) (by omega), w64 (x := p.f1 - k) (by omega) (by omega), w64 (x := x.f7 + (p.f1 - k)) (by omega) (by omega)]
        constructor <;> simp only [] <;> (try split) <;> omega
      rw [w64 (x := n - k) (by omega) (by omega)]
      exact (useW_stand now ps _ (n - k) (B + 3000) (hs.set i _ hil (by rw [← hx]; rfl) (by omega) hy) hp' (by omega) (by omega) (by omega) (by omega)).mono (by omega)
end Go.Proofs.Ytjoimapgmocoeaa.Lk
