/- LotsTakes, in plain lists: what Take leaves, what lacks, and each part of it. -/
import Derived.Test.YtjoimapgmocoeaaParts
import Derived.Test.YtjoimapgmocoeaaLotLeft
import Derived.Test.YtjoimapgmocoeaaXa20
import Derived.Test.YtjoimapgmocoeaaXa21
import Derived.Test.YtjoimapgmocoeaaXa29
set_option linter.unusedVariables false
set_option linter.unusedSimpArgs false
namespace Go.Proofs.Ytjoimapgmocoeaa.Lk
open Go.RowKit Go.Proofs.YtjoimapgmocoeaaW.PrintWords Go.Proofs.YtjoimapgmocoeaaW.PrintLast Go.Proofs.YtjoimapgmocoeaaW.PrintMore Go.Proofs.Ytjoimapgmocoeaa.Xa
theorem LotIn.wrong {x : SL} (h : LotIn x) {last : Int} (hl : last < x.f0) : wrongW x last = 0 := by
  have hr := h.ok.rest
  obtain ⟨⟨h1, h2, h3, h4, h5, h6⟩, h7, h8, h9, h10, h11, h12, h13⟩ := h
  unfold wrongW
  rw [if_neg (by omega), if_neg (by omega), if_neg (by omega), if_pos]
  refine ⟨?_, by omega⟩
  simp only [numB, Bool.and_eq_true, decide_eq_true_eq]
  omega
theorem check_all : ∀ (l : List SL) (id : Int), Rise id l → (∀ x ∈ l, LotIn x) → checkGo id l = 0
  | [], _, _, _ => rfl
  | x :: xs, id, hr, hi => by
    simp only [checkGo]
    rw [if_pos ((hi x (List.mem_cons_self ..)).wrong hr.1)]
    exact check_all xs x.f0 hr.2 (fun y h => hi y (List.mem_cons_of_mem _ h))
theorem rise_same : ∀ (l m : List SL) (id : Int), l.length = m.length → (∀ j, j < l.length → (m.getD j zL).f0 = (l.getD j zL).f0) → Rise id l → Rise id m
  | [], [], _, _, _, _ => True.intro
  | [], y :: ys, _, h, _, _ => absurd h (by simp)
  | x :: xs, [], _, h, _, _ => absurd h (by simp)
  | x :: xs, y :: ys, id, h, e, hr => by
    have h0 := e 0 (by simp)
    simp only [List.getD_cons_zero] at h0
    refine ⟨by rw [h0]; exact hr.1, ?_⟩
    rw [h0]
    exact rise_same xs ys x.f0 (by simpa using h) (fun j hj => by simpa using e (j + 1) (by simpa using hj)) hr.2
theorem rvalid_f (x : SL) (now : Int) : tollref10_Valid.f x.f0 x.f1 x.f2 x.f3 x.f4 x.f5 x.f6 x.f7 x.f8 now = some (validB x now) := by
  unfold tollref10_Valid.f validB
  split <;> simp [*]
theorem rrest_f (x : SL) : tollref10_Rest.f x.f0 x.f1 x.f2 x.f3 x.f4 x.f5 x.f6 x.f7 x.f8 = some (restW x) := rfl
theorem rat_l0 (l : List SL) (hp : Apart l) (hl : l.length < 15) (j : Nat) (hj : j < l.length) (d : Nat) : ∀ i : Nat, i + d = j → Ev (fun k => tollref10_At.l0 k l (l.getD j zL).f0 (i : Int)) (j : Int) := by
  induction d with
  | zero =>
    intro i hi
    have e : rd_T33 l (i : Int) = l.getD i zL := by simp [rd_T33]
    refine Ev.step (fun k => by simp only [tollref10_At.l0]; rfl) ?_
    rw [e]
    refine Ev.ite_pos (by omega) (Ev.ite_pos (by omega) (Ev.ite_pos (by rw [show i = j by omega]) ?_))
    exact Ev.eq (Ev.now _) (by omega)
  | succ d ih =>
    intro i hi
    have e : rd_T33 l (i : Int) = l.getD i zL := by simp [rd_T33]
    refine Ev.step (fun k => by simp only [tollref10_At.l0]; rfl) ?_
    rw [e, w64 (x := (i : Int) + 1) (by omega) (by omega)]
    refine Ev.ite_pos (by omega) (Ev.ite_pos (by omega) (Ev.ite_neg (fun h => ?_) (ih (i + 1) (by omega))))
    have := hp i j (by omega) hj h
    omega
theorem rat_f (l : List SL) (hp : Apart l) (hl : l.length < 15) (j : Nat) (hj : j < l.length) : Ev (fun k => tollref10_At.f k l (l.getD j zL).f0) (j : Int) := rat_l0 l hp hl j hj j 0 (by omega)
/-- What a place has to give. -/
def vr (l : List SL) (now : Int) (j : Nat) : Int := if validB (l.getD j zL) now = true then rst l j else 0
theorem leftGo_sum (l : List SL) (now : Int) (hk : AllOk l) (hl : l.length ≤ 14) (d : Nat) : ∀ (i : Nat) (n : Int), i + d = l.length → 0 ≤ n → n ≤ 4000 * (i : Int) → leftGo now n (l.drop i) = n + (sumTo (vr l now) l.length - sumTo (vr l now) i) := by
  induction d with
  | zero =>
    intro i n hi h0 h1
    rw [List.drop_of_length_le (by omega), show i = l.length by omega]
    simp only [leftGo]
    omega
  | succ d ih =>
    intro i n hi h0 h1
    have hil : i < l.length := by omega
    have e : l[i] = l.getD i zL := by simp [hil]
    have hok := hk i hil
    have hr := hok.rest
    have hn := rst_nonneg hk i
    obtain ⟨o1, o2, o3, o4, o5, o6⟩ := hok
    have hrle : rst l i ≤ 4000 := by unfold rst; omega
    rw [List.drop_eq_getElem_cons hil, e]
    simp only [leftGo]
    have hs : sumTo (vr l now) (i + 1) = sumTo (vr l now) i + vr l now i := rfl
    by_cases hv : validB (l.getD i zL) now = true
    · have hvr : vr l now i = rst l i := by unfold vr; rw [if_pos hv]
      rw [if_pos hv, w64 (x := n + restW (l.getD i zL)) (by unfold rst at hn; omega) (by unfold rst at hrle; omega)]
      have := ih (i + 1) (n + restW (l.getD i zL)) (by omega) (by unfold rst at hn; omega) (by unfold rst at hrle; omega)
      rw [this, hs, hvr]
      unfold rst
      omega
    · have hvr : vr l now i = 0 := by unfold vr; rw [if_neg hv]
      rw [if_neg hv, ih (i + 1) n (by omega) h0 (by omega), hs, hvr]
      omega
theorem leftW_sum (l : List SL) (now : Int) (hk : AllOk l) (hl : l.length ≤ 14) : leftW l now = sumTo (vr l now) l.length := by
  have := leftGo_sum l now hk hl l.length 0 0 (by omega) (by decide) (by decide)
  unfold leftW
  rw [List.drop_zero] at this
  rw [this]
  show 0 + (sumTo (vr l now) l.length - 0) = _
  omega
theorem vr_out (l : List SL) (now : Int) (hk : AllOk l) (h0 : 0 ≤ now) (j : Nat) (h : j ∉ ordN l now) : vr l now j = 0 := by
  unfold vr
  split
  · rename_i hv
    by_cases hj : j < l.length
    · have := rst_nonneg hk j
      by_cases hp : 0 < rst l j
      · exact absurd ((mem_ordN l now j).2 ⟨hj, hv, hp⟩) h
      · omega
    · have e : l.getD j zL = zL := by simp [hj]
      rw [e] at hv
      unfold validB at hv
      rw [Bool.and_eq_true] at hv
      have h2 : now < zL.f3 := of_decide_eq_true hv.2
      have h3 : zL.f3 = 0 := rfl
      rw [h3] at h2
      omega
  · rfl
theorem vr_in (l : List SL) (now : Int) (j : Nat) (h : j ∈ ordN l now) : vr l now j = rst l j := by
  unfold vr
  rw [if_pos ((mem_ordN l now j).1 h).2.1]
def sumP : List SP → Int
  | [] => 0
  | p :: ps => p.f1 + sumP ps
theorem sumP_snoc : ∀ (ps : List SP) (p : SP), sumP (ps ++ [p]) = sumP ps + p.f1
  | [], p => by simp [sumP]
  | q :: ps, p => by
    simp only [List.cons_append, sumP]
    rw [sumP_snoc ps p]
    omega
theorem sumP_pts (l : List SL) (r : Nat → Int) : ∀ (is : List Nat) (n : Int), 0 ≤ n → (∀ i ∈ is, 0 < r i) → sumP (pts l r n is) = n - lk r n is
  | [], n, _, _ => by simp [pts, lk, sumP]
  | i :: is, n, h0, hr => by
    have hi := hr i (List.mem_cons_self ..)
    have hr' := fun k g => hr k (List.mem_cons_of_mem _ g)
    simp only [pts, lk]
    by_cases e : min n (r i) ≤ 0
    · rw [if_pos e, show n - min n (r i) = 0 by omega, lk_zero r is (fun k g => by have := hr' k g; omega)]
      simp only [sumP]
      omega
    · rw [if_neg e]
      simp only [sumP]
      rw [sumP_pts l r is (n - min n (r i)) (by omega) hr']
      omega
theorem sumP_nonneg : ∀ (ps : List SP), (∀ p ∈ ps, 0 ≤ p.f1) → 0 ≤ sumP ps
  | [], _ => Int.le_refl _
  | p :: ps, h => by
    have h1 := h p (List.mem_cons_self ..)
    have h2 := sumP_nonneg ps (fun q g => h q (List.mem_cons_of_mem _ g))
    simp only [sumP]
    omega
theorem sumP_app : ∀ (a b : List SP), sumP (a ++ b) = sumP a + sumP b
  | [], b => by simp [sumP]
  | p :: a, b => by
    simp only [List.cons_append, sumP]
    rw [sumP_app a b]
    omega
/-- The end of the lot of the part ahead of place i. -/
def lastT (L : List SL) (now : Int) (i : Nat) : Int := if i = 0 then 0 else (L.getD ((ordN L now).getD (i - 1) 0) zL).f3
/-- What LotsTakes asks of the part at place i: k is its lot's place. -/
structure OnePart (L a : List SL) (p : List SP) (now : Int) (i k : Nat) : Prop where
  kl : k < L.length
  id : (p.getD i zP).f0 = (L.getD k zL).f0
  pos : 1 ≤ (p.getD i zP).f1
  le : (p.getD i zP).f1 ≤ restW (L.getD k zL)
  val : validB (L.getD k zL) now = true
  lst : lastT L now i ≤ (L.getD k zL).f3
  nxt : lastT L now (i + 1) = (L.getD k zL).f3
  full : i + 1 < p.length → (p.getD i zP).f1 = restW (L.getD k zL)
  a6 : (a.getD k zL).f6 = (L.getD k zL).f6 + (p.getD i zP).f1
  a4 : (a.getD k zL).f4 = (L.getD k zL).f4
  a5 : (a.getD k zL).f5 = (L.getD k zL).f5
  s0 : 0 ≤ sumP (p.take i)
  s1 : sumP (p.take i) + (p.getD i zP).f1 ≤ 20000
  s2 : sumP (p.take (i + 1)) = sumP (p.take i) + (p.getD i zP).f1
  x6 : 0 ≤ (L.getD k zL).f6 ∧ (L.getD k zL).f6 ≤ 4000
/-- All that LotsTakes asks of Take at Good's lots. -/
structure TakesOk (L : List SL) (n now : Int) (a : List SL) (p : List SP) (lack had : Int) : Prop where
  al : a.length = L.length
  chk : checkGo 0 a = 0
  lft : leftW L now = had
  lft2 : leftW a now = had - (n - lack)
  lck : lack = max 0 (n - had)
  h0 : 0 ≤ had
  h1 : had ≤ 60000
  l0 : 0 ≤ lack
  l1 : lack ≤ n
  sum : sumP p = n - lack
  pl : p.length ≤ 14
  one : ∀ i, i < p.length → ∃ k, OnePart L a p now i k
theorem takes_ok (l : List SL) (n now : Int) (b1 : 0 ≤ n) (c1 : n < 20000) (b3 : 0 ≤ now) (c3 : now < 100000) : TakesOk (goodL l now) n now (takeW (goodL l now) n now).1 (takeW (goodL l now) n now).2.1 (takeW (goodL l now) n now).2.2 (leftW (goodL l now) now) := by
  obtain ⟨L, hL, hg, hk, hp, hri, hin⟩ : ∃ L, L = goodL l now ∧ L.length ≤ 14 ∧ AllOk L ∧ Apart L ∧ Rise 0 L ∧ ∀ y ∈ L, LotIn y := ⟨_, rfl, goodL_len l now, goodL_ok l now b3 c3, goodL_apart l now, goodGo_rise _ 0 _, goodL_in l now b3 c3⟩
  rw [← hL, takeW_spec L n now hk b1 (by omega)]
  simp only []
  have hr0 : ∀ i ∈ ordN L now, 0 ≤ rst L i := fun i _ => rst_nonneg hk i
  have hrp : ∀ i ∈ ordN L now, 0 < rst L i := fun i h => ((mem_ordN L now i).1 h).2.2
  have hnd := ordN_nodup L now
  have hlt : ∀ i ∈ ordN L now, i < L.length := fun i h => ((mem_ordN L now i).1 h).1
  obtain ⟨F, hF⟩ : ∃ F, F = am (rst L) n (ordN L now) := ⟨_, rfl⟩
  have hFb : ∀ j, 0 ≤ F j ∧ F j ≤ rst L j ∧ F j ≤ n := fun j => by
    rw [hF]
    exact ⟨(am_bnd _ j n _ b1 hr0).1, am_le _ j n _ b1 hr0 (rst_nonneg hk j), (am_bnd _ j n _ b1 hr0).2.1⟩
  obtain ⟨hk2, hr2⟩ := addH_ok L F hk (fun j _ => ⟨(hFb j).1, (hFb j).2.1⟩)
  have hLin : ∀ j, j < L.length → LotIn (L.getD j zL) := fun j hj => by
    have e : L.getD j zL = L[j] := by simp [hj]
    rw [e]
    exact hin _ (List.getElem_mem hj)
  have hlb := lk_bnd (rst L) n (ordN L now) b1 hr0
  have hsF := am_sum (rst L) L.length n (ordN L now) hnd hlt
  have hclosed := lk_closed (rst L) n (ordN L now) b1 hr0
  rw [← hF] at hsF ⊢
  have hleft := leftW_sum L now hk hg
  have hsupp := sumTo_supp L.length (ordN L now) (vr L now) hnd hlt (fun j hj => vr_out L now hk b3 j hj)
  have hmap : (ordN L now).map (vr L now) = (ordN L now).map (rst L) := List.map_congr_left (fun j hj => vr_in L now j hj)
  have hvb : ∀ j, j < L.length → vr L now j ≤ 4000 := fun j hj => by
    have hr := (hk j hj).rest
    obtain ⟨o1, o2, o3, o4, o5, o6⟩ := hk j hj
    unfold vr rst
    split <;> omega
  have hub := sumTo_le L.length hvb
  have hconst : ∀ m : Nat, sumTo (fun _ => 4000) m = 4000 * (m : Int) := fun m => by
    induction m with
    | zero => rfl
    | succ m ih => simp only [sumTo]; omega
  rw [hconst] at hub
  have hlbd : 0 ≤ sumTo (vr L now) L.length := by rw [hsupp, hmap]; exact sum_nonneg (rst L) _ hr0
  have halen : (addH L F).length = L.length := addH_len L F
  have hvalid : ∀ j, validB ((addH L F).getD j zL) now = validB (L.getD j zL) now := fun j => by
    unfold validB
    rw [(addH_rest L F j).2.1, (addH_rest L F j).2.2]
  have hF0 : ∀ j, j ∉ ordN L now → F j = 0 := fun j hj => by rw [hF]; exact am_not _ j _ _ hj
  have hvr2 : ∀ j, j < L.length → vr (addH L F) now j = vr L now j - F j := fun j hj => by
    by_cases hm : j ∈ ordN L now
    · have hv := ((mem_ordN L now j).1 hm).2.1
      unfold vr
      rw [hvalid, if_pos hv, if_pos hv]
      exact hr2 j hj
    · rw [hF0 j hm, vr_out L now hk b3 j hm]
      have hr3 := hr2 j hj
      rw [hF0 j hm] at hr3
      have h4 := vr_out L now hk b3 j hm
      unfold vr at h4 ⊢
      rw [hvalid]
      split
      · rename_i hv
        rw [if_pos hv] at h4
        rw [hr3, h4]
      · rfl
  refine ⟨halen, ?_, rfl, ?_, ?_, by rw [hleft]; exact hlbd, by rw [hleft]; omega, hlb.1, hlb.2, sumP_pts L (rst L) (ordN L now) n b1 hrp, ?_, ?_⟩
  · refine check_all _ 0 (rise_same L _ 0 halen.symm (fun j hj => (addH_rest L F j).1) hri) (fun x hx => ?_)
    obtain ⟨j, hj, rfl⟩ := List.getElem_of_mem hx
    have hj2 : j < L.length := by omega
    have e : (addH L F)[j] = (addH L F).getD j zL := by simp [hj]
    have hi := hLin j hj2
    have hr := hi.ok.rest
    have hf := hFb j
    unfold rst at hf
    rw [e, addH_get _ _ _ hj2]
    obtain ⟨⟨o1, o2, o3, o4, o5, o6⟩, p0, p1, p2, p3, p4, p5, p6⟩ := hi
    refine ⟨⟨?_, ?_, ?_, ?_, ?_, ?_⟩, ?_, ?_, ?_, ?_, ?_, ?_, ?_⟩ <;> simp only [] <;> omega
  · rw [leftW_sum (addH L F) now hk2 (by omega), halen, sumTo_congr L.length hvr2, sumTo_sub, hleft]
    omega
  · rw [hclosed, hleft, hsupp, hmap]
  · have hpg : ∀ (is : List Nat) (m : Int), (pts L (rst L) m is).length ≤ is.length := fun is => by
      induction is with
      | nil => intro m; simp [pts]
      | cons i is ih =>
        intro m
        simp only [pts]
        split
        · simp
        · simpa using ih _
    have h1 := hpg (ordN L now) n
    have h2 : (ordN L now).length ≤ L.length := by
      unfold ordN
      rw [List.length_map]
      exact orderL_len L now
    omega
  · intro i hi
    obtain ⟨q1, q2, q3, q4, q5, q6⟩ := pts_get L (rst L) (ordN L now) n i hnd b1 hrp hi
    obtain ⟨k, hkk⟩ : ∃ k, k = (ordN L now).getD i 0 := ⟨_, rfl⟩
    rw [← hkk] at q2 q3 q5 q6
    have hkm : k ∈ ordN L now := by
      have e : (ordN L now).getD i 0 = (ordN L now)[i] := by simp [q1]
      rw [hkk, e]
      exact List.getElem_mem q1
    obtain ⟨k1, k2, k3⟩ := (mem_ordN L now k).1 hkm
    have hik := hLin k k1
    have hrk := hik.ok.rest
    obtain ⟨⟨o1, o2, o3, o4, o5, o6⟩, p0, p1, p2, p3, p4, p5, p6⟩ := hik
    obtain ⟨P, hP⟩ : ∃ P, P = pts L (rst L) n (ordN L now) := ⟨_, rfl⟩
    have hPn : ∀ q ∈ P, 0 ≤ q.f1 := fun q hq => by
      rw [hP] at hq
      obtain ⟨j, hj, rfl⟩ := List.getElem_of_mem hq
      have := (pts_get L (rst L) (ordN L now) n j hnd b1 hrp hj).2.2.2.1
      have e : (pts L (rst L) n (ordN L now)).getD j zP = (pts L (rst L) n (ordN L now))[j] := by simp [hj]
      rw [e] at this
      omega
    have hPs := sumP_pts L (rst L) (ordN L now) n b1 hrp
    rw [← hP] at hi q2 q3 q4 q5 q6 hPs ⊢
    have hsn : P.take (i + 1) = P.take i ++ [P.getD i zP] := by
      rw [List.take_succ_eq_append_getElem hi]
      simp [hi]
    have hs2 : sumP (P.take (i + 1)) = sumP (P.take i) + (P.getD i zP).f1 := by rw [hsn, sumP_snoc]
    have hsa := sumP_app (P.take (i + 1)) (P.drop (i + 1))
    rw [List.take_append_drop] at hsa
    have hs4 := sumP_nonneg (P.drop (i + 1)) (fun q hq => hPn q (List.mem_of_mem_drop hq))
    have hs5 := sumP_nonneg (P.take i) (fun q hq => hPn q (List.mem_of_mem_take hq))
    refine ⟨k, k1, q2, by omega, q5, k2, ?_, ?_, q6, ?_, ?_, ?_, hs5, by omega, hs2, ⟨o3, by omega⟩⟩
    · unfold lastT
      by_cases h0 : i = 0
      · rw [if_pos h0]
        omega
      · rw [if_neg h0]
        have hs := orderL_sorted L now hp
        have hjl : i < (orderL L now).length := by simpa [ordN] using q1
        have g := List.pairwise_iff_getElem.1 hs (i - 1) i (by omega) hjl (by omega)
        have e : ∀ m, (hm : m < (orderL L now).length) → (orderL L now)[m].toNat = (ordN L now).getD m 0 := fun m hm => by simp [ordN, hm]
        rw [ltL_iff, e (i - 1) (by omega), e i hjl, ← hkk] at g
        omega
    · unfold lastT
      rw [if_neg (by omega), Nat.add_sub_cancel, ← hkk]
    · rw [addH_get _ _ _ k1, q3, hF]
    · rw [addH_get _ _ _ k1]
    · rw [addH_get _ _ _ k1]
end Go.Proofs.Ytjoimapgmocoeaa.Lk
