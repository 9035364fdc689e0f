/- What Use does, lot by lot, of parts that Take gave; sums over places. -/
import Derived.Test.YtjoimapgmocoeaaTakeAll
set_option linter.unusedVariables false
set_option linter.unusedSimpArgs false
namespace Go.Proofs.Ytjoimapgmocoeaa.Lk
open Go.RowKit Go.Proofs.YtjoimapgmocoeaaW.PrintWords Go.Proofs.YtjoimapgmocoeaaW.PrintLast Go.Proofs.YtjoimapgmocoeaaW.PrintMore Go.Proofs.Ytjoimapgmocoeaa.Xa
/-- Of each place f was held, and g of it is used. -/
def useMap (t : Int) (l : List SL) (f g : Nat → Int) : List SL := l.mapIdx fun j x => { x with f6 := x.f6 - f j, f5 := x.f5 + g j, f7 := if x.f3 ≤ t then x.f7 + (f j - g j) else x.f7 }
theorem useMap_len (t : Int) (l : List SL) (f g : Nat → Int) : (useMap t l f g).length = l.length := by simp [useMap]
theorem useMap_get (t : Int) (l : List SL) (f g : Nat → Int) (j : Nat) (h : j < l.length) : (useMap t l f g).getD j zL = { l.getD j zL with f6 := (l.getD j zL).f6 - f j, f5 := (l.getD j zL).f5 + g j, f7 := if (l.getD j zL).f3 ≤ t then (l.getD j zL).f7 + (f j - g j) else (l.getD j zL).f7 } := by
  simp [useMap, h]
theorem atL_none (id : Int) : ∀ (l : List SL), (∀ x ∈ l, x.f0 ≠ id) → atL id l = none
  | [], _ => rfl
  | x :: xs, h => by
    unfold atL
    rw [if_neg (h x (List.mem_cons_self ..)), atL_none id xs (fun y g => h y (List.mem_cons_of_mem _ g))]
    rfl
theorem atL_at : ∀ (l : List SL) (i : Nat), Apart l → i < l.length → atL (l.getD i zL).f0 l = some i
  | [], _, _, h => absurd h (by simp)
  | x :: xs, 0, _, _ => by
    unfold atL
    rw [List.getD_cons_zero, if_pos rfl]
  | x :: xs, i + 1, hp, h => by
    have hi : i < xs.length := by simpa using h
    have hp2 : Apart xs := fun a b ha hb e => by
      have := hp (a + 1) (b + 1) (by simpa using ha) (by simpa using hb) (by simpa using e)
      omega
    unfold atL
    rw [List.getD_cons_succ, if_neg (fun e => by
      have := hp 0 (i + 1) (by simp) h (by simpa using e)
      omega), atL_at xs i hp2 hi]
    rfl
theorem am_none (j : Nat) : ∀ (m : Int) (is : List Nat), 0 ≤ m → am (fun _ => 0) m is j = 0
  | _, [], _ => rfl
  | m, i :: is, h => by
    by_cases e : j = i
    · subst e
      rw [am_head]
      omega
    · rw [am_tail _ _ _ _ _ e]
      exact am_none j _ is (by omega)
theorem lk_none : ∀ (m : Int) (is : List Nat), 0 ≤ m → lk (fun _ => 0) m is = m
  | _, [], _ => rfl
  | m, i :: is, h => by
    simp only [lk]
    rw [show m - min m 0 = m by omega]
    exact lk_none m is h
theorem useW_spec (t : Int) (l : List SL) : ∀ (is : List Nat) (c : List SL) (r : Nat → Int) (n m : Int), c.length = l.length → (∀ j, j < l.length → (c.getD j zL).f0 = (l.getD j zL).f0) → Apart l → AllOk c → 0 ≤ n → 0 ≤ m → m ≤ 1000000000 → is.Nodup → (∀ i ∈ is, i < l.length ∧ 0 < r i) → (∀ i ∈ is, am r n is i ≤ (c.getD i zL).f6) → useW c m t (pts l r n is) = (useMap t c (am r n is) (am (am r n is) m is), lk (am r n is) m is)
  | [], c, r, n, m, hl, hid, hp, hk, h0, h1, h1', hn, hi, hh => by
    have hz : useMap t c (am r n []) (am (am r n []) m []) = c := by
      apply ext_get (useMap_len ..)
      intro j hj
      rw [useMap_len] at hj
      rw [useMap_get _ _ _ _ _ hj]
      simp [am]
    simp only [pts, useW]
    rw [hz]
    rfl
  | i :: is, c, r, n, m, hl, hid, hp, hk, h0, h1, h1', hn, hi, hh => by
    obtain ⟨n1, n2⟩ := List.nodup_cons.1 hn
    obtain ⟨i1, i2⟩ := hi i (List.mem_cons_self ..)
    have hic : i < c.length := by omega
    simp only [pts]
    by_cases h : min n (r i) ≤ 0
    · have hn0 : n = 0 := by omega
      have hF : am r n (i :: is) = fun _ => 0 := by
        funext j
        rw [hn0]
        exact am_zero r j _ (fun k g => by have := (hi k g).2; omega)
      rw [if_pos h, hF, lk_none m _ h1]
      have hz : useMap t c (fun _ => 0) (am (fun _ => 0) m (i :: is)) = c := by
        apply ext_get (useMap_len ..)
        intro j hj
        rw [useMap_len] at hj
        rw [useMap_get _ _ _ _ _ hj, am_none j m _ h1]
        simp
      rw [hz]
      rfl
    · rw [if_neg h]
      have hpc : Apart c := fun a b ha hb e => hp a b (by omega) (by omega) (by rw [← hid a (by omega), ← hid b (by omega)]; exact e)
      have hh0 := hh i (List.mem_cons_self ..)
      rw [am_head] at hh0
      obtain ⟨a, ha⟩ : ∃ a, a = min n (r i) := ⟨_, rfl⟩
      have hF : ∀ j, j ≠ i → am r n (i :: is) j = am r (n - a) is j := fun j e => by rw [am_tail _ _ _ _ _ e, ← ha]
      have hFi : am r n (i :: is) i = a := by rw [am_head, ha]
      rw [← ha] at h hh0 ⊢
      unfold useW
      simp only []
      rw [← hid i i1, atL_at c i hpc hic]
      simp only []
      have ho := hk i hic
      obtain ⟨o1, o2, o3, o4, o5, o6⟩ := ho
      have hone : useOne (c.getD i zL) a (min m a) t = { c.getD i zL with f6 := (c.getD i zL).f6 - a, f5 := (c.getD i zL).f5 + min m a, f7 := if (c.getD i zL).f3 ≤ t then (c.getD i zL).f7 + (a - min m a) else (c.getD i zL).f7 } := by
        unfold useOne
        rw [w64 (x := (c.getD i zL).f6 - a) (by omega) (by omega), w64 (x := (c.getD i zL).f5 + min m a) (by omega) (by omega), w64 (x := a - min m a) (by omega) (by omega), w64 (x := (c.getD i zL).f7 + (a - min m a)) (by omega) (by omega)]
      rw [hone, w64 (x := m - min m a) (by omega) (by omega)]
      obtain ⟨y, hy⟩ : ∃ y : SL, y = { c.getD i zL with f6 := (c.getD i zL).f6 - a, f5 := (c.getD i zL).f5 + min m a, f7 := if (c.getD i zL).f3 ≤ t then (c.getD i zL).f7 + (a - min m a) else (c.getD i zL).f7 } := ⟨_, rfl⟩
      rw [← hy]
      have hyo : LotOk y := by
        rw [hy]
        by_cases e : (c.getD i zL).f3 ≤ t
        · constructor <;> simp only [if_pos e] <;> omega
        · constructor <;> simp only [if_neg e] <;> omega
      have hlen : (c.set i y).length = c.length := List.length_set ..
      have hat : (c.set i y).getD i zL = y := by simp [hic]
      have hne : ∀ k, k ≠ i → (c.set i y).getD k zL = c.getD k zL := fun k g => by simp [List.getElem?_set_ne (Ne.symm g)]
      have hcong : ∀ k ∈ is, am r n (i :: is) k = am r (n - a) is k := fun k g => hF k (fun e => n1 (by rw [← e]; exact g))
      rw [useW_spec t l is (c.set i y) r (n - a) (m - min m a) (by omega) (fun j hj => by
        by_cases e : j = i
        · rw [e, hat, hy]
          exact hid i i1
        · rw [hne j e]
          exact hid j hj) hp (fun j hj => by
        by_cases e : j = i
        · rw [e, hat]
          exact hyo
        · rw [hne j e]
          exact hk j (by omega)) (by omega) (by omega) (by omega) n2 (fun k g => hi k (List.mem_cons_of_mem _ g)) (fun k g => by
        have := hh k (List.mem_cons_of_mem _ g)
        rw [hcong k g] at this
        rw [hne k (fun e => n1 (by rw [← e]; exact g))]
        exact this)]
      have hG : ∀ j, j ≠ i → am (am r n (i :: is)) m (i :: is) j = am (am r (n - a) is) (m - min m a) is j := fun j e => by
        rw [am_tail _ _ _ _ _ e, hFi]
        exact am_congr j _ _ hcong
      have hGi : am (am r n (i :: is)) m (i :: is) i = min m a := by rw [am_head, hFi]
      congr 1
      · apply ext_get (by rw [useMap_len, useMap_len, hlen])
        intro j hj
        rw [useMap_len] at hj
        rw [useMap_get _ _ _ _ _ hj, useMap_get _ _ _ _ _ (by omega)]
        by_cases e : j = i
        · rw [e, hat, hFi, hGi, am_not r i _ _ n1, am_not _ i _ _ n1, hy]
          by_cases e2 : (c.getD i zL).f3 ≤ t
          · simp [e2]
          · simp [e2]
        · rw [hne j e, hF j e, hG j e]
      · simp only [lk]
        rw [hFi]
        exact (lk_congr _ _ hcong).symm
/-- The sum of the first places. -/
def sumTo (g : Nat → Int) : Nat → Int
  | 0 => 0
  | i + 1 => sumTo g i + g i
theorem sumTo_congr {g h : Nat → Int} : ∀ (k : Nat), (∀ j, j < k → g j = h j) → sumTo g k = sumTo h k
  | 0, _ => rfl
  | k + 1, e => by
    simp only [sumTo]
    rw [sumTo_congr k (fun j q => e j (by omega)), e k (by omega)]
theorem sumTo_zero : ∀ (k : Nat), sumTo (fun _ => 0) k = 0
  | 0 => rfl
  | k + 1 => by
    simp only [sumTo]
    rw [sumTo_zero k]
    rfl
theorem sumTo_le {g h : Nat → Int} : ∀ (k : Nat), (∀ j, j < k → g j ≤ h j) → sumTo g k ≤ sumTo h k
  | 0, _ => Int.le_refl _
  | k + 1, e => by
    simp only [sumTo]
    have := sumTo_le k (fun j q => e j (by omega))
    have := e k (by omega)
    omega
theorem sumTo_sub (g h : Nat → Int) : ∀ (k : Nat), sumTo (fun j => g j - h j) k = sumTo g k - sumTo h k
  | 0 => rfl
  | k + 1 => by
    simp only [sumTo]
    rw [sumTo_sub g h k]
    omega
theorem sumTo_one (i : Nat) (a : Int) (g : Nat → Int) (hz : g i = 0) : ∀ (k : Nat), sumTo (fun j => if j = i then a else g j) k = (if i < k then a else 0) + sumTo g k
  | 0 => by simp [sumTo]
  | k + 1 => by
    simp only [sumTo]
    rw [sumTo_one i a g hz k]
    by_cases e : k = i
    · subst e
      rw [if_pos rfl, if_neg (by omega), if_pos (by omega), hz]
      omega
    · rw [if_neg e]
      by_cases q : i < k
      · rw [if_pos q, if_pos (by omega)]
        omega
      · rw [if_neg q, if_neg (by omega)]
        omega
theorem am_sum (r : Nat → Int) (k : Nat) : ∀ (n : Int) (is : List Nat), is.Nodup → (∀ i ∈ is, i < k) → sumTo (am r n is) k + lk r n is = n
  | n, [], _, _ => by
    have : am r n [] = fun _ => 0 := rfl
    rw [this, sumTo_zero]
    simp [lk]
  | n, i :: is, hn, hk => by
    obtain ⟨n1, n2⟩ := List.nodup_cons.1 hn
    have e : am r n (i :: is) = fun j => if j = i then min n (r i) else am r (n - min n (r i)) is j := rfl
    have ih := am_sum r k (n - min n (r i)) is n2 (fun j g => hk j (List.mem_cons_of_mem _ g))
    rw [e, sumTo_one i _ _ (am_not r i _ _ n1) k, if_pos (hk i (List.mem_cons_self ..))]
    simp only [lk]
    omega
theorem sumTo_supp (k : Nat) : ∀ (is : List Nat) (q : Nat → Int), is.Nodup → (∀ i ∈ is, i < k) → (∀ j, j ∉ is → q j = 0) → sumTo q k = (is.map q).sum
  | [], q, _, _, hz => by
    rw [show q = fun _ => 0 from funext fun j => hz j (by simp), sumTo_zero]
    rfl
  | i :: is, q, hn, hk, hz => by
    obtain ⟨n1, n2⟩ := List.nodup_cons.1 hn
    have e : q = fun j => if j = i then q i else (if j = i then 0 else q j) := by
      funext j
      by_cases h : j = i
      · simp [h]
      · simp [h]
    have ih := sumTo_supp k is (fun j => if j = i then 0 else q j) n2 (fun j g => hk j (List.mem_cons_of_mem _ g)) (fun j g => by
      by_cases h : j = i
      · simp [h]
      · simp only [h, if_false]
        exact hz j (fun g2 => by rcases List.mem_cons.1 g2 with g3 | g3; exact h g3; exact g g3))
    have hm : is.map (fun j => if j = i then 0 else q j) = is.map q := List.map_congr_left fun j g => by rw [if_neg (fun e => n1 (by rw [← e]; exact g))]
    rw [hm] at ih
    rw [e, sumTo_one i (q i) _ (by simp) k, if_pos (hk i (List.mem_cons_self ..)), ih, ← e]
    simp
theorem sum_nonneg (r : Nat → Int) : ∀ (is : List Nat), (∀ i ∈ is, 0 ≤ r i) → 0 ≤ (is.map r).sum
  | [], _ => by simp
  | i :: is, h => by
    have h0 := h i (List.mem_cons_self ..)
    have := sum_nonneg r is (fun k g => h k (List.mem_cons_of_mem _ g))
    simp only [List.map_cons, List.sum_cons]
    omega
theorem lk_closed (r : Nat → Int) : ∀ (n : Int) (is : List Nat), 0 ≤ n → (∀ i ∈ is, 0 ≤ r i) → lk r n is = max 0 (n - (is.map r).sum)
  | n, [], h, _ => by
    simp only [lk, List.map_nil, List.sum_nil]
    omega
  | n, i :: is, h, hr => by
    have h0 := hr i (List.mem_cons_self ..)
    have hs := sum_nonneg r is (fun k g => hr k (List.mem_cons_of_mem _ g))
    simp only [lk, List.map_cons, List.sum_cons]
    rw [lk_closed r (n - min n (r i)) is (by omega) (fun k g => hr k (List.mem_cons_of_mem _ g))]
    omega
end Go.Proofs.Ytjoimapgmocoeaa.Lk
