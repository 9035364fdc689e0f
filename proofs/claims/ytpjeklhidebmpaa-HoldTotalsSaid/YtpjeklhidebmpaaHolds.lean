/- Holds without parts in memory: the kind of their rows; twin; the closure of place; the search; place. -/
import Derived.Test.YtpjeklhidebmpaaStruct
import Derived.Test.YtpjeklhidebmpaaHoldPlain
import Derived.Outline
import Derived.Shelf.Abstract
set_option linter.unusedVariables false
set_option linter.unusedSimpArgs false
namespace Go.Proofs.Ytpjeklhidebmpaa.Lk
open Go.RowKit Go.Proofs.YtpjeklhidebmpaaW.PrintWords Go.Proofs.YtpjeklhidebmpaaW.PrintWords.Kd Go.Proofs.YtpjeklhidebmpaaW.PrintLast Go.Proofs.YtpjeklhidebmpaaW.PrintMore Go.Proofs.Ytpjeklhidebmpaa.Xa Go.Proofs.Ytpjeklhidebmpaa.Own
/-- The kind of values that are k cells, spelled out by 'enc'. -/
def kEnc {α : Type} (k : Nat) (enc : α → List Value) (hl : ∀ x, (enc x).length = k) (h1 : ∀ x, ∀ u ∈ enc x, u.oneCell' = true) : Kd α where
  sz := k
  E := []
  K := fun _ x cs => cs = enc x
  M := fun _ _ _ x cs => cs = enc x
  K_len := fun {w x cs} h => by subst h; exact hl x
  K_one := fun {w x cs} h => by subst h; exact h1 x
  K_below := fun _ h => h
  K_of_M := fun h => h
  M_mono := fun _ h => h
  M_bound := fun h => h
  M_move := fun _ h => h
  M_lower := fun _ h => h
def cellsH (x : HN) : List Value := [.int .i64 x.id, .slice none 0 0, .int .i64 x.over, .int .i64 x.til]
theorem cellsH_len (x : HN) : (cellsH x).length = 4 := rfl
theorem cellsH_one (x : HN) : ∀ u ∈ cellsH x, u.oneCell' = true := fun u hu => by
  simp only [cellsH, List.mem_cons, List.not_mem_nil, or_false] at hu
  rcases hu with rfl | rfl | rfl | rfl <;> rfl
def kH : Kd HN := kEnc 4 cellsH cellsH_len cellsH_one
theorem flatH : Flat kH := fun w w' base ok x cs h => h
def rdH (xs : List HN) (i : Int) : HN := xs.getD i.toNat zH
theorem at_H {w : World} {A : Option Addr} {n : Nat} {xs : List HN} (h : Kd.C kH w A n xs) (i : Int) (h0 : 0 ≤ i) (h1 : i < n) : ∃ ad, A = some ad ∧ w.cell? (ad.add (i.toNat * 4)) = some (.int .i64 (rdH xs i).id) ∧ w.cell? ⟨(ad.add (i.toNat * 4)).block, (ad.add (i.toNat * 4)).off + 1, none⟩ = some (.slice none 0 0) ∧ w.cell? ⟨(ad.add (i.toNat * 4)).block, (ad.add (i.toNat * 4)).off + 2, none⟩ = some (.int .i64 (rdH xs i).over) ∧ w.cell? ⟨(ad.add (i.toNat * 4)).block, (ad.add (i.toNat * 4)).off + 3, none⟩ = some (.int .i64 (rdH xs i).til) := by
  obtain ⟨ad, c, e, _, hK, hc0⟩ := Kd.C_get h zH i h0 h1
  have hc : ∀ j u, c[j]? = some u → w.cell? (ad.add (i.toNat * 4 + j)) = some u := hc0
  obtain rfl : c = cellsH (rdH xs i) := hK
  exact ⟨ad, e, hc 0 _ rfl, by rw [← add_field _ _ 1 (by omega)]; exact hc 1 _ rfl, by rw [← add_field _ _ 2 (by omega)]; exact hc 2 _ rfl, by rw [← add_field _ _ 3 (by omega)]; exact hc 3 _ rfl⟩
def aggH (x : HN) : Value := .agg #[.int .i64 x.id, .slice none 0 0, .int .i64 x.over, .int .i64 x.til]
theorem clone_calls (w : World) : Calls Try.prog 20 #[.slice none 0 0] w fun e w' => e = .returned (.slice none 0 0) ∧ w = w' := by
  go_enter Try.func20, Try.ntmps20
  have he : ∀ w, Sem.run Try.prog (binOp .eql 24 (.slice none 0 0) (.slice none 0 0)) w = .ok (.bool true) w := fun w => by kernel_rfl
  go_wp2
  go_ret
  exact ⟨rfl, rfl⟩
set_option maxHeartbeats 1000000 in
theorem twin_calls (x : HN) (w : World) : Calls Try.prog 14 #[.agg #[.int .i64 x.id, .slice none 0 0, .int .i64 x.over, .int .i64 x.til]] w fun e w' => e = .returned (.agg #[.int .i64 x.id, .slice none 0 0, .int .i64 x.over, .int .i64 x.til]) ∧ Below w.heap.size w w' := by
  go_enter Try.func14, Try.ntmps14
  go_wp2_with fail
  refine (clone_calls _).mono ?_
  rintro e w' ⟨rfl, rfl⟩
  go_wp2
  exact bodyPost_ret (v := aggH x) (by simp [results, Try.results14, go_sem, aggH]) rfl ⟨rfl, below_alloc (below_alloc (Below.refl _ _) _) _⟩
/-- What is asked of a row of holds that is read. -/
def HC (w : World) (A : Option Addr) (n : Nat) (xs : List HN) : Prop := Kd.C kH w A n xs
set_option maxHeartbeats 1000000 in
/-- The closure of place. -/
theorem ge_calls (A : Option Addr) (c : Nat) (xs : List HN) (id : Int) (b2 b3 : Nat) (i : Int) (W : World) (h0 : 0 ≤ i) (h1 : i < (xs.length : Int)) (hC : Kd.C kH W A xs.length xs) (hb2 : W.cell? ⟨b2, 0, none⟩ = some (.slice A xs.length c)) (hb3 : W.cell? ⟨b3, 0, none⟩ = some (.int .i64 id)) :
    Calls Try.prog 19 #[.int .i64 i, .pointer (some ⟨b2, 0, none⟩), .pointer (some ⟨b3, 0, none⟩)] W fun e w' => e = .returned (.bool (decide (id ≤ (rdH xs i).id))) ∧ ∃ q, w' = W.drewN q := by
  obtain ⟨ad, rfl, hx, _⟩ := at_H hC i h0 h1
  clear hC
  go_enter Try.func19, Try.ntmps19
  go_wp2_with fail
  go_quiet (fail)
  go_wp2
  go_ret
  exact ⟨rfl, _, rfl⟩
set_option maxHeartbeats 2000000 in
/-- sort.Search: the least place at which p holds. -/
theorem search_calls (g : Nat) (cb : Array Value) (n K : Nat) (p : Nat → Bool) (w : World) (eg : ∀ args w, (callFunc g args).run Try.prog w = .ok (.enter g args) w) (hsz : n < 4611686018427387904) (hK : K ≤ n)
    (hf : ∀ (i : Nat) (W : World), i < n → Below w.heap.size w W → Calls Try.prog g (#[.int .i64 i] ++ cb) W fun e w' => e = .returned (.bool (p i)) ∧ ∃ q, w' = W.drewN q)
    (h1 : ∀ i, i < K → p i = false) (h2 : ∀ i, K ≤ i → i < n → p i = true) :
    Calls Try.prog 18 #[.int .i64 n, .func (.func g) #[] cb] w fun e w' => e = .returned (.int .i64 K) ∧ Below w.heap.size w w' := by
  have HF := Aside0.mk hf
  have H1 := Aside0.mk h1
  have H2 := Aside0.mk h2
  clear hf h1 h2
  go_enter Try.func18, Try.ntmps18
  go_wp2
  go_loopg [5, 6] n (fun kx s5 s6 wr => ∃ lo hi : Nat, s5 = .int .i64 lo ∧ s6 = .int .i64 hi ∧ Aside0 (lo ≤ K ∧ K ≤ hi ∧ hi ≤ n ∧ hi - lo ≤ kx) ∧ Aside0 (Below w.heap.size w wr))
  case atStart => exact ⟨0, n, rfl, rfl, ⟨⟨Nat.zero_le _, hK, Nat.le_refl _, by omega⟩⟩, ⟨Below.refl _ _⟩⟩
  case round =>
    obtain ⟨lo, hi, rfl, rfl, HI, HB⟩ := hrel
    have hlh : lo ≤ hi := Nat.le_trans HI.out.1 HI.out.2.1
    have hin : hi ≤ n := HI.out.2.2.1
    by_cases hlt : lo < hi
    · have hc := HF.out ((lo + hi) / 2) wr (by omega) HB.out
      rw [show (((lo + hi) / 2 : Nat) : Int) = ((lo : Int) + (hi : Int)) / 2 by omega] at hc
      by_cases hp : (lo + hi) / 2 < K
      · rw [H1.out _ hp] at hc
        have HP := Aside0.mk hp
        have HC := Aside0.mk hc
        clear hp hc
        go_wp2_with fail
        refine HC.out.mono ?_
        rintro e w' ⟨rfl, nq, rfl⟩
        clear HC
        go_wp2_with fail
        go_roundg (hi - ((lo + hi) / 2 + 1))
        case measure => have := HI.out; omega
        case rel => exact ⟨(lo + hi) / 2 + 1, hi, by rw [show ((lo : Int) + (hi : Int)) / 2 + 1 = (((lo + hi) / 2 + 1 : Nat) : Int) by omega], rfl, ⟨⟨by have := HP.out; omega, HI.out.2.1, hin, Nat.le_refl _⟩⟩, ⟨pw_below_drewN HB.out nq⟩⟩
      · rw [H2.out _ (by omega) (by omega)] at hc
        have HP := Aside0.mk hp
        have HC := Aside0.mk hc
        clear hp hc
        go_wp2_with fail
        refine HC.out.mono ?_
        rintro e w' ⟨rfl, nq, rfl⟩
        clear HC
        go_wp2_with fail
        go_roundg ((lo + hi) / 2 - lo)
        case measure => have := HI.out; omega
        case rel => exact ⟨lo, (lo + hi) / 2, rfl, by rw [show ((lo : Int) + (hi : Int)) / 2 = (((lo + hi) / 2 : Nat) : Int) by omega], ⟨⟨HI.out.1, by have := HP.out; omega, by omega, Nat.le_refl _⟩⟩, ⟨pw_below_drewN HB.out nq⟩⟩
    · have hlt2 : ¬ ((lo : Int) < (hi : Int)) := by omega
      go_wp2
      go_ret
      have e : lo = K := by have := HI.out; omega
      subst e
      exact ⟨rfl, HB.out⟩
/-- place: where a hold of that id stands, or would. -/
theorem place_calls (A : Option Addr) (c : Nat) (xs : List HN) (id : Int) (w : World) (hs : Srt xs) (hC : Kd.C kH w A xs.length xs) (hl : xs.length < 1000000) :
    Calls Try.prog 13 #[.slice A xs.length c, .int .i64 id] w fun e w' => e = .returned (.tuple #[.int .i64 (pos id xs), .bool (hasB id xs)]) ∧ Below w.heap.size w w' := by
  have eg : ∀ args w, (callFunc 19 args).run Try.prog w = .ok (.enter 19 args) w := Go.Proofs.enters_of Try.func19 (by kernel_rfl) rfl
  have hpl := pos_le id xs
  have H1 : Aside0 (∀ i, i < pos id xs → decide (id ≤ (rdH xs (i : Int)).id) = false) := ⟨fun i hi => decide_eq_false (by have := pos_lt id xs i hi; simpa [rdH] using this)⟩
  have H2 : Aside0 (∀ i, pos id xs ≤ i → i < xs.length → decide (id ≤ (rdH xs (i : Int)).id) = true) := ⟨fun i h1 h2 => decide_eq_true (by have := pos_ge id xs hs i h1 h2; simpa [rdH] using this)⟩
  have H3 : Aside0 (hasB id xs = (decide (pos id xs < xs.length) && decide ((rdH xs (pos id xs : Int)).id = id))) := ⟨by simp [hasB, rdH]⟩
  obtain ⟨K, hK⟩ : ∃ K, K = pos id xs := ⟨_, rfl⟩
  obtain ⟨B, hB⟩ : ∃ B, B = hasB id xs := ⟨_, rfl⟩
  rw [← hK] at H1 H2 H3 hpl ⊢
  rw [← hB] at H3 ⊢
  have HC := Aside0.mk hC
  clear hK hB hC hs
  go_enter Try.func13, Try.ntmps13
  go_wp2_with fail
  obtain ⟨w2, hw2⟩ : ∃ w2, w2 = (w.alloc (.cells #[.slice A xs.length c] 30)).alloc (.cells #[.int .i64 id] 3) := ⟨_, rfl⟩
  rw [← hw2]
  have hbl : Below w.heap.size w w2 := by rw [hw2]; exact below_alloc (below_alloc (Below.refl _ _) _) _
  have hk2 : w2.heap[w.heap.size]? = some (.cells #[.slice A xs.length c] 30 (0, 0)) := by rw [hw2]; exact blk_alloc (blk_new w _) _
  have hk3 : w2.heap[w.heap.size + 1]? = some (.cells #[.int .i64 id] 3 (0, 0)) := by rw [hw2]; simpa using blk_new (w.alloc (.cells #[.slice A xs.length c] 30)) (.cells #[.int .i64 id] 3)
  have HK2 := Aside0.mk hk2
  have HK3 := Aside0.mk hk3
  have HB2 := Aside0.mk hbl
  clear hw2 hk2 hk3 hbl
  refine (search_calls 19 _ xs.length K (fun i => decide (id ≤ (rdH xs (i : Int)).id)) w2 eg (by omega) hpl (fun i W hi hb => ?_) H1.out H2.out).mono ?_
  · have hb2 : W.cell? ⟨w.heap.size, 0, none⟩ = some (.slice A xs.length c) := by rw [cell_of_row W _ _ _ _ (0, 0) (blk_below HK2.out hb)]; rfl
    have hb3 : W.cell? ⟨w.heap.size + 1, 0, none⟩ = some (.int .i64 id) := by rw [cell_of_row W _ _ _ _ (0, 0) (blk_below HK3.out hb)]; rfl
    exact ge_calls A c xs id _ _ i W (by omega) (by omega) (C_below HC.out (below_step HB2.out hb)) hb2 hb3
  rintro e w3 ⟨rfl, hb⟩
  have hb2 : w3.cell? ⟨w.heap.size, 0, none⟩ = some (.slice A xs.length c) := by rw [cell_of_row w3 _ _ _ _ (0, 0) (blk_below HK2.out hb)]; rfl
  have hb3 : w3.cell? ⟨w.heap.size + 1, 0, none⟩ = some (.int .i64 id) := by rw [cell_of_row w3 _ _ _ _ (0, 0) (blk_below HK3.out hb)]; rfl
  have HB3 := Aside0.mk (below_step HB2.out hb)
  clear HK2 HK3 HB2 hb
  rcases Nat.lt_or_ge K xs.length with hlt | hge
  · have hlb : decide ((K : Int) < (xs.length : Int)) = true := decide_eq_true (by omega)
    have hlb' : decide (K < xs.length) = true := decide_eq_true hlt
    have h0 : (0 : Int) ≤ (K : Int) := by omega
    have h1 : (K : Int) < (xs.length : Int) := by omega
    obtain ⟨ad, rfl, hx, _⟩ := at_H (C_below HC.out HB3.out) (K : Int) h0 h1
    rw [Int.toNat_natCast] at hx
    by_cases he : (rdH xs (K : Int)).id = id
    · have hB : B = true := by rw [H3.out, decide_eq_true hlt, decide_eq_true he]; rfl
      have heb : ((rdH xs (K : Int)).id == id) = true := beq_iff_eq.mpr he
      subst hB
      have HE := Aside0.mk he
      clear he
      go_wp2_with fail
      go_quiet (fail)
      go_wp2
      go_ret2
      exact ⟨rfl, pw_below_drewN HB3.out _⟩
    · have hB : B = false := by rw [H3.out, decide_eq_false he, Bool.and_false]
      have heb : ((rdH xs (K : Int)).id == id) = false := beq_eq_false_iff_ne.mpr he
      subst hB
      have HE := Aside0.mk he
      clear he
      go_wp2_with fail
      go_quiet (fail)
      go_wp2
      go_ret2
      exact ⟨rfl, pw_below_drewN HB3.out _⟩
  · have hlb : decide ((K : Int) < (xs.length : Int)) = false := decide_eq_false (by omega)
    have hlb' : decide (K < xs.length) = false := decide_eq_false (by omega)
    have hB : B = false := by rw [H3.out, decide_eq_false (by omega), Bool.false_and]
    subst hB
    go_wp2_with fail
    go_quiet (fail)
    go_wp2
    go_ret2
    exact ⟨rfl, pw_below_drewN HB3.out _⟩
end Go.Proofs.Ytpjeklhidebmpaa.Lk
