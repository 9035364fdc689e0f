/- Use, the program's and the document's. -/
import Derived.Test.YtjoimapgmocoeaaLotTake
import Derived.Test.YtjoimapgmocoeaaJ1
import Derived.Test.YtjoimapgmocoeaaXa29
set_option linter.unusedVariables false
set_option linter.unusedSimpArgs false
namespace Go.Proofs.Ytjoimapgmocoeaa.Lk
open Go.RowKit Go.Proofs.YtjoimapgmocoeaaW.PrintWords Go.Proofs.YtjoimapgmocoeaaW.PrintWords.Kd Go.Proofs.YtjoimapgmocoeaaW.PrintLast Go.Proofs.YtjoimapgmocoeaaW.PrintMore Go.Proofs.Ytjoimapgmocoeaa.Xa Go.Proofs.Ytjoimapgmocoeaa.Own
attribute [local go_sem] max_two min_two
def idxI (id : Int) (l : List SL) : Int := match atL id l with | none => -1 | some i => (i : Int)
theorem atL_lt {id : Int} : ∀ {l : List SL} {i : Nat}, atL id l = some i → i < l.length
  | [], _, h => by simp [atL] at h
  | x :: xs, i, h => by
    unfold atL at h
    split at h
    · injection h with h
      subst h
      simp
    · cases h2 : atL id xs with
      | none => rw [h2] at h; cases h
      | some k =>
        rw [h2] at h
        injection h with h
        subst h
        have := atL_lt h2
        simpa using this
set_option maxHeartbeats 1000000 in
theorem eq_calls (x : SL) (bx : Nat) (lot N : Int) (w : World) (hb : w.heap[bx]? = some (.cells #[.int .i64 lot, .int .i64 N] 35 (0, 0))) :
    Calls Try.prog 31 #[.agg #[.int .i64 x.f0, .int .i64 x.f1, .int .i64 x.f2, .int .i64 x.f3, .int .i64 x.f4, .int .i64 x.f5, .int .i64 x.f6, .int .i64 x.f7, .int .i64 x.f8], .pointer (some ⟨bx, 0, none⟩)] w fun e w' => e = .returned (.bool (x.f0 == lot)) ∧ Below w.heap.size w w' := by
  have hc : w.cell? ⟨bx, 0, none⟩ = some (.int .i64 lot) := by rw [cell_of_row w bx _ _ _ (0, 0) hb]; rfl
  have hlt : bx < w.heap.size := blk_lt hb
  have hc2 : (w.alloc (.cells #[.int .i64 x.f0, .int .i64 x.f1, .int .i64 x.f2, .int .i64 x.f3, .int .i64 x.f4, .int .i64 x.f5, .int .i64 x.f6, .int .i64 x.f7, .int .i64 x.f8] 33)).cell? ⟨bx, 0, none⟩ = some (.int .i64 lot) := by rw [cell_of_row _ bx _ _ _ (0, 0) (blk_alloc hb _)]; rfl
  clear hb
  go_enter Try.func31, Try.ntmps31
  go_wp2
  go_ret
  exact ⟨rfl, below_alloc (Below.refl _ _) _⟩
set_option maxHeartbeats 2000000 in
theorem index_calls (g c bx base n : Nat) (l : List SL) (lot N : Int) (w : World) (hn : n = l.length) (hO : OwnL w base (.slice (some ⟨g, 0, none⟩) n c) l) (hl : l.length < 15) (hb : w.heap[bx]? = some (.cells #[.int .i64 lot, .int .i64 N] 35 (0, 0))) :
    Calls Try.prog 30 #[.slice (some ⟨g, 0, none⟩) n c, .func (.func 31) #[] #[.pointer (some ⟨bx, 0, none⟩)]] w fun e w' => e = .returned (.int .i64 (idxI lot l)) ∧ Below w.heap.size w w' := by
  have HO := Aside0.mk hO
  have HK := Aside0.mk hb
  have HN := Aside0.mk hn
  have hn15 : n < 15 := by omega
  clear hO hb hn
  go_enter Try.func30, Try.ntmps30
  go_wp2_with fail
  go_loopg [8] (n + 1) (fun kq v8 w' => ∃ i : Nat, v8 = .int .i64 (i : Int) ∧ Aside0 (i ≤ n ∧ kq + i = n + 1) ∧ Aside0 (atL lot l = (atL lot (l.drop i)).map (· + i)) ∧ Aside0 (Below w.heap.size w w'))
  case atStart => exact ⟨0, rfl, ⟨⟨Nat.zero_le _, rfl⟩⟩, ⟨by simp⟩, ⟨Below.refl _ _⟩⟩
  case round =>
    obtain ⟨i, rfl, HI, HA, HB⟩ := hrel
    cases gk with
    | zero => exact absurd HI.out (by omega)
    | succ k1 =>
    by_cases h1 : i < n
    · have c1b : decide ((i : Int) < (n : Int)) = true := decide_eq_true (by omega)
      have c1c : decide (i < n) = true := decide_eq_true h1
      have p1 : (0 : Int) ≤ (i : Int) := by omega
      have q1 : (i : Int) < (n : Int) := by omega
      have hwi : wrap64 ((i : Int) + 1) = (i : Int) + 1 := by unfold wrap64; omega
      have hil : i < l.length := by rw [← HN.out]; exact h1
      have hOw : OwnL wr base (.slice (some ⟨g, 0, none⟩) n c) l := R_below HO.out HB.out
      obtain ⟨hy0, hy1, hy2, hy3, hy4, hy5, hy6, hy7, hy8⟩ := hOw.at_ i hil
      obtain ⟨x, hx⟩ : ∃ x, x = l.getD i zL := ⟨_, rfl⟩
      rw [← hx] at hy0 hy1 hy2 hy3 hy4 hy5 hy6 hy7 hy8
      have hdr : l.drop i = x :: l.drop (i + 1) := by
        rw [List.drop_eq_getElem_cons hil, hx]
        simp [hil]
      have HDR := Aside0.mk hdr
      clear hx hdr hOw
      go_wp2_with fail
      refine (eq_calls x bx lot N wr (blk_below HK.out HB.out)).mono ?_
      rintro e w5 ⟨rfl, hb5⟩
      have B5 := Aside0.mk (below_step HB.out hb5)
      clear hb5 hy0 hy1 hy2 hy3 hy4 hy5 hy6 hy7 hy8
      by_cases he : x.f0 = lot
      · have heb : (x.f0 == lot) = true := beq_iff_eq.mpr he
        have HR : Aside0 (idxI lot l = (i : Int)) := ⟨by unfold idxI; rw [HA.out, HDR.out]; simp [atL, he]⟩
        clear he
        go_wp2_with fail
        go_ret
        exact ⟨by rw [HR.out]; rfl, B5.out⟩
      · have heb : (x.f0 == lot) = false := beq_eq_false_iff_ne.mpr he
        have HA2 : Aside0 (atL lot l = (atL lot (l.drop (i + 1))).map (· + (i + 1))) := ⟨by
          rw [HA.out, HDR.out]
          simp only [atL, if_neg he, Option.map_map]
          congr 1
          funext k
          simp
          omega⟩
        clear he
        go_wp2_with fail
        go_roundg k1
        case measure => omega
        case rel => exact ⟨i + 1, by first | rfl | simp [hwi], ⟨⟨by omega, by have := HI.out; omega⟩⟩, HA2, B5⟩
    · have c1b : decide ((i : Int) < (n : Int)) = false := decide_eq_false (by omega)
      have c1c : decide (i < n) = false := decide_eq_false h1
      have HR : Aside0 (idxI lot l = -1) := ⟨by unfold idxI; rw [HA.out, List.drop_of_length_le (by have := HN.out; omega)]; rfl⟩
      go_wp2_with fail
      go_ret
      exact ⟨by rw [HR.out]; rfl, HB.out⟩
theorem useW_nil (l : List SL) (n now : Int) : useW l n now [] = (l, n) := rfl
theorem useW_miss {l : List SL} {n now : Int} {p : SP} {ps : List SP} (h : atL p.f0 l = none) : useW l n now (p :: ps) = useW l n now ps := by simp only [useW, h]
theorem useW_hit {l : List SL} {n now : Int} {p : SP} {ps : List SP} {i : Nat} (h : atL p.f0 l = some i) : useW l n now (p :: ps) = useW (l.set i (useOne (l.getD i zL) p.f1 (min n p.f1) now)) (wrap64 (n - min n p.f1)) now ps := by simp only [useW, h]
theorem OwnL.drewN {w : World} {base : Nat} {v : Value} {xs : List SL} (h : OwnL w base v xs) (q : Nat) : OwnL (w.drewN q) base v xs := R_below h (pw_below_drewN (Below.refl _ _) q)
/-- The three cells that are used. -/
theorem OwnL.use2 {w : World} {base g n cap i : Nat} {xs : List SL} (h : OwnL w base (.slice (some ⟨g, 0, none⟩) n cap) xs) (hi : i < xs.length) (a b : Int) (q : Nat) :
    OwnL (((w.setCell ⟨g, i * 9 + 6, none⟩ (.int .i64 a)).drewN q).setCell ⟨g, i * 9 + 5, none⟩ (.int .i64 b)) base (.slice (some ⟨g, 0, none⟩) n cap) (xs.set i { (xs.getD i zL) with f6 := a, f5 := b }) ∧ w.grownBy (((w.setCell ⟨g, i * 9 + 6, none⟩ (.int .i64 a)).drewN q).setCell ⟨g, i * 9 + 5, none⟩ (.int .i64 b)) (some g) := by
  obtain ⟨h1, g1⟩ := h.cell6 hi a
  obtain ⟨h2, g2⟩ := (h1.drewN q).cell5 (by simpa using hi) b
  refine ⟨?_, grown_trans g1 (grown_trans (grown_drewN _ q) g2)⟩
  have e : (xs.set i { (xs.getD i zL) with f6 := a }).getD i zL = { (xs.getD i zL) with f6 := a } := by simp [hi]
  rw [e, List.set_set] at h2
  exact h2
theorem OwnL.use3 {w : World} {base g n cap i : Nat} {xs : List SL} (h : OwnL w base (.slice (some ⟨g, 0, none⟩) n cap) xs) (hi : i < xs.length) (a b c : Int) (q : Nat) :
    OwnL ((((w.setCell ⟨g, i * 9 + 6, none⟩ (.int .i64 a)).drewN q).setCell ⟨g, i * 9 + 5, none⟩ (.int .i64 b)).setCell ⟨g, i * 9 + 7, none⟩ (.int .i64 c)) base (.slice (some ⟨g, 0, none⟩) n cap) (xs.set i { (xs.getD i zL) with f6 := a, f5 := b, f7 := c }) ∧ w.grownBy ((((w.setCell ⟨g, i * 9 + 6, none⟩ (.int .i64 a)).drewN q).setCell ⟨g, i * 9 + 5, none⟩ (.int .i64 b)).setCell ⟨g, i * 9 + 7, none⟩ (.int .i64 c)) (some g) := by
  obtain ⟨h1, g1⟩ := h.use2 hi a b q
  obtain ⟨h2, g2⟩ := h1.cell7 (by simpa using hi) c
  refine ⟨?_, grown_trans g1 g2⟩
  have e : (xs.set i { (xs.getD i zL) with f6 := a, f5 := b }).getD i zL = { (xs.getD i zL) with f6 := a, f5 := b } := by simp [hi]
  rw [e, List.set_set] at h2
  exact h2
set_option maxHeartbeats 8000000 in
set_option maxRecDepth 100000 in
theorem use_calls (A0 : Option Addr) (c0 : Nat) (l0 : List SL) (A1 : Option Addr) (c1 : Nat) (l1 : List SP) (a2 a3 : Int) (w : World) (hr0 : Kd.C kL w A0 l0.length l0) (hc0 : l0.length ≤ c0) (hr1 : Kd.C kP w A1 l1.length l1) (hc1 : l1.length ≤ c1) (hl : l0.length < 15) (hl1 : l1.length < 1000000) :
    Calls Try.prog 19 #[.slice A0 l0.length c0, .slice A1 l1.length c1, .int .i64 a2, .int .i64 a3] w fun e w' => ∃ v0_ : Value, e = .returned (.tuple #[v0_, .int .i64 (useW l0 a2 a3 l1).2]) ∧ OwnL w' w.heap.size v0_ (useW l0 a2 a3 l1).1 ∧ Below w.heap.size w w' := by
  obtain ⟨w2, hmk, ho2, hg2, hs2⟩ := R_made2 (P := Try.prog) (W := w) kL w.heap.size 22 33 .i64 .i64 l0.length l0.length Try.underlying22 _ 72 infoL rfl (by decide) zL (ok := fun _ => True) (fun w b o => k33_mkM w b o zL) trivial (Nat.le_refl _) (by omega) (by unfold maxLen; omega) (Nat.le_refl _)
  have hBm : Below w.heap.size w w2 := pw_below_grown (Below.refl _ _) none (Nat.le_refl _) hg2 (fun _ h => by cases h)
  obtain ⟨w3, hcp, ho3, hg3, hs3⟩ := copy_all (P := Try.prog) (d := kL) (t := 22) (t' := 22) (ty := 3) (c := c0) flatL (by decide) Try.underlying22 rfl ho2 (C_below hr0 hBm) (by simp)
  obtain ⟨g, hg⟩ : ∃ g, g = w.heap.size := ⟨_, rfl⟩
  rw [← hg] at ho3 hcp hmk
  have HO3 := Aside0.mk ho3
  have HB3 : Aside0 (Below g w w3) := ⟨by rw [hg]; exact pw_below_grown hBm _ (by omega) hg3 (fun k hk => by simp [Value.ownBlock] at hk; omega)⟩
  have HS3 : Aside0 (g + 1 ≤ w3.heap.size) := ⟨by omega⟩
  have HR1 := Aside0.mk hr1
  have HG := Aside0.mk hg
  rw [hg] at hcp hmk
  clear ho2 hg2 hg3 ho3 hs2 hs3 hBm hr0 hr1
  go_enter Try.func19, Try.ntmps19
  go_wp2_with fail
  clear hmk hcp
  rw [← HG.out]
  clear hg
  go_loopg [2, 23] (l1.length + 1) (fun kq v2 v23 w' => ∃ (idx : Nat) (n : Int) (cur : List SL), v2 = .int .i64 n ∧ v23 = .int .i64 (idx : Int) ∧ Aside0 (idx ≤ l1.length ∧ kq + idx = l1.length + 1) ∧ Aside0 (useW cur n a3 (l1.drop idx) = useW l0 a2 a3 l1) ∧ Aside0 (cur.length = l0.length) ∧ Aside0 (OwnL w' g (.slice (some ⟨g, 0, none⟩) l0.length l0.length) cur) ∧ Aside0 (g + 1 ≤ w'.heap.size) ∧ Aside0 (Below g w w'))
  case atStart => exact ⟨0, a2, l0, rfl, rfl, ⟨⟨Nat.zero_le _, rfl⟩⟩, ⟨rfl⟩, ⟨rfl⟩, HO3, HS3, HB3⟩
  case round =>
    clear HO3 HS3 HB3
    obtain ⟨idx, n, cur, rfl, rfl, HI, HT, HCL, HO, HS, HB⟩ := hrel
    cases gk with
    | zero => exact absurd HI.out (by omega)
    | succ k1 =>
    by_cases h1 : idx < l1.length
    · have c1b : decide ((idx : Int) < (l1.length : Int)) = true := decide_eq_true (by omega)
      have c1c : decide (idx < l1.length) = true := decide_eq_true h1
      have p1 : (0 : Int) ≤ (idx : Int) := by omega
      have q1 : (idx : Int) < (l1.length : Int) := by omega
      have hwi : wrap64 ((idx : Int) + 1) = (idx : Int) + 1 := by unfold wrap64; omega
      obtain ⟨ad, e, hx0, hx1⟩ := at_T35 (C_below HR1.out (by rw [← HG.out]; exact HB.out)) (idx : Int) p1 q1
      cases e
      rw [Int.toNat_natCast] at hx0 hx1
      obtain ⟨p, hp⟩ : ∃ p, p = rd_T35 l1 (idx : Int) := ⟨_, rfl⟩
      rw [← hp] at hx0 hx1
      have hdr : l1.drop idx = p :: l1.drop (idx + 1) := by
        rw [List.drop_eq_getElem_cons h1, hp]
        simp [rd_T35, h1]
      rw [hdr] at HT
      clear hp hdr
      go_wp2_with fail
      refine (index_calls g l0.length wr.heap.size g l0.length cur p.f0 p.f1 _ HCL.out.symm (R_below HO.out (below_alloc (Below.refl _ _) _)) (by rw [HCL.out]; exact hl) (blk_new wr _)).mono ?_
      rintro e w5 ⟨rfl, hb5⟩
      have hk5 := blk_below (blk_new wr (.cells #[.int .i64 p.f0, .int .i64 p.f1] 35)) hb5
      have hz0 : w5.cell? ⟨wr.heap.size, 0, none⟩ = some (.int .i64 p.f0) := by rw [cell_of_row w5 _ _ _ _ (0, 0) hk5]; rfl
      have hz1 : w5.cell? ⟨wr.heap.size, 1, none⟩ = some (.int .i64 p.f1) := by rw [cell_of_row w5 _ _ _ _ (0, 0) hk5]; rfl
      have hb5' := below_step (below_alloc (Below.refl wr.heap.size wr) _) hb5
      have hgx : ¬ (wr.heap.size = g) := by have := HS.out; omega
      have O5 := Aside0.mk (show OwnL w5 g (.slice (some ⟨g, 0, none⟩) l0.length l0.length) cur from R_below HO.out hb5')
      have S5 := Aside0.mk (Nat.le_trans HS.out hb5'.size)
      have B5 := Aside0.mk (below_then HB.out (by have := HS.out; omega) hb5')
      clear hb5 hb5' hk5 HO HS HB hx0 hx1
      cases ha : atL p.f0 cur with
      | none =>
        have hix : idxI p.f0 cur = -1 := by unfold idxI; rw [ha]
        have HT2 := Aside0.mk (show useW cur n a3 (l1.drop (idx + 1)) = useW l0 a2 a3 l1 by rw [← HT.out, useW_miss ha])
        clear ha
        rw [hix]
        clear hix
        go_wp2_with fail
        go_roundg k1
        case measure => omega
        case rel => exact ⟨idx + 1, n, cur, rfl, by first | rfl | simp [hwi], ⟨⟨by omega, by have := HI.out; omega⟩⟩, HT2, HCL, O5, S5, B5⟩
      | some j =>
        have hix : idxI p.f0 cur = (j : Int) := by unfold idxI; rw [ha]
        have hjc := atL_lt ha
        have hj0 : j < l0.length := by rw [← HCL.out]; exact hjc
        rw [hix]
        have HT2 := Aside0.mk (show useW (cur.set j (useOne (cur.getD j zL) p.f1 (min n p.f1) a3)) (wrap64 (n - min n p.f1)) a3 (l1.drop (idx + 1)) = useW l0 a2 a3 l1 by rw [← HT.out, useW_hit ha])
        clear ha hix
        obtain ⟨hy0, hy1, hy2, hy3, hy4, hy5, hy6, hy7, hy8⟩ := O5.out.at_ j hjc
        obtain ⟨x, hxx⟩ : ∃ x, x = cur.getD j zL := ⟨_, rfl⟩
        rw [← hxx] at hy0 hy1 hy2 hy3 hy4 hy5 hy6 hy7 hy8 HT2
        obtain ⟨m, hm0⟩ : ∃ m, m = min n p.f1 := ⟨_, rfl⟩
        rw [← hm0] at HT2
        have hmin : ∀ k k', Builtin.min2 (.int k n) (.int k' p.f1) = pure (.int k m) := fun k k' => by rw [min2_min, hm0]
        obtain ⟨cells, hblk⟩ := O5.out.blk
        have hf5 := blk_frozen hblk (j * 9 + 5)
        have hf6 := blk_frozen hblk (j * 9 + 6)
        have hf7 := blk_frozen hblk (j * 9 + 7)
        have p2 : (0 : Int) ≤ (j : Int) := by omega
        have q2 : (j : Int) < (l0.length : Int) := by omega
        have HXX := Aside0.mk hxx
        clear hblk hm0 hxx hy0 hy1 hy2 hy4 hy8
        go_wp2_with fail
        go_region
        by_cases hu : x.f3 ≤ a3
        · have hub : decide (x.f3 ≤ a3) = true := decide_eq_true hu
          have hone : useOne x p.f1 m a3 = { x with f6 := wrap64 (x.f6 - p.f1), f5 := wrap64 (x.f5 + m), f7 := wrap64 (x.f7 + wrap64 (p.f1 - m)) } := by unfold useOne; rw [if_pos hu]
          rw [hone] at HT2
          clear hone hu
          go_wp2_with fail
          go_region
          go_wp2_with fail
          go_roundg k1
          case measure => omega
          case rel =>
            obtain ⟨h3, g3⟩ := O5.out.use3 hjc (wrap64 (x.f6 - p.f1)) (wrap64 (x.f5 + m)) (wrap64 (x.f7 + wrap64 (p.f1 - m))) 0
            rw [← HXX.out] at h3
            have g4 := grown_trans g3 (grown_drewN (some g) 2)
            exact ⟨idx + 1, wrap64 (n - m), cur.set j { x with f6 := wrap64 (x.f6 - p.f1), f5 := wrap64 (x.f5 + m), f7 := wrap64 (x.f7 + wrap64 (p.f1 - m)) }, rfl, by first | rfl | simp [hwi], ⟨⟨by omega, by have := HI.out; omega⟩⟩, HT2, ⟨by rw [List.length_set]; exact HCL.out⟩, ⟨h3.drewN 2⟩, ⟨Nat.le_trans S5.out g4.size⟩, ⟨pw_below_grown B5.out _ (by have := S5.out; omega) g4 (fun k hk => by cases hk; exact Nat.le_refl _)⟩⟩
        · have hub : decide (x.f3 ≤ a3) = false := decide_eq_false hu
          have hone : useOne x p.f1 m a3 = { x with f6 := wrap64 (x.f6 - p.f1), f5 := wrap64 (x.f5 + m) } := by unfold useOne; rw [if_neg hu]
          rw [hone] at HT2
          clear hone hu
          go_wp2_with fail
          go_roundg k1
          case measure => omega
          case rel =>
            obtain ⟨h3, g3⟩ := O5.out.use2 hjc (wrap64 (x.f6 - p.f1)) (wrap64 (x.f5 + m)) 1
            rw [← HXX.out] at h3
            exact ⟨idx + 1, wrap64 (n - m), cur.set j { x with f6 := wrap64 (x.f6 - p.f1), f5 := wrap64 (x.f5 + m) }, rfl, by first | rfl | simp [hwi], ⟨⟨by omega, by have := HI.out; omega⟩⟩, HT2, ⟨by rw [List.length_set]; exact HCL.out⟩, ⟨h3⟩, ⟨Nat.le_trans S5.out g3.size⟩, ⟨pw_below_grown B5.out _ (by have := S5.out; omega) g3 (fun k hk => by cases hk; exact Nat.le_refl _)⟩⟩
    · have c1b : decide ((idx : Int) < (l1.length : Int)) = false := decide_eq_false (by omega)
      have c1c : decide (idx < l1.length) = false := decide_eq_false h1
      have HT2 : Aside0 (useW l0 a2 a3 l1 = (cur, n)) := ⟨by rw [← HT.out, List.drop_of_length_le (by omega)]; rfl⟩
      have F1 : Aside0 (OwnL wr w.heap.size (.slice (some ⟨g, 0, none⟩) l0.length l0.length) (useW l0 a2 a3 l1).1) := ⟨by rw [HT2.out, ← HG.out]; exact HO.out⟩
      have F3 : Aside0 (Below w.heap.size w wr) := ⟨by rw [← HG.out]; exact HB.out⟩
      go_wp2_with fail
      go_ret2
      exact ⟨.slice (some ⟨g, 0, none⟩) l0.length l0.length, by rw [HT2.out]; rfl, F1.out, F3.out⟩
theorem at_l0 (l : List SL) (id : Int) (hl : l.length < 15) (d : Nat) : ∀ i : Nat, i + d = l.length → Ev (fun k => tollref10_At.l0 k l id (i : Int)) (match atL id (l.drop i) with | none => -1 | some k => ((k + i : Nat) : Int)) := by
  induction d with
  | zero =>
    intro i hi
    refine Ev.step (fun k => by simp only [tollref10_At.l0]; rfl) ?_
    refine Ev.ite_neg (by omega) ?_
    rw [List.drop_of_length_le (by omega)]
    exact Ev.now _
  | succ d ih =>
    intro i hi
    have hil : i < l.length := by omega
    have e : rd_T33 l (i : Int) = l[i] := by simp [rd_T33, hil]
    refine Ev.step (fun k => by simp only [tollref10_At.l0]; rfl) ?_
    refine Ev.ite_pos (by omega) (Ev.ite_pos (by omega) ?_)
    rw [e, List.drop_eq_getElem_cons hil]
    simp only [atL]
    by_cases h : l[i].f0 = id
    · refine Ev.ite_pos h ?_
      rw [if_pos h]
      exact Ev.eq (Ev.now _) (by simp)
    · refine Ev.ite_neg h ?_
      rw [if_neg h, w64 (by omega) (by omega)]
      refine Ev.eq (ih (i + 1) (by omega)) ?_
      cases atL id (l.drop (i + 1)) with
      | none => rfl
      | some k => simp; omega
theorem at_calls (A : Option Addr) (c : Nat) (l : List SL) (id : Int) (w : World) (hl : l.length < 15) (hC : Kd.C kL w A l.length l) (hc : l.length ≤ c) :
    Calls Try.prog 25 #[.slice A l.length c, .int .i64 id] w fun e w' => e = .returned (.int .i64 (idxI id l)) ∧ w = w' := by
  obtain ⟨k, hk⟩ := Ev.rounds (at_l0 l id hl l.length 0 (by omega))
  exact tollref10_At.calls k A c l id _ w hC hc (by unfold tollref10_At.f; exact hk)
theorem wrap_assoc (a b c : Int) : wrap64 (wrap64 (a + b) - c) = wrap64 (a + wrap64 (b - c)) := by
  unfold wrap64
  omega
set_option maxHeartbeats 8000000 in
set_option maxRecDepth 100000 in
theorem refuse_calls (A0 : Option Addr) (c0 : Nat) (l0 : List SL) (A1 : Option Addr) (c1 : Nat) (l1 : List SP) (a2 a3 : Int) (w : World) (hr0 : Kd.C kL w A0 l0.length l0) (hc0 : l0.length ≤ c0) (hr1 : Kd.C kP w A1 l1.length l1) (hc1 : l1.length ≤ c1) (hl : l0.length < 15) (hl1 : l1.length < 1000000) :
    Calls Try.prog 23 #[.slice A0 l0.length c0, .slice A1 l1.length c1, .int .i64 a2, .int .i64 a3] w fun e w' => ∃ v0_ : Value, e = .returned (.tuple #[v0_, .int .i64 (useW l0 a2 a3 l1).2]) ∧ OwnL w' w.heap.size v0_ (useW l0 a2 a3 l1).1 ∧ Below w.heap.size w w' := by
  have hB0 : Below w.heap.size w (w.alloc (.cells #[] 33)) := below_alloc (Below.refl _ _) _
  have hE : OwnL (w.alloc (.cells #[] 33)) w.heap.size (.slice (some ⟨w.heap.size, 0, none⟩) 0 0) [] :=
    ⟨fun _ _ => trivial, [], ⟨rfl, .inr ⟨w.heap.size, 0, #[], rfl, Nat.le_refl _, blk_new w _, Nat.le_refl _, Nat.zero_le _, rfl, rfl⟩⟩, Reps.none _ _⟩
  have HB0 := Aside0.mk hB0
  have HE := Aside0.mk hE
  have HR0 := Aside0.mk hr0
  have HR1 := Aside0.mk hr1
  have hl' : (([] : List SL).length + l0.length) * 72 ≤ 140737488355328 := by simp; omega
  clear hB0 hE hr0 hr1
  go_enter Try.func23, Try.ntmps23
  go_wp2_with (first | (at_builtin; refine R_append_rows kL (Rr := kL.K (w.alloc (.cells #[] 33))) (w0 := w) w.heap.size rfl (.tmp 13) (.tmp 14) 22 33 _ 72 rfl Try.underlying22 infoL rfl (by decide) (by decide) _ [] l0 A0 l0.length c0 (fun _ => True) (fun k => True ∧ some k ≠ (Value.slice (some ⟨w.heap.size, 0, none⟩) 0 0).ownBlock) rfl rfl HE.out (C_below HR0.out HB0.out) (fun y cs hy => flatL _ _ _ _ _ _ hy) (fun k hk => hk) (fun _ _ => trivial) HB0.out (by simp) hl' ?_; intro v1 w3 h1 h2 h3 h4; have O3 := Aside0.mk h1; have B3 := Aside0.mk h2; clear h1 h2 h3 h4))
  have ho3 := O3.out
  rw [List.nil_append] at ho3
  obtain ⟨A, c, rfl, hlc, _⟩ := R_reads ho3
  have HO3 := Aside0.mk ho3
  clear ho3 O3
  go_loopg [2, 10] (l1.length + 1) (fun kq v2 v10 w' => ∃ (idx : Nat) (n : Int) (cur : List SL), v2 = .int .i64 n ∧ v10 = .int .i64 (idx : Int) ∧ Aside0 (idx ≤ l1.length ∧ kq + idx = l1.length + 1) ∧ Aside0 (useW cur n a3 (l1.drop idx) = useW l0 a2 a3 l1) ∧ Aside0 (cur.length = l0.length) ∧ Aside0 (OwnL w' w.heap.size (.slice A l0.length c) cur) ∧ Aside0 (Below w.heap.size w w'))
  case atStart => exact ⟨0, a2, l0, rfl, rfl, ⟨⟨Nat.zero_le _, rfl⟩⟩, ⟨rfl⟩, ⟨rfl⟩, HO3, B3⟩
  case round =>
    clear HO3 B3
    obtain ⟨idx, n, cur, rfl, rfl, HI, HT, HCL, HO, HB⟩ := hrel
    cases gk with
    | zero => exact absurd HI.out (by omega)
    | succ k1 =>
    by_cases h1 : idx < l1.length
    · have c1b : decide ((idx : Int) < (l1.length : Int)) = true := decide_eq_true (by omega)
      have c1c : decide (idx < l1.length) = true := decide_eq_true h1
      have p1 : (0 : Int) ≤ (idx : Int) := by omega
      have q1 : (idx : Int) < (l1.length : Int) := by omega
      have hwi : wrap64 ((idx : Int) + 1) = (idx : Int) + 1 := by unfold wrap64; omega
      obtain ⟨ad, e, hx0, hx1⟩ := at_T35 (C_below HR1.out HB.out) (idx : Int) p1 q1
      cases e
      rw [Int.toNat_natCast] at hx0 hx1
      obtain ⟨p, hp⟩ : ∃ p, p = rd_T35 l1 (idx : Int) := ⟨_, rfl⟩
      rw [← hp] at hx0 hx1
      have hdr : l1.drop idx = p :: l1.drop (idx + 1) := by
        rw [List.drop_eq_getElem_cons h1, hp]
        simp [rd_T35, h1]
      rw [hdr] at HT
      clear hp hdr
      have hat := at_calls A c cur p.f0 wr (by rw [HCL.out]; exact hl) (R_reads' HO.out).2.2 (by rw [HCL.out]; exact hlc)
      rw [HCL.out] at hat
      have HAT := Aside0.mk hat
      clear hat
      obtain ⟨ad', e', hxw, _⟩ := at_T35 HR1.out (idx : Int) p1 q1
      cases e'
      have hadl : (ad.add (idx * 2)).block < w.heap.size := World.block_lt_of_cell? w (ad.add ((idx : Int).toNat * 2)) hxw
      clear hxw
      go_wp2_with fail
      refine HAT.out.mono ?_
      rintro e w' ⟨rfl, rfl⟩
      clear HAT
      cases ha : atL p.f0 cur with
      | none =>
        have hix : idxI p.f0 cur = -1 := by unfold idxI; rw [ha]
        have HT2 := Aside0.mk (show useW cur n a3 (l1.drop (idx + 1)) = useW l0 a2 a3 l1 by rw [← HT.out, useW_miss ha])
        clear ha
        rw [hix]
        clear hix
        go_wp2_with fail
        go_roundg k1
        case measure => omega
        case rel => exact ⟨idx + 1, n, cur, rfl, by first | rfl | simp [hwi], ⟨⟨by omega, by have := HI.out; omega⟩⟩, HT2, HCL, HO, HB⟩
      | some j =>
        have hix : idxI p.f0 cur = (j : Int) := by unfold idxI; rw [ha]
        have hjc := atL_lt ha
        have hj0 : j < l0.length := by rw [← HCL.out]; exact hjc
        rw [hix]
        have HT2 := Aside0.mk (show useW (cur.set j (useOne (cur.getD j zL) p.f1 (min n p.f1) a3)) (wrap64 (n - min n p.f1)) a3 (l1.drop (idx + 1)) = useW l0 a2 a3 l1 by rw [← HT.out, useW_hit ha])
        clear ha hix
        obtain ⟨g, hA, hgw⟩ : ∃ g, A = some ⟨g, 0, none⟩ ∧ w.heap.size ≤ g := by
          obtain ⟨_, inner, hown, _⟩ := HO.out
          rcases hown.2 with ⟨h0, h2⟩ | ⟨g, cap, cur', he, hb, _⟩
          · omega
          · injection he with he
            exact ⟨g, he, hb⟩
        subst hA
        have hne1 : ¬ ((ad.add (idx * 2)).block = g) := by omega
        have hne2 : ¬ (g = (ad.add (idx * 2)).block) := by omega
        obtain ⟨hy0, hy1, hy2, hy3, hy4, hy5, hy6, hy7, hy8⟩ := HO.out.at_ j hjc
        obtain ⟨x, hxx⟩ : ∃ x, x = cur.getD j zL := ⟨_, rfl⟩
        rw [← hxx] at hy0 hy1 hy2 hy3 hy4 hy5 hy6 hy7 hy8 HT2
        obtain ⟨m, hm0⟩ : ∃ m, m = min n p.f1 := ⟨_, rfl⟩
        rw [← hm0] at HT2
        have hmin : ∀ k k', Builtin.min2 (.int k n) (.int k' p.f1) = pure (.int k m) := fun k k' => by rw [min2_min, hm0]
        obtain ⟨cells, hblk⟩ := HO.out.blk
        have hf5 := blk_frozen hblk (j * 9 + 5)
        have hf6 := blk_frozen hblk (j * 9 + 6)
        have hf7 := blk_frozen hblk (j * 9 + 7)
        have p2 : (0 : Int) ≤ (j : Int) := by omega
        have q2 : (j : Int) < (l0.length : Int) := by omega
        have HXX := Aside0.mk hxx
        clear hblk hm0 hxx hy0 hy1 hy2 hy4 hy8 hadl
        go_wp2_with fail
        go_region
        by_cases hu : x.f3 ≤ a3
        · have hub : decide (x.f3 ≤ a3) = true := decide_eq_true hu
          have hone : useOne x p.f1 m a3 = { x with f6 := wrap64 (x.f6 - p.f1), f5 := wrap64 (x.f5 + m), f7 := wrap64 (wrap64 (x.f7 + p.f1) - m) } := by unfold useOne; rw [if_pos hu, wrap_assoc]
          rw [hone] at HT2
          clear hone hu
          go_wp2_with fail
          go_region
          go_wp2_with fail
          go_roundg k1
          case measure => omega
          case rel =>
            obtain ⟨h3, g3⟩ := HO.out.use3 hjc (wrap64 (x.f6 - p.f1)) (wrap64 (x.f5 + m)) (wrap64 (wrap64 (x.f7 + p.f1) - m)) 0
            rw [← HXX.out] at h3
            have g4 := grown_trans g3 (grown_drewN (some g) 2)
            exact ⟨idx + 1, wrap64 (n - m), cur.set j { x with f6 := wrap64 (x.f6 - p.f1), f5 := wrap64 (x.f5 + m), f7 := wrap64 (wrap64 (x.f7 + p.f1) - m) }, rfl, by first | rfl | simp [hwi], ⟨⟨by omega, by have := HI.out; omega⟩⟩, HT2, ⟨by rw [List.length_set]; exact HCL.out⟩, ⟨h3.drewN 2⟩, ⟨pw_below_grown HB.out _ (below_size HB.out) g4 (fun k hk => by cases hk; exact hgw)⟩⟩
        · have hub : decide (x.f3 ≤ a3) = false := decide_eq_false hu
          have hone : useOne x p.f1 m a3 = { x with f6 := wrap64 (x.f6 - p.f1), f5 := wrap64 (x.f5 + m) } := by unfold useOne; rw [if_neg hu]
          rw [hone] at HT2
          clear hone hu
          go_wp2_with fail
          go_roundg k1
          case measure => omega
          case rel =>
            obtain ⟨h3, g3⟩ := HO.out.use2 hjc (wrap64 (x.f6 - p.f1)) (wrap64 (x.f5 + m)) 1
            rw [← HXX.out] at h3
            exact ⟨idx + 1, wrap64 (n - m), cur.set j { x with f6 := wrap64 (x.f6 - p.f1), f5 := wrap64 (x.f5 + m) }, rfl, by first | rfl | simp [hwi], ⟨⟨by omega, by have := HI.out; omega⟩⟩, HT2, ⟨by rw [List.length_set]; exact HCL.out⟩, ⟨h3⟩, ⟨pw_below_grown HB.out _ (below_size HB.out) g3 (fun k hk => by cases hk; exact hgw)⟩⟩
    · have c1b : decide ((idx : Int) < (l1.length : Int)) = false := decide_eq_false (by omega)
      have c1c : decide (idx < l1.length) = false := decide_eq_false h1
      have HT2 : Aside0 (useW l0 a2 a3 l1 = (cur, n)) := ⟨by rw [← HT.out, List.drop_of_length_le (by omega)]; rfl⟩
      have F1 : Aside0 (OwnL wr w.heap.size (.slice A l0.length c) (useW l0 a2 a3 l1).1) := ⟨by rw [HT2.out]; exact HO.out⟩
      go_wp2_with fail
      go_ret2
      exact ⟨.slice A l0.length c, by rw [HT2.out]; rfl, F1.out, HB.out⟩
end Go.Proofs.Ytjoimapgmocoeaa.Lk
