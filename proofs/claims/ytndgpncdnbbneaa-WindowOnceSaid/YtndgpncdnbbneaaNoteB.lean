/- window.Note: what it answers, and its call. -/
import Derived.Test.YtndgpncdnbbneaaXa0
import Derived.Test.YtndgpncdnbbneaaNote
set_option linter.unusedVariables false
set_option linter.unusedSimpArgs false
namespace Go.Proofs.Ytndgpncdnbbneaa.Own
open Go.RowKit Go.Proofs.YtndgpncdnbbneaaW.PrintWords Go.Proofs.YtndgpncdnbbneaaW.PrintWords.Kd Go.Proofs.YtndgpncdnbbneaaW.PrintLast Go.Proofs.YtndgpncdnbbneaaW.PrintMore Go.Proofs.Ytndgpncdnbbneaa.Xa
abbrev SA := S32
abbrev zE := z40
/-- How many entries of the front have lesser ids. -/
def noteAt (a1 : Int) : List SE → Nat
  | [] => 0
  | x :: xs => if x.f0 < a1 then noteAt a1 xs + 1 else 0
def noteSpec (l0 : List SE) (a1 : Int) (a : SA) : List SE :=
  (l0.take (noteAt a1 l0) ++ ([(⟨a1, a⟩ : SE)] ++ l0.drop (noteAt a1 l0))).drop (l0.length + 1 - 12)
def cellsA (x : SA) : Array Value := #[.int .i64 x.f0, .int .i64 x.f1, .int .i64 x.f2, .int .i64 x.f3, .string x.f4.f0, .int .i64 x.f4.f1, .int .i64 x.f4.f2, .int .i64 x.f4.f3, .int .i64 x.f4.f4, .int .i64 x.f4.f5, .int .i64 x.f4.f6, .int .i64 x.f4.f7, .int .i64 x.f4.f8]
theorem kept_blk {W w1 : World} {row : Option Nat} {k : Nat} {o : Obj} (hg : W.grownBy w1 row) (h : W.heap[k]? = some o) (hne : some k ≠ row) : w1.heap[k]? = some o := by rw [hg.block k (blk_lt h) hne]; exact h
theorem noteAt_le (a1 : Int) : ∀ l : List SE, noteAt a1 l ≤ l.length
  | [] => Nat.le_refl _
  | x :: xs => by
    unfold noteAt
    split
    · simpa using noteAt_le a1 xs
    · exact Nat.zero_le _
theorem noteAt_of (a1 : Int) : ∀ (l : List SE) (i : Nat), i ≤ l.length → (∀ j, j < i → (l.getD j zE).f0 < a1) → (i = l.length ∨ ¬ (l.getD i zE).f0 < a1) → noteAt a1 l = i
  | [], i, hi, _, _ => by simp at hi; simp [noteAt, hi]
  | x :: xs, 0, _, _, h => by
    rcases h with h | h
    · simp at h
    · simp at h
      simp [noteAt, Int.not_lt.2 h]
  | x :: xs, i + 1, hi, h1, h2 => by
    have h0 := h1 0 (by omega)
    simp at h0
    have := noteAt_of a1 xs i (by simpa using hi) (fun j hj => by have := h1 (j + 1) (by omega); simpa using this) (by simpa using h2)
    simp [noteAt, h0, this]
theorem cells_C {W : World} {vb : Nat} {x : SE} (HV : W.heap[vb]? = some (.cells (cellsE x).toArray 40 (0, 0))) : kE.C W (some ⟨vb, 0, none⟩) 1 [x] := by
  refine ⟨rfl, by decide, fun _ => ⟨_, rfl, fun j p hj => ?_⟩⟩
  have h0 : j = 0 := by
    cases j with
    | zero => rfl
    | succ j => simp at hj
  subst h0
  simp at hj
  subst hj
  refine ⟨cellsE x, rfl, cellsE_K W x, fun i u hi => ?_⟩
  rw [add_plain, cell_of_row W vb _ _ _ (0, 0) HV]
  simpa using hi
theorem insert_at (W : World) (base c g vb i : Nat) (xs : List SE) (x : SE) (hi : i ≤ xs.length) (hroom : xs.length + 1 ≤ c) (hb : base ≤ W.heap.size) (HO : kE.R 40 W base (fun _ => True) (.slice (some ⟨g, 0, none⟩) xs.length c) xs)
    (HV : W.heap[vb]? = some (.cells (cellsE x).toArray 40 (0, 0))) (hne : vb ≠ g) (hl : (xs.length + 1) * 120 ≤ 140737488355328) :
    Calls Try.prog 10 #[.slice (some ⟨g, 0, none⟩) xs.length c, .int .i64 i, .slice (some ⟨vb, 0, none⟩) 1 1] W fun e w' =>
      ∃ A1 c1, e = .returned (.slice A1 (xs.length + 1) c1) ∧ kE.R 40 w' base (fun _ => True) (.slice A1 (xs.length + 1) c1) (xs.take i ++ ([x] ++ xs.drop i)) ∧ W.grownBy w' (some g) ∧ xs.length + 1 ≤ c1 := by
  have h : Calls Try.prog 10 #[.slice (some ⟨g, 0, none⟩) xs.length c, .int .i64 i, .slice (some ⟨vb, 0, none⟩) 1 1] W fun e w' =>
      ∃ v1, e = .returned v1 ∧ kE.R 40 w' base (fun _ => True) v1 (xs.take i ++ ([x] ++ xs.drop i)) ∧ W.grownBy w' (some g) := by
    rcases Nat.lt_or_eq_of_le hi with h | h
    · exact insert_mid W base c g vb i xs x h hroom HO HV hne
    · subst h
      have := insert_end W base xs.length c g vb xs x rfl hb HO (cells_C HV) hl
      rw [List.take_length, List.drop_length, List.append_nil]
      exact this
  refine h.mono ?_
  rintro e w' ⟨v1, rfl, h1, h2⟩
  obtain ⟨A1, c1, rfl, h3, _⟩ := R_reads h1
  have hlen : (xs.take i ++ ([x] ++ xs.drop i)).length = xs.length + 1 := by simp; omega
  rw [hlen] at h1 h3
  exact ⟨A1, c1, by rw [hlen], h1, h2, h3⟩
set_option maxHeartbeats 4000000 in
set_option maxRecDepth 100000 in
theorem note_calls (A0 : Option Addr) (c0 : Nat) (l0 : List SE) (a1 : Int) (a : SA) (w : World) (hr0 : Kd.C kE w A0 l0.length l0) (hc0 : l0.length ≤ c0) (hl : l0.length < 1000000) :
    Calls Try.prog 9 #[.slice A0 l0.length c0, .int .i64 a1, .agg (cellsA a)] w fun e w' =>
      ∃ v0 : Value, e = .returned v0 ∧ Kd.Q kE 40 w' w.heap.size (fun _ => True) v0 (noteSpec l0 a1 a) ∧ Below w.heap.size w w' := by
  have HR0 := Aside0.mk hr0
  have HC0 := Aside0.mk hc0
  have HL := Aside0.mk hl
  clear hr0 hc0 hl
  unfold cellsA
  have hwl : wrap64 ((l0.length : Int) + 1) = (l0.length : Int) + 1 := by have := HL.out; unfold wrap64; omega
  go_enter Try.func9, Try.ntmps9
  go_wp2_with (first
    | ((with_reducible refine gate_dst (N := 5) rfl ?_); (refine box_event (N := 5) (cs := cellsA a) (t := 32) rfl rfl (by first | (go_simp; done) | (go_simp; rfl)) ?_); intro g hg w1 hbox hb1; have GW := Aside0.mk hg; have HB1 := Aside0.mk hb1; have BX := Aside0.mk hbox; clear hg hb1 hbox)
    | ((with_reducible refine gate_dst (N := 14) rfl ?_); (obtain ⟨w2, hmk, ho2, hg2, hs2⟩ := R_made2 (P := Try.prog) (W := w1) kE w.heap.size 24 40 .i64 .i64 l0.length (l0.length + 1) Try.underlying24 _ 120 infoE rfl (by decide) zE (ok := fun _ => True) (fun w b o => k40_mkM w b o zE) trivial (by omega) (by have := HL.out; omega) (by have := HL.out; unfold maxLen; omega) (below_size HB1.out)); have MK := Aside0.mk hmk; have HO2 := Aside0.mk ho2; have HG2 := Aside0.mk hg2; have HS2 := Aside0.mk hs2; clear hmk ho2 hg2 hs2; (refine event_run rfl (w1 := w2) (v := .slice (some ⟨w1.heap.size, 0, none⟩) l0.length (l0.length + 1)) (by have hmk := MK.out; rw [Int.natCast_add, Int.natCast_one] at hmk; go_simp; try rw [hwl]; rw [hmk]; rfl) ?_))
    | ((with_reducible refine gate_dst (N := 17) rfl ?_); (obtain ⟨w3, hcp, ho3, hg3, hs3⟩ := copy_all (P := Try.prog) (d := kE) (t := 24) (t' := 24) (ty := 3) (c := c0) flatE (by decide) Try.underlying24 rfl HO2.out (C_below (C_below HR0.out HB1.out) (pw_below_grown (Below.refl _ _) none (Nat.le_refl _) HG2.out (fun _ h => by cases h))) (by simp)); have CP := Aside0.mk hcp; have HO3 := Aside0.mk ho3; have HG3 := Aside0.mk hg3; have HS3 := Aside0.mk hs3; clear hcp ho3 hg3 hs3; (refine wpList_copy_run w2 rfl (.tmp 15) (.tmp 16) 24 24 rfl _ _ rfl rfl CP.out ?_)))
  have hlt : g < w1.heap.size := blk_lt BX.out
  have BX3 := Aside0.mk (kept_blk HG3.out (kept_blk HG2.out BX.out (by simp)) (by simp [Value.ownBlock]; omega))
  have HB3 : Aside0 (Below w.heap.size w w3) := ⟨pw_below_grown (pw_below_grown HB1.out none (below_size HB1.out) HG2.out (fun _ h => by cases h)) _ (by have := HS2.out; have := below_size HB1.out; omega) HG3.out (fun k hk => by have := below_size HB1.out; simp [Value.ownBlock] at hk; omega)⟩
  have hge : w.heap.size ≤ w1.heap.size := below_size HB1.out
  have HL2 := Aside0.mk hlt
  have HGE := Aside0.mk hge
  clear hlt hge MK CP HO2 HG2 HG3 HB1 BX
  go_loopg [8] (l0.length + 1) (fun kq v8 w' => ∃ i : Nat, v8 = .int .i64 (i : Int) ∧ Aside0 (i ≤ l0.length ∧ kq + i = l0.length + 1 ∧ ∀ j, j < i → (l0.getD j zE).f0 < a1) ∧ w' = w3)
  case atStart => exact ⟨0, rfl, ⟨⟨Nat.zero_le _, rfl, fun j hj => absurd hj (by omega)⟩⟩, rfl⟩
  case round =>
    obtain ⟨i, rfl, HI, hw⟩ := hrel
    subst hw
    cases gk with
    | zero => exact absurd HI.out (by omega)
    | succ k1 =>
    have hr : i < l0.length → wr.cell? ⟨w1.heap.size, i * 14, none⟩ = some (.int .i64 (rd_T40 l0 (i : Int)).f0) := fun c1 => by
      obtain ⟨ad, e, hx0, _⟩ := at_T40 (R_reads' HO3.out).2.2 (i : Int) (by omega) (by omega)
      cases e
      rw [add_plain, Int.toNat_natCast] at hx0
      exact hx0
    have hcases : (i < l0.length ∧ (rd_T40 l0 (i : Int)).f0 < a1) ∨ (i < l0.length ∧ ¬ (rd_T40 l0 (i : Int)).f0 < a1) ∨ ¬ (i < l0.length) := by omega
    have HR := Aside0.mk hr
    clear hr
    have hu32 := Try.underlying32
    have hb0 : wr.cell? ⟨g, 0, none⟩ = some (.int .i64 a.f0) := by rw [cell_of_row wr g 0 _ _ (0, 0) BX3.out]; rfl
    have hb1 : wr.cell? ⟨g, 1, none⟩ = some (.int .i64 a.f1) := by rw [cell_of_row wr g 1 _ _ (0, 0) BX3.out]; rfl
    have hb2 : wr.cell? ⟨g, 2, none⟩ = some (.int .i64 a.f2) := by rw [cell_of_row wr g 2 _ _ (0, 0) BX3.out]; rfl
    have hb3 : wr.cell? ⟨g, 3, none⟩ = some (.int .i64 a.f3) := by rw [cell_of_row wr g 3 _ _ (0, 0) BX3.out]; rfl
    have hb4 : wr.cell? ⟨g, 4, none⟩ = some (.string a.f4.f0) := by rw [cell_of_row wr g 4 _ _ (0, 0) BX3.out]; rfl
    have hb5 : wr.cell? ⟨g, 5, none⟩ = some (.int .i64 a.f4.f1) := by rw [cell_of_row wr g 5 _ _ (0, 0) BX3.out]; rfl
    have hb6 : wr.cell? ⟨g, 6, none⟩ = some (.int .i64 a.f4.f2) := by rw [cell_of_row wr g 6 _ _ (0, 0) BX3.out]; rfl
    have hb7 : wr.cell? ⟨g, 7, none⟩ = some (.int .i64 a.f4.f3) := by rw [cell_of_row wr g 7 _ _ (0, 0) BX3.out]; rfl
    have hb8 : wr.cell? ⟨g, 8, none⟩ = some (.int .i64 a.f4.f4) := by rw [cell_of_row wr g 8 _ _ (0, 0) BX3.out]; rfl
    have hb9 : wr.cell? ⟨g, 9, none⟩ = some (.int .i64 a.f4.f5) := by rw [cell_of_row wr g 9 _ _ (0, 0) BX3.out]; rfl
    have hb10 : wr.cell? ⟨g, 10, none⟩ = some (.int .i64 a.f4.f6) := by rw [cell_of_row wr g 10 _ _ (0, 0) BX3.out]; rfl
    have hb11 : wr.cell? ⟨g, 11, none⟩ = some (.int .i64 a.f4.f7) := by rw [cell_of_row wr g 11 _ _ (0, 0) BX3.out]; rfl
    have hb12 : wr.cell? ⟨g, 12, none⟩ = some (.int .i64 a.f4.f8) := by rw [cell_of_row wr g 12 _ _ (0, 0) BX3.out]; rfl
    rcases hcases with ⟨c1, c2⟩ | ⟨c1, c2⟩ | c1
    · have hx0 := HR.out c1
      have c1b : decide ((i : Int) < (l0.length : Int)) = true := decide_eq_true (by omega)
      have c2b : decide ((rd_T40 l0 (i : Int)).f0 < a1) = true := decide_eq_true c2
      have hwi : wrap64 ((i : Int) + 1) = (i : Int) + 1 := by have := HL.out; unfold wrap64; omega
      have p : 0 ≤ (i : Int) := by omega
      have q : (i : Int) < (l0.length : Int) := by omega
      go_wp2
      go_roundg k1
      case measure => omega
      case rel =>
        refine ⟨i + 1, by simp [hwi], ⟨⟨by omega, by have := HI.out.2.1; omega, fun j hj => ?_⟩⟩, rfl⟩
        rcases Nat.lt_succ_iff_lt_or_eq.1 hj with h | h
        · exact HI.out.2.2 j h
        · subst h
          simpa [rd_T40] using c2
    have hx : noteAt a1 l0 = i ∧ i ≤ l0.length := ⟨noteAt_of a1 l0 i (by omega) HI.out.2.2 (.inr (by simpa [rd_T40] using c2)), by omega⟩
    have HX := Aside0.mk hx
    clear hx
    have hx0 := HR.out c1
    have c1b : decide ((i : Int) < (l0.length : Int)) = true := decide_eq_true (by omega)
    have c2b : decide ((rd_T40 l0 (i : Int)).f0 < a1) = false := decide_eq_false c2
    have p : 0 ≤ (i : Int) := by omega
    have q : (i : Int) < (l0.length : Int) := by omega
    go_wp2_with fail
    rotate_left
    have hx : noteAt a1 l0 = i ∧ i ≤ l0.length := ⟨noteAt_of a1 l0 i (by have := HI.out; omega) HI.out.2.2 (.inl (by have := HI.out; omega)), by have := HI.out; omega⟩
    have HX := Aside0.mk hx
    clear hx
    have c1b : decide ((i : Int) < (l0.length : Int)) = false := decide_eq_false (by omega)
    go_wp2_with fail
    all_goals
      refine (insert_at _ w.heap.size (l0.length + 1) w1.heap.size wr.heap.size i l0 ⟨a1, a⟩ HX.out.2 (Nat.le_refl _) ?hb (R_alloc HO3.out _) (blk_new wr _) ?hne ?hll).mono ?_
      case hb => have := HB3.out.size; have := HGE.out; have := HS3.out; have := HS2.out; simp; omega
      case hne => have := HS3.out; have := HS2.out; omega
      case hll => have := HL.out; omega
      rintro e w4 ⟨A1, c4, rfl, h1, h2, h3⟩
      have R1 := Aside0.mk h1
      have R2 := Aside0.mk h2
      clear h1 h2
      have hlen : (l0.take i ++ ([(⟨a1, a⟩ : SE)] ++ l0.drop i)).length = l0.length + 1 := by have := HX.out.2; simp; omega
      have HN : noteSpec l0 a1 a = (l0.take i ++ ([(⟨a1, a⟩ : SE)] ++ l0.drop i)).drop (l0.length + 1 - 12) := by unfold noteSpec; rw [HX.out.1]
      have BW : Below w.heap.size w w4 := pw_below_grown (below_alloc HB3.out _) _ (by have := HB3.out.size; have := HGE.out; have := HS3.out; have := HS2.out; simp; omega) R2.out (fun k hk => by have := HGE.out; cases hk; exact this)
      have HQ := Q_drop (Q_of_R R1.out) (k := l0.length + 1 - 12) (by rw [hlen]; omega)
      rw [← HN, if_neg (by omega)] at HQ
      have HQ0 : l0.length + 1 - 12 = 0 → kE.Q 40 w4 w.heap.size (fun x => True) (Value.slice A1 (l0.length + 1) c4) (noteSpec l0 a1 a) := fun h => by
        rw [HN, h, List.drop_zero]
        exact Q_of_R R1.out
      have HQ' := Aside0.mk HQ
      have HQ0' := Aside0.mk HQ0
      have BW' := Aside0.mk BW
      clear HQ HQ0 BW HN hlen
      rcases Nat.lt_or_ge l0.length 12 with hb | hb
      · have hw12 : wrap64 ((l0.length : Int) + 1 - 12) = (l0.length : Int) + 1 - 12 := by have := HL.out; unfold wrap64; omega
        have hmx : max (0 : Int) ((l0.length : Int) + 1 - 12) = 0 := by omega
        go_wp2
        all_goals
          go_ret
          exact ⟨_, rfl, HQ0'.out (by omega), BW'.out⟩
      · have hw12 : wrap64 ((l0.length : Int) + 1 - 12) = ((l0.length + 1 - 12 : Nat) : Int) := by have := HL.out; unfold wrap64; omega
        have hmx : max (0 : Int) ((l0.length + 1 - 12 : Nat) : Int) = ((l0.length + 1 - 12 : Nat) : Int) := by omega
        go_wp2
        all_goals
          go_ret
          refine ⟨_, rfl, ?_, BW'.out⟩
          first
            | exact HQ'.out
            | exact HQ0'.out (by omega)
            | (exfalso; omega)
end Go.Proofs.Ytndgpncdnbbneaa.Own
