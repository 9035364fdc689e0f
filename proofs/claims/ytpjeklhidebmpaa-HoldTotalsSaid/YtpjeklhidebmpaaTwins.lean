/- twins, Find. -/
import Derived.Test.YtpjeklhidebmpaaStructB
import Derived.Test.YtpjeklhidebmpaaHolds
set_option linter.unusedVariables false
set_option linter.unusedSimpArgs false
namespace Go.Proofs.Ytpjeklhidebmpaa.Lk
open Go.RowKit Go.Proofs.YtpjeklhidebmpaaW.PrintWords Go.Proofs.YtpjeklhidebmpaaW.PrintWords.Kd Go.Proofs.YtpjeklhidebmpaaW.PrintLast Go.Proofs.YtpjeklhidebmpaaW.PrintMore Go.Proofs.Ytpjeklhidebmpaa.Xa Go.Proofs.Ytpjeklhidebmpaa.Own
/-- A hold's cells, as a value. -/
def aH (x : HN) : Array Value := #[.int .i64 x.id, .slice none 0 0, .int .i64 x.over, .int .i64 x.til]
theorem infoH : (Try.prog.info? 26).map (fun i => (i.zero, i.size, i.bytes)) = some (some (.agg #[.int .i64 0, .slice none 0 0, .int .i64 0, .int .i64 0]), 4, 48) := by kernel_rfl
theorem twinA_calls (x : HN) (w : World) : Calls Try.prog 14 #[.agg #[.int .i64 x.id, .slice none 0 0, .int .i64 x.over, .int .i64 x.til]] w fun e w' => e = .returned (.agg (aH x)) ∧ Below w.heap.size w w' := twin_calls x w
theorem kept_blk {W w1 : World} {row : Option Nat} {k : Nat} {o : Obj} (hg : W.grownBy w1 row) (h : W.heap[k]? = some o) (hne : some k ≠ row) : w1.heap[k]? = some o := by rw [hg.block k (blk_lt h) hne]; exact h
theorem storeH {W : World} {base g n c i : Nat} {ok : Nat → Prop} {xs : List HN} (x : HN) (HO : kH.R 26 W base ok (.slice (some ⟨g, 0, none⟩) n c) xs) (hi : i < xs.length) :
    ∃ W', (storeCells ⟨g, i * 4, none⟩ (aH x).toList).run Try.prog W = .ok () W' ∧ kH.R 26 W' base ok (.slice (some ⟨g, 0, none⟩) n c) (xs.set i x) ∧ W.grownBy W' (some g) ∧ W'.heap.size = W.heap.size :=
  row_store (P := Try.prog) (d := kH) flatH HO hi (show kH.K W x (aH x).toList from rfl)
set_option maxHeartbeats 4000000 in
theorem twins_calls (A : Option Addr) (c : Nat) (xs : List HN) (w : World) (hC : Kd.C kH w A xs.length xs) (hc : xs.length ≤ c) (hl : xs.length < 1000000) :
    Calls Try.prog 12 #[.slice A xs.length c] w fun e w' => ∃ g : Nat, e = .returned (.slice (some ⟨g, 0, none⟩) xs.length xs.length) ∧ kH.R 26 w' w.heap.size (fun _ => True) (.slice (some ⟨g, 0, none⟩) xs.length xs.length) xs ∧ Below w.heap.size w w' := by
  obtain ⟨w2, hmk, ho2, hg2, hs2⟩ := R_made2 (P := Try.prog) (W := w) kH w.heap.size 30 26 .i64 .i64 xs.length xs.length Try.underlying30 _ 48 infoH rfl (by decide) zH (ok := fun _ => True) (fun w b o => rfl) trivial (Nat.le_refl _) (by omega) (by unfold maxLen; omega) (Nat.le_refl _)
  obtain ⟨w3, hcp, ho3, hg3, hs3⟩ := copy_all (P := Try.prog) (d := kH) (t := 30) (t' := 30) (ty := 3) (c := c) flatH (by decide) Try.underlying30 rfl ho2 (C_below hC (pw_below_grown (Below.refl _ _) none (Nat.le_refl _) hg2 (fun _ h => by cases h))) (by simp)
  have HO3 := Aside0.mk ho3
  have HB3 : Aside0 (Below w.heap.size w w3) := ⟨pw_below_grown (pw_below_grown (Below.refl _ _) none (Nat.le_refl _) hg2 (fun _ h => by cases h)) _ (by omega) hg3 (fun k hk => by simp [Value.ownBlock] at hk; omega)⟩
  have HL := Aside0.mk hl
  clear hC hc ho2 hg2 hg3 ho3 hs2 hs3 hl
  go_enter Try.func12, Try.ntmps12
  go_wp2_with fail
  clear hmk hcp
  go_loopg [14] (xs.length + 1) (fun kq v14 w' => ∃ i : Nat, v14 = .int .i64 (i : Int) ∧ Aside0 (i ≤ xs.length ∧ kq + i = xs.length + 1) ∧ Aside0 (kH.R 26 w' w.heap.size (fun _ => True) (.slice (some ⟨w.heap.size, 0, none⟩) xs.length xs.length) xs) ∧ Aside0 (Below w.heap.size w w'))
  case atStart => exact ⟨0, rfl, ⟨⟨Nat.zero_le _, rfl⟩⟩, HO3, HB3⟩
  case round =>
    clear HO3 HB3
    obtain ⟨i, rfl, HI, HO, HB⟩ := hrel
    cases gk with
    | zero => exact absurd HI.out (by omega)
    | succ k1 =>
    by_cases c1 : i < xs.length
    · have c1b : decide ((i : Int) < (xs.length : Int)) = true := decide_eq_true (by omega)
      have c1c : decide (i < xs.length) = true := decide_eq_true c1
      have p : 0 ≤ (i : Int) := by omega
      have q : (i : Int) < (xs.length : Int) := by omega
      have hwi : wrap64 ((i : Int) + 1) = (i : Int) + 1 := by have := HL.out; unfold wrap64; omega
      obtain ⟨ad, e, hx0, hx1, hx2, hx3⟩ := at_H (R_reads' HO.out).2.2 (i : Int) p q
      cases e
      simp only [add_plain, Int.toNat_natCast] at hx0 hx1 hx2 hx3
      have hx := show rdH xs (i : Int) = xs[i] by simp [rdH, c1]
      have HX := Aside0.mk hx
      clear hx
      go_wp2_with fail
      refine (twinA_calls _ _).mono ?_
      rintro e w4 ⟨rfl, hb⟩
      have hb4 := below_step (below_alloc (Below.refl _ _) _) hb
      obtain ⟨w5, hst, ho5, hg5, hs5⟩ := storeH (i := i) (rdH xs (i : Int)) (R_below HO.out hb4) c1
      rw [show xs.set i (rdH xs (i : Int)) = xs by rw [HX.out]; simp] at ho5
      have HO5 := Aside0.mk ho5
      have HB5 := Aside0.mk (show Below w.heap.size w w5 from pw_below_grown (below_then HB.out HB.out.size hb4) _ (by have := HB.out.size; have := hb4.size; omega) hg5 (fun k hk => by simp at hk; omega))
      clear hb hb4 ho5 hg5 hs5 hx0 hx1 hx2 hx3
      go_wp2_with fail
      go_roundg k1
      case measure => omega
      case rel => exact ⟨i + 1, by simp [hwi], ⟨⟨by omega, by have := HI.out.2; omega⟩⟩, HO5, HB5⟩
    · have c1b : decide ((i : Int) < (xs.length : Int)) = false := decide_eq_false (by omega)
      have c1c : decide (i < xs.length) = false := decide_eq_false (by omega)
      go_wp2
      go_ret
      exact ⟨_, rfl, HO.out, HB.out⟩
end Go.Proofs.Ytpjeklhidebmpaa.Lk
