/- SameHolds of two rows of the same holds without parts. -/
import Derived.Test.YtpjeklhidebmpaaTwins
set_option linter.unusedVariables false
set_option linter.unusedSimpArgs false
namespace Go.Proofs.Ytpjeklhidebmpaa.Lk
open Go.RowKit Go.Proofs.YtpjeklhidebmpaaW.PrintWords Go.Proofs.YtpjeklhidebmpaaW.PrintWords.Kd Go.Proofs.YtpjeklhidebmpaaW.PrintLast Go.Proofs.YtpjeklhidebmpaaW.PrintMore Go.Proofs.Ytpjeklhidebmpaa.Xa Go.Proofs.Ytpjeklhidebmpaa.Own
theorem sameparts_nil (w : World) : Calls Try.prog 17 #[.slice none 0 0, .slice none 0 0] w fun e w' => e = .returned (.bool true) ∧ w = w' := by
  go_enter Try.func17, Try.ntmps17
  go_wp2
  go_loopg [5] 1 (fun kq v5 w' => v5 = .int .i64 0 ∧ w = w')
  case atStart => exact ⟨rfl, rfl⟩
  case round =>
    obtain ⟨rfl, rfl⟩ := hrel
    go_wp2
    go_ret
    exact ⟨rfl, rfl⟩
set_option maxHeartbeats 4000000 in
theorem same_calls (A B : Option Addr) (c c' : Nat) (xs : List HN) (w : World) (hA : Kd.C kH w A xs.length xs) (hB : Kd.C kH w B xs.length xs) (hl : xs.length < 1000000) :
    Calls Try.prog 11 #[.slice A xs.length c, .slice B xs.length c'] w fun e w' => e = .returned (.bool true) ∧ ∃ q, w' = w.drewN q := by
  have HA := Aside0.mk hA
  have HB := Aside0.mk hB
  clear hA hB
  go_enter Try.func11, Try.ntmps11
  go_wp2
  go_loopg [5] (xs.length + 1) (fun kq v5 w' => ∃ i : Nat, v5 = .int .i64 (i : Int) ∧ Aside0 (i ≤ xs.length ∧ kq + i = xs.length + 1) ∧ ∃ q, Aside0 (w' = w.drewN q))
  case atStart => exact ⟨0, rfl, ⟨⟨Nat.zero_le _, rfl⟩⟩, 0, ⟨rfl⟩⟩
  case round =>
    obtain ⟨i, rfl, HI, q0, HQ⟩ := hrel
    cases gk with
    | zero => exact absurd HI.out (by omega)
    | succ k1 =>
    by_cases c1 : i < xs.length
    · have c1b : decide ((i : Int) < (xs.length : Int)) = true := decide_eq_true (by omega)
      have c1c : decide (i < xs.length) = true := decide_eq_true c1
      have p : 0 ≤ (i : Int) := by omega
      have q : (i : Int) < (xs.length : Int) := by omega
      have hwi : wrap64 ((i : Int) + 1) = (i : Int) + 1 := by unfold wrap64; omega
      have hbw : Below w.heap.size w wr := by rw [HQ.out]; exact pw_below_drewN (Below.refl _ _) q0
      obtain ⟨ad, e, hx0, hx1, hx2, hx3⟩ := at_H (C_below HA.out hbw) (i : Int) p q
      obtain ⟨bd, e', hy0, hy1, hy2, hy3⟩ := at_H (C_below HB.out hbw) (i : Int) p q
      cases e
      cases e'
      simp only [Int.toNat_natCast] at hx0 hx1 hx2 hx3 hy0 hy1 hy2 hy3
      have n1 : ((rdH xs (i : Int)).id != (rdH xs (i : Int)).id) = false := bne_self_eq_false _
      have n2 : ((rdH xs (i : Int)).over != (rdH xs (i : Int)).over) = false := bne_self_eq_false _
      have n3 : ((rdH xs (i : Int)).til != (rdH xs (i : Int)).til) = false := bne_self_eq_false _
      clear hbw
      go_wp2_with fail
      go_quiet ((go_at_call 17; (with_reducible refine (sameparts_nil _).mono ?_); rintro e w' ⟨rfl, rfl⟩; exact ⟨rfl, _, rfl⟩))
      clear hx0 hx1 hx2 hx3 hy0 hy1 hy2 hy3
      go_wp2_with fail
      go_roundg k1
      case measure => omega
      case rel => exact ⟨i + 1, by simp [hwi], ⟨⟨by omega, by have := HI.out.2; omega⟩⟩, q0 + nq, ⟨by rw [HQ.out, World.drewN_drewN]⟩⟩
    · have c1b : decide ((i : Int) < (xs.length : Int)) = false := decide_eq_false (by omega)
      have c1c : decide (i < xs.length) = false := decide_eq_false (by omega)
      go_wp2
      go_ret
      exact ⟨rfl, q0, HQ.out⟩
end Go.Proofs.Ytpjeklhidebmpaa.Lk
