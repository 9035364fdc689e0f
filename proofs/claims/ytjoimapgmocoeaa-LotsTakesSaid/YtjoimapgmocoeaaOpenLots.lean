/- A slice of lots that came in: its cells, as a list of lots. -/
import Derived.Test.YtjoimapgmocoeaaJ1
import Derived.Deep.Slices
import Derived.ProofKit
import Derived.OpenShut
set_option linter.unusedVariables false
set_option linter.unusedSimpArgs false
namespace Go.Proofs.Ytjoimapgmocoeaa.Lk
open Go.RowKit Go.Proofs.YtjoimapgmocoeaaW.PrintWords Go.Proofs.YtjoimapgmocoeaaW.PrintLast Go.Proofs.YtjoimapgmocoeaaW.PrintMore Go.Proofs.Ytjoimapgmocoeaa.Xa
open Go.ChangeShapes Go.WideShapes Go.ChangeAt
theorem one_field {H : Type} {enc : TypeId × Value → H} {W : World} {base : Nat} {sp : Nat → Bool} {held : Bool} {n : Nat} {cs : List Value} {j : Nat} {y : DataW H × List MemPlace} (hj : j < cs.length) (h : DataW.trod enc Try.prog W base sp held n 3 ((cs.drop j).take 1) = some y) : ∃ z : Int, cs[j]? = some (.int .i64 z) := by
  obtain ⟨z, hz, _⟩ := DataW.trod_int Try.underlying3 h
  refine ⟨z, ?_⟩
  have h1 : ((cs.drop j).take 1)[0]? = some (.int .i64 z) := by rw [hz]; rfl
  rw [List.getElem?_take, if_pos (by decide), List.getElem?_drop] at h1
  simpa using h1
set_option maxHeartbeats 1000000 in
theorem one_lot {H : Type} {enc : TypeId × Value → H} {W : World} {base : Nat} {sp : Nat → Bool} {held : Bool} {n : Nat} {cs : List Value} {y : DataW H × List MemPlace} (h : DataW.trod enc Try.prog W base sp held n 33 cs = some y) : ∃ x : SL, cs = [.int .i64 x.f0, .int .i64 x.f1, .int .i64 x.f2, .int .i64 x.f3, .int .i64 x.f4, .int .i64 x.f5, .int .i64 x.f6, .int .i64 x.f7, .int .i64 x.f8] := by
  have hu := Try.underlying33
  obtain ⟨xs, k, _, _, hl, hxl, hf⟩ := DataW.trod_struct hu h
  have hc : Try.prog.cellsOf 33 = 9 := by kernel_rfl
  have hi : Try.prog.cellsOf 3 = 1 := by kernel_rfl
  rw [hc] at hl
  have hxl9 : xs.length = 9 := hxl
  have e : ∀ j, j < 9 → ∃ z : Int, cs[j]? = some (.int .i64 z) := fun j hj => by
    have hx : ∃ y, xs[j]? = some y := ⟨_, List.getElem?_eq_getElem (by omega)⟩
    obtain ⟨y, hy⟩ := hx
    have : j = 0 ∨ j = 1 ∨ j = 2 ∨ j = 3 ∨ j = 4 ∨ j = 5 ∨ j = 6 ∨ j = 7 ∨ j = 8 := by omega
    rcases this with rfl | rfl | rfl | rfl | rfl | rfl | rfl | rfl | rfl
    · have g := hf 0 _ rfl
      rw [hy] at g
      exact one_field (by omega) (by rw [← hi]; exact g)
    · have g := hf 1 _ rfl
      rw [hy] at g
      exact one_field (by omega) (by rw [← hi]; exact g)
    · have g := hf 2 _ rfl
      rw [hy] at g
      exact one_field (by omega) (by rw [← hi]; exact g)
    · have g := hf 3 _ rfl
      rw [hy] at g
      exact one_field (by omega) (by rw [← hi]; exact g)
    · have g := hf 4 _ rfl
      rw [hy] at g
      exact one_field (by omega) (by rw [← hi]; exact g)
    · have g := hf 5 _ rfl
      rw [hy] at g
      exact one_field (by omega) (by rw [← hi]; exact g)
    · have g := hf 6 _ rfl
      rw [hy] at g
      exact one_field (by omega) (by rw [← hi]; exact g)
    · have g := hf 7 _ rfl
      rw [hy] at g
      exact one_field (by omega) (by rw [← hi]; exact g)
    · have g := hf 8 _ rfl
      rw [hy] at g
      exact one_field (by omega) (by rw [← hi]; exact g)
  obtain ⟨z0, h0⟩ := e 0 (by decide)
  obtain ⟨z1, h1⟩ := e 1 (by decide)
  obtain ⟨z2, h2⟩ := e 2 (by decide)
  obtain ⟨z3, h3⟩ := e 3 (by decide)
  obtain ⟨z4, h4⟩ := e 4 (by decide)
  obtain ⟨z5, h5⟩ := e 5 (by decide)
  obtain ⟨z6, h6⟩ := e 6 (by decide)
  obtain ⟨z7, h7⟩ := e 7 (by decide)
  obtain ⟨z8, h8⟩ := e 8 (by decide)
  refine ⟨⟨z0, z1, z2, z3, z4, z5, z6, z7, z8⟩, ?_⟩
  apply List.ext_getElem?
  intro j
  have hj : j = 0 ∨ j = 1 ∨ j = 2 ∨ j = 3 ∨ j = 4 ∨ j = 5 ∨ j = 6 ∨ j = 7 ∨ j = 8 ∨ 9 ≤ j := by omega
  rcases hj with rfl | rfl | rfl | rfl | rfl | rfl | rfl | rfl | rfl | hj
  · exact h0
  · exact h1
  · exact h2
  · exact h3
  · exact h4
  · exact h5
  · exact h6
  · exact h7
  · exact h8
  · rw [List.getElem?_eq_none (by omega), List.getElem?_eq_none (by simpa using hj)]
theorem open_lots {H : Type} {enc : TypeId × Value → H} {W : World} {base : Nat} {held : Bool} {a : Option Addr} {len cap : Nat} {d : DataW H} {p : List MemPlace} (h : DataW.Trod enc Try.prog W base (fun _ => true) held 22 (.slice a len cap) d p) : ∃ l : List SL, l.length = len ∧ k33.C W a l.length l ∧ l.length ≤ cap := by
  obtain ⟨fuel, hf⟩ := h
  have hc : Try.prog.cellsOf 33 = 9 := by kernel_rfl
  rcases Go.Deep.open_slice Try.underlying22 hf with ⟨hcs, _⟩ | ⟨x, l, c, m, n, D, Pl, hcs, _, hl, hm, hmm, _, hx⟩
  · simp [Value.cells] at hcs
    obtain ⟨rfl, rfl, rfl⟩ := hcs
    exact ⟨[], rfl, ⟨rfl, by decide, fun h => absurd h (by decide)⟩, Nat.le_refl _⟩
  · simp [Value.cells] at hcs
    obtain ⟨rfl, rfl, rfl⟩ := hcs
    have hml : len ≤ m := by rw [hmm]; split <;> omega
    have each : ∀ i, i < len → ∃ y : SL, ∀ j u, ([.int .i64 y.f0, .int .i64 y.f1, .int .i64 y.f2, .int .i64 y.f3, .int .i64 y.f4, .int .i64 y.f5, .int .i64 y.f6, .int .i64 y.f7, .int .i64 y.f8] : List Value)[j]? = some u → W.cell? (x.add (i * 9 + j)) = some u := fun i hi => by
      obtain ⟨cs', h1, h2⟩ := hx i (by omega)
      rw [hc] at h1
      obtain ⟨_, hlen, hcell⟩ := World.cells?_some h1
      obtain ⟨y, rfl⟩ := one_lot h2
      refine ⟨y, fun j u hj => ?_⟩
      have hj9 := (List.getElem?_eq_some_iff.1 hj).1
      have h3 := hcell j (by simpa using hj9)
      rw [hj, Go.Deep.add_add] at h3
      exact h3
    haveI : Inhabited SL := ⟨zL⟩
    obtain ⟨f, hfx⟩ := Go.Deep.choose_lt each
    refine ⟨(List.range len).map f, by simp, ⟨by simp, ?_, fun _ => ⟨x, rfl, fun j p hj => ?_⟩⟩, by simpa using hl⟩
    · unfold maxLen at hm
      simp
      omega
    · have hj2 := (List.getElem?_eq_some_iff.1 hj).1
      simp at hj2
      rw [List.getElem?_map, List.getElem?_range hj2] at hj
      simp at hj
      subst hj
      exact ⟨_, rfl, k33_mk W (f j), fun i u hu => hfx j hj2 i u hu⟩
end Go.Proofs.Ytjoimapgmocoeaa.Lk
