/-
  No cell of these rows narrows 'for every input' (looked for: loops, veiled, ifaces, maps, wideKeys, modest, calm, conditions, laid).
  DERIVED. THE GIVEN ROWS OF THIS SEAT. 3 by the template 'for every input the law returns true; each argument reads behind the call as it read before'; 0 by the template 'total and deterministic' (their statements: YtpjeklhidebmpaaTotals.lean).
  GIVEN WITH THE SEED: the statements are not yours to turn. If you find one false, say at which input.
  Laid BY PROGRAM, IN A SANDBOX (cutbox-rows.mjs): the forced cells as the released guide's own fill.sh prints them over the translation e01d9918725da68f… (all of the seat's roots in one cut). By AI agents, Wed Nov 11 2026. No macro, syntax, notation, axiom, sorry.
-/
import Derived.Test.YtpjeklhidebmpaaChecked
import GoSem.Claim
import GoSem.ClaimJoined
import GoSem.ClaimMapViews
import Derived.JoinedTies
import Derived.KernelRfl
namespace Go.Proofs.Ytpjeklhidebmpaa
/- THE CELL 'sum', in the pinned program and in every row, IS THE sha256 OF THE DUMP (.gsa) THAT YtpjeklhidebmpaaProg.lean LOADS. Nothing in Lean hashes anything: it is a label: what it is worth is what the hold of that sum in a sandbox is worth. -/
noncomputable def Try.pinned : Pinned := { name := "ytpjeklhidebmpaa", sum := "e01d9918725da68f78e306398c46dc58cc2fa7e92266131131ffc00a0c7e6cff", checked := Try.checked }
namespace Rows
def none {H : Type} : Left H := { results := [], args := [] }

/-- 'tolllaw11.HoldTotals': WHATEVER THE INPUT: true; the input reads as it did. -/
def holdTotalsSpec : ChangeSpec := { name := "holdTotals", fn := fun _ => fun
  | [d1, d2] => { results := [.lit (.bool true)], args := [d1, d2] }
  | _ => none }
def holdTotalsRow : OpenClaim := { program := "ytpjeklhidebmpaa", sum := "e01d9918725da68f78e306398c46dc58cc2fa7e92266131131ffc00a0c7e6cff", func := "toll/tolllaw11.HoldTotals", spec := "holdTotals", inPlace := ["slices.overlaps[toll/api.Hold]"], unfollowed := true, recurses := true, apart := false }
def HoldTotalsSaid : Prop := holdTotalsRow.holds Try.pinned (OpenSpec.ofChange holdTotalsSpec)

/-- ITS FALSE NEIGHBOUR: 'it returns false'. Refute it at one input. -/
def holdTotalsWrong : ChangeSpec := { name := "holdTotals", fn := fun _ => fun
  | [d1, d2] => { results := [.lit (.bool false)], args := [d1, d2] }
  | _ => none }
def HoldTotalsWrongFalsely : Prop := holdTotalsRow.holds Try.pinned (OpenSpec.ofChange holdTotalsWrong)

/-- 'tolllaw11.HoldFinds': WHATEVER THE INPUT: true; the input reads as it did. -/
def holdFindsSpec : ChangeSpec := { name := "holdFinds", fn := fun _ => fun
  | [d1, d2] => { results := [.lit (.bool true)], args := [d1, d2] }
  | _ => none }
def holdFindsRow : OpenClaim := { program := "ytpjeklhidebmpaa", sum := "e01d9918725da68f78e306398c46dc58cc2fa7e92266131131ffc00a0c7e6cff", func := "toll/tolllaw11.HoldFinds", spec := "holdFinds", inPlace := ["slices.overlaps[toll/api.Hold]"], unfollowed := true, recurses := true, apart := false }
def HoldFindsSaid : Prop := holdFindsRow.holds Try.pinned (OpenSpec.ofChange holdFindsSpec)

/-- ITS FALSE NEIGHBOUR: 'it returns false'. Refute it at one input. -/
def holdFindsWrong : ChangeSpec := { name := "holdFinds", fn := fun _ => fun
  | [d1, d2] => { results := [.lit (.bool false)], args := [d1, d2] }
  | _ => none }
def HoldFindsWrongFalsely : Prop := holdFindsRow.holds Try.pinned (OpenSpec.ofChange holdFindsWrong)

/-- 'tolllaw11.HoldAgain': WHATEVER THE INPUT: true; the input reads as it did. -/
def holdAgainSpec : ChangeSpec := { name := "holdAgain", fn := fun _ => fun
  | [d1, d2, d3] => { results := [.lit (.bool true)], args := [d1, d2, d3] }
  | _ => none }
def holdAgainRow : OpenClaim := { program := "ytpjeklhidebmpaa", sum := "e01d9918725da68f78e306398c46dc58cc2fa7e92266131131ffc00a0c7e6cff", func := "toll/tolllaw11.HoldAgain", spec := "holdAgain", inPlace := ["slices.overlaps[toll/api.Hold]"], unfollowed := true, recurses := true, apart := false }
def HoldAgainSaid : Prop := holdAgainRow.holds Try.pinned (OpenSpec.ofChange holdAgainSpec)

/-- ITS FALSE NEIGHBOUR: 'it returns false'. Refute it at one input. -/
def holdAgainWrong : ChangeSpec := { name := "holdAgain", fn := fun _ => fun
  | [d1, d2, d3] => { results := [.lit (.bool false)], args := [d1, d2, d3] }
  | _ => none }
def HoldAgainWrongFalsely : Prop := holdAgainRow.holds Try.pinned (OpenSpec.ofChange holdAgainWrong)

/- THE SECOND FORM. 'bulk': how many values and letters a reading holds, each counted each time it is reached (what is shared counts as often as it is met; a slice's spare places count too). A statement '..UptoSaid' is the law's where the arguments, and the package variables that the reading takes, are together of bulk at most 1048576: NARROWER than '..Said'. Prove '..Said' where nothing that the law and all that it calls make is longer than what came in: it says more and counts as full. Else prove '..UptoSaid'. A law counts once. -/
mutual
def uptoBulk {H : Type} : DataW H → Nat
  | .lit (.string bytes) => bytes.length + 1
  | .lit _ => 1
  | .nil => 1
  | .ptr d => uptoBulk d + 1
  | .slice elems spare => uptoBulkAll elems + uptoBulkAll spare + 1
  | .agg parts => uptoBulkAll parts + 1
  | .iface _ d => uptoBulk d + 1
  | .map entries => uptoBulkEntries entries + 1
  | .held _ => 1
def uptoBulkAll {H : Type} : List (DataW H) → Nat
  | [] => 0
  | d :: r => uptoBulk d + uptoBulkAll r
def uptoBulkEntries {H : Type} : List (Lit × DataW H) → Nat
  | [] => 0
  | x :: r => uptoBulkEntry x + uptoBulkEntries r
def uptoBulkEntry {H : Type} : Lit × DataW H → Nat
  | (.string bytes, d) => bytes.length + uptoBulk d + 1
  | (_, d) => uptoBulk d + 1
 end
def uptoSmall : (H : Type) → List (DataW H) → Bool := fun _ ds => decide (uptoBulkAll ds ≤ 1048576)
def OpenSpec.upto (s : _root_.Go.ChangeSpec) : _root_.Go.OpenSpec := { _root_.Go.OpenSpec.ofChange s with cond := some uptoSmall }

/-- 'tolllaw11.HoldTotals', WHERE WHAT IT READS IS OF BULK AT MOST 1048576: true; the input reads as it did. -/
def holdTotalsUptoRow : OpenClaim := { program := "ytpjeklhidebmpaa", sum := "e01d9918725da68f78e306398c46dc58cc2fa7e92266131131ffc00a0c7e6cff", func := "toll/tolllaw11.HoldTotals", spec := "holdTotals", inPlace := ["slices.overlaps[toll/api.Hold]"], unfollowed := true, recurses := true, apart := false, narrowed := true }
def HoldTotalsUptoSaid : Prop := holdTotalsUptoRow.holds Try.pinned (OpenSpec.upto holdTotalsSpec)

/-- 'tolllaw11.HoldFinds', WHERE WHAT IT READS IS OF BULK AT MOST 1048576: true; the input reads as it did. -/
def holdFindsUptoRow : OpenClaim := { program := "ytpjeklhidebmpaa", sum := "e01d9918725da68f78e306398c46dc58cc2fa7e92266131131ffc00a0c7e6cff", func := "toll/tolllaw11.HoldFinds", spec := "holdFinds", inPlace := ["slices.overlaps[toll/api.Hold]"], unfollowed := true, recurses := true, apart := false, narrowed := true }
def HoldFindsUptoSaid : Prop := holdFindsUptoRow.holds Try.pinned (OpenSpec.upto holdFindsSpec)

/-- 'tolllaw11.HoldAgain', WHERE WHAT IT READS IS OF BULK AT MOST 1048576: true; the input reads as it did. -/
def holdAgainUptoRow : OpenClaim := { program := "ytpjeklhidebmpaa", sum := "e01d9918725da68f78e306398c46dc58cc2fa7e92266131131ffc00a0c7e6cff", func := "toll/tolllaw11.HoldAgain", spec := "holdAgain", inPlace := ["slices.overlaps[toll/api.Hold]"], unfollowed := true, recurses := true, apart := false, narrowed := true }
def HoldAgainUptoSaid : Prop := holdAgainUptoRow.holds Try.pinned (OpenSpec.upto holdAgainSpec)

end Rows
end Go.Proofs.Ytpjeklhidebmpaa
