/-
  No cell of these rows narrows 'for every input' (looked for: loops, veiled, ifaces, maps, wideKeys, modest, calm, conditions, laid).
  DERIVED. THE GIVEN ROWS OF THIS SEAT. 3 by the template 'for every input the law returns true; each argument reads behind the call as it read before'; 0 by the template 'total and deterministic' (their statements: YtndgpncdnbbneaaTotals.lean).
  GIVEN WITH THE SEED: the statements are not yours to turn. If you find one false, say at which input.
  Laid BY PROGRAM, IN A SANDBOX (cutbox-rows.mjs): the forced cells as the released guide's own fill.sh prints them over the translation 155dd936e601c413… (all of the seat's roots in one cut). By AI agents, Wed Nov 11 2026. No macro, syntax, notation, axiom, sorry.
-/
import Derived.Test.YtndgpncdnbbneaaChecked
import GoSem.Claim
import GoSem.ClaimJoined
import GoSem.ClaimMapViews
import Derived.JoinedTies
import Derived.KernelRfl
namespace Go.Proofs.Ytndgpncdnbbneaa
/- THE CELL 'sum', in the pinned program and in every row, IS THE sha256 OF THE DUMP (.gsa) THAT YtndgpncdnbbneaaProg.lean LOADS. Nothing in Lean hashes anything: it is a label: what it is worth is what the hold of that sum in a sandbox is worth. -/
noncomputable def Try.pinned : Pinned := { name := "ytndgpncdnbbneaa", sum := "155dd936e601c4135c06d09019ac656ff1d076fae3d0ea9a57bf54c2471fe427", checked := Try.checked }
namespace Rows
def none {H : Type} : Left H := { results := [], args := [] }

/-- 'tolllaw12.WindowOnce': WHATEVER THE INPUT: true; the input reads as it did. -/
def windowOnceSpec : ChangeSpec := { name := "windowOnce", fn := fun _ => fun
  | [d] => { results := [.lit (.bool true)], args := [d] }
  | _ => none }
def windowOnceRow : OpenClaim := { program := "ytndgpncdnbbneaa", sum := "155dd936e601c4135c06d09019ac656ff1d076fae3d0ea9a57bf54c2471fe427", func := "toll/tolllaw12.WindowOnce", spec := "windowOnce", inPlace := ["slices.overlaps[toll/api.Entry]"], apart := false }
def WindowOnceSaid : Prop := windowOnceRow.holds Try.pinned (OpenSpec.ofChange windowOnceSpec)

/-- ITS FALSE NEIGHBOUR: 'it returns false'. Refute it at one input. -/
def windowOnceWrong : ChangeSpec := { name := "windowOnce", fn := fun _ => fun
  | [d] => { results := [.lit (.bool false)], args := [d] }
  | _ => none }
def WindowOnceWrongFalsely : Prop := windowOnceRow.holds Try.pinned (OpenSpec.ofChange windowOnceWrong)

/-- 'tolllaw12.WindowErrors': WHATEVER THE INPUT: true; the input reads as it did. -/
def windowErrorsSpec : ChangeSpec := { name := "windowErrors", fn := fun _ => fun
  | [d1, d2] => { results := [.lit (.bool true)], args := [d1, d2] }
  | _ => none }
def windowErrorsRow : OpenClaim := { program := "ytndgpncdnbbneaa", sum := "155dd936e601c4135c06d09019ac656ff1d076fae3d0ea9a57bf54c2471fe427", func := "toll/tolllaw12.WindowErrors", spec := "windowErrors", inPlace := ["slices.overlaps[toll/api.Entry]"], apart := false }
def WindowErrorsSaid : Prop := windowErrorsRow.holds Try.pinned (OpenSpec.ofChange windowErrorsSpec)

/-- ITS FALSE NEIGHBOUR: 'it returns false'. Refute it at one input. -/
def windowErrorsWrong : ChangeSpec := { name := "windowErrors", fn := fun _ => fun
  | [d1, d2] => { results := [.lit (.bool false)], args := [d1, d2] }
  | _ => none }
def WindowErrorsWrongFalsely : Prop := windowErrorsRow.holds Try.pinned (OpenSpec.ofChange windowErrorsWrong)

/-- 'tolllaw12.WindowFull': WHATEVER THE INPUT: true; the input reads as it did. -/
def windowFullSpec : ChangeSpec := { name := "windowFull", fn := fun _ => fun
  | [d1, d2] => { results := [.lit (.bool true)], args := [d1, d2] }
  | _ => none }
def windowFullRow : OpenClaim := { program := "ytndgpncdnbbneaa", sum := "155dd936e601c4135c06d09019ac656ff1d076fae3d0ea9a57bf54c2471fe427", func := "toll/tolllaw12.WindowFull", spec := "windowFull", inPlace := ["slices.overlaps[toll/api.Entry]"], apart := false }
def WindowFullSaid : Prop := windowFullRow.holds Try.pinned (OpenSpec.ofChange windowFullSpec)

/-- ITS FALSE NEIGHBOUR: 'it returns false'. Refute it at one input. -/
def windowFullWrong : ChangeSpec := { name := "windowFull", fn := fun _ => fun
  | [d1, d2] => { results := [.lit (.bool false)], args := [d1, d2] }
  | _ => none }
def WindowFullWrongFalsely : Prop := windowFullRow.holds Try.pinned (OpenSpec.ofChange windowFullWrong)

/- THE SECOND FORM. 'bulk': how many values and letters a reading holds, each counted each time it is reached (what is shared counts as often as it is met; a slice's spare places count too). A statement '..UptoSaid' is the law's where the arguments, and the package variables that the reading takes, are together of bulk at most 1048576: NARROWER than '..Said'. Prove '..Said' where nothing that the law and all that it calls make is longer than what came in: it says more and counts as full. Else prove '..UptoSaid'. A law counts once. -/
mutual
def uptoBulk {H : Type} : DataW H → Nat
  | .lit (.string bytes) => bytes.length + 1
  | .lit _ => 1
  | .nil => 1
  | .ptr d => uptoBulk d + 1
  | .slice elems spare => uptoBulkAll elems + uptoBulkAll spare + 1
  | .agg parts => uptoBulkAll parts + 1
  | .iface _ d => uptoBulk d + 1
  | .map entries => uptoBulkEntries entries + 1
  | .held _ => 1
def uptoBulkAll {H : Type} : List (DataW H) → Nat
  | [] => 0
  | d :: r => uptoBulk d + uptoBulkAll r
def uptoBulkEntries {H : Type} : List (Lit × DataW H) → Nat
  | [] => 0
  | x :: r => uptoBulkEntry x + uptoBulkEntries r
def uptoBulkEntry {H : Type} : Lit × DataW H → Nat
  | (.string bytes, d) => bytes.length + uptoBulk d + 1
  | (_, d) => uptoBulk d + 1
 end
def uptoSmall : (H : Type) → List (DataW H) → Bool := fun _ ds => decide (uptoBulkAll ds ≤ 1048576)
def OpenSpec.upto (s : _root_.Go.ChangeSpec) : _root_.Go.OpenSpec := { _root_.Go.OpenSpec.ofChange s with cond := some uptoSmall }

/-- 'tolllaw12.WindowOnce', WHERE WHAT IT READS IS OF BULK AT MOST 1048576: true; the input reads as it did. -/
def windowOnceUptoRow : OpenClaim := { program := "ytndgpncdnbbneaa", sum := "155dd936e601c4135c06d09019ac656ff1d076fae3d0ea9a57bf54c2471fe427", func := "toll/tolllaw12.WindowOnce", spec := "windowOnce", inPlace := ["slices.overlaps[toll/api.Entry]"], apart := false, narrowed := true }
def WindowOnceUptoSaid : Prop := windowOnceUptoRow.holds Try.pinned (OpenSpec.upto windowOnceSpec)

/-- 'tolllaw12.WindowErrors', WHERE WHAT IT READS IS OF BULK AT MOST 1048576: true; the input reads as it did. -/
def windowErrorsUptoRow : OpenClaim := { program := "ytndgpncdnbbneaa", sum := "155dd936e601c4135c06d09019ac656ff1d076fae3d0ea9a57bf54c2471fe427", func := "toll/tolllaw12.WindowErrors", spec := "windowErrors", inPlace := ["slices.overlaps[toll/api.Entry]"], apart := false, narrowed := true }
def WindowErrorsUptoSaid : Prop := windowErrorsUptoRow.holds Try.pinned (OpenSpec.upto windowErrorsSpec)

/-- 'tolllaw12.WindowFull', WHERE WHAT IT READS IS OF BULK AT MOST 1048576: true; the input reads as it did. -/
def windowFullUptoRow : OpenClaim := { program := "ytndgpncdnbbneaa", sum := "155dd936e601c4135c06d09019ac656ff1d076fae3d0ea9a57bf54c2471fe427", func := "toll/tolllaw12.WindowFull", spec := "windowFull", inPlace := ["slices.overlaps[toll/api.Entry]"], apart := false, narrowed := true }
def WindowFullUptoSaid : Prop := windowFullUptoRow.holds Try.pinned (OpenSpec.upto windowFullSpec)

end Rows
end Go.Proofs.Ytndgpncdnbbneaa
