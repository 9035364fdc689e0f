/-
  No cell of these rows narrows 'for every input' (looked for: loops, veiled, ifaces, maps, wideKeys, modest, calm, conditions, laid).
  DERIVED. THE GIVEN ROWS OF THIS SEAT. 7 by the template 'for every input the law returns true; each argument reads behind the call as it read before'; 0 by the template 'total and deterministic' (their statements: YteafkpkghebnbaaTotals.lean).
  GIVEN WITH THE SEED: the statements are not yours to turn. If you find one false, say at which input.
  Laid BY PROGRAM, IN A SANDBOX (cutbox-rows.mjs): the forced cells as the released guide's own fill.sh prints them over the translation f239cf6396211af9… (all of the seat's roots in one cut). By AI agents, Wed Nov 11 2026. No macro, syntax, notation, axiom, sorry.
-/
import Derived.Test.YteafkpkghebnbaaChecked
import GoSem.Claim
import GoSem.ClaimJoined
import GoSem.ClaimMapViews
import Derived.JoinedTies
import Derived.KernelRfl
namespace Go.Proofs.Yteafkpkghebnbaa
/- THE CELL 'sum', in the pinned program and in every row, IS THE sha256 OF THE DUMP (.gsa) THAT YteafkpkghebnbaaProg.lean LOADS. Nothing in Lean hashes anything: it is a label: what it is worth is what the hold of that sum in a sandbox is worth. -/
noncomputable def Try.pinned : Pinned := { name := "yteafkpkghebnbaa", sum := "f239cf6396211af997096ed09b9fe8df95d226757d90812173e3bd16ba315b88", checked := Try.checked }
namespace Rows
def none {H : Type} : Left H := { results := [], args := [] }

/-- 'tolllaw8.TermDays': WHATEVER THE INPUT: true; the input reads as it did. -/
def termDaysSpec : ChangeSpec := { name := "termDays", fn := fun _ => fun
  | [d1, d2, d3] => { results := [.lit (.bool true)], args := [d1, d2, d3] }
  | _ => none }
def termDaysRow : OpenClaim := { program := "yteafkpkghebnbaa", sum := "f239cf6396211af997096ed09b9fe8df95d226757d90812173e3bd16ba315b88", func := "toll/tolllaw8.TermDays", spec := "termDays", apart := false }
def TermDaysSaid : Prop := termDaysRow.holds Try.pinned (OpenSpec.ofChange termDaysSpec)

/-- ITS FALSE NEIGHBOUR: 'it returns false'. Refute it at one input. -/
def termDaysWrong : ChangeSpec := { name := "termDays", fn := fun _ => fun
  | [d1, d2, d3] => { results := [.lit (.bool false)], args := [d1, d2, d3] }
  | _ => none }
def TermDaysWrongFalsely : Prop := termDaysRow.holds Try.pinned (OpenSpec.ofChange termDaysWrong)

/-- 'tolllaw8.TermShares': WHATEVER THE INPUT: true; the input reads as it did. -/
def termSharesSpec : ChangeSpec := { name := "termShares", fn := fun _ => fun
  | [d1, d2, d3] => { results := [.lit (.bool true)], args := [d1, d2, d3] }
  | _ => none }
def termSharesRow : OpenClaim := { program := "yteafkpkghebnbaa", sum := "f239cf6396211af997096ed09b9fe8df95d226757d90812173e3bd16ba315b88", func := "toll/tolllaw8.TermShares", spec := "termShares", apart := false }
def TermSharesSaid : Prop := termSharesRow.holds Try.pinned (OpenSpec.ofChange termSharesSpec)

/-- ITS FALSE NEIGHBOUR: 'it returns false'. Refute it at one input. -/
def termSharesWrong : ChangeSpec := { name := "termShares", fn := fun _ => fun
  | [d1, d2, d3] => { results := [.lit (.bool false)], args := [d1, d2, d3] }
  | _ => none }
def TermSharesWrongFalsely : Prop := termSharesRow.holds Try.pinned (OpenSpec.ofChange termSharesWrong)

/-- 'tolllaw8.TermGrows': WHATEVER THE INPUT: true; the input reads as it did. -/
def termGrowsSpec : ChangeSpec := { name := "termGrows", fn := fun _ => fun
  | [d1, d2, d3, d4] => { results := [.lit (.bool true)], args := [d1, d2, d3, d4] }
  | _ => none }
def termGrowsRow : OpenClaim := { program := "yteafkpkghebnbaa", sum := "f239cf6396211af997096ed09b9fe8df95d226757d90812173e3bd16ba315b88", func := "toll/tolllaw8.TermGrows", spec := "termGrows", apart := false }
def TermGrowsSaid : Prop := termGrowsRow.holds Try.pinned (OpenSpec.ofChange termGrowsSpec)

/-- ITS FALSE NEIGHBOUR: 'it returns false'. Refute it at one input. -/
def termGrowsWrong : ChangeSpec := { name := "termGrows", fn := fun _ => fun
  | [d1, d2, d3, d4] => { results := [.lit (.bool false)], args := [d1, d2, d3, d4] }
  | _ => none }
def TermGrowsWrongFalsely : Prop := termGrowsRow.holds Try.pinned (OpenSpec.ofChange termGrowsWrong)

/-- 'tolllaw8.TermBounds': WHATEVER THE INPUT: true; the input reads as it did. -/
def termBoundsSpec : ChangeSpec := { name := "termBounds", fn := fun _ => fun
  | [d1, d2, d3, d4] => { results := [.lit (.bool true)], args := [d1, d2, d3, d4] }
  | _ => none }
def termBoundsRow : OpenClaim := { program := "yteafkpkghebnbaa", sum := "f239cf6396211af997096ed09b9fe8df95d226757d90812173e3bd16ba315b88", func := "toll/tolllaw8.TermBounds", spec := "termBounds", apart := false }
def TermBoundsSaid : Prop := termBoundsRow.holds Try.pinned (OpenSpec.ofChange termBoundsSpec)

/-- ITS FALSE NEIGHBOUR: 'it returns false'. Refute it at one input. -/
def termBoundsWrong : ChangeSpec := { name := "termBounds", fn := fun _ => fun
  | [d1, d2, d3, d4] => { results := [.lit (.bool false)], args := [d1, d2, d3, d4] }
  | _ => none }
def TermBoundsWrongFalsely : Prop := termBoundsRow.holds Try.pinned (OpenSpec.ofChange termBoundsWrong)

/-- 'tolllaw8.TermMonths': WHATEVER THE INPUT: true; the input reads as it did. -/
def termMonthsSpec : ChangeSpec := { name := "termMonths", fn := fun _ => fun
  | [d1, d2, d3] => { results := [.lit (.bool true)], args := [d1, d2, d3] }
  | _ => none }
def termMonthsRow : OpenClaim := { program := "yteafkpkghebnbaa", sum := "f239cf6396211af997096ed09b9fe8df95d226757d90812173e3bd16ba315b88", func := "toll/tolllaw8.TermMonths", spec := "termMonths", apart := false }
def TermMonthsSaid : Prop := termMonthsRow.holds Try.pinned (OpenSpec.ofChange termMonthsSpec)

/-- ITS FALSE NEIGHBOUR: 'it returns false'. Refute it at one input. -/
def termMonthsWrong : ChangeSpec := { name := "termMonths", fn := fun _ => fun
  | [d1, d2, d3] => { results := [.lit (.bool false)], args := [d1, d2, d3] }
  | _ => none }
def TermMonthsWrongFalsely : Prop := termMonthsRow.holds Try.pinned (OpenSpec.ofChange termMonthsWrong)

/-- 'tolllaw8.TermErrors': WHATEVER THE INPUT: true; the input reads as it did. -/
def termErrorsSpec : ChangeSpec := { name := "termErrors", fn := fun _ => fun
  | [d1, d2, d3, d4] => { results := [.lit (.bool true)], args := [d1, d2, d3, d4] }
  | _ => none }
def termErrorsRow : OpenClaim := { program := "yteafkpkghebnbaa", sum := "f239cf6396211af997096ed09b9fe8df95d226757d90812173e3bd16ba315b88", func := "toll/tolllaw8.TermErrors", spec := "termErrors", apart := false }
def TermErrorsSaid : Prop := termErrorsRow.holds Try.pinned (OpenSpec.ofChange termErrorsSpec)

/-- ITS FALSE NEIGHBOUR: 'it returns false'. Refute it at one input. -/
def termErrorsWrong : ChangeSpec := { name := "termErrors", fn := fun _ => fun
  | [d1, d2, d3, d4] => { results := [.lit (.bool false)], args := [d1, d2, d3, d4] }
  | _ => none }
def TermErrorsWrongFalsely : Prop := termErrorsRow.holds Try.pinned (OpenSpec.ofChange termErrorsWrong)

/-- 'tolllaw8.TermYears': WHATEVER THE INPUT: true; the input reads as it did. -/
def termYearsSpec : ChangeSpec := { name := "termYears", fn := fun _ => fun
  | [d1, d2] => { results := [.lit (.bool true)], args := [d1, d2] }
  | _ => none }
def termYearsRow : OpenClaim := { program := "yteafkpkghebnbaa", sum := "f239cf6396211af997096ed09b9fe8df95d226757d90812173e3bd16ba315b88", func := "toll/tolllaw8.TermYears", spec := "termYears", apart := false }
def TermYearsSaid : Prop := termYearsRow.holds Try.pinned (OpenSpec.ofChange termYearsSpec)

/-- ITS FALSE NEIGHBOUR: 'it returns false'. Refute it at one input. -/
def termYearsWrong : ChangeSpec := { name := "termYears", fn := fun _ => fun
  | [d1, d2] => { results := [.lit (.bool false)], args := [d1, d2] }
  | _ => none }
def TermYearsWrongFalsely : Prop := termYearsRow.holds Try.pinned (OpenSpec.ofChange termYearsWrong)

/- THE SECOND FORM. 'bulk': how many values and letters a reading holds, each counted each time it is reached (what is shared counts as often as it is met; a slice's spare places count too). A statement '..UptoSaid' is the law's where the arguments, and the package variables that the reading takes, are together of bulk at most 1048576: NARROWER than '..Said'. Prove '..Said' where nothing that the law and all that it calls make is longer than what came in: it says more and counts as full. Else prove '..UptoSaid'. A law counts once. -/
mutual
def uptoBulk {H : Type} : DataW H → Nat
  | .lit (.string bytes) => bytes.length + 1
  | .lit _ => 1
  | .nil => 1
  | .ptr d => uptoBulk d + 1
  | .slice elems spare => uptoBulkAll elems + uptoBulkAll spare + 1
  | .agg parts => uptoBulkAll parts + 1
  | .iface _ d => uptoBulk d + 1
  | .map entries => uptoBulkEntries entries + 1
  | .held _ => 1
def uptoBulkAll {H : Type} : List (DataW H) → Nat
  | [] => 0
  | d :: r => uptoBulk d + uptoBulkAll r
def uptoBulkEntries {H : Type} : List (Lit × DataW H) → Nat
  | [] => 0
  | x :: r => uptoBulkEntry x + uptoBulkEntries r
def uptoBulkEntry {H : Type} : Lit × DataW H → Nat
  | (.string bytes, d) => bytes.length + uptoBulk d + 1
  | (_, d) => uptoBulk d + 1
 end
def uptoSmall : (H : Type) → List (DataW H) → Bool := fun _ ds => decide (uptoBulkAll ds ≤ 1048576)
def OpenSpec.upto (s : _root_.Go.ChangeSpec) : _root_.Go.OpenSpec := { _root_.Go.OpenSpec.ofChange s with cond := some uptoSmall }

/-- 'tolllaw8.TermDays', WHERE WHAT IT READS IS OF BULK AT MOST 1048576: true; the input reads as it did. -/
def termDaysUptoRow : OpenClaim := { program := "yteafkpkghebnbaa", sum := "f239cf6396211af997096ed09b9fe8df95d226757d90812173e3bd16ba315b88", func := "toll/tolllaw8.TermDays", spec := "termDays", apart := false, narrowed := true }
def TermDaysUptoSaid : Prop := termDaysUptoRow.holds Try.pinned (OpenSpec.upto termDaysSpec)

/-- 'tolllaw8.TermShares', WHERE WHAT IT READS IS OF BULK AT MOST 1048576: true; the input reads as it did. -/
def termSharesUptoRow : OpenClaim := { program := "yteafkpkghebnbaa", sum := "f239cf6396211af997096ed09b9fe8df95d226757d90812173e3bd16ba315b88", func := "toll/tolllaw8.TermShares", spec := "termShares", apart := false, narrowed := true }
def TermSharesUptoSaid : Prop := termSharesUptoRow.holds Try.pinned (OpenSpec.upto termSharesSpec)

/-- 'tolllaw8.TermGrows', WHERE WHAT IT READS IS OF BULK AT MOST 1048576: true; the input reads as it did. -/
def termGrowsUptoRow : OpenClaim := { program := "yteafkpkghebnbaa", sum := "f239cf6396211af997096ed09b9fe8df95d226757d90812173e3bd16ba315b88", func := "toll/tolllaw8.TermGrows", spec := "termGrows", apart := false, narrowed := true }
def TermGrowsUptoSaid : Prop := termGrowsUptoRow.holds Try.pinned (OpenSpec.upto termGrowsSpec)

/-- 'tolllaw8.TermBounds', WHERE WHAT IT READS IS OF BULK AT MOST 1048576: true; the input reads as it did. -/
def termBoundsUptoRow : OpenClaim := { program := "yteafkpkghebnbaa", sum := "f239cf6396211af997096ed09b9fe8df95d226757d90812173e3bd16ba315b88", func := "toll/tolllaw8.TermBounds", spec := "termBounds", apart := false, narrowed := true }
def TermBoundsUptoSaid : Prop := termBoundsUptoRow.holds Try.pinned (OpenSpec.upto termBoundsSpec)

/-- 'tolllaw8.TermMonths', WHERE WHAT IT READS IS OF BULK AT MOST 1048576: true; the input reads as it did. -/
def termMonthsUptoRow : OpenClaim := { program := "yteafkpkghebnbaa", sum := "f239cf6396211af997096ed09b9fe8df95d226757d90812173e3bd16ba315b88", func := "toll/tolllaw8.TermMonths", spec := "termMonths", apart := false, narrowed := true }
def TermMonthsUptoSaid : Prop := termMonthsUptoRow.holds Try.pinned (OpenSpec.upto termMonthsSpec)

/-- 'tolllaw8.TermErrors', WHERE WHAT IT READS IS OF BULK AT MOST 1048576: true; the input reads as it did. -/
def termErrorsUptoRow : OpenClaim := { program := "yteafkpkghebnbaa", sum := "f239cf6396211af997096ed09b9fe8df95d226757d90812173e3bd16ba315b88", func := "toll/tolllaw8.TermErrors", spec := "termErrors", apart := false, narrowed := true }
def TermErrorsUptoSaid : Prop := termErrorsUptoRow.holds Try.pinned (OpenSpec.upto termErrorsSpec)

/-- 'tolllaw8.TermYears', WHERE WHAT IT READS IS OF BULK AT MOST 1048576: true; the input reads as it did. -/
def termYearsUptoRow : OpenClaim := { program := "yteafkpkghebnbaa", sum := "f239cf6396211af997096ed09b9fe8df95d226757d90812173e3bd16ba315b88", func := "toll/tolllaw8.TermYears", spec := "termYears", apart := false, narrowed := true }
def TermYearsUptoSaid : Prop := termYearsUptoRow.holds Try.pinned (OpenSpec.upto termYearsSpec)

end Rows
end Go.Proofs.Yteafkpkghebnbaa
