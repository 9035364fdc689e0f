/-
  No cell of these rows narrows 'for every input' (looked for: loops, veiled, ifaces, maps, wideKeys, modest, calm, conditions, laid).
  DERIVED. THE GIVEN ROWS OF THIS SEAT. 9 by the template 'for every input the law returns true; each argument reads behind the call as it read before'; 0 by the template 'total and deterministic' (their statements: YtjoimapgmocoeaaTotals.lean).
  GIVEN WITH THE SEED: the statements are not yours to turn. If you find one false, say at which input.
  Laid BY PROGRAM, IN A SANDBOX (cutbox-rows.mjs): the forced cells as the released guide's own fill.sh prints them over the translation 03f3c29407c7c7a0… (all of the seat's roots in one cut). By AI agents, Wed Nov 11 2026. No macro, syntax, notation, axiom, sorry.
-/
import Derived.Test.YtjoimapgmocoeaaChecked
import GoSem.Claim
import GoSem.ClaimJoined
import GoSem.ClaimMapViews
import Derived.JoinedTies
import Derived.KernelRfl
namespace Go.Proofs.Ytjoimapgmocoeaa
/- THE CELL 'sum', in the pinned program and in every row, IS THE sha256 OF THE DUMP (.gsa) THAT YtjoimapgmocoeaaProg.lean LOADS. Nothing in Lean hashes anything: it is a label: what it is worth is what the hold of that sum in a sandbox is worth. -/
noncomputable def Try.pinned : Pinned := { name := "ytjoimapgmocoeaa", sum := "03f3c29407c7c7a09c72a2d3fa50bd8df5ffe61f572880aae6d36dde8928fa0e", checked := Try.checked }
namespace Rows
def none {H : Type} : Left H := { results := [], args := [] }

/-- 'tolllaw10.LotsSplit': WHATEVER THE INPUT: true; the input reads as it did. -/
def lotsSplitSpec : ChangeSpec := { name := "lotsSplit", fn := fun _ => fun
  | [d1, d2, d3, d4] => { results := [.lit (.bool true)], args := [d1, d2, d3, d4] }
  | _ => none }
def lotsSplitRow : OpenClaim := { program := "ytjoimapgmocoeaa", sum := "03f3c29407c7c7a09c72a2d3fa50bd8df5ffe61f572880aae6d36dde8928fa0e", func := "toll/tolllaw10.LotsSplit", spec := "lotsSplit", unfollowed := true, recurses := true, apart := false }
def LotsSplitSaid : Prop := lotsSplitRow.holds Try.pinned (OpenSpec.ofChange lotsSplitSpec)

/-- ITS FALSE NEIGHBOUR: 'it returns false'. Refute it at one input. -/
def lotsSplitWrong : ChangeSpec := { name := "lotsSplit", fn := fun _ => fun
  | [d1, d2, d3, d4] => { results := [.lit (.bool false)], args := [d1, d2, d3, d4] }
  | _ => none }
def LotsSplitWrongFalsely : Prop := lotsSplitRow.holds Try.pinned (OpenSpec.ofChange lotsSplitWrong)

/-- 'tolllaw10.LotsOrder': WHATEVER THE INPUT: true; the input reads as it did. -/
def lotsOrderSpec : ChangeSpec := { name := "lotsOrder", fn := fun _ => fun
  | [d1, d2] => { results := [.lit (.bool true)], args := [d1, d2] }
  | _ => none }
def lotsOrderRow : OpenClaim := { program := "ytjoimapgmocoeaa", sum := "03f3c29407c7c7a09c72a2d3fa50bd8df5ffe61f572880aae6d36dde8928fa0e", func := "toll/tolllaw10.LotsOrder", spec := "lotsOrder", unfollowed := true, recurses := true, apart := false }
def LotsOrderSaid : Prop := lotsOrderRow.holds Try.pinned (OpenSpec.ofChange lotsOrderSpec)

/-- ITS FALSE NEIGHBOUR: 'it returns false'. Refute it at one input. -/
def lotsOrderWrong : ChangeSpec := { name := "lotsOrder", fn := fun _ => fun
  | [d1, d2] => { results := [.lit (.bool false)], args := [d1, d2] }
  | _ => none }
def LotsOrderWrongFalsely : Prop := lotsOrderRow.holds Try.pinned (OpenSpec.ofChange lotsOrderWrong)

/-- 'tolllaw10.LotsLeft': WHATEVER THE INPUT: true; the input reads as it did. -/
def lotsLeftSpec : ChangeSpec := { name := "lotsLeft", fn := fun _ => fun
  | [d1, d2] => { results := [.lit (.bool true)], args := [d1, d2] }
  | _ => none }
def lotsLeftRow : OpenClaim := { program := "ytjoimapgmocoeaa", sum := "03f3c29407c7c7a09c72a2d3fa50bd8df5ffe61f572880aae6d36dde8928fa0e", func := "toll/tolllaw10.LotsLeft", spec := "lotsLeft", unfollowed := true, recurses := true, apart := false }
def LotsLeftSaid : Prop := lotsLeftRow.holds Try.pinned (OpenSpec.ofChange lotsLeftSpec)

/-- ITS FALSE NEIGHBOUR: 'it returns false'. Refute it at one input. -/
def lotsLeftWrong : ChangeSpec := { name := "lotsLeft", fn := fun _ => fun
  | [d1, d2] => { results := [.lit (.bool false)], args := [d1, d2] }
  | _ => none }
def LotsLeftWrongFalsely : Prop := lotsLeftRow.holds Try.pinned (OpenSpec.ofChange lotsLeftWrong)

/-- 'tolllaw10.LotsNone': WHATEVER THE INPUT: true; the input reads as it did. -/
def lotsNoneSpec : ChangeSpec := { name := "lotsNone", fn := fun _ => fun
  | [d1, d2, d3] => { results := [.lit (.bool true)], args := [d1, d2, d3] }
  | _ => none }
def lotsNoneRow : OpenClaim := { program := "ytjoimapgmocoeaa", sum := "03f3c29407c7c7a09c72a2d3fa50bd8df5ffe61f572880aae6d36dde8928fa0e", func := "toll/tolllaw10.LotsNone", spec := "lotsNone", unfollowed := true, recurses := true, apart := false }
def LotsNoneSaid : Prop := lotsNoneRow.holds Try.pinned (OpenSpec.ofChange lotsNoneSpec)

/-- ITS FALSE NEIGHBOUR: 'it returns false'. Refute it at one input. -/
def lotsNoneWrong : ChangeSpec := { name := "lotsNone", fn := fun _ => fun
  | [d1, d2, d3] => { results := [.lit (.bool false)], args := [d1, d2, d3] }
  | _ => none }
def LotsNoneWrongFalsely : Prop := lotsNoneRow.holds Try.pinned (OpenSpec.ofChange lotsNoneWrong)

/-- 'tolllaw10.LotsFields': WHATEVER THE INPUT: true; the input reads as it did. -/
def lotsFieldsSpec : ChangeSpec := { name := "lotsFields", fn := fun _ => fun
  | [d1, d2, d3, d4, d5] => { results := [.lit (.bool true)], args := [d1, d2, d3, d4, d5] }
  | _ => none }
def lotsFieldsRow : OpenClaim := { program := "ytjoimapgmocoeaa", sum := "03f3c29407c7c7a09c72a2d3fa50bd8df5ffe61f572880aae6d36dde8928fa0e", func := "toll/tolllaw10.LotsFields", spec := "lotsFields", unfollowed := true, recurses := true, apart := false }
def LotsFieldsSaid : Prop := lotsFieldsRow.holds Try.pinned (OpenSpec.ofChange lotsFieldsSpec)

/-- ITS FALSE NEIGHBOUR: 'it returns false'. Refute it at one input. -/
def lotsFieldsWrong : ChangeSpec := { name := "lotsFields", fn := fun _ => fun
  | [d1, d2, d3, d4, d5] => { results := [.lit (.bool false)], args := [d1, d2, d3, d4, d5] }
  | _ => none }
def LotsFieldsWrongFalsely : Prop := lotsFieldsRow.holds Try.pinned (OpenSpec.ofChange lotsFieldsWrong)

/-- 'tolllaw10.LotsPlays': WHATEVER THE INPUT: true; the input reads as it did. -/
def lotsPlaysSpec : ChangeSpec := { name := "lotsPlays", fn := fun _ => fun
  | [d1, d2, d3] => { results := [.lit (.bool true)], args := [d1, d2, d3] }
  | _ => none }
def lotsPlaysRow : OpenClaim := { program := "ytjoimapgmocoeaa", sum := "03f3c29407c7c7a09c72a2d3fa50bd8df5ffe61f572880aae6d36dde8928fa0e", func := "toll/tolllaw10.LotsPlays", spec := "lotsPlays", unfollowed := true, recurses := true, apart := false }
def LotsPlaysSaid : Prop := lotsPlaysRow.holds Try.pinned (OpenSpec.ofChange lotsPlaysSpec)

/-- ITS FALSE NEIGHBOUR: 'it returns false'. Refute it at one input. -/
def lotsPlaysWrong : ChangeSpec := { name := "lotsPlays", fn := fun _ => fun
  | [d1, d2, d3] => { results := [.lit (.bool false)], args := [d1, d2, d3] }
  | _ => none }
def LotsPlaysWrongFalsely : Prop := lotsPlaysRow.holds Try.pinned (OpenSpec.ofChange lotsPlaysWrong)

/-- 'tolllaw10.LotsEnds': WHATEVER THE INPUT: true; the input reads as it did. -/
def lotsEndsSpec : ChangeSpec := { name := "lotsEnds", fn := fun _ => fun
  | [d1, d2, d3, d4] => { results := [.lit (.bool true)], args := [d1, d2, d3, d4] }
  | _ => none }
def lotsEndsRow : OpenClaim := { program := "ytjoimapgmocoeaa", sum := "03f3c29407c7c7a09c72a2d3fa50bd8df5ffe61f572880aae6d36dde8928fa0e", func := "toll/tolllaw10.LotsEnds", spec := "lotsEnds", unfollowed := true, recurses := true, apart := false }
def LotsEndsSaid : Prop := lotsEndsRow.holds Try.pinned (OpenSpec.ofChange lotsEndsSpec)

/-- ITS FALSE NEIGHBOUR: 'it returns false'. Refute it at one input. -/
def lotsEndsWrong : ChangeSpec := { name := "lotsEnds", fn := fun _ => fun
  | [d1, d2, d3, d4] => { results := [.lit (.bool false)], args := [d1, d2, d3, d4] }
  | _ => none }
def LotsEndsWrongFalsely : Prop := lotsEndsRow.holds Try.pinned (OpenSpec.ofChange lotsEndsWrong)

/-- 'tolllaw10.LotsTakes': WHATEVER THE INPUT: true; the input reads as it did. -/
def lotsTakesSpec : ChangeSpec := { name := "lotsTakes", fn := fun _ => fun
  | [d1, d2, d3] => { results := [.lit (.bool true)], args := [d1, d2, d3] }
  | _ => none }
def lotsTakesRow : OpenClaim := { program := "ytjoimapgmocoeaa", sum := "03f3c29407c7c7a09c72a2d3fa50bd8df5ffe61f572880aae6d36dde8928fa0e", func := "toll/tolllaw10.LotsTakes", spec := "lotsTakes", unfollowed := true, recurses := true, apart := false }
def LotsTakesSaid : Prop := lotsTakesRow.holds Try.pinned (OpenSpec.ofChange lotsTakesSpec)

/-- ITS FALSE NEIGHBOUR: 'it returns false'. Refute it at one input. -/
def lotsTakesWrong : ChangeSpec := { name := "lotsTakes", fn := fun _ => fun
  | [d1, d2, d3] => { results := [.lit (.bool false)], args := [d1, d2, d3] }
  | _ => none }
def LotsTakesWrongFalsely : Prop := lotsTakesRow.holds Try.pinned (OpenSpec.ofChange lotsTakesWrong)

/-- 'tolllaw10.LotsUses': WHATEVER THE INPUT: true; the input reads as it did. -/
def lotsUsesSpec : ChangeSpec := { name := "lotsUses", fn := fun _ => fun
  | [d1, d2, d3, d4, d5] => { results := [.lit (.bool true)], args := [d1, d2, d3, d4, d5] }
  | _ => none }
def lotsUsesRow : OpenClaim := { program := "ytjoimapgmocoeaa", sum := "03f3c29407c7c7a09c72a2d3fa50bd8df5ffe61f572880aae6d36dde8928fa0e", func := "toll/tolllaw10.LotsUses", spec := "lotsUses", unfollowed := true, recurses := true, apart := false }
def LotsUsesSaid : Prop := lotsUsesRow.holds Try.pinned (OpenSpec.ofChange lotsUsesSpec)

/-- ITS FALSE NEIGHBOUR: 'it returns false'. Refute it at one input. -/
def lotsUsesWrong : ChangeSpec := { name := "lotsUses", fn := fun _ => fun
  | [d1, d2, d3, d4, d5] => { results := [.lit (.bool false)], args := [d1, d2, d3, d4, d5] }
  | _ => none }
def LotsUsesWrongFalsely : Prop := lotsUsesRow.holds Try.pinned (OpenSpec.ofChange lotsUsesWrong)

/- THE SECOND FORM. 'bulk': how many values and letters a reading holds, each counted each time it is reached (what is shared counts as often as it is met; a slice's spare places count too). A statement '..UptoSaid' is the law's where the arguments, and the package variables that the reading takes, are together of bulk at most 1048576: NARROWER than '..Said'. Prove '..Said' where nothing that the law and all that it calls make is longer than what came in: it says more and counts as full. Else prove '..UptoSaid'. A law counts once. -/
mutual
def uptoBulk {H : Type} : DataW H → Nat
  | .lit (.string bytes) => bytes.length + 1
  | .lit _ => 1
  | .nil => 1
  | .ptr d => uptoBulk d + 1
  | .slice elems spare => uptoBulkAll elems + uptoBulkAll spare + 1
  | .agg parts => uptoBulkAll parts + 1
  | .iface _ d => uptoBulk d + 1
  | .map entries => uptoBulkEntries entries + 1
  | .held _ => 1
def uptoBulkAll {H : Type} : List (DataW H) → Nat
  | [] => 0
  | d :: r => uptoBulk d + uptoBulkAll r
def uptoBulkEntries {H : Type} : List (Lit × DataW H) → Nat
  | [] => 0
  | x :: r => uptoBulkEntry x + uptoBulkEntries r
def uptoBulkEntry {H : Type} : Lit × DataW H → Nat
  | (.string bytes, d) => bytes.length + uptoBulk d + 1
  | (_, d) => uptoBulk d + 1
 end
def uptoSmall : (H : Type) → List (DataW H) → Bool := fun _ ds => decide (uptoBulkAll ds ≤ 1048576)
def OpenSpec.upto (s : _root_.Go.ChangeSpec) : _root_.Go.OpenSpec := { _root_.Go.OpenSpec.ofChange s with cond := some uptoSmall }

/-- 'tolllaw10.LotsSplit', WHERE WHAT IT READS IS OF BULK AT MOST 1048576: true; the input reads as it did. -/
def lotsSplitUptoRow : OpenClaim := { program := "ytjoimapgmocoeaa", sum := "03f3c29407c7c7a09c72a2d3fa50bd8df5ffe61f572880aae6d36dde8928fa0e", func := "toll/tolllaw10.LotsSplit", spec := "lotsSplit", unfollowed := true, recurses := true, apart := false, narrowed := true }
def LotsSplitUptoSaid : Prop := lotsSplitUptoRow.holds Try.pinned (OpenSpec.upto lotsSplitSpec)

/-- 'tolllaw10.LotsOrder', WHERE WHAT IT READS IS OF BULK AT MOST 1048576: true; the input reads as it did. -/
def lotsOrderUptoRow : OpenClaim := { program := "ytjoimapgmocoeaa", sum := "03f3c29407c7c7a09c72a2d3fa50bd8df5ffe61f572880aae6d36dde8928fa0e", func := "toll/tolllaw10.LotsOrder", spec := "lotsOrder", unfollowed := true, recurses := true, apart := false, narrowed := true }
def LotsOrderUptoSaid : Prop := lotsOrderUptoRow.holds Try.pinned (OpenSpec.upto lotsOrderSpec)

/-- 'tolllaw10.LotsLeft', WHERE WHAT IT READS IS OF BULK AT MOST 1048576: true; the input reads as it did. -/
def lotsLeftUptoRow : OpenClaim := { program := "ytjoimapgmocoeaa", sum := "03f3c29407c7c7a09c72a2d3fa50bd8df5ffe61f572880aae6d36dde8928fa0e", func := "toll/tolllaw10.LotsLeft", spec := "lotsLeft", unfollowed := true, recurses := true, apart := false, narrowed := true }
def LotsLeftUptoSaid : Prop := lotsLeftUptoRow.holds Try.pinned (OpenSpec.upto lotsLeftSpec)

/-- 'tolllaw10.LotsNone', WHERE WHAT IT READS IS OF BULK AT MOST 1048576: true; the input reads as it did. -/
def lotsNoneUptoRow : OpenClaim := { program := "ytjoimapgmocoeaa", sum := "03f3c29407c7c7a09c72a2d3fa50bd8df5ffe61f572880aae6d36dde8928fa0e", func := "toll/tolllaw10.LotsNone", spec := "lotsNone", unfollowed := true, recurses := true, apart := false, narrowed := true }
def LotsNoneUptoSaid : Prop := lotsNoneUptoRow.holds Try.pinned (OpenSpec.upto lotsNoneSpec)

/-- 'tolllaw10.LotsFields', WHERE WHAT IT READS IS OF BULK AT MOST 1048576: true; the input reads as it did. -/
def lotsFieldsUptoRow : OpenClaim := { program := "ytjoimapgmocoeaa", sum := "03f3c29407c7c7a09c72a2d3fa50bd8df5ffe61f572880aae6d36dde8928fa0e", func := "toll/tolllaw10.LotsFields", spec := "lotsFields", unfollowed := true, recurses := true, apart := false, narrowed := true }
def LotsFieldsUptoSaid : Prop := lotsFieldsUptoRow.holds Try.pinned (OpenSpec.upto lotsFieldsSpec)

/-- 'tolllaw10.LotsPlays', WHERE WHAT IT READS IS OF BULK AT MOST 1048576: true; the input reads as it did. -/
def lotsPlaysUptoRow : OpenClaim := { program := "ytjoimapgmocoeaa", sum := "03f3c29407c7c7a09c72a2d3fa50bd8df5ffe61f572880aae6d36dde8928fa0e", func := "toll/tolllaw10.LotsPlays", spec := "lotsPlays", unfollowed := true, recurses := true, apart := false, narrowed := true }
def LotsPlaysUptoSaid : Prop := lotsPlaysUptoRow.holds Try.pinned (OpenSpec.upto lotsPlaysSpec)

/-- 'tolllaw10.LotsEnds', WHERE WHAT IT READS IS OF BULK AT MOST 1048576: true; the input reads as it did. -/
def lotsEndsUptoRow : OpenClaim := { program := "ytjoimapgmocoeaa", sum := "03f3c29407c7c7a09c72a2d3fa50bd8df5ffe61f572880aae6d36dde8928fa0e", func := "toll/tolllaw10.LotsEnds", spec := "lotsEnds", unfollowed := true, recurses := true, apart := false, narrowed := true }
def LotsEndsUptoSaid : Prop := lotsEndsUptoRow.holds Try.pinned (OpenSpec.upto lotsEndsSpec)

/-- 'tolllaw10.LotsTakes', WHERE WHAT IT READS IS OF BULK AT MOST 1048576: true; the input reads as it did. -/
def lotsTakesUptoRow : OpenClaim := { program := "ytjoimapgmocoeaa", sum := "03f3c29407c7c7a09c72a2d3fa50bd8df5ffe61f572880aae6d36dde8928fa0e", func := "toll/tolllaw10.LotsTakes", spec := "lotsTakes", unfollowed := true, recurses := true, apart := false, narrowed := true }
def LotsTakesUptoSaid : Prop := lotsTakesUptoRow.holds Try.pinned (OpenSpec.upto lotsTakesSpec)

/-- 'tolllaw10.LotsUses', WHERE WHAT IT READS IS OF BULK AT MOST 1048576: true; the input reads as it did. -/
def lotsUsesUptoRow : OpenClaim := { program := "ytjoimapgmocoeaa", sum := "03f3c29407c7c7a09c72a2d3fa50bd8df5ffe61f572880aae6d36dde8928fa0e", func := "toll/tolllaw10.LotsUses", spec := "lotsUses", unfollowed := true, recurses := true, apart := false, narrowed := true }
def LotsUsesUptoSaid : Prop := lotsUsesUptoRow.holds Try.pinned (OpenSpec.upto lotsUsesSpec)

end Rows
end Go.Proofs.Ytjoimapgmocoeaa
