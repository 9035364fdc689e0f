/- What Go functions of this seat compute, as plain Lean functions; the machine's calls do what these say, under the conditions that each theorem names. Written by a program of this session (xprint, over print.py of the kit). -/
import Derived.Test.YteafkpkghebnbaaProg
import Derived.Below
import Derived.Deep.Draws
import Derived.Deep.AppendLies
import Derived.Maps.AppendAt
import Derived.OwnWalk
import Derived.Laws.BytesArg
import Derived.Laws.MakeOwn
import Derived.Laws.OwnMore
import Derived.Deep.OwnRows
import Derived.Tactics
import Derived.Lib.ConvBytes
import Derived.Laws.Slices
import Derived.WalkKit
import Derived.KernelRfl
import Derived.RowKit3
import Derived.Deep.LoopGhost
import Derived.Deep.QuietTactic
import Derived.BigQuiet
import Derived.WideLaws
import Derived.Deep.DeepCutAuto
import Derived.Deep.CutBlock
import Derived.Deep.RegionHeld3
import Derived.Laws.Rows
import Derived.Lib.AppendStr
import Derived.ArgAppend
import Derived.Laws.IdiomCopy
import Derived.OrdersHeld
import Derived.Laws.BitsLemmas
import Derived.RowKit
import Derived.Test.YteafkpkghebnbaaWWords
import Derived.Test.YteafkpkghebnbaaWLast
import Derived.Test.YteafkpkghebnbaaWTab
import Derived.Test.YteafkpkghebnbaaWFour
import Derived.Test.YteafkpkghebnbaaWQPut
import Derived.Test.YteafkpkghebnbaaWApart
import Derived.Test.YteafkpkghebnbaaWArr
import Derived.Test.YteafkpkghebnbaaWZeros
import Derived.Test.YteafkpkghebnbaaWFoot
import Derived.Test.YteafkpkghebnbaaWKept
import Derived.Test.YteafkpkghebnbaaWShare
import Derived.Test.YteafkpkghebnbaaWN
import Derived.Test.YteafkpkghebnbaaWFootNe
import Derived.Test.YteafkpkghebnbaaWAt
import Derived.Test.YteafkpkghebnbaaWEqStruct
import Derived.Test.YteafkpkghebnbaaWRepsOne
import Derived.Test.YteafkpkghebnbaaWInv
import Derived.Test.YteafkpkghebnbaaWInvWords
import Derived.Test.YteafkpkghebnbaaWGuard
import Derived.Test.YteafkpkghebnbaaWNEv
import Derived.Test.YteafkpkghebnbaaWMore
namespace Go.Proofs.Yteafkpkghebnbaa.Xa
open Go.RowKit Go.Proofs.YteafkpkghebnbaaW.PrintWords Go.Proofs.YteafkpkghebnbaaW.PrintLast Go.Proofs.YteafkpkghebnbaaW.PrintMore
attribute [local go_sem] max2_int min2_int max_two min_two max_three min_three max_four min_four   -- for this text's walks alone
set_option linter.unusedVariables false
set_option linter.unusedSimpArgs false



def errW : Option Int → Value
  | none => .nilIface
  | some c => .iface 0 (.int .i64 c)
theorem errW_none : errW none = .nilIface := rfl
theorem errW_some (c : Int) : errW (some c) = .iface 0 (.int .i64 c) := rfl

abbrev bA (n m : Nat) : Array Bool := ((List.range n).map fun i => m.testBit i).toArray
-- the values' own types

end Go.Proofs.Yteafkpkghebnbaa.Xa
