-- Written by a program of this session (wip/mkx.py), which extends the kit's print.
import Derived.Test.YtnccklajpmpfdaaProg
import Derived.Below
import Derived.Deep.Draws
import Derived.Deep.AppendLies
import Derived.Maps.AppendAt
import Derived.OwnWalk
import Derived.Laws.BytesArg
import Derived.Laws.MakeOwn
import Derived.Laws.OwnMore
import Derived.Deep.OwnRows
import Derived.Tactics
import Derived.Lib.ConvBytes
import Derived.Laws.Slices
import Derived.WalkKit
import Derived.KernelRfl
import Derived.RowKit3
import Derived.Deep.LoopGhost
import Derived.Deep.QuietTactic
import Derived.BigQuiet
import Derived.WideLaws
import Derived.Deep.DeepCutAuto
import Derived.Deep.CutBlock
import Derived.Deep.RegionHeld3
import Derived.Laws.Rows
import Derived.Lib.AppendStr
import Derived.ArgAppend
import Derived.Laws.IdiomCopy
import Derived.OrdersHeld
import Derived.Laws.BitsLemmas
import Derived.RowKit
import Derived.OrdersHeld
import Derived.Laws.BitsLemmas
import Derived.RowKit
import Derived.Test.YtnccklajpmpfdaaWWords
import Derived.Test.YtnccklajpmpfdaaWLast
import Derived.Test.YtnccklajpmpfdaaWTab
import Derived.Test.YtnccklajpmpfdaaWFour
import Derived.Test.YtnccklajpmpfdaaWQPut
import Derived.Test.YtnccklajpmpfdaaWApart
import Derived.Test.YtnccklajpmpfdaaWArr
import Derived.Test.YtnccklajpmpfdaaWZeros
import Derived.Test.YtnccklajpmpfdaaWFoot
import Derived.Test.YtnccklajpmpfdaaWKept
import Derived.Test.YtnccklajpmpfdaaWShare
import Derived.Test.YtnccklajpmpfdaaWN
import Derived.Test.YtnccklajpmpfdaaWFootNe
import Derived.Test.YtnccklajpmpfdaaWAt
import Derived.Test.YtnccklajpmpfdaaWEqStruct
import Derived.Test.YtnccklajpmpfdaaWRepsOne
import Derived.Test.YtnccklajpmpfdaaWInv
import Derived.Test.YtnccklajpmpfdaaWInvWords
import Derived.Test.YtnccklajpmpfdaaWGuard
import Derived.Test.YtnccklajpmpfdaaWNEv
import Derived.Test.YtnccklajpmpfdaaWMore
namespace Go.Proofs.Ytnccklajpmpfdaa.PFnExactIsTrue
open Go.RowKit Go.Proofs.YtnccklajpmpfdaaW.PrintWords Go.Proofs.YtnccklajpmpfdaaW.PrintLast Go.Proofs.YtnccklajpmpfdaaW.PrintMore
attribute [local go_sem] max2_int min2_int max_two min_two max_three min_three max_four min_four   -- for this text's walks alone
set_option linter.unusedVariables false
set_option linter.unusedSimpArgs false



theorem isEmpty_ne_ (l : List UInt8) : l.isEmpty = !(l != []) := by cases l <;> simp
def errW : Option Int → Value
  | none => .nilIface
  | some c => .iface 0 (.int .i64 c)
theorem errW_none : errW none = .nilIface := rfl
theorem errW_some (c : Int) : errW (some c) = .iface 0 (.int .i64 c) := rfl

theorem info9 : (Try.prog.info? 9).map (fun i => (i.zero, i.size, i.bytes)) = some (some (.string ⟨#[]⟩), 1, 16) := by kernel_rfl
-- the values' own types

end Go.Proofs.Ytnccklajpmpfdaa.PFnExactIsTrue
