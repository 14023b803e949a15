-- Written by a program of this session (wip/mkx.py), which extends the kit's print.
import Derived.Test.YtnccklajpmpfdaaDoorProg
import Derived.Below
import Derived.Deep.Draws
import Derived.Deep.AppendLies
import Derived.Maps.AppendAt
import Derived.OwnWalk
import Derived.Laws.BytesArg
import Derived.Laws.MakeOwn
import Derived.Laws.OwnMore
import Derived.Deep.OwnRows
import Derived.Tactics
import Derived.Lib.ConvBytes
import Derived.Laws.Slices
import Derived.WalkKit
import Derived.KernelRfl
import Derived.RowKit3
import Derived.Deep.LoopGhost
import Derived.Deep.QuietTactic
import Derived.BigQuiet
import Derived.WideLaws
import Derived.Deep.DeepCutAuto
import Derived.Deep.CutBlock
import Derived.Deep.RegionHeld3
import Derived.Laws.Rows
import Derived.Lib.AppendStr
import Derived.ArgAppend
import Derived.Laws.IdiomCopy
import Derived.OrdersHeld
import Derived.Laws.BitsLemmas
import Derived.RowKit
import Derived.OrdersHeld
import Derived.Laws.BitsLemmas
import Derived.RowKit
import Derived.Test.YtnccklajpmpfdaaDoorExt
import Derived.Test.YtnccklajpmpfdaaDoorWWords
import Derived.Test.YtnccklajpmpfdaaDoorWLast
import Derived.Test.YtnccklajpmpfdaaDoorWTab
import Derived.Test.YtnccklajpmpfdaaDoorWFour
import Derived.Test.YtnccklajpmpfdaaDoorWQPut
import Derived.Test.YtnccklajpmpfdaaDoorWApart
import Derived.Test.YtnccklajpmpfdaaDoorWArr
import Derived.Test.YtnccklajpmpfdaaDoorWZeros
import Derived.Test.YtnccklajpmpfdaaDoorWFoot
import Derived.Test.YtnccklajpmpfdaaDoorWKept
import Derived.Test.YtnccklajpmpfdaaDoorWShare
import Derived.Test.YtnccklajpmpfdaaDoorWN
import Derived.Test.YtnccklajpmpfdaaDoorWFootNe
import Derived.Test.YtnccklajpmpfdaaDoorWAt
import Derived.Test.YtnccklajpmpfdaaDoorWEqStruct
import Derived.Test.YtnccklajpmpfdaaDoorWRepsOne
import Derived.Test.YtnccklajpmpfdaaDoorWInv
import Derived.Test.YtnccklajpmpfdaaDoorWInvWords
import Derived.Test.YtnccklajpmpfdaaDoorWGuard
import Derived.Test.YtnccklajpmpfdaaDoorWNEv
import Derived.Test.YtnccklajpmpfdaaDoorWMore
namespace Go.Proofs.YtnccklajpmpfdaaDoor.PFnExactFormatInt
open Go.RowKit Go.Proofs.YtnccklajpmpfdaaDoorW.PrintWords Go.Proofs.YtnccklajpmpfdaaDoorW.PrintLast Go.Proofs.YtnccklajpmpfdaaDoorW.PrintMore
attribute [local go_sem] max2_int min2_int max_two min_two max_three min_three max_four min_four   -- for this text's walks alone
set_option linter.unusedVariables false
set_option linter.unusedSimpArgs false



theorem isEmpty_ne_ (l : List UInt8) : l.isEmpty = !(l != []) := by cases l <;> simp
theorem size_lit_ (l : List UInt8) : (⟨l.toArray⟩ : ByteArray).size = l.length := by simp [ByteArray.size]
def errW : Option Int → Value
  | none => .nilIface
  | some c => .iface 0 (.int .i64 c)
theorem errW_none : errW none = .nilIface := rfl
theorem errW_some (c : Int) : errW (some c) = .iface 0 (.int .i64 c) := rfl

theorem info5 : (Tryd.prog.info? 5).map (fun i => (i.zero, i.size, i.bytes)) = some (some (.int .u8 0), 1, 1) := by kernel_rfl
-- the values' own types

end Go.Proofs.YtnccklajpmpfdaaDoor.PFnExactFormatInt
