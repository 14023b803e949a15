-- Written by a program of this session (wip/mkx.py), which extends the kit's print.
import Derived.Test.YtmkhoakhfdjplaaDoorProg
import Derived.Below
import Derived.Deep.Draws
import Derived.Deep.AppendLies
import Derived.Maps.AppendAt
import Derived.OwnWalk
import Derived.Laws.BytesArg
import Derived.Laws.MakeOwn
import Derived.Laws.OwnMore
import Derived.Deep.OwnRows
import Derived.Tactics
import Derived.Lib.ConvBytes
import Derived.Laws.Slices
import Derived.WalkKit
import Derived.KernelRfl
import Derived.RowKit3
import Derived.Deep.LoopGhost
import Derived.Deep.QuietTactic
import Derived.BigQuiet
import Derived.WideLaws
import Derived.Deep.DeepCutAuto
import Derived.Deep.CutBlock
import Derived.Deep.RegionHeld3
import Derived.Laws.Rows
import Derived.Lib.AppendStr
import Derived.ArgAppend
import Derived.Laws.IdiomCopy
import Derived.OrdersHeld
import Derived.Laws.BitsLemmas
import Derived.RowKit
import Derived.OrdersHeld
import Derived.Laws.BitsLemmas
import Derived.RowKit
import Derived.Test.YtmkhoakhfdjplaaDoorExt
import Derived.Test.YtmkhoakhfdjplaaDoorWWords
import Derived.Test.YtmkhoakhfdjplaaDoorWLast
import Derived.Test.YtmkhoakhfdjplaaDoorWTab
import Derived.Test.YtmkhoakhfdjplaaDoorWFour
import Derived.Test.YtmkhoakhfdjplaaDoorWQPut
import Derived.Test.YtmkhoakhfdjplaaDoorWApart
import Derived.Test.YtmkhoakhfdjplaaDoorWArr
import Derived.Test.YtmkhoakhfdjplaaDoorWZeros
import Derived.Test.YtmkhoakhfdjplaaDoorWFoot
import Derived.Test.YtmkhoakhfdjplaaDoorWKept
import Derived.Test.YtmkhoakhfdjplaaDoorWShare
import Derived.Test.YtmkhoakhfdjplaaDoorWN
import Derived.Test.YtmkhoakhfdjplaaDoorWFootNe
import Derived.Test.YtmkhoakhfdjplaaDoorWAt
import Derived.Test.YtmkhoakhfdjplaaDoorWEqStruct
import Derived.Test.YtmkhoakhfdjplaaDoorWRepsOne
import Derived.Test.YtmkhoakhfdjplaaDoorWInv
import Derived.Test.YtmkhoakhfdjplaaDoorWInvWords
import Derived.Test.YtmkhoakhfdjplaaDoorWGuard
import Derived.Test.YtmkhoakhfdjplaaDoorWNEv
import Derived.Test.YtmkhoakhfdjplaaDoorWMore
namespace Go.Proofs.YtmkhoakhfdjplaaDoor.PFnExactAtomsOf
open Go.RowKit Go.Proofs.YtmkhoakhfdjplaaDoorW.PrintWords Go.Proofs.YtmkhoakhfdjplaaDoorW.PrintLast Go.Proofs.YtmkhoakhfdjplaaDoorW.PrintMore
attribute [local go_sem] max2_int min2_int max_two min_two max_three min_three max_four min_four   -- for this text's walks alone
set_option linter.unusedVariables false
set_option linter.unusedSimpArgs false



theorem isEmpty_ne_ (l : List UInt8) : l.isEmpty = !(l != []) := by cases l <;> simp
theorem size_lit_ (l : List UInt8) : (⟨l.toArray⟩ : ByteArray).size = l.length := by simp [ByteArray.size]
def errW : Option Int → Value
  | none => .nilIface
  | some c => .iface 0 (.int .i64 c)
theorem errW_none : errW none = .nilIface := rfl
theorem errW_some (c : Int) : errW (some c) = .iface 0 (.int .i64 c) := rfl

theorem info5 : (Tryd.prog.info? 5).map (fun i => (i.zero, i.size, i.bytes)) = some (some (.int .u8 0), 1, 1) := by kernel_rfl
theorem info9 : (Tryd.prog.info? 9).map (fun i => (i.zero, i.size, i.bytes)) = some (some (.string ⟨#[]⟩), 1, 16) := by kernel_rfl
-- the values' own types

end Go.Proofs.YtmkhoakhfdjplaaDoor.PFnExactAtomsOf
