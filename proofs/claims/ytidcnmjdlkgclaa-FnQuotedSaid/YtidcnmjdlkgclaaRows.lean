/-
  NARROWER THAN 'FOR EVERY INPUT', by the rows' own cells (each row's printed sentence says how): FnExactCountSchema: loops · FnExactSelectPlaces: loops · FnExactValuesAt: loops · FnExactEntryKey: loops · FnExactUsedGroups: loops · FnExactDataKids: loops · FnExactPathTo: loops · FnExactFindNode: loops.
  DERIVED. THE GIVEN ROWS OF THIS SEAT. 11 by the template 'for every input the law returns true; each argument reads behind the call as it read before'; 0 by the template 'total and deterministic' (their statements: YtidcnmjdlkgclaaTotals.lean).
  GIVEN WITH THE SEED: the statements are not yours to turn. If you find one false, say at which input.
  Laid BY PROGRAM, IN A SANDBOX (cutbox-rows.mjs): the forced cells as the released guide's own fill.sh prints them over the translation b3574c97478a23ea… (all of the seat's roots in one cut). By AI agents, Wed Nov 11 2026. No macro, syntax, notation, axiom, sorry.
-/
import Derived.Test.YtidcnmjdlkgclaaChecked
import GoSem.Claim
import GoSem.ClaimJoined
import GoSem.ClaimMapViews
import Derived.JoinedTies
import Derived.KernelRfl
namespace Go.Proofs.Ytidcnmjdlkgclaa
/- THE CELL 'sum', in the pinned program and in every row, IS THE sha256 OF THE DUMP (.gsa) THAT YtidcnmjdlkgclaaProg.lean LOADS. Nothing in Lean hashes anything: it is a label: what it is worth is what the hold of that sum in a sandbox is worth. -/
noncomputable def Try.pinned : Pinned := { name := "ytidcnmjdlkgclaa", sum := "b3574c97478a23ea73831d392c89a6ded7b0c956b082731fe7a84c51241cd2a5", checked := Try.checked }
namespace Rows
def none {H : Type} : Left H := { results := [], args := [] }

/-- 'laws.FnQuoted': WHATEVER THE INPUT: true; the input reads as it did. -/
def fnQuotedSpec : ChangeSpec := { name := "fnQuoted", fn := fun _ => fun
  | [d] => { results := [.lit (.bool true)], args := [d] }
  | _ => none }
def fnQuotedRow : OpenClaim := { program := "ytidcnmjdlkgclaa", sum := "b3574c97478a23ea73831d392c89a6ded7b0c956b082731fe7a84c51241cd2a5", func := "loop.example/g03013/laws.FnQuoted", spec := "fnQuoted", recurses := true, apart := false }
def FnQuotedSaid : Prop := fnQuotedRow.holds Try.pinned (OpenSpec.ofChange fnQuotedSpec)

/-- ITS FALSE NEIGHBOUR: 'it returns false'. Refute it at one input. -/
def fnQuotedWrong : ChangeSpec := { name := "fnQuoted", fn := fun _ => fun
  | [d] => { results := [.lit (.bool false)], args := [d] }
  | _ => none }
def FnQuotedWrongFalsely : Prop := fnQuotedRow.holds Try.pinned (OpenSpec.ofChange fnQuotedWrong)

/-- 'laws.FnExactNormalRanges': WHATEVER THE INPUT: true; the input reads as it did. -/
def fnExactNormalRangesSpec : ChangeSpec := { name := "fnExactNormalRanges", fn := fun _ => fun
  | [d] => { results := [.lit (.bool true)], args := [d] }
  | _ => none }
def fnExactNormalRangesRow : OpenClaim := { program := "ytidcnmjdlkgclaa", sum := "b3574c97478a23ea73831d392c89a6ded7b0c956b082731fe7a84c51241cd2a5", func := "loop.example/g03013/laws.FnExactNormalRanges", spec := "fnExactNormalRanges", unfollowed := true, recurses := true, apart := false }
def FnExactNormalRangesSaid : Prop := fnExactNormalRangesRow.holds Try.pinned (OpenSpec.ofChange fnExactNormalRangesSpec)

/-- ITS FALSE NEIGHBOUR: 'it returns false'. Refute it at one input. -/
def fnExactNormalRangesWrong : ChangeSpec := { name := "fnExactNormalRanges", fn := fun _ => fun
  | [d] => { results := [.lit (.bool false)], args := [d] }
  | _ => none }
def FnExactNormalRangesWrongFalsely : Prop := fnExactNormalRangesRow.holds Try.pinned (OpenSpec.ofChange fnExactNormalRangesWrong)

/-- 'laws.FnExactMeetRanges': WHATEVER THE INPUT: true; the input reads as it did. -/
def fnExactMeetRangesSpec : ChangeSpec := { name := "fnExactMeetRanges", fn := fun _ => fun
  | [d1, d2] => { results := [.lit (.bool true)], args := [d1, d2] }
  | _ => none }
def fnExactMeetRangesRow : OpenClaim := { program := "ytidcnmjdlkgclaa", sum := "b3574c97478a23ea73831d392c89a6ded7b0c956b082731fe7a84c51241cd2a5", func := "loop.example/g03013/laws.FnExactMeetRanges", spec := "fnExactMeetRanges", unfollowed := true, recurses := true, apart := false }
def FnExactMeetRangesSaid : Prop := fnExactMeetRangesRow.holds Try.pinned (OpenSpec.ofChange fnExactMeetRangesSpec)

/-- ITS FALSE NEIGHBOUR: 'it returns false'. Refute it at one input. -/
def fnExactMeetRangesWrong : ChangeSpec := { name := "fnExactMeetRanges", fn := fun _ => fun
  | [d1, d2] => { results := [.lit (.bool false)], args := [d1, d2] }
  | _ => none }
def FnExactMeetRangesWrongFalsely : Prop := fnExactMeetRangesRow.holds Try.pinned (OpenSpec.ofChange fnExactMeetRangesWrong)

/-- 'laws.FnExactCountSchema': WHATEVER THE INPUT: true; the input reads as it did. -/
def fnExactCountSchemaSpec : ChangeSpec := { name := "fnExactCountSchema", fn := fun _ => fun
  | [d] => { results := [.lit (.bool true)], args := [d] }
  | _ => none }
def fnExactCountSchemaRow : OpenClaim := { program := "ytidcnmjdlkgclaa", sum := "b3574c97478a23ea73831d392c89a6ded7b0c956b082731fe7a84c51241cd2a5", func := "loop.example/g03013/laws.FnExactCountSchema", spec := "fnExactCountSchema", recurses := true, loops := true, apart := false }
def FnExactCountSchemaSaid : Prop := fnExactCountSchemaRow.holds Try.pinned (OpenSpec.ofChange fnExactCountSchemaSpec)

/-- ITS FALSE NEIGHBOUR: 'it returns false'. Refute it at one input. -/
def fnExactCountSchemaWrong : ChangeSpec := { name := "fnExactCountSchema", fn := fun _ => fun
  | [d] => { results := [.lit (.bool false)], args := [d] }
  | _ => none }
def FnExactCountSchemaWrongFalsely : Prop := fnExactCountSchemaRow.holds Try.pinned (OpenSpec.ofChange fnExactCountSchemaWrong)

/-- 'laws.FnExactSelectPlaces': WHATEVER THE INPUT: true; the input reads as it did. -/
def fnExactSelectPlacesSpec : ChangeSpec := { name := "fnExactSelectPlaces", fn := fun _ => fun
  | [d1, d2, d3] => { results := [.lit (.bool true)], args := [d1, d2, d3] }
  | _ => none }
def fnExactSelectPlacesRow : OpenClaim := { program := "ytidcnmjdlkgclaa", sum := "b3574c97478a23ea73831d392c89a6ded7b0c956b082731fe7a84c51241cd2a5", func := "loop.example/g03013/laws.FnExactSelectPlaces", spec := "fnExactSelectPlaces", unfollowed := true, recurses := true, loops := true, apart := false }
def FnExactSelectPlacesSaid : Prop := fnExactSelectPlacesRow.holds Try.pinned (OpenSpec.ofChange fnExactSelectPlacesSpec)

/-- ITS FALSE NEIGHBOUR: 'it returns false'. Refute it at one input. -/
def fnExactSelectPlacesWrong : ChangeSpec := { name := "fnExactSelectPlaces", fn := fun _ => fun
  | [d1, d2, d3] => { results := [.lit (.bool false)], args := [d1, d2, d3] }
  | _ => none }
def FnExactSelectPlacesWrongFalsely : Prop := fnExactSelectPlacesRow.holds Try.pinned (OpenSpec.ofChange fnExactSelectPlacesWrong)

/-- 'laws.FnExactValuesAt': WHATEVER THE INPUT: true; the input reads as it did. -/
def fnExactValuesAtSpec : ChangeSpec := { name := "fnExactValuesAt", fn := fun _ => fun
  | [d1, d2, d3] => { results := [.lit (.bool true)], args := [d1, d2, d3] }
  | _ => none }
def fnExactValuesAtRow : OpenClaim := { program := "ytidcnmjdlkgclaa", sum := "b3574c97478a23ea73831d392c89a6ded7b0c956b082731fe7a84c51241cd2a5", func := "loop.example/g03013/laws.FnExactValuesAt", spec := "fnExactValuesAt", unfollowed := true, recurses := true, loops := true, apart := false }
def FnExactValuesAtSaid : Prop := fnExactValuesAtRow.holds Try.pinned (OpenSpec.ofChange fnExactValuesAtSpec)

/-- ITS FALSE NEIGHBOUR: 'it returns false'. Refute it at one input. -/
def fnExactValuesAtWrong : ChangeSpec := { name := "fnExactValuesAt", fn := fun _ => fun
  | [d1, d2, d3] => { results := [.lit (.bool false)], args := [d1, d2, d3] }
  | _ => none }
def FnExactValuesAtWrongFalsely : Prop := fnExactValuesAtRow.holds Try.pinned (OpenSpec.ofChange fnExactValuesAtWrong)

/-- 'laws.FnExactEntryKey': WHATEVER THE INPUT: true; the input reads as it did. -/
def fnExactEntryKeySpec : ChangeSpec := { name := "fnExactEntryKey", fn := fun _ => fun
  | [d1, d2] => { results := [.lit (.bool true)], args := [d1, d2] }
  | _ => none }
def fnExactEntryKeyRow : OpenClaim := { program := "ytidcnmjdlkgclaa", sum := "b3574c97478a23ea73831d392c89a6ded7b0c956b082731fe7a84c51241cd2a5", func := "loop.example/g03013/laws.FnExactEntryKey", spec := "fnExactEntryKey", unfollowed := true, recurses := true, loops := true, apart := false }
def FnExactEntryKeySaid : Prop := fnExactEntryKeyRow.holds Try.pinned (OpenSpec.ofChange fnExactEntryKeySpec)

/-- ITS FALSE NEIGHBOUR: 'it returns false'. Refute it at one input. -/
def fnExactEntryKeyWrong : ChangeSpec := { name := "fnExactEntryKey", fn := fun _ => fun
  | [d1, d2] => { results := [.lit (.bool false)], args := [d1, d2] }
  | _ => none }
def FnExactEntryKeyWrongFalsely : Prop := fnExactEntryKeyRow.holds Try.pinned (OpenSpec.ofChange fnExactEntryKeyWrong)

/-- 'laws.FnExactUsedGroups': WHATEVER THE INPUT: true; the input reads as it did. -/
def fnExactUsedGroupsSpec : ChangeSpec := { name := "fnExactUsedGroups", fn := fun _ => fun
  | [d1, d2] => { results := [.lit (.bool true)], args := [d1, d2] }
  | _ => none }
def fnExactUsedGroupsRow : OpenClaim := { program := "ytidcnmjdlkgclaa", sum := "b3574c97478a23ea73831d392c89a6ded7b0c956b082731fe7a84c51241cd2a5", func := "loop.example/g03013/laws.FnExactUsedGroups", spec := "fnExactUsedGroups", recurses := true, loops := true, apart := false }
def FnExactUsedGroupsSaid : Prop := fnExactUsedGroupsRow.holds Try.pinned (OpenSpec.ofChange fnExactUsedGroupsSpec)

/-- ITS FALSE NEIGHBOUR: 'it returns false'. Refute it at one input. -/
def fnExactUsedGroupsWrong : ChangeSpec := { name := "fnExactUsedGroups", fn := fun _ => fun
  | [d1, d2] => { results := [.lit (.bool false)], args := [d1, d2] }
  | _ => none }
def FnExactUsedGroupsWrongFalsely : Prop := fnExactUsedGroupsRow.holds Try.pinned (OpenSpec.ofChange fnExactUsedGroupsWrong)

/-- 'laws.FnExactDataKids': WHATEVER THE INPUT: true; the input reads as it did. -/
def fnExactDataKidsSpec : ChangeSpec := { name := "fnExactDataKids", fn := fun _ => fun
  | [d] => { results := [.lit (.bool true)], args := [d] }
  | _ => none }
def fnExactDataKidsRow : OpenClaim := { program := "ytidcnmjdlkgclaa", sum := "b3574c97478a23ea73831d392c89a6ded7b0c956b082731fe7a84c51241cd2a5", func := "loop.example/g03013/laws.FnExactDataKids", spec := "fnExactDataKids", recurses := true, loops := true, apart := false }
def FnExactDataKidsSaid : Prop := fnExactDataKidsRow.holds Try.pinned (OpenSpec.ofChange fnExactDataKidsSpec)

/-- ITS FALSE NEIGHBOUR: 'it returns false'. Refute it at one input. -/
def fnExactDataKidsWrong : ChangeSpec := { name := "fnExactDataKids", fn := fun _ => fun
  | [d] => { results := [.lit (.bool false)], args := [d] }
  | _ => none }
def FnExactDataKidsWrongFalsely : Prop := fnExactDataKidsRow.holds Try.pinned (OpenSpec.ofChange fnExactDataKidsWrong)

/-- 'laws.FnExactPathTo': WHATEVER THE INPUT: true; the input reads as it did. -/
def fnExactPathToSpec : ChangeSpec := { name := "fnExactPathTo", fn := fun _ => fun
  | [d1, d2, d3] => { results := [.lit (.bool true)], args := [d1, d2, d3] }
  | _ => none }
def fnExactPathToRow : OpenClaim := { program := "ytidcnmjdlkgclaa", sum := "b3574c97478a23ea73831d392c89a6ded7b0c956b082731fe7a84c51241cd2a5", func := "loop.example/g03013/laws.FnExactPathTo", spec := "fnExactPathTo", unfollowed := true, recurses := true, loops := true, apart := false }
def FnExactPathToSaid : Prop := fnExactPathToRow.holds Try.pinned (OpenSpec.ofChange fnExactPathToSpec)

/-- ITS FALSE NEIGHBOUR: 'it returns false'. Refute it at one input. -/
def fnExactPathToWrong : ChangeSpec := { name := "fnExactPathTo", fn := fun _ => fun
  | [d1, d2, d3] => { results := [.lit (.bool false)], args := [d1, d2, d3] }
  | _ => none }
def FnExactPathToWrongFalsely : Prop := fnExactPathToRow.holds Try.pinned (OpenSpec.ofChange fnExactPathToWrong)

/-- 'laws.FnExactFindNode': WHATEVER THE INPUT: true; the input reads as it did. -/
def fnExactFindNodeSpec : ChangeSpec := { name := "fnExactFindNode", fn := fun _ => fun
  | [d1, d2] => { results := [.lit (.bool true)], args := [d1, d2] }
  | _ => none }
def fnExactFindNodeRow : OpenClaim := { program := "ytidcnmjdlkgclaa", sum := "b3574c97478a23ea73831d392c89a6ded7b0c956b082731fe7a84c51241cd2a5", func := "loop.example/g03013/laws.FnExactFindNode", spec := "fnExactFindNode", recurses := true, loops := true, apart := false }
def FnExactFindNodeSaid : Prop := fnExactFindNodeRow.holds Try.pinned (OpenSpec.ofChange fnExactFindNodeSpec)

/-- ITS FALSE NEIGHBOUR: 'it returns false'. Refute it at one input. -/
def fnExactFindNodeWrong : ChangeSpec := { name := "fnExactFindNode", fn := fun _ => fun
  | [d1, d2] => { results := [.lit (.bool false)], args := [d1, d2] }
  | _ => none }
def FnExactFindNodeWrongFalsely : Prop := fnExactFindNodeRow.holds Try.pinned (OpenSpec.ofChange fnExactFindNodeWrong)

/- THE SECOND FORM. 'bulk': how many values and letters a reading holds, each counted each time it is reached (what is shared counts as often as it is met; a slice's spare places count too). A statement '..UptoSaid' is the law's where the arguments, and the package variables that the reading takes, are together of bulk at most 1048576: NARROWER than '..Said'. Prove '..Said' where nothing that the law and all that it calls make is longer than what came in: it says more and counts as full. Else prove '..UptoSaid'. A law counts once. -/
mutual
def uptoBulk {H : Type} : DataW H → Nat
  | .lit (.string bytes) => bytes.length + 1
  | .lit _ => 1
  | .nil => 1
  | .ptr d => uptoBulk d + 1
  | .slice elems spare => uptoBulkAll elems + uptoBulkAll spare + 1
  | .agg parts => uptoBulkAll parts + 1
  | .iface _ d => uptoBulk d + 1
  | .map entries => uptoBulkEntries entries + 1
  | .held _ => 1
def uptoBulkAll {H : Type} : List (DataW H) → Nat
  | [] => 0
  | d :: r => uptoBulk d + uptoBulkAll r
def uptoBulkEntries {H : Type} : List (Lit × DataW H) → Nat
  | [] => 0
  | x :: r => uptoBulkEntry x + uptoBulkEntries r
def uptoBulkEntry {H : Type} : Lit × DataW H → Nat
  | (.string bytes, d) => bytes.length + uptoBulk d + 1
  | (_, d) => uptoBulk d + 1
 end
def uptoSmall : (H : Type) → List (DataW H) → Bool := fun _ ds => decide (uptoBulkAll ds ≤ 1048576)
def OpenSpec.upto (s : _root_.Go.ChangeSpec) : _root_.Go.OpenSpec := { _root_.Go.OpenSpec.ofChange s with cond := some uptoSmall }

/-- 'laws.FnQuoted', WHERE WHAT IT READS IS OF BULK AT MOST 1048576: true; the input reads as it did. -/
def fnQuotedUptoRow : OpenClaim := { program := "ytidcnmjdlkgclaa", sum := "b3574c97478a23ea73831d392c89a6ded7b0c956b082731fe7a84c51241cd2a5", func := "loop.example/g03013/laws.FnQuoted", spec := "fnQuoted", recurses := true, apart := false, narrowed := true }
def FnQuotedUptoSaid : Prop := fnQuotedUptoRow.holds Try.pinned (OpenSpec.upto fnQuotedSpec)

/-- 'laws.FnExactNormalRanges', WHERE WHAT IT READS IS OF BULK AT MOST 1048576: true; the input reads as it did. -/
def fnExactNormalRangesUptoRow : OpenClaim := { program := "ytidcnmjdlkgclaa", sum := "b3574c97478a23ea73831d392c89a6ded7b0c956b082731fe7a84c51241cd2a5", func := "loop.example/g03013/laws.FnExactNormalRanges", spec := "fnExactNormalRanges", unfollowed := true, recurses := true, apart := false, narrowed := true }
def FnExactNormalRangesUptoSaid : Prop := fnExactNormalRangesUptoRow.holds Try.pinned (OpenSpec.upto fnExactNormalRangesSpec)

/-- 'laws.FnExactMeetRanges', WHERE WHAT IT READS IS OF BULK AT MOST 1048576: true; the input reads as it did. -/
def fnExactMeetRangesUptoRow : OpenClaim := { program := "ytidcnmjdlkgclaa", sum := "b3574c97478a23ea73831d392c89a6ded7b0c956b082731fe7a84c51241cd2a5", func := "loop.example/g03013/laws.FnExactMeetRanges", spec := "fnExactMeetRanges", unfollowed := true, recurses := true, apart := false, narrowed := true }
def FnExactMeetRangesUptoSaid : Prop := fnExactMeetRangesUptoRow.holds Try.pinned (OpenSpec.upto fnExactMeetRangesSpec)

/-- 'laws.FnExactCountSchema', WHERE WHAT IT READS IS OF BULK AT MOST 1048576: true; the input reads as it did. -/
def fnExactCountSchemaUptoRow : OpenClaim := { program := "ytidcnmjdlkgclaa", sum := "b3574c97478a23ea73831d392c89a6ded7b0c956b082731fe7a84c51241cd2a5", func := "loop.example/g03013/laws.FnExactCountSchema", spec := "fnExactCountSchema", recurses := true, loops := true, apart := false, narrowed := true }
def FnExactCountSchemaUptoSaid : Prop := fnExactCountSchemaUptoRow.holds Try.pinned (OpenSpec.upto fnExactCountSchemaSpec)

/-- 'laws.FnExactSelectPlaces', WHERE WHAT IT READS IS OF BULK AT MOST 1048576: true; the input reads as it did. -/
def fnExactSelectPlacesUptoRow : OpenClaim := { program := "ytidcnmjdlkgclaa", sum := "b3574c97478a23ea73831d392c89a6ded7b0c956b082731fe7a84c51241cd2a5", func := "loop.example/g03013/laws.FnExactSelectPlaces", spec := "fnExactSelectPlaces", unfollowed := true, recurses := true, loops := true, apart := false, narrowed := true }
def FnExactSelectPlacesUptoSaid : Prop := fnExactSelectPlacesUptoRow.holds Try.pinned (OpenSpec.upto fnExactSelectPlacesSpec)

/-- 'laws.FnExactValuesAt', WHERE WHAT IT READS IS OF BULK AT MOST 1048576: true; the input reads as it did. -/
def fnExactValuesAtUptoRow : OpenClaim := { program := "ytidcnmjdlkgclaa", sum := "b3574c97478a23ea73831d392c89a6ded7b0c956b082731fe7a84c51241cd2a5", func := "loop.example/g03013/laws.FnExactValuesAt", spec := "fnExactValuesAt", unfollowed := true, recurses := true, loops := true, apart := false, narrowed := true }
def FnExactValuesAtUptoSaid : Prop := fnExactValuesAtUptoRow.holds Try.pinned (OpenSpec.upto fnExactValuesAtSpec)

/-- 'laws.FnExactEntryKey', WHERE WHAT IT READS IS OF BULK AT MOST 1048576: true; the input reads as it did. -/
def fnExactEntryKeyUptoRow : OpenClaim := { program := "ytidcnmjdlkgclaa", sum := "b3574c97478a23ea73831d392c89a6ded7b0c956b082731fe7a84c51241cd2a5", func := "loop.example/g03013/laws.FnExactEntryKey", spec := "fnExactEntryKey", unfollowed := true, recurses := true, loops := true, apart := false, narrowed := true }
def FnExactEntryKeyUptoSaid : Prop := fnExactEntryKeyUptoRow.holds Try.pinned (OpenSpec.upto fnExactEntryKeySpec)

/-- 'laws.FnExactUsedGroups', WHERE WHAT IT READS IS OF BULK AT MOST 1048576: true; the input reads as it did. -/
def fnExactUsedGroupsUptoRow : OpenClaim := { program := "ytidcnmjdlkgclaa", sum := "b3574c97478a23ea73831d392c89a6ded7b0c956b082731fe7a84c51241cd2a5", func := "loop.example/g03013/laws.FnExactUsedGroups", spec := "fnExactUsedGroups", recurses := true, loops := true, apart := false, narrowed := true }
def FnExactUsedGroupsUptoSaid : Prop := fnExactUsedGroupsUptoRow.holds Try.pinned (OpenSpec.upto fnExactUsedGroupsSpec)

/-- 'laws.FnExactDataKids', WHERE WHAT IT READS IS OF BULK AT MOST 1048576: true; the input reads as it did. -/
def fnExactDataKidsUptoRow : OpenClaim := { program := "ytidcnmjdlkgclaa", sum := "b3574c97478a23ea73831d392c89a6ded7b0c956b082731fe7a84c51241cd2a5", func := "loop.example/g03013/laws.FnExactDataKids", spec := "fnExactDataKids", recurses := true, loops := true, apart := false, narrowed := true }
def FnExactDataKidsUptoSaid : Prop := fnExactDataKidsUptoRow.holds Try.pinned (OpenSpec.upto fnExactDataKidsSpec)

/-- 'laws.FnExactPathTo', WHERE WHAT IT READS IS OF BULK AT MOST 1048576: true; the input reads as it did. -/
def fnExactPathToUptoRow : OpenClaim := { program := "ytidcnmjdlkgclaa", sum := "b3574c97478a23ea73831d392c89a6ded7b0c956b082731fe7a84c51241cd2a5", func := "loop.example/g03013/laws.FnExactPathTo", spec := "fnExactPathTo", unfollowed := true, recurses := true, loops := true, apart := false, narrowed := true }
def FnExactPathToUptoSaid : Prop := fnExactPathToUptoRow.holds Try.pinned (OpenSpec.upto fnExactPathToSpec)

/-- 'laws.FnExactFindNode', WHERE WHAT IT READS IS OF BULK AT MOST 1048576: true; the input reads as it did. -/
def fnExactFindNodeUptoRow : OpenClaim := { program := "ytidcnmjdlkgclaa", sum := "b3574c97478a23ea73831d392c89a6ded7b0c956b082731fe7a84c51241cd2a5", func := "loop.example/g03013/laws.FnExactFindNode", spec := "fnExactFindNode", recurses := true, loops := true, apart := false, narrowed := true }
def FnExactFindNodeUptoSaid : Prop := fnExactFindNodeUptoRow.holds Try.pinned (OpenSpec.upto fnExactFindNodeSpec)

end Rows
end Go.Proofs.Ytidcnmjdlkgclaa
