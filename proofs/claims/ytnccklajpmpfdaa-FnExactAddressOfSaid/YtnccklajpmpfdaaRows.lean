/-
  NARROWER THAN 'FOR EVERY INPUT', by the rows' own cells (each row's printed sentence says how): FnExactCountTree: loops · FnExactSameTree: loops · FnExactMatchPattern: loops · FnExactAddressOf: loops · FnExactNodeAt: loops.
  DERIVED. THE GIVEN ROWS OF THIS SEAT. 9 by the template 'for every input the law returns true; each argument reads behind the call as it read before'; 0 by the template 'total and deterministic' (their statements: YtnccklajpmpfdaaTotals.lean).
  GIVEN WITH THE SEED: the statements are not yours to turn. If you find one false, say at which input.
  Laid BY PROGRAM, IN A SANDBOX (cutbox-rows.mjs): the forced cells as the released guide's own fill.sh prints them over the translation c796ffa3f4fac407… (all of the seat's roots in one cut). By AI agents, Wed Nov 11 2026. No macro, syntax, notation, axiom, sorry.
-/
import Derived.Test.YtnccklajpmpfdaaChecked
import GoSem.Claim
import GoSem.ClaimJoined
import GoSem.ClaimMapViews
import Derived.JoinedTies
import Derived.KernelRfl
namespace Go.Proofs.Ytnccklajpmpfdaa
/- THE CELL 'sum', in the pinned program and in every row, IS THE sha256 OF THE DUMP (.gsa) THAT YtnccklajpmpfdaaProg.lean LOADS. Nothing in Lean hashes anything: it is a label: what it is worth is what the hold of that sum in a sandbox is worth. -/
noncomputable def Try.pinned : Pinned := { name := "ytnccklajpmpfdaa", sum := "c796ffa3f4fac407387d198a485b6e6e699e96e178c388e1bb8b4ec73153b015", checked := Try.checked }
namespace Rows
def none {H : Type} : Left H := { results := [], args := [] }

/-- 'laws.FnExactCountTree': WHATEVER THE INPUT: true; the input reads as it did. -/
def fnExactCountTreeSpec : ChangeSpec := { name := "fnExactCountTree", fn := fun _ => fun
  | [d] => { results := [.lit (.bool true)], args := [d] }
  | _ => none }
def fnExactCountTreeRow : OpenClaim := { program := "ytnccklajpmpfdaa", sum := "c796ffa3f4fac407387d198a485b6e6e699e96e178c388e1bb8b4ec73153b015", func := "loop.example/g03013/laws.FnExactCountTree", spec := "fnExactCountTree", recurses := true, loops := true, apart := false }
def FnExactCountTreeSaid : Prop := fnExactCountTreeRow.holds Try.pinned (OpenSpec.ofChange fnExactCountTreeSpec)

/-- ITS FALSE NEIGHBOUR: 'it returns false'. Refute it at one input. -/
def fnExactCountTreeWrong : ChangeSpec := { name := "fnExactCountTree", fn := fun _ => fun
  | [d] => { results := [.lit (.bool false)], args := [d] }
  | _ => none }
def FnExactCountTreeWrongFalsely : Prop := fnExactCountTreeRow.holds Try.pinned (OpenSpec.ofChange fnExactCountTreeWrong)

/-- 'laws.FnExactSameTree': WHATEVER THE INPUT: true; the input reads as it did. -/
def fnExactSameTreeSpec : ChangeSpec := { name := "fnExactSameTree", fn := fun _ => fun
  | [d1, d2] => { results := [.lit (.bool true)], args := [d1, d2] }
  | _ => none }
def fnExactSameTreeRow : OpenClaim := { program := "ytnccklajpmpfdaa", sum := "c796ffa3f4fac407387d198a485b6e6e699e96e178c388e1bb8b4ec73153b015", func := "loop.example/g03013/laws.FnExactSameTree", spec := "fnExactSameTree", recurses := true, loops := true, apart := false }
def FnExactSameTreeSaid : Prop := fnExactSameTreeRow.holds Try.pinned (OpenSpec.ofChange fnExactSameTreeSpec)

/-- ITS FALSE NEIGHBOUR: 'it returns false'. Refute it at one input. -/
def fnExactSameTreeWrong : ChangeSpec := { name := "fnExactSameTree", fn := fun _ => fun
  | [d1, d2] => { results := [.lit (.bool false)], args := [d1, d2] }
  | _ => none }
def FnExactSameTreeWrongFalsely : Prop := fnExactSameTreeRow.holds Try.pinned (OpenSpec.ofChange fnExactSameTreeWrong)

/-- 'laws.FnExactIsTrue': WHATEVER THE INPUT: true; the input reads as it did. -/
def fnExactIsTrueSpec : ChangeSpec := { name := "fnExactIsTrue", fn := fun _ => fun
  | [d] => { results := [.lit (.bool true)], args := [d] }
  | _ => none }
def fnExactIsTrueRow : OpenClaim := { program := "ytnccklajpmpfdaa", sum := "c796ffa3f4fac407387d198a485b6e6e699e96e178c388e1bb8b4ec73153b015", func := "loop.example/g03013/laws.FnExactIsTrue", spec := "fnExactIsTrue", apart := false }
def FnExactIsTrueSaid : Prop := fnExactIsTrueRow.holds Try.pinned (OpenSpec.ofChange fnExactIsTrueSpec)

/-- ITS FALSE NEIGHBOUR: 'it returns false'. Refute it at one input. -/
def fnExactIsTrueWrong : ChangeSpec := { name := "fnExactIsTrue", fn := fun _ => fun
  | [d] => { results := [.lit (.bool false)], args := [d] }
  | _ => none }
def FnExactIsTrueWrongFalsely : Prop := fnExactIsTrueRow.holds Try.pinned (OpenSpec.ofChange fnExactIsTrueWrong)

/-- 'laws.FnExactMatchPattern': WHATEVER THE INPUT: true; the input reads as it did. -/
def fnExactMatchPatternSpec : ChangeSpec := { name := "fnExactMatchPattern", fn := fun _ => fun
  | [d1, d2] => { results := [.lit (.bool true)], args := [d1, d2] }
  | _ => none }
def fnExactMatchPatternRow : OpenClaim := { program := "ytnccklajpmpfdaa", sum := "c796ffa3f4fac407387d198a485b6e6e699e96e178c388e1bb8b4ec73153b015", func := "loop.example/g03013/laws.FnExactMatchPattern", spec := "fnExactMatchPattern", inPlace := ["internal/bytealg.IndexByteString"], recurses := true, loops := true, apart := false }
def FnExactMatchPatternSaid : Prop := fnExactMatchPatternRow.holds Try.pinned (OpenSpec.ofChange fnExactMatchPatternSpec)

/-- ITS FALSE NEIGHBOUR: 'it returns false'. Refute it at one input. -/
def fnExactMatchPatternWrong : ChangeSpec := { name := "fnExactMatchPattern", fn := fun _ => fun
  | [d1, d2] => { results := [.lit (.bool false)], args := [d1, d2] }
  | _ => none }
def FnExactMatchPatternWrongFalsely : Prop := fnExactMatchPatternRow.holds Try.pinned (OpenSpec.ofChange fnExactMatchPatternWrong)

/-- 'laws.FnExactAddressOf': WHATEVER THE INPUT: true; the input reads as it did. -/
def fnExactAddressOfSpec : ChangeSpec := { name := "fnExactAddressOf", fn := fun _ => fun
  | [d1, d2] => { results := [.lit (.bool true)], args := [d1, d2] }
  | _ => none }
def fnExactAddressOfRow : OpenClaim := { program := "ytnccklajpmpfdaa", sum := "c796ffa3f4fac407387d198a485b6e6e699e96e178c388e1bb8b4ec73153b015", func := "loop.example/g03013/laws.FnExactAddressOf", spec := "fnExactAddressOf", recurses := true, loops := true, apart := false }
def FnExactAddressOfSaid : Prop := fnExactAddressOfRow.holds Try.pinned (OpenSpec.ofChange fnExactAddressOfSpec)

/-- ITS FALSE NEIGHBOUR: 'it returns false'. Refute it at one input. -/
def fnExactAddressOfWrong : ChangeSpec := { name := "fnExactAddressOf", fn := fun _ => fun
  | [d1, d2] => { results := [.lit (.bool false)], args := [d1, d2] }
  | _ => none }
def FnExactAddressOfWrongFalsely : Prop := fnExactAddressOfRow.holds Try.pinned (OpenSpec.ofChange fnExactAddressOfWrong)

/-- 'laws.FnExactSamePath': WHATEVER THE INPUT: true; the input reads as it did. -/
def fnExactSamePathSpec : ChangeSpec := { name := "fnExactSamePath", fn := fun _ => fun
  | [d1, d2] => { results := [.lit (.bool true)], args := [d1, d2] }
  | _ => none }
def fnExactSamePathRow : OpenClaim := { program := "ytnccklajpmpfdaa", sum := "c796ffa3f4fac407387d198a485b6e6e699e96e178c388e1bb8b4ec73153b015", func := "loop.example/g03013/laws.FnExactSamePath", spec := "fnExactSamePath", apart := false }
def FnExactSamePathSaid : Prop := fnExactSamePathRow.holds Try.pinned (OpenSpec.ofChange fnExactSamePathSpec)

/-- ITS FALSE NEIGHBOUR: 'it returns false'. Refute it at one input. -/
def fnExactSamePathWrong : ChangeSpec := { name := "fnExactSamePath", fn := fun _ => fun
  | [d1, d2] => { results := [.lit (.bool false)], args := [d1, d2] }
  | _ => none }
def FnExactSamePathWrongFalsely : Prop := fnExactSamePathRow.holds Try.pinned (OpenSpec.ofChange fnExactSamePathWrong)

/-- 'laws.FnExactJoinTokens': WHATEVER THE INPUT: true; the input reads as it did. -/
def fnExactJoinTokensSpec : ChangeSpec := { name := "fnExactJoinTokens", fn := fun _ => fun
  | [d] => { results := [.lit (.bool true)], args := [d] }
  | _ => none }
def fnExactJoinTokensRow : OpenClaim := { program := "ytnccklajpmpfdaa", sum := "c796ffa3f4fac407387d198a485b6e6e699e96e178c388e1bb8b4ec73153b015", func := "loop.example/g03013/laws.FnExactJoinTokens", spec := "fnExactJoinTokens", inPlace := ["internal/abi.NoEscape", "internal/bytealg.MakeNoZero"], apart := false }
def FnExactJoinTokensSaid : Prop := fnExactJoinTokensRow.holds Try.pinned (OpenSpec.ofChange fnExactJoinTokensSpec)

/-- ITS FALSE NEIGHBOUR: 'it returns false'. Refute it at one input. -/
def fnExactJoinTokensWrong : ChangeSpec := { name := "fnExactJoinTokens", fn := fun _ => fun
  | [d] => { results := [.lit (.bool false)], args := [d] }
  | _ => none }
def FnExactJoinTokensWrongFalsely : Prop := fnExactJoinTokensRow.holds Try.pinned (OpenSpec.ofChange fnExactJoinTokensWrong)

/-- 'laws.FnExactNodeAt': WHATEVER THE INPUT: true; the input reads as it did. -/
def fnExactNodeAtSpec : ChangeSpec := { name := "fnExactNodeAt", fn := fun _ => fun
  | [d1, d2] => { results := [.lit (.bool true)], args := [d1, d2] }
  | _ => none }
def fnExactNodeAtRow : OpenClaim := { program := "ytnccklajpmpfdaa", sum := "c796ffa3f4fac407387d198a485b6e6e699e96e178c388e1bb8b4ec73153b015", func := "loop.example/g03013/laws.FnExactNodeAt", spec := "fnExactNodeAt", recurses := true, loops := true, apart := false }
def FnExactNodeAtSaid : Prop := fnExactNodeAtRow.holds Try.pinned (OpenSpec.ofChange fnExactNodeAtSpec)

/-- ITS FALSE NEIGHBOUR: 'it returns false'. Refute it at one input. -/
def fnExactNodeAtWrong : ChangeSpec := { name := "fnExactNodeAt", fn := fun _ => fun
  | [d1, d2] => { results := [.lit (.bool false)], args := [d1, d2] }
  | _ => none }
def FnExactNodeAtWrongFalsely : Prop := fnExactNodeAtRow.holds Try.pinned (OpenSpec.ofChange fnExactNodeAtWrong)

/-- 'laws.FnExactPlainPath': WHATEVER THE INPUT: true; the input reads as it did. -/
def fnExactPlainPathSpec : ChangeSpec := { name := "fnExactPlainPath", fn := fun _ => fun
  | [d] => { results := [.lit (.bool true)], args := [d] }
  | _ => none }
def fnExactPlainPathRow : OpenClaim := { program := "ytnccklajpmpfdaa", sum := "c796ffa3f4fac407387d198a485b6e6e699e96e178c388e1bb8b4ec73153b015", func := "loop.example/g03013/laws.FnExactPlainPath", spec := "fnExactPlainPath", apart := false }
def FnExactPlainPathSaid : Prop := fnExactPlainPathRow.holds Try.pinned (OpenSpec.ofChange fnExactPlainPathSpec)

/-- ITS FALSE NEIGHBOUR: 'it returns false'. Refute it at one input. -/
def fnExactPlainPathWrong : ChangeSpec := { name := "fnExactPlainPath", fn := fun _ => fun
  | [d] => { results := [.lit (.bool false)], args := [d] }
  | _ => none }
def FnExactPlainPathWrongFalsely : Prop := fnExactPlainPathRow.holds Try.pinned (OpenSpec.ofChange fnExactPlainPathWrong)

/- THE SECOND FORM. 'bulk': how many values and letters a reading holds, each counted each time it is reached (what is shared counts as often as it is met; a slice's spare places count too). A statement '..UptoSaid' is the law's where the arguments, and the package variables that the reading takes, are together of bulk at most 1048576: NARROWER than '..Said'. Prove '..Said' where nothing that the law and all that it calls make is longer than what came in: it says more and counts as full. Else prove '..UptoSaid'. A law counts once. -/
mutual
def uptoBulk {H : Type} : DataW H → Nat
  | .lit (.string bytes) => bytes.length + 1
  | .lit _ => 1
  | .nil => 1
  | .ptr d => uptoBulk d + 1
  | .slice elems spare => uptoBulkAll elems + uptoBulkAll spare + 1
  | .agg parts => uptoBulkAll parts + 1
  | .iface _ d => uptoBulk d + 1
  | .map entries => uptoBulkEntries entries + 1
  | .held _ => 1
def uptoBulkAll {H : Type} : List (DataW H) → Nat
  | [] => 0
  | d :: r => uptoBulk d + uptoBulkAll r
def uptoBulkEntries {H : Type} : List (Lit × DataW H) → Nat
  | [] => 0
  | x :: r => uptoBulkEntry x + uptoBulkEntries r
def uptoBulkEntry {H : Type} : Lit × DataW H → Nat
  | (.string bytes, d) => bytes.length + uptoBulk d + 1
  | (_, d) => uptoBulk d + 1
 end
def uptoSmall : (H : Type) → List (DataW H) → Bool := fun _ ds => decide (uptoBulkAll ds ≤ 1048576)
def OpenSpec.upto (s : _root_.Go.ChangeSpec) : _root_.Go.OpenSpec := { _root_.Go.OpenSpec.ofChange s with cond := some uptoSmall }

/-- 'laws.FnExactCountTree', WHERE WHAT IT READS IS OF BULK AT MOST 1048576: true; the input reads as it did. -/
def fnExactCountTreeUptoRow : OpenClaim := { program := "ytnccklajpmpfdaa", sum := "c796ffa3f4fac407387d198a485b6e6e699e96e178c388e1bb8b4ec73153b015", func := "loop.example/g03013/laws.FnExactCountTree", spec := "fnExactCountTree", recurses := true, loops := true, apart := false, narrowed := true }
def FnExactCountTreeUptoSaid : Prop := fnExactCountTreeUptoRow.holds Try.pinned (OpenSpec.upto fnExactCountTreeSpec)

/-- 'laws.FnExactSameTree', WHERE WHAT IT READS IS OF BULK AT MOST 1048576: true; the input reads as it did. -/
def fnExactSameTreeUptoRow : OpenClaim := { program := "ytnccklajpmpfdaa", sum := "c796ffa3f4fac407387d198a485b6e6e699e96e178c388e1bb8b4ec73153b015", func := "loop.example/g03013/laws.FnExactSameTree", spec := "fnExactSameTree", recurses := true, loops := true, apart := false, narrowed := true }
def FnExactSameTreeUptoSaid : Prop := fnExactSameTreeUptoRow.holds Try.pinned (OpenSpec.upto fnExactSameTreeSpec)

/-- 'laws.FnExactIsTrue', WHERE WHAT IT READS IS OF BULK AT MOST 1048576: true; the input reads as it did. -/
def fnExactIsTrueUptoRow : OpenClaim := { program := "ytnccklajpmpfdaa", sum := "c796ffa3f4fac407387d198a485b6e6e699e96e178c388e1bb8b4ec73153b015", func := "loop.example/g03013/laws.FnExactIsTrue", spec := "fnExactIsTrue", apart := false, narrowed := true }
def FnExactIsTrueUptoSaid : Prop := fnExactIsTrueUptoRow.holds Try.pinned (OpenSpec.upto fnExactIsTrueSpec)

/-- 'laws.FnExactMatchPattern', WHERE WHAT IT READS IS OF BULK AT MOST 1048576: true; the input reads as it did. -/
def fnExactMatchPatternUptoRow : OpenClaim := { program := "ytnccklajpmpfdaa", sum := "c796ffa3f4fac407387d198a485b6e6e699e96e178c388e1bb8b4ec73153b015", func := "loop.example/g03013/laws.FnExactMatchPattern", spec := "fnExactMatchPattern", inPlace := ["internal/bytealg.IndexByteString"], recurses := true, loops := true, apart := false, narrowed := true }
def FnExactMatchPatternUptoSaid : Prop := fnExactMatchPatternUptoRow.holds Try.pinned (OpenSpec.upto fnExactMatchPatternSpec)

/-- 'laws.FnExactAddressOf', WHERE WHAT IT READS IS OF BULK AT MOST 1048576: true; the input reads as it did. -/
def fnExactAddressOfUptoRow : OpenClaim := { program := "ytnccklajpmpfdaa", sum := "c796ffa3f4fac407387d198a485b6e6e699e96e178c388e1bb8b4ec73153b015", func := "loop.example/g03013/laws.FnExactAddressOf", spec := "fnExactAddressOf", recurses := true, loops := true, apart := false, narrowed := true }
def FnExactAddressOfUptoSaid : Prop := fnExactAddressOfUptoRow.holds Try.pinned (OpenSpec.upto fnExactAddressOfSpec)

/-- 'laws.FnExactSamePath', WHERE WHAT IT READS IS OF BULK AT MOST 1048576: true; the input reads as it did. -/
def fnExactSamePathUptoRow : OpenClaim := { program := "ytnccklajpmpfdaa", sum := "c796ffa3f4fac407387d198a485b6e6e699e96e178c388e1bb8b4ec73153b015", func := "loop.example/g03013/laws.FnExactSamePath", spec := "fnExactSamePath", apart := false, narrowed := true }
def FnExactSamePathUptoSaid : Prop := fnExactSamePathUptoRow.holds Try.pinned (OpenSpec.upto fnExactSamePathSpec)

/-- 'laws.FnExactJoinTokens', WHERE WHAT IT READS IS OF BULK AT MOST 1048576: true; the input reads as it did. -/
def fnExactJoinTokensUptoRow : OpenClaim := { program := "ytnccklajpmpfdaa", sum := "c796ffa3f4fac407387d198a485b6e6e699e96e178c388e1bb8b4ec73153b015", func := "loop.example/g03013/laws.FnExactJoinTokens", spec := "fnExactJoinTokens", inPlace := ["internal/abi.NoEscape", "internal/bytealg.MakeNoZero"], apart := false, narrowed := true }
def FnExactJoinTokensUptoSaid : Prop := fnExactJoinTokensUptoRow.holds Try.pinned (OpenSpec.upto fnExactJoinTokensSpec)

/-- 'laws.FnExactNodeAt', WHERE WHAT IT READS IS OF BULK AT MOST 1048576: true; the input reads as it did. -/
def fnExactNodeAtUptoRow : OpenClaim := { program := "ytnccklajpmpfdaa", sum := "c796ffa3f4fac407387d198a485b6e6e699e96e178c388e1bb8b4ec73153b015", func := "loop.example/g03013/laws.FnExactNodeAt", spec := "fnExactNodeAt", recurses := true, loops := true, apart := false, narrowed := true }
def FnExactNodeAtUptoSaid : Prop := fnExactNodeAtUptoRow.holds Try.pinned (OpenSpec.upto fnExactNodeAtSpec)

/-- 'laws.FnExactPlainPath', WHERE WHAT IT READS IS OF BULK AT MOST 1048576: true; the input reads as it did. -/
def fnExactPlainPathUptoRow : OpenClaim := { program := "ytnccklajpmpfdaa", sum := "c796ffa3f4fac407387d198a485b6e6e699e96e178c388e1bb8b4ec73153b015", func := "loop.example/g03013/laws.FnExactPlainPath", spec := "fnExactPlainPath", apart := false, narrowed := true }
def FnExactPlainPathUptoSaid : Prop := fnExactPlainPathUptoRow.holds Try.pinned (OpenSpec.upto fnExactPlainPathSpec)

end Rows
end Go.Proofs.Ytnccklajpmpfdaa
