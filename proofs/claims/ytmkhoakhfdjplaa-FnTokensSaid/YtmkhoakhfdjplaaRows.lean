/-
  NARROWER THAN 'FOR EVERY INPUT', by the rows' own cells (each row's printed sentence says how): FnExactPathsOf: loops · FnExactIsExpr: loops.
  DERIVED. THE GIVEN ROWS OF THIS SEAT. 7 by the template 'for every input the law returns true; each argument reads behind the call as it read before'; 0 by the template 'total and deterministic' (their statements: YtmkhoakhfdjplaaTotals.lean).
  GIVEN WITH THE SEED: the statements are not yours to turn. If you find one false, say at which input.
  Laid BY PROGRAM, IN A SANDBOX (cutbox-rows.mjs): the forced cells as the released guide's own fill.sh prints them over the translation 7b40a596b4b54f1f… (all of the seat's roots in one cut). By AI agents, Wed Nov 11 2026. No macro, syntax, notation, axiom, sorry.
-/
import Derived.Test.YtmkhoakhfdjplaaChecked
import GoSem.Claim
import GoSem.ClaimJoined
import GoSem.ClaimMapViews
import Derived.JoinedTies
import Derived.KernelRfl
namespace Go.Proofs.Ytmkhoakhfdjplaa
/- THE CELL 'sum', in the pinned program and in every row, IS THE sha256 OF THE DUMP (.gsa) THAT YtmkhoakhfdjplaaProg.lean LOADS. Nothing in Lean hashes anything: it is a label: what it is worth is what the hold of that sum in a sandbox is worth. -/
noncomputable def Try.pinned : Pinned := { name := "ytmkhoakhfdjplaa", sum := "7b40a596b4b54f1f9a5a3a554d731585e7ebe01d58797a0f122a880005ba6d3f", checked := Try.checked }
namespace Rows
def none {H : Type} : Left H := { results := [], args := [] }

/-- 'laws.FnExactIsPath': WHATEVER THE INPUT: true; the input reads as it did. -/
def fnExactIsPathSpec : ChangeSpec := { name := "fnExactIsPath", fn := fun _ => fun
  | [d] => { results := [.lit (.bool true)], args := [d] }
  | _ => none }
def fnExactIsPathRow : OpenClaim := { program := "ytmkhoakhfdjplaa", sum := "7b40a596b4b54f1f9a5a3a554d731585e7ebe01d58797a0f122a880005ba6d3f", func := "loop.example/g03013/laws.FnExactIsPath", spec := "fnExactIsPath", apart := false }
def FnExactIsPathSaid : Prop := fnExactIsPathRow.holds Try.pinned (OpenSpec.ofChange fnExactIsPathSpec)

/-- ITS FALSE NEIGHBOUR: 'it returns false'. Refute it at one input. -/
def fnExactIsPathWrong : ChangeSpec := { name := "fnExactIsPath", fn := fun _ => fun
  | [d] => { results := [.lit (.bool false)], args := [d] }
  | _ => none }
def FnExactIsPathWrongFalsely : Prop := fnExactIsPathRow.holds Try.pinned (OpenSpec.ofChange fnExactIsPathWrong)

/-- 'laws.FnExactLex': WHATEVER THE INPUT: true; the input reads as it did. -/
def fnExactLexSpec : ChangeSpec := { name := "fnExactLex", fn := fun _ => fun
  | [d] => { results := [.lit (.bool true)], args := [d] }
  | _ => none }
def fnExactLexRow : OpenClaim := { program := "ytmkhoakhfdjplaa", sum := "7b40a596b4b54f1f9a5a3a554d731585e7ebe01d58797a0f122a880005ba6d3f", func := "loop.example/g03013/laws.FnExactLex", spec := "fnExactLex", inPlace := ["internal/bytealg.IndexByteString"], apart := false }
def FnExactLexSaid : Prop := fnExactLexRow.holds Try.pinned (OpenSpec.ofChange fnExactLexSpec)

/-- ITS FALSE NEIGHBOUR: 'it returns false'. Refute it at one input. -/
def fnExactLexWrong : ChangeSpec := { name := "fnExactLex", fn := fun _ => fun
  | [d] => { results := [.lit (.bool false)], args := [d] }
  | _ => none }
def FnExactLexWrongFalsely : Prop := fnExactLexRow.holds Try.pinned (OpenSpec.ofChange fnExactLexWrong)

/-- 'laws.FnTokens': WHATEVER THE INPUT: true; the input reads as it did. -/
def fnTokensSpec : ChangeSpec := { name := "fnTokens", fn := fun _ => fun
  | [d] => { results := [.lit (.bool true)], args := [d] }
  | _ => none }
def fnTokensRow : OpenClaim := { program := "ytmkhoakhfdjplaa", sum := "7b40a596b4b54f1f9a5a3a554d731585e7ebe01d58797a0f122a880005ba6d3f", func := "loop.example/g03013/laws.FnTokens", spec := "fnTokens", inPlace := ["internal/abi.NoEscape", "internal/bytealg.MakeNoZero", "internal/bytealg.IndexByteString"], apart := false }
def FnTokensSaid : Prop := fnTokensRow.holds Try.pinned (OpenSpec.ofChange fnTokensSpec)

/-- ITS FALSE NEIGHBOUR: 'it returns false'. Refute it at one input. -/
def fnTokensWrong : ChangeSpec := { name := "fnTokens", fn := fun _ => fun
  | [d] => { results := [.lit (.bool false)], args := [d] }
  | _ => none }
def FnTokensWrongFalsely : Prop := fnTokensRow.holds Try.pinned (OpenSpec.ofChange fnTokensWrong)

/-- 'laws.FnExactPathsOf': WHATEVER THE INPUT: true; the input reads as it did. -/
def fnExactPathsOfSpec : ChangeSpec := { name := "fnExactPathsOf", fn := fun _ => fun
  | [d] => { results := [.lit (.bool true)], args := [d] }
  | _ => none }
def fnExactPathsOfRow : OpenClaim := { program := "ytmkhoakhfdjplaa", sum := "7b40a596b4b54f1f9a5a3a554d731585e7ebe01d58797a0f122a880005ba6d3f", func := "loop.example/g03013/laws.FnExactPathsOf", spec := "fnExactPathsOf", recurses := true, loops := true, apart := false }
def FnExactPathsOfSaid : Prop := fnExactPathsOfRow.holds Try.pinned (OpenSpec.ofChange fnExactPathsOfSpec)

/-- ITS FALSE NEIGHBOUR: 'it returns false'. Refute it at one input. -/
def fnExactPathsOfWrong : ChangeSpec := { name := "fnExactPathsOf", fn := fun _ => fun
  | [d] => { results := [.lit (.bool false)], args := [d] }
  | _ => none }
def FnExactPathsOfWrongFalsely : Prop := fnExactPathsOfRow.holds Try.pinned (OpenSpec.ofChange fnExactPathsOfWrong)

/-- 'laws.FnExactFormatPath': WHATEVER THE INPUT: true; the input reads as it did. -/
def fnExactFormatPathSpec : ChangeSpec := { name := "fnExactFormatPath", fn := fun _ => fun
  | [d] => { results := [.lit (.bool true)], args := [d] }
  | _ => none }
def fnExactFormatPathRow : OpenClaim := { program := "ytmkhoakhfdjplaa", sum := "7b40a596b4b54f1f9a5a3a554d731585e7ebe01d58797a0f122a880005ba6d3f", func := "loop.example/g03013/laws.FnExactFormatPath", spec := "fnExactFormatPath", inPlace := ["internal/abi.NoEscape", "internal/bytealg.MakeNoZero"], apart := false }
def FnExactFormatPathSaid : Prop := fnExactFormatPathRow.holds Try.pinned (OpenSpec.ofChange fnExactFormatPathSpec)

/-- ITS FALSE NEIGHBOUR: 'it returns false'. Refute it at one input. -/
def fnExactFormatPathWrong : ChangeSpec := { name := "fnExactFormatPath", fn := fun _ => fun
  | [d] => { results := [.lit (.bool false)], args := [d] }
  | _ => none }
def FnExactFormatPathWrongFalsely : Prop := fnExactFormatPathRow.holds Try.pinned (OpenSpec.ofChange fnExactFormatPathWrong)

/-- 'laws.FnExactIsExpr': WHATEVER THE INPUT: true; the input reads as it did. -/
def fnExactIsExprSpec : ChangeSpec := { name := "fnExactIsExpr", fn := fun _ => fun
  | [d] => { results := [.lit (.bool true)], args := [d] }
  | _ => none }
def fnExactIsExprRow : OpenClaim := { program := "ytmkhoakhfdjplaa", sum := "7b40a596b4b54f1f9a5a3a554d731585e7ebe01d58797a0f122a880005ba6d3f", func := "loop.example/g03013/laws.FnExactIsExpr", spec := "fnExactIsExpr", recurses := true, loops := true, apart := false }
def FnExactIsExprSaid : Prop := fnExactIsExprRow.holds Try.pinned (OpenSpec.ofChange fnExactIsExprSpec)

/-- ITS FALSE NEIGHBOUR: 'it returns false'. Refute it at one input. -/
def fnExactIsExprWrong : ChangeSpec := { name := "fnExactIsExpr", fn := fun _ => fun
  | [d] => { results := [.lit (.bool false)], args := [d] }
  | _ => none }
def FnExactIsExprWrongFalsely : Prop := fnExactIsExprRow.holds Try.pinned (OpenSpec.ofChange fnExactIsExprWrong)

/-- 'laws.FnExactSortTexts': WHATEVER THE INPUT: true; the input reads as it did. -/
def fnExactSortTextsSpec : ChangeSpec := { name := "fnExactSortTexts", fn := fun _ => fun
  | [d] => { results := [.lit (.bool true)], args := [d] }
  | _ => none }
def fnExactSortTextsRow : OpenClaim := { program := "ytmkhoakhfdjplaa", sum := "7b40a596b4b54f1f9a5a3a554d731585e7ebe01d58797a0f122a880005ba6d3f", func := "loop.example/g03013/laws.FnExactSortTexts", spec := "fnExactSortTexts", recurses := true, apart := false }
def FnExactSortTextsSaid : Prop := fnExactSortTextsRow.holds Try.pinned (OpenSpec.ofChange fnExactSortTextsSpec)

/-- ITS FALSE NEIGHBOUR: 'it returns false'. Refute it at one input. -/
def fnExactSortTextsWrong : ChangeSpec := { name := "fnExactSortTexts", fn := fun _ => fun
  | [d] => { results := [.lit (.bool false)], args := [d] }
  | _ => none }
def FnExactSortTextsWrongFalsely : Prop := fnExactSortTextsRow.holds Try.pinned (OpenSpec.ofChange fnExactSortTextsWrong)

/- THE SECOND FORM. 'bulk': how many values and letters a reading holds, each counted each time it is reached (what is shared counts as often as it is met; a slice's spare places count too). A statement '..UptoSaid' is the law's where the arguments, and the package variables that the reading takes, are together of bulk at most 1048576: NARROWER than '..Said'. Prove '..Said' where nothing that the law and all that it calls make is longer than what came in: it says more and counts as full. Else prove '..UptoSaid'. A law counts once. -/
mutual
def uptoBulk {H : Type} : DataW H → Nat
  | .lit (.string bytes) => bytes.length + 1
  | .lit _ => 1
  | .nil => 1
  | .ptr d => uptoBulk d + 1
  | .slice elems spare => uptoBulkAll elems + uptoBulkAll spare + 1
  | .agg parts => uptoBulkAll parts + 1
  | .iface _ d => uptoBulk d + 1
  | .map entries => uptoBulkEntries entries + 1
  | .held _ => 1
def uptoBulkAll {H : Type} : List (DataW H) → Nat
  | [] => 0
  | d :: r => uptoBulk d + uptoBulkAll r
def uptoBulkEntries {H : Type} : List (Lit × DataW H) → Nat
  | [] => 0
  | x :: r => uptoBulkEntry x + uptoBulkEntries r
def uptoBulkEntry {H : Type} : Lit × DataW H → Nat
  | (.string bytes, d) => bytes.length + uptoBulk d + 1
  | (_, d) => uptoBulk d + 1
 end
def uptoSmall : (H : Type) → List (DataW H) → Bool := fun _ ds => decide (uptoBulkAll ds ≤ 1048576)
def OpenSpec.upto (s : _root_.Go.ChangeSpec) : _root_.Go.OpenSpec := { _root_.Go.OpenSpec.ofChange s with cond := some uptoSmall }

/-- 'laws.FnExactIsPath', WHERE WHAT IT READS IS OF BULK AT MOST 1048576: true; the input reads as it did. -/
def fnExactIsPathUptoRow : OpenClaim := { program := "ytmkhoakhfdjplaa", sum := "7b40a596b4b54f1f9a5a3a554d731585e7ebe01d58797a0f122a880005ba6d3f", func := "loop.example/g03013/laws.FnExactIsPath", spec := "fnExactIsPath", apart := false, narrowed := true }
def FnExactIsPathUptoSaid : Prop := fnExactIsPathUptoRow.holds Try.pinned (OpenSpec.upto fnExactIsPathSpec)

/-- 'laws.FnExactLex', WHERE WHAT IT READS IS OF BULK AT MOST 1048576: true; the input reads as it did. -/
def fnExactLexUptoRow : OpenClaim := { program := "ytmkhoakhfdjplaa", sum := "7b40a596b4b54f1f9a5a3a554d731585e7ebe01d58797a0f122a880005ba6d3f", func := "loop.example/g03013/laws.FnExactLex", spec := "fnExactLex", inPlace := ["internal/bytealg.IndexByteString"], apart := false, narrowed := true }
def FnExactLexUptoSaid : Prop := fnExactLexUptoRow.holds Try.pinned (OpenSpec.upto fnExactLexSpec)

/-- 'laws.FnTokens', WHERE WHAT IT READS IS OF BULK AT MOST 1048576: true; the input reads as it did. -/
def fnTokensUptoRow : OpenClaim := { program := "ytmkhoakhfdjplaa", sum := "7b40a596b4b54f1f9a5a3a554d731585e7ebe01d58797a0f122a880005ba6d3f", func := "loop.example/g03013/laws.FnTokens", spec := "fnTokens", inPlace := ["internal/abi.NoEscape", "internal/bytealg.MakeNoZero", "internal/bytealg.IndexByteString"], apart := false, narrowed := true }
def FnTokensUptoSaid : Prop := fnTokensUptoRow.holds Try.pinned (OpenSpec.upto fnTokensSpec)

/-- 'laws.FnExactPathsOf', WHERE WHAT IT READS IS OF BULK AT MOST 1048576: true; the input reads as it did. -/
def fnExactPathsOfUptoRow : OpenClaim := { program := "ytmkhoakhfdjplaa", sum := "7b40a596b4b54f1f9a5a3a554d731585e7ebe01d58797a0f122a880005ba6d3f", func := "loop.example/g03013/laws.FnExactPathsOf", spec := "fnExactPathsOf", recurses := true, loops := true, apart := false, narrowed := true }
def FnExactPathsOfUptoSaid : Prop := fnExactPathsOfUptoRow.holds Try.pinned (OpenSpec.upto fnExactPathsOfSpec)

/-- 'laws.FnExactFormatPath', WHERE WHAT IT READS IS OF BULK AT MOST 1048576: true; the input reads as it did. -/
def fnExactFormatPathUptoRow : OpenClaim := { program := "ytmkhoakhfdjplaa", sum := "7b40a596b4b54f1f9a5a3a554d731585e7ebe01d58797a0f122a880005ba6d3f", func := "loop.example/g03013/laws.FnExactFormatPath", spec := "fnExactFormatPath", inPlace := ["internal/abi.NoEscape", "internal/bytealg.MakeNoZero"], apart := false, narrowed := true }
def FnExactFormatPathUptoSaid : Prop := fnExactFormatPathUptoRow.holds Try.pinned (OpenSpec.upto fnExactFormatPathSpec)

/-- 'laws.FnExactIsExpr', WHERE WHAT IT READS IS OF BULK AT MOST 1048576: true; the input reads as it did. -/
def fnExactIsExprUptoRow : OpenClaim := { program := "ytmkhoakhfdjplaa", sum := "7b40a596b4b54f1f9a5a3a554d731585e7ebe01d58797a0f122a880005ba6d3f", func := "loop.example/g03013/laws.FnExactIsExpr", spec := "fnExactIsExpr", recurses := true, loops := true, apart := false, narrowed := true }
def FnExactIsExprUptoSaid : Prop := fnExactIsExprUptoRow.holds Try.pinned (OpenSpec.upto fnExactIsExprSpec)

/-- 'laws.FnExactSortTexts', WHERE WHAT IT READS IS OF BULK AT MOST 1048576: true; the input reads as it did. -/
def fnExactSortTextsUptoRow : OpenClaim := { program := "ytmkhoakhfdjplaa", sum := "7b40a596b4b54f1f9a5a3a554d731585e7ebe01d58797a0f122a880005ba6d3f", func := "loop.example/g03013/laws.FnExactSortTexts", spec := "fnExactSortTexts", recurses := true, apart := false, narrowed := true }
def FnExactSortTextsUptoSaid : Prop := fnExactSortTextsUptoRow.holds Try.pinned (OpenSpec.upto fnExactSortTextsSpec)

end Rows
end Go.Proofs.Ytmkhoakhfdjplaa
