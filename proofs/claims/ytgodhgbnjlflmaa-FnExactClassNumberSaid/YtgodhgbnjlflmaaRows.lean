/-
  No cell of these rows narrows 'for every input' (looked for: loops, veiled, ifaces, maps, wideKeys, modest, calm, conditions, laid).
  DERIVED. THE GIVEN ROWS OF THIS SEAT. 12 by the template 'for every input the law returns true; each argument reads behind the call as it read before'; 0 by the template 'total and deterministic' (their statements: YtgodhgbnjlflmaaTotals.lean).
  GIVEN WITH THE SEED: the statements are not yours to turn. If you find one false, say at which input.
  Laid BY PROGRAM, IN A SANDBOX (cutbox-rows.mjs): the forced cells as the released guide's own fill.sh prints them over the translation ba4ae7524afa03ce… (all of the seat's roots in one cut). By AI agents, Wed Nov 11 2026. No macro, syntax, notation, axiom, sorry.
-/
import Derived.Test.YtgodhgbnjlflmaaChecked
import GoSem.Claim
import GoSem.ClaimJoined
import GoSem.ClaimMapViews
import Derived.JoinedTies
import Derived.KernelRfl
namespace Go.Proofs.Ytgodhgbnjlflmaa
/- THE CELL 'sum', in the pinned program and in every row, IS THE sha256 OF THE DUMP (.gsa) THAT YtgodhgbnjlflmaaProg.lean LOADS. Nothing in Lean hashes anything: it is a label: what it is worth is what the hold of that sum in a sandbox is worth. -/
noncomputable def Try.pinned : Pinned := { name := "ytgodhgbnjlflmaa", sum := "ba4ae7524afa03ce6dc623a6bb7013dcef7adb5e77ab9fd8b5a01d10b481185f", checked := Try.checked }
namespace Rows
def none {H : Type} : Left H := { results := [], args := [] }

/-- 'laws.FnExactNestedSum': WHATEVER THE INPUT: true; the input reads as it did. -/
def fnExactNestedSumSpec : ChangeSpec := { name := "fnExactNestedSum", fn := fun _ => fun
  | [d1, d2, d3, d4] => { results := [.lit (.bool true)], args := [d1, d2, d3, d4] }
  | _ => none }
def fnExactNestedSumRow : OpenClaim := { program := "ytgodhgbnjlflmaa", sum := "ba4ae7524afa03ce6dc623a6bb7013dcef7adb5e77ab9fd8b5a01d10b481185f", func := "loop.example/g01245/laws.FnExactNestedSum", spec := "fnExactNestedSum", apart := false }
def FnExactNestedSumSaid : Prop := fnExactNestedSumRow.holds Try.pinned (OpenSpec.ofChange fnExactNestedSumSpec)

/-- ITS FALSE NEIGHBOUR: 'it returns false'. Refute it at one input. -/
def fnExactNestedSumWrong : ChangeSpec := { name := "fnExactNestedSum", fn := fun _ => fun
  | [d1, d2, d3, d4] => { results := [.lit (.bool false)], args := [d1, d2, d3, d4] }
  | _ => none }
def FnExactNestedSumWrongFalsely : Prop := fnExactNestedSumRow.holds Try.pinned (OpenSpec.ofChange fnExactNestedSumWrong)

/-- 'laws.FnExactCarlitzFactorial': WHATEVER THE INPUT: true; the input reads as it did. -/
def fnExactCarlitzFactorialSpec : ChangeSpec := { name := "fnExactCarlitzFactorial", fn := fun _ => fun
  | [d1, d2] => { results := [.lit (.bool true)], args := [d1, d2] }
  | _ => none }
def fnExactCarlitzFactorialRow : OpenClaim := { program := "ytgodhgbnjlflmaa", sum := "ba4ae7524afa03ce6dc623a6bb7013dcef7adb5e77ab9fd8b5a01d10b481185f", func := "loop.example/g01245/laws.FnExactCarlitzFactorial", spec := "fnExactCarlitzFactorial", apart := false }
def FnExactCarlitzFactorialSaid : Prop := fnExactCarlitzFactorialRow.holds Try.pinned (OpenSpec.ofChange fnExactCarlitzFactorialSpec)

/-- ITS FALSE NEIGHBOUR: 'it returns false'. Refute it at one input. -/
def fnExactCarlitzFactorialWrong : ChangeSpec := { name := "fnExactCarlitzFactorial", fn := fun _ => fun
  | [d1, d2] => { results := [.lit (.bool false)], args := [d1, d2] }
  | _ => none }
def FnExactCarlitzFactorialWrongFalsely : Prop := fnExactCarlitzFactorialRow.holds Try.pinned (OpenSpec.ofChange fnExactCarlitzFactorialWrong)

/-- 'laws.FnExactContinuedFraction': WHATEVER THE INPUT: true; the input reads as it did. -/
def fnExactContinuedFractionSpec : ChangeSpec := { name := "fnExactContinuedFraction", fn := fun _ => fun
  | [d1, d2, d3] => { results := [.lit (.bool true)], args := [d1, d2, d3] }
  | _ => none }
def fnExactContinuedFractionRow : OpenClaim := { program := "ytgodhgbnjlflmaa", sum := "ba4ae7524afa03ce6dc623a6bb7013dcef7adb5e77ab9fd8b5a01d10b481185f", func := "loop.example/g01245/laws.FnExactContinuedFraction", spec := "fnExactContinuedFraction", unfollowed := true, recurses := true, apart := false }
def FnExactContinuedFractionSaid : Prop := fnExactContinuedFractionRow.holds Try.pinned (OpenSpec.ofChange fnExactContinuedFractionSpec)

/-- ITS FALSE NEIGHBOUR: 'it returns false'. Refute it at one input. -/
def fnExactContinuedFractionWrong : ChangeSpec := { name := "fnExactContinuedFraction", fn := fun _ => fun
  | [d1, d2, d3] => { results := [.lit (.bool false)], args := [d1, d2, d3] }
  | _ => none }
def FnExactContinuedFractionWrongFalsely : Prop := fnExactContinuedFractionRow.holds Try.pinned (OpenSpec.ofChange fnExactContinuedFractionWrong)

/-- 'laws.FnExactFirstVanishing': WHATEVER THE INPUT: true; the input reads as it did. -/
def fnExactFirstVanishingSpec : ChangeSpec := { name := "fnExactFirstVanishing", fn := fun _ => fun
  | [d1, d2] => { results := [.lit (.bool true)], args := [d1, d2] }
  | _ => none }
def fnExactFirstVanishingRow : OpenClaim := { program := "ytgodhgbnjlflmaa", sum := "ba4ae7524afa03ce6dc623a6bb7013dcef7adb5e77ab9fd8b5a01d10b481185f", func := "loop.example/g01245/laws.FnExactFirstVanishing", spec := "fnExactFirstVanishing", apart := false }
def FnExactFirstVanishingSaid : Prop := fnExactFirstVanishingRow.holds Try.pinned (OpenSpec.ofChange fnExactFirstVanishingSpec)

/-- ITS FALSE NEIGHBOUR: 'it returns false'. Refute it at one input. -/
def fnExactFirstVanishingWrong : ChangeSpec := { name := "fnExactFirstVanishing", fn := fun _ => fun
  | [d1, d2] => { results := [.lit (.bool false)], args := [d1, d2] }
  | _ => none }
def FnExactFirstVanishingWrongFalsely : Prop := fnExactFirstVanishingRow.holds Try.pinned (OpenSpec.ofChange fnExactFirstVanishingWrong)

/-- 'laws.FnExactZetaAt': WHATEVER THE INPUT: true; the input reads as it did. -/
def fnExactZetaAtSpec : ChangeSpec := { name := "fnExactZetaAt", fn := fun _ => fun
  | [d1, d2] => { results := [.lit (.bool true)], args := [d1, d2] }
  | _ => none }
def fnExactZetaAtRow : OpenClaim := { program := "ytgodhgbnjlflmaa", sum := "ba4ae7524afa03ce6dc623a6bb7013dcef7adb5e77ab9fd8b5a01d10b481185f", func := "loop.example/g01245/laws.FnExactZetaAt", spec := "fnExactZetaAt", apart := false }
def FnExactZetaAtSaid : Prop := fnExactZetaAtRow.holds Try.pinned (OpenSpec.ofChange fnExactZetaAtSpec)

/-- ITS FALSE NEIGHBOUR: 'it returns false'. Refute it at one input. -/
def fnExactZetaAtWrong : ChangeSpec := { name := "fnExactZetaAt", fn := fun _ => fun
  | [d1, d2] => { results := [.lit (.bool false)], args := [d1, d2] }
  | _ => none }
def FnExactZetaAtWrongFalsely : Prop := fnExactZetaAtRow.holds Try.pinned (OpenSpec.ofChange fnExactZetaAtWrong)

/-- 'laws.FnExactConvergentsOf': WHATEVER THE INPUT: true; the input reads as it did. -/
def fnExactConvergentsOfSpec : ChangeSpec := { name := "fnExactConvergentsOf", fn := fun _ => fun
  | [d1, d2] => { results := [.lit (.bool true)], args := [d1, d2] }
  | _ => none }
def fnExactConvergentsOfRow : OpenClaim := { program := "ytgodhgbnjlflmaa", sum := "ba4ae7524afa03ce6dc623a6bb7013dcef7adb5e77ab9fd8b5a01d10b481185f", func := "loop.example/g01245/laws.FnExactConvergentsOf", spec := "fnExactConvergentsOf", unfollowed := true, recurses := true, apart := false }
def FnExactConvergentsOfSaid : Prop := fnExactConvergentsOfRow.holds Try.pinned (OpenSpec.ofChange fnExactConvergentsOfSpec)

/-- ITS FALSE NEIGHBOUR: 'it returns false'. Refute it at one input. -/
def fnExactConvergentsOfWrong : ChangeSpec := { name := "fnExactConvergentsOf", fn := fun _ => fun
  | [d1, d2] => { results := [.lit (.bool false)], args := [d1, d2] }
  | _ => none }
def FnExactConvergentsOfWrongFalsely : Prop := fnExactConvergentsOfRow.holds Try.pinned (OpenSpec.ofChange fnExactConvergentsOfWrong)

/-- 'laws.FnExactDigitsOfQuotient': WHATEVER THE INPUT: true; the input reads as it did. -/
def fnExactDigitsOfQuotientSpec : ChangeSpec := { name := "fnExactDigitsOfQuotient", fn := fun _ => fun
  | [d1, d2, d3, d4] => { results := [.lit (.bool true)], args := [d1, d2, d3, d4] }
  | _ => none }
def fnExactDigitsOfQuotientRow : OpenClaim := { program := "ytgodhgbnjlflmaa", sum := "ba4ae7524afa03ce6dc623a6bb7013dcef7adb5e77ab9fd8b5a01d10b481185f", func := "loop.example/g01245/laws.FnExactDigitsOfQuotient", spec := "fnExactDigitsOfQuotient", unfollowed := true, recurses := true, apart := false }
def FnExactDigitsOfQuotientSaid : Prop := fnExactDigitsOfQuotientRow.holds Try.pinned (OpenSpec.ofChange fnExactDigitsOfQuotientSpec)

/-- ITS FALSE NEIGHBOUR: 'it returns false'. Refute it at one input. -/
def fnExactDigitsOfQuotientWrong : ChangeSpec := { name := "fnExactDigitsOfQuotient", fn := fun _ => fun
  | [d1, d2, d3, d4] => { results := [.lit (.bool false)], args := [d1, d2, d3, d4] }
  | _ => none }
def FnExactDigitsOfQuotientWrongFalsely : Prop := fnExactDigitsOfQuotientRow.holds Try.pinned (OpenSpec.ofChange fnExactDigitsOfQuotientWrong)

/-- 'laws.FnExactShiftedSum': WHATEVER THE INPUT: true; the input reads as it did. -/
def fnExactShiftedSumSpec : ChangeSpec := { name := "fnExactShiftedSum", fn := fun _ => fun
  | [d1, d2, d3, d4] => { results := [.lit (.bool true)], args := [d1, d2, d3, d4] }
  | _ => none }
def fnExactShiftedSumRow : OpenClaim := { program := "ytgodhgbnjlflmaa", sum := "ba4ae7524afa03ce6dc623a6bb7013dcef7adb5e77ab9fd8b5a01d10b481185f", func := "loop.example/g01245/laws.FnExactShiftedSum", spec := "fnExactShiftedSum", unfollowed := true, recurses := true, apart := false }
def FnExactShiftedSumSaid : Prop := fnExactShiftedSumRow.holds Try.pinned (OpenSpec.ofChange fnExactShiftedSumSpec)

/-- ITS FALSE NEIGHBOUR: 'it returns false'. Refute it at one input. -/
def fnExactShiftedSumWrong : ChangeSpec := { name := "fnExactShiftedSum", fn := fun _ => fun
  | [d1, d2, d3, d4] => { results := [.lit (.bool false)], args := [d1, d2, d3, d4] }
  | _ => none }
def FnExactShiftedSumWrongFalsely : Prop := fnExactShiftedSumRow.holds Try.pinned (OpenSpec.ofChange fnExactShiftedSumWrong)

/-- 'laws.FnExactBestApproximation': WHATEVER THE INPUT: true; the input reads as it did. -/
def fnExactBestApproximationSpec : ChangeSpec := { name := "fnExactBestApproximation", fn := fun _ => fun
  | [d1, d2, d3, d4] => { results := [.lit (.bool true)], args := [d1, d2, d3, d4] }
  | _ => none }
def fnExactBestApproximationRow : OpenClaim := { program := "ytgodhgbnjlflmaa", sum := "ba4ae7524afa03ce6dc623a6bb7013dcef7adb5e77ab9fd8b5a01d10b481185f", func := "loop.example/g01245/laws.FnExactBestApproximation", spec := "fnExactBestApproximation", unfollowed := true, recurses := true, apart := false }
def FnExactBestApproximationSaid : Prop := fnExactBestApproximationRow.holds Try.pinned (OpenSpec.ofChange fnExactBestApproximationSpec)

/-- ITS FALSE NEIGHBOUR: 'it returns false'. Refute it at one input. -/
def fnExactBestApproximationWrong : ChangeSpec := { name := "fnExactBestApproximation", fn := fun _ => fun
  | [d1, d2, d3, d4] => { results := [.lit (.bool false)], args := [d1, d2, d3, d4] }
  | _ => none }
def FnExactBestApproximationWrongFalsely : Prop := fnExactBestApproximationRow.holds Try.pinned (OpenSpec.ofChange fnExactBestApproximationWrong)

/-- 'laws.FnExactClassNumber': WHATEVER THE INPUT: true; the input reads as it did. -/
def fnExactClassNumberSpec : ChangeSpec := { name := "fnExactClassNumber", fn := fun _ => fun
  | [d1, d2] => { results := [.lit (.bool true)], args := [d1, d2] }
  | _ => none }
def fnExactClassNumberRow : OpenClaim := { program := "ytgodhgbnjlflmaa", sum := "ba4ae7524afa03ce6dc623a6bb7013dcef7adb5e77ab9fd8b5a01d10b481185f", func := "loop.example/g01245/laws.FnExactClassNumber", spec := "fnExactClassNumber", unfollowed := true, recurses := true, apart := false }
def FnExactClassNumberSaid : Prop := fnExactClassNumberRow.holds Try.pinned (OpenSpec.ofChange fnExactClassNumberSpec)

/-- ITS FALSE NEIGHBOUR: 'it returns false'. Refute it at one input. -/
def fnExactClassNumberWrong : ChangeSpec := { name := "fnExactClassNumber", fn := fun _ => fun
  | [d1, d2] => { results := [.lit (.bool false)], args := [d1, d2] }
  | _ => none }
def FnExactClassNumberWrongFalsely : Prop := fnExactClassNumberRow.holds Try.pinned (OpenSpec.ofChange fnExactClassNumberWrong)

/-- 'laws.FnExactExponentialUpTo': WHATEVER THE INPUT: true; the input reads as it did. -/
def fnExactExponentialUpToSpec : ChangeSpec := { name := "fnExactExponentialUpTo", fn := fun _ => fun
  | [d1, d2, d3, d4] => { results := [.lit (.bool true)], args := [d1, d2, d3, d4] }
  | _ => none }
def fnExactExponentialUpToRow : OpenClaim := { program := "ytgodhgbnjlflmaa", sum := "ba4ae7524afa03ce6dc623a6bb7013dcef7adb5e77ab9fd8b5a01d10b481185f", func := "loop.example/g01245/laws.FnExactExponentialUpTo", spec := "fnExactExponentialUpTo", unfollowed := true, recurses := true, apart := false }
def FnExactExponentialUpToSaid : Prop := fnExactExponentialUpToRow.holds Try.pinned (OpenSpec.ofChange fnExactExponentialUpToSpec)

/-- ITS FALSE NEIGHBOUR: 'it returns false'. Refute it at one input. -/
def fnExactExponentialUpToWrong : ChangeSpec := { name := "fnExactExponentialUpTo", fn := fun _ => fun
  | [d1, d2, d3, d4] => { results := [.lit (.bool false)], args := [d1, d2, d3, d4] }
  | _ => none }
def FnExactExponentialUpToWrongFalsely : Prop := fnExactExponentialUpToRow.holds Try.pinned (OpenSpec.ofChange fnExactExponentialUpToWrong)

/-- 'laws.FnExactLogarithmUpTo': WHATEVER THE INPUT: true; the input reads as it did. -/
def fnExactLogarithmUpToSpec : ChangeSpec := { name := "fnExactLogarithmUpTo", fn := fun _ => fun
  | [d1, d2, d3, d4] => { results := [.lit (.bool true)], args := [d1, d2, d3, d4] }
  | _ => none }
def fnExactLogarithmUpToRow : OpenClaim := { program := "ytgodhgbnjlflmaa", sum := "ba4ae7524afa03ce6dc623a6bb7013dcef7adb5e77ab9fd8b5a01d10b481185f", func := "loop.example/g01245/laws.FnExactLogarithmUpTo", spec := "fnExactLogarithmUpTo", unfollowed := true, recurses := true, apart := false }
def FnExactLogarithmUpToSaid : Prop := fnExactLogarithmUpToRow.holds Try.pinned (OpenSpec.ofChange fnExactLogarithmUpToSpec)

/-- ITS FALSE NEIGHBOUR: 'it returns false'. Refute it at one input. -/
def fnExactLogarithmUpToWrong : ChangeSpec := { name := "fnExactLogarithmUpTo", fn := fun _ => fun
  | [d1, d2, d3, d4] => { results := [.lit (.bool false)], args := [d1, d2, d3, d4] }
  | _ => none }
def FnExactLogarithmUpToWrongFalsely : Prop := fnExactLogarithmUpToRow.holds Try.pinned (OpenSpec.ofChange fnExactLogarithmUpToWrong)

/- THE SECOND FORM. 'bulk': how many values and letters a reading holds, each counted each time it is reached (what is shared counts as often as it is met; a slice's spare places count too). A statement '..UptoSaid' is the law's where the arguments, and the package variables that the reading takes, are together of bulk at most 1048576: NARROWER than '..Said'. Prove '..Said' where nothing that the law and all that it calls make is longer than what came in: it says more and counts as full. Else prove '..UptoSaid'. A law counts once. -/
mutual
def uptoBulk {H : Type} : DataW H → Nat
  | .lit (.string bytes) => bytes.length + 1
  | .lit _ => 1
  | .nil => 1
  | .ptr d => uptoBulk d + 1
  | .slice elems spare => uptoBulkAll elems + uptoBulkAll spare + 1
  | .agg parts => uptoBulkAll parts + 1
  | .iface _ d => uptoBulk d + 1
  | .map entries => uptoBulkEntries entries + 1
  | .held _ => 1
def uptoBulkAll {H : Type} : List (DataW H) → Nat
  | [] => 0
  | d :: r => uptoBulk d + uptoBulkAll r
def uptoBulkEntries {H : Type} : List (Lit × DataW H) → Nat
  | [] => 0
  | x :: r => uptoBulkEntry x + uptoBulkEntries r
def uptoBulkEntry {H : Type} : Lit × DataW H → Nat
  | (.string bytes, d) => bytes.length + uptoBulk d + 1
  | (_, d) => uptoBulk d + 1
 end
def uptoSmall : (H : Type) → List (DataW H) → Bool := fun _ ds => decide (uptoBulkAll ds ≤ 1048576)
def OpenSpec.upto (s : _root_.Go.ChangeSpec) : _root_.Go.OpenSpec := { _root_.Go.OpenSpec.ofChange s with cond := some uptoSmall }

/-- 'laws.FnExactNestedSum', WHERE WHAT IT READS IS OF BULK AT MOST 1048576: true; the input reads as it did. -/
def fnExactNestedSumUptoRow : OpenClaim := { program := "ytgodhgbnjlflmaa", sum := "ba4ae7524afa03ce6dc623a6bb7013dcef7adb5e77ab9fd8b5a01d10b481185f", func := "loop.example/g01245/laws.FnExactNestedSum", spec := "fnExactNestedSum", apart := false, narrowed := true }
def FnExactNestedSumUptoSaid : Prop := fnExactNestedSumUptoRow.holds Try.pinned (OpenSpec.upto fnExactNestedSumSpec)

/-- 'laws.FnExactCarlitzFactorial', WHERE WHAT IT READS IS OF BULK AT MOST 1048576: true; the input reads as it did. -/
def fnExactCarlitzFactorialUptoRow : OpenClaim := { program := "ytgodhgbnjlflmaa", sum := "ba4ae7524afa03ce6dc623a6bb7013dcef7adb5e77ab9fd8b5a01d10b481185f", func := "loop.example/g01245/laws.FnExactCarlitzFactorial", spec := "fnExactCarlitzFactorial", apart := false, narrowed := true }
def FnExactCarlitzFactorialUptoSaid : Prop := fnExactCarlitzFactorialUptoRow.holds Try.pinned (OpenSpec.upto fnExactCarlitzFactorialSpec)

/-- 'laws.FnExactContinuedFraction', WHERE WHAT IT READS IS OF BULK AT MOST 1048576: true; the input reads as it did. -/
def fnExactContinuedFractionUptoRow : OpenClaim := { program := "ytgodhgbnjlflmaa", sum := "ba4ae7524afa03ce6dc623a6bb7013dcef7adb5e77ab9fd8b5a01d10b481185f", func := "loop.example/g01245/laws.FnExactContinuedFraction", spec := "fnExactContinuedFraction", unfollowed := true, recurses := true, apart := false, narrowed := true }
def FnExactContinuedFractionUptoSaid : Prop := fnExactContinuedFractionUptoRow.holds Try.pinned (OpenSpec.upto fnExactContinuedFractionSpec)

/-- 'laws.FnExactFirstVanishing', WHERE WHAT IT READS IS OF BULK AT MOST 1048576: true; the input reads as it did. -/
def fnExactFirstVanishingUptoRow : OpenClaim := { program := "ytgodhgbnjlflmaa", sum := "ba4ae7524afa03ce6dc623a6bb7013dcef7adb5e77ab9fd8b5a01d10b481185f", func := "loop.example/g01245/laws.FnExactFirstVanishing", spec := "fnExactFirstVanishing", apart := false, narrowed := true }
def FnExactFirstVanishingUptoSaid : Prop := fnExactFirstVanishingUptoRow.holds Try.pinned (OpenSpec.upto fnExactFirstVanishingSpec)

/-- 'laws.FnExactZetaAt', WHERE WHAT IT READS IS OF BULK AT MOST 1048576: true; the input reads as it did. -/
def fnExactZetaAtUptoRow : OpenClaim := { program := "ytgodhgbnjlflmaa", sum := "ba4ae7524afa03ce6dc623a6bb7013dcef7adb5e77ab9fd8b5a01d10b481185f", func := "loop.example/g01245/laws.FnExactZetaAt", spec := "fnExactZetaAt", apart := false, narrowed := true }
def FnExactZetaAtUptoSaid : Prop := fnExactZetaAtUptoRow.holds Try.pinned (OpenSpec.upto fnExactZetaAtSpec)

/-- 'laws.FnExactConvergentsOf', WHERE WHAT IT READS IS OF BULK AT MOST 1048576: true; the input reads as it did. -/
def fnExactConvergentsOfUptoRow : OpenClaim := { program := "ytgodhgbnjlflmaa", sum := "ba4ae7524afa03ce6dc623a6bb7013dcef7adb5e77ab9fd8b5a01d10b481185f", func := "loop.example/g01245/laws.FnExactConvergentsOf", spec := "fnExactConvergentsOf", unfollowed := true, recurses := true, apart := false, narrowed := true }
def FnExactConvergentsOfUptoSaid : Prop := fnExactConvergentsOfUptoRow.holds Try.pinned (OpenSpec.upto fnExactConvergentsOfSpec)

/-- 'laws.FnExactDigitsOfQuotient', WHERE WHAT IT READS IS OF BULK AT MOST 1048576: true; the input reads as it did. -/
def fnExactDigitsOfQuotientUptoRow : OpenClaim := { program := "ytgodhgbnjlflmaa", sum := "ba4ae7524afa03ce6dc623a6bb7013dcef7adb5e77ab9fd8b5a01d10b481185f", func := "loop.example/g01245/laws.FnExactDigitsOfQuotient", spec := "fnExactDigitsOfQuotient", unfollowed := true, recurses := true, apart := false, narrowed := true }
def FnExactDigitsOfQuotientUptoSaid : Prop := fnExactDigitsOfQuotientUptoRow.holds Try.pinned (OpenSpec.upto fnExactDigitsOfQuotientSpec)

/-- 'laws.FnExactShiftedSum', WHERE WHAT IT READS IS OF BULK AT MOST 1048576: true; the input reads as it did. -/
def fnExactShiftedSumUptoRow : OpenClaim := { program := "ytgodhgbnjlflmaa", sum := "ba4ae7524afa03ce6dc623a6bb7013dcef7adb5e77ab9fd8b5a01d10b481185f", func := "loop.example/g01245/laws.FnExactShiftedSum", spec := "fnExactShiftedSum", unfollowed := true, recurses := true, apart := false, narrowed := true }
def FnExactShiftedSumUptoSaid : Prop := fnExactShiftedSumUptoRow.holds Try.pinned (OpenSpec.upto fnExactShiftedSumSpec)

/-- 'laws.FnExactBestApproximation', WHERE WHAT IT READS IS OF BULK AT MOST 1048576: true; the input reads as it did. -/
def fnExactBestApproximationUptoRow : OpenClaim := { program := "ytgodhgbnjlflmaa", sum := "ba4ae7524afa03ce6dc623a6bb7013dcef7adb5e77ab9fd8b5a01d10b481185f", func := "loop.example/g01245/laws.FnExactBestApproximation", spec := "fnExactBestApproximation", unfollowed := true, recurses := true, apart := false, narrowed := true }
def FnExactBestApproximationUptoSaid : Prop := fnExactBestApproximationUptoRow.holds Try.pinned (OpenSpec.upto fnExactBestApproximationSpec)

/-- 'laws.FnExactClassNumber', WHERE WHAT IT READS IS OF BULK AT MOST 1048576: true; the input reads as it did. -/
def fnExactClassNumberUptoRow : OpenClaim := { program := "ytgodhgbnjlflmaa", sum := "ba4ae7524afa03ce6dc623a6bb7013dcef7adb5e77ab9fd8b5a01d10b481185f", func := "loop.example/g01245/laws.FnExactClassNumber", spec := "fnExactClassNumber", unfollowed := true, recurses := true, apart := false, narrowed := true }
def FnExactClassNumberUptoSaid : Prop := fnExactClassNumberUptoRow.holds Try.pinned (OpenSpec.upto fnExactClassNumberSpec)

/-- 'laws.FnExactExponentialUpTo', WHERE WHAT IT READS IS OF BULK AT MOST 1048576: true; the input reads as it did. -/
def fnExactExponentialUpToUptoRow : OpenClaim := { program := "ytgodhgbnjlflmaa", sum := "ba4ae7524afa03ce6dc623a6bb7013dcef7adb5e77ab9fd8b5a01d10b481185f", func := "loop.example/g01245/laws.FnExactExponentialUpTo", spec := "fnExactExponentialUpTo", unfollowed := true, recurses := true, apart := false, narrowed := true }
def FnExactExponentialUpToUptoSaid : Prop := fnExactExponentialUpToUptoRow.holds Try.pinned (OpenSpec.upto fnExactExponentialUpToSpec)

/-- 'laws.FnExactLogarithmUpTo', WHERE WHAT IT READS IS OF BULK AT MOST 1048576: true; the input reads as it did. -/
def fnExactLogarithmUpToUptoRow : OpenClaim := { program := "ytgodhgbnjlflmaa", sum := "ba4ae7524afa03ce6dc623a6bb7013dcef7adb5e77ab9fd8b5a01d10b481185f", func := "loop.example/g01245/laws.FnExactLogarithmUpTo", spec := "fnExactLogarithmUpTo", unfollowed := true, recurses := true, apart := false, narrowed := true }
def FnExactLogarithmUpToUptoSaid : Prop := fnExactLogarithmUpToUptoRow.holds Try.pinned (OpenSpec.upto fnExactLogarithmUpToSpec)

end Rows
end Go.Proofs.Ytgodhgbnjlflmaa
