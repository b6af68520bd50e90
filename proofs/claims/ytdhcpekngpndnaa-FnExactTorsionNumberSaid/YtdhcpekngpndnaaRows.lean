/-
  No cell of these rows narrows 'for every input' (looked for: loops, veiled, ifaces, maps, wideKeys, modest, calm, conditions, laid).
  DERIVED. THE GIVEN ROWS OF THIS SEAT. 11 by the template 'for every input the law returns true; each argument reads behind the call as it read before'; 0 by the template 'total and deterministic' (their statements: YtdhcpekngpndnaaTotals.lean).
  GIVEN WITH THE SEED: the statements are not yours to turn. If you find one false, say at which input.
  Laid BY PROGRAM, IN A SANDBOX (cutbox-rows.mjs): the forced cells as the released guide's own fill.sh prints them over the translation da8e9db081775f73… (all of the seat's roots in one cut). By AI agents, Wed Nov 11 2026. No macro, syntax, notation, axiom, sorry.
-/
import Derived.Test.YtdhcpekngpndnaaChecked
import GoSem.Claim
import GoSem.ClaimJoined
import GoSem.ClaimMapViews
import Derived.JoinedTies
import Derived.KernelRfl
namespace Go.Proofs.Ytdhcpekngpndnaa
/- THE CELL 'sum', in the pinned program and in every row, IS THE sha256 OF THE DUMP (.gsa) THAT YtdhcpekngpndnaaProg.lean LOADS. Nothing in Lean hashes anything: it is a label: what it is worth is what the hold of that sum in a sandbox is worth. -/
noncomputable def Try.pinned : Pinned := { name := "ytdhcpekngpndnaa", sum := "da8e9db081775f73fc58e737f894a1b91c9618e51b3753183b67cb15605eabf3", checked := Try.checked }
namespace Rows
def none {H : Type} : Left H := { results := [], args := [] }

/-- 'laws.FnExactReducedForms': WHATEVER THE INPUT: true; the input reads as it did. -/
def fnExactReducedFormsSpec : ChangeSpec := { name := "fnExactReducedForms", fn := fun _ => fun
  | [d1, d2] => { results := [.lit (.bool true)], args := [d1, d2] }
  | _ => none }
def fnExactReducedFormsRow : OpenClaim := { program := "ytdhcpekngpndnaa", sum := "da8e9db081775f73fc58e737f894a1b91c9618e51b3753183b67cb15605eabf3", func := "loop.example/g01245/laws.FnExactReducedForms", spec := "fnExactReducedForms", unfollowed := true, recurses := true, apart := false }
def FnExactReducedFormsSaid : Prop := fnExactReducedFormsRow.holds Try.pinned (OpenSpec.ofChange fnExactReducedFormsSpec)

/-- ITS FALSE NEIGHBOUR: 'it returns false'. Refute it at one input. -/
def fnExactReducedFormsWrong : ChangeSpec := { name := "fnExactReducedForms", fn := fun _ => fun
  | [d1, d2] => { results := [.lit (.bool false)], args := [d1, d2] }
  | _ => none }
def FnExactReducedFormsWrongFalsely : Prop := fnExactReducedFormsRow.holds Try.pinned (OpenSpec.ofChange fnExactReducedFormsWrong)

/-- 'laws.FnExactGroupOrders': WHATEVER THE INPUT: true; the input reads as it did. -/
def fnExactGroupOrdersSpec : ChangeSpec := { name := "fnExactGroupOrders", fn := fun _ => fun
  | [d1, d2] => { results := [.lit (.bool true)], args := [d1, d2] }
  | _ => none }
def fnExactGroupOrdersRow : OpenClaim := { program := "ytdhcpekngpndnaa", sum := "da8e9db081775f73fc58e737f894a1b91c9618e51b3753183b67cb15605eabf3", func := "loop.example/g01245/laws.FnExactGroupOrders", spec := "fnExactGroupOrders", unfollowed := true, recurses := true, apart := false }
def FnExactGroupOrdersSaid : Prop := fnExactGroupOrdersRow.holds Try.pinned (OpenSpec.ofChange fnExactGroupOrdersSpec)

/-- ITS FALSE NEIGHBOUR: 'it returns false'. Refute it at one input. -/
def fnExactGroupOrdersWrong : ChangeSpec := { name := "fnExactGroupOrders", fn := fun _ => fun
  | [d1, d2] => { results := [.lit (.bool false)], args := [d1, d2] }
  | _ => none }
def FnExactGroupOrdersWrongFalsely : Prop := fnExactGroupOrdersRow.holds Try.pinned (OpenSpec.ofChange fnExactGroupOrdersWrong)

/-- 'laws.FnExactConvergentsOf': WHATEVER THE INPUT: true; the input reads as it did. -/
def fnExactConvergentsOfSpec : ChangeSpec := { name := "fnExactConvergentsOf", fn := fun _ => fun
  | [d1, d2] => { results := [.lit (.bool true)], args := [d1, d2] }
  | _ => none }
def fnExactConvergentsOfRow : OpenClaim := { program := "ytdhcpekngpndnaa", sum := "da8e9db081775f73fc58e737f894a1b91c9618e51b3753183b67cb15605eabf3", func := "loop.example/g01245/laws.FnExactConvergentsOf", spec := "fnExactConvergentsOf", unfollowed := true, recurses := true, apart := false }
def FnExactConvergentsOfSaid : Prop := fnExactConvergentsOfRow.holds Try.pinned (OpenSpec.ofChange fnExactConvergentsOfSpec)

/-- ITS FALSE NEIGHBOUR: 'it returns false'. Refute it at one input. -/
def fnExactConvergentsOfWrong : ChangeSpec := { name := "fnExactConvergentsOf", fn := fun _ => fun
  | [d1, d2] => { results := [.lit (.bool false)], args := [d1, d2] }
  | _ => none }
def FnExactConvergentsOfWrongFalsely : Prop := fnExactConvergentsOfRow.holds Try.pinned (OpenSpec.ofChange fnExactConvergentsOfWrong)

/-- 'laws.FnExactExponentOf': WHATEVER THE INPUT: true; the input reads as it did. -/
def fnExactExponentOfSpec : ChangeSpec := { name := "fnExactExponentOf", fn := fun _ => fun
  | [d1, d2] => { results := [.lit (.bool true)], args := [d1, d2] }
  | _ => none }
def fnExactExponentOfRow : OpenClaim := { program := "ytdhcpekngpndnaa", sum := "da8e9db081775f73fc58e737f894a1b91c9618e51b3753183b67cb15605eabf3", func := "loop.example/g01245/laws.FnExactExponentOf", spec := "fnExactExponentOf", inPlace := ["slices.overlaps[loop.example/g01245/impl.row]"], unfollowed := true, recurses := true, apart := false }
def FnExactExponentOfSaid : Prop := fnExactExponentOfRow.holds Try.pinned (OpenSpec.ofChange fnExactExponentOfSpec)

/-- ITS FALSE NEIGHBOUR: 'it returns false'. Refute it at one input. -/
def fnExactExponentOfWrong : ChangeSpec := { name := "fnExactExponentOf", fn := fun _ => fun
  | [d1, d2] => { results := [.lit (.bool false)], args := [d1, d2] }
  | _ => none }
def FnExactExponentOfWrongFalsely : Prop := fnExactExponentOfRow.holds Try.pinned (OpenSpec.ofChange fnExactExponentOfWrong)

/-- 'laws.FnExactCarlitzGenerator': WHATEVER THE INPUT: true; the input reads as it did. -/
def fnExactCarlitzGeneratorSpec : ChangeSpec := { name := "fnExactCarlitzGenerator", fn := fun _ => fun
  | [d1, d2] => { results := [.lit (.bool true)], args := [d1, d2] }
  | _ => none }
def fnExactCarlitzGeneratorRow : OpenClaim := { program := "ytdhcpekngpndnaa", sum := "da8e9db081775f73fc58e737f894a1b91c9618e51b3753183b67cb15605eabf3", func := "loop.example/g01245/laws.FnExactCarlitzGenerator", spec := "fnExactCarlitzGenerator", inPlace := ["slices.overlaps[loop.example/g01245/impl.row]"], unfollowed := true, recurses := true, apart := false }
def FnExactCarlitzGeneratorSaid : Prop := fnExactCarlitzGeneratorRow.holds Try.pinned (OpenSpec.ofChange fnExactCarlitzGeneratorSpec)

/-- ITS FALSE NEIGHBOUR: 'it returns false'. Refute it at one input. -/
def fnExactCarlitzGeneratorWrong : ChangeSpec := { name := "fnExactCarlitzGenerator", fn := fun _ => fun
  | [d1, d2] => { results := [.lit (.bool false)], args := [d1, d2] }
  | _ => none }
def FnExactCarlitzGeneratorWrongFalsely : Prop := fnExactCarlitzGeneratorRow.holds Try.pinned (OpenSpec.ofChange fnExactCarlitzGeneratorWrong)

/-- 'laws.FnExactTorsionNumber': WHATEVER THE INPUT: true; the input reads as it did. -/
def fnExactTorsionNumberSpec : ChangeSpec := { name := "fnExactTorsionNumber", fn := fun _ => fun
  | [d1, d2, d3] => { results := [.lit (.bool true)], args := [d1, d2, d3] }
  | _ => none }
def fnExactTorsionNumberRow : OpenClaim := { program := "ytdhcpekngpndnaa", sum := "da8e9db081775f73fc58e737f894a1b91c9618e51b3753183b67cb15605eabf3", func := "loop.example/g01245/laws.FnExactTorsionNumber", spec := "fnExactTorsionNumber", unfollowed := true, recurses := true, apart := false }
def FnExactTorsionNumberSaid : Prop := fnExactTorsionNumberRow.holds Try.pinned (OpenSpec.ofChange fnExactTorsionNumberSpec)

/-- ITS FALSE NEIGHBOUR: 'it returns false'. Refute it at one input. -/
def fnExactTorsionNumberWrong : ChangeSpec := { name := "fnExactTorsionNumber", fn := fun _ => fun
  | [d1, d2, d3] => { results := [.lit (.bool false)], args := [d1, d2, d3] }
  | _ => none }
def FnExactTorsionNumberWrongFalsely : Prop := fnExactTorsionNumberRow.holds Try.pinned (OpenSpec.ofChange fnExactTorsionNumberWrong)

/-- 'laws.FnExactSymbolOf': WHATEVER THE INPUT: true; the input reads as it did. -/
def fnExactSymbolOfSpec : ChangeSpec := { name := "fnExactSymbolOf", fn := fun _ => fun
  | [d1, d2, d3] => { results := [.lit (.bool true)], args := [d1, d2, d3] }
  | _ => none }
def fnExactSymbolOfRow : OpenClaim := { program := "ytdhcpekngpndnaa", sum := "da8e9db081775f73fc58e737f894a1b91c9618e51b3753183b67cb15605eabf3", func := "loop.example/g01245/laws.FnExactSymbolOf", spec := "fnExactSymbolOf", unfollowed := true, recurses := true, apart := false }
def FnExactSymbolOfSaid : Prop := fnExactSymbolOfRow.holds Try.pinned (OpenSpec.ofChange fnExactSymbolOfSpec)

/-- ITS FALSE NEIGHBOUR: 'it returns false'. Refute it at one input. -/
def fnExactSymbolOfWrong : ChangeSpec := { name := "fnExactSymbolOf", fn := fun _ => fun
  | [d1, d2, d3] => { results := [.lit (.bool false)], args := [d1, d2, d3] }
  | _ => none }
def FnExactSymbolOfWrongFalsely : Prop := fnExactSymbolOfRow.holds Try.pinned (OpenSpec.ofChange fnExactSymbolOfWrong)

/-- 'laws.FnExactQuadraticSymbol': WHATEVER THE INPUT: true; the input reads as it did. -/
def fnExactQuadraticSymbolSpec : ChangeSpec := { name := "fnExactQuadraticSymbol", fn := fun _ => fun
  | [d1, d2, d3] => { results := [.lit (.bool true)], args := [d1, d2, d3] }
  | _ => none }
def fnExactQuadraticSymbolRow : OpenClaim := { program := "ytdhcpekngpndnaa", sum := "da8e9db081775f73fc58e737f894a1b91c9618e51b3753183b67cb15605eabf3", func := "loop.example/g01245/laws.FnExactQuadraticSymbol", spec := "fnExactQuadraticSymbol", unfollowed := true, recurses := true, apart := false }
def FnExactQuadraticSymbolSaid : Prop := fnExactQuadraticSymbolRow.holds Try.pinned (OpenSpec.ofChange fnExactQuadraticSymbolSpec)

/-- ITS FALSE NEIGHBOUR: 'it returns false'. Refute it at one input. -/
def fnExactQuadraticSymbolWrong : ChangeSpec := { name := "fnExactQuadraticSymbol", fn := fun _ => fun
  | [d1, d2, d3] => { results := [.lit (.bool false)], args := [d1, d2, d3] }
  | _ => none }
def FnExactQuadraticSymbolWrongFalsely : Prop := fnExactQuadraticSymbolRow.holds Try.pinned (OpenSpec.ofChange fnExactQuadraticSymbolWrong)

/-- 'laws.FnExactDeepRest': WHATEVER THE INPUT: true; the input reads as it did. -/
def fnExactDeepRestSpec : ChangeSpec := { name := "fnExactDeepRest", fn := fun _ => fun
  | [d1, d2, d3] => { results := [.lit (.bool true)], args := [d1, d2, d3] }
  | _ => none }
def fnExactDeepRestRow : OpenClaim := { program := "ytdhcpekngpndnaa", sum := "da8e9db081775f73fc58e737f894a1b91c9618e51b3753183b67cb15605eabf3", func := "loop.example/g01245/laws.FnExactDeepRest", spec := "fnExactDeepRest", unfollowed := true, recurses := true, apart := false }
def FnExactDeepRestSaid : Prop := fnExactDeepRestRow.holds Try.pinned (OpenSpec.ofChange fnExactDeepRestSpec)

/-- ITS FALSE NEIGHBOUR: 'it returns false'. Refute it at one input. -/
def fnExactDeepRestWrong : ChangeSpec := { name := "fnExactDeepRest", fn := fun _ => fun
  | [d1, d2, d3] => { results := [.lit (.bool false)], args := [d1, d2, d3] }
  | _ => none }
def FnExactDeepRestWrongFalsely : Prop := fnExactDeepRestRow.holds Try.pinned (OpenSpec.ofChange fnExactDeepRestWrong)

/-- 'laws.FnExactSymbolSum': WHATEVER THE INPUT: true; the input reads as it did. -/
def fnExactSymbolSumSpec : ChangeSpec := { name := "fnExactSymbolSum", fn := fun _ => fun
  | [d1, d2, d3] => { results := [.lit (.bool true)], args := [d1, d2, d3] }
  | _ => none }
def fnExactSymbolSumRow : OpenClaim := { program := "ytdhcpekngpndnaa", sum := "da8e9db081775f73fc58e737f894a1b91c9618e51b3753183b67cb15605eabf3", func := "loop.example/g01245/laws.FnExactSymbolSum", spec := "fnExactSymbolSum", unfollowed := true, recurses := true, apart := false }
def FnExactSymbolSumSaid : Prop := fnExactSymbolSumRow.holds Try.pinned (OpenSpec.ofChange fnExactSymbolSumSpec)

/-- ITS FALSE NEIGHBOUR: 'it returns false'. Refute it at one input. -/
def fnExactSymbolSumWrong : ChangeSpec := { name := "fnExactSymbolSum", fn := fun _ => fun
  | [d1, d2, d3] => { results := [.lit (.bool false)], args := [d1, d2, d3] }
  | _ => none }
def FnExactSymbolSumWrongFalsely : Prop := fnExactSymbolSumRow.holds Try.pinned (OpenSpec.ofChange fnExactSymbolSumWrong)

/-- 'laws.FnExactInvariantOf': WHATEVER THE INPUT: true; the input reads as it did. -/
def fnExactInvariantOfSpec : ChangeSpec := { name := "fnExactInvariantOf", fn := fun _ => fun
  | [d] => { results := [.lit (.bool true)], args := [d] }
  | _ => none }
def fnExactInvariantOfRow : OpenClaim := { program := "ytdhcpekngpndnaa", sum := "da8e9db081775f73fc58e737f894a1b91c9618e51b3753183b67cb15605eabf3", func := "loop.example/g01245/laws.FnExactInvariantOf", spec := "fnExactInvariantOf", unfollowed := true, recurses := true, apart := false }
def FnExactInvariantOfSaid : Prop := fnExactInvariantOfRow.holds Try.pinned (OpenSpec.ofChange fnExactInvariantOfSpec)

/-- ITS FALSE NEIGHBOUR: 'it returns false'. Refute it at one input. -/
def fnExactInvariantOfWrong : ChangeSpec := { name := "fnExactInvariantOf", fn := fun _ => fun
  | [d] => { results := [.lit (.bool false)], args := [d] }
  | _ => none }
def FnExactInvariantOfWrongFalsely : Prop := fnExactInvariantOfRow.holds Try.pinned (OpenSpec.ofChange fnExactInvariantOfWrong)

/- THE SECOND FORM. 'bulk': how many values and letters a reading holds, each counted each time it is reached (what is shared counts as often as it is met; a slice's spare places count too). A statement '..UptoSaid' is the law's where the arguments, and the package variables that the reading takes, are together of bulk at most 1048576: NARROWER than '..Said'. Prove '..Said' where nothing that the law and all that it calls make is longer than what came in: it says more and counts as full. Else prove '..UptoSaid'. A law counts once. -/
mutual
def uptoBulk {H : Type} : DataW H → Nat
  | .lit (.string bytes) => bytes.length + 1
  | .lit _ => 1
  | .nil => 1
  | .ptr d => uptoBulk d + 1
  | .slice elems spare => uptoBulkAll elems + uptoBulkAll spare + 1
  | .agg parts => uptoBulkAll parts + 1
  | .iface _ d => uptoBulk d + 1
  | .map entries => uptoBulkEntries entries + 1
  | .held _ => 1
def uptoBulkAll {H : Type} : List (DataW H) → Nat
  | [] => 0
  | d :: r => uptoBulk d + uptoBulkAll r
def uptoBulkEntries {H : Type} : List (Lit × DataW H) → Nat
  | [] => 0
  | x :: r => uptoBulkEntry x + uptoBulkEntries r
def uptoBulkEntry {H : Type} : Lit × DataW H → Nat
  | (.string bytes, d) => bytes.length + uptoBulk d + 1
  | (_, d) => uptoBulk d + 1
 end
def uptoSmall : (H : Type) → List (DataW H) → Bool := fun _ ds => decide (uptoBulkAll ds ≤ 1048576)
def OpenSpec.upto (s : _root_.Go.ChangeSpec) : _root_.Go.OpenSpec := { _root_.Go.OpenSpec.ofChange s with cond := some uptoSmall }

/-- 'laws.FnExactReducedForms', WHERE WHAT IT READS IS OF BULK AT MOST 1048576: true; the input reads as it did. -/
def fnExactReducedFormsUptoRow : OpenClaim := { program := "ytdhcpekngpndnaa", sum := "da8e9db081775f73fc58e737f894a1b91c9618e51b3753183b67cb15605eabf3", func := "loop.example/g01245/laws.FnExactReducedForms", spec := "fnExactReducedForms", unfollowed := true, recurses := true, apart := false, narrowed := true }
def FnExactReducedFormsUptoSaid : Prop := fnExactReducedFormsUptoRow.holds Try.pinned (OpenSpec.upto fnExactReducedFormsSpec)

/-- 'laws.FnExactGroupOrders', WHERE WHAT IT READS IS OF BULK AT MOST 1048576: true; the input reads as it did. -/
def fnExactGroupOrdersUptoRow : OpenClaim := { program := "ytdhcpekngpndnaa", sum := "da8e9db081775f73fc58e737f894a1b91c9618e51b3753183b67cb15605eabf3", func := "loop.example/g01245/laws.FnExactGroupOrders", spec := "fnExactGroupOrders", unfollowed := true, recurses := true, apart := false, narrowed := true }
def FnExactGroupOrdersUptoSaid : Prop := fnExactGroupOrdersUptoRow.holds Try.pinned (OpenSpec.upto fnExactGroupOrdersSpec)

/-- 'laws.FnExactConvergentsOf', WHERE WHAT IT READS IS OF BULK AT MOST 1048576: true; the input reads as it did. -/
def fnExactConvergentsOfUptoRow : OpenClaim := { program := "ytdhcpekngpndnaa", sum := "da8e9db081775f73fc58e737f894a1b91c9618e51b3753183b67cb15605eabf3", func := "loop.example/g01245/laws.FnExactConvergentsOf", spec := "fnExactConvergentsOf", unfollowed := true, recurses := true, apart := false, narrowed := true }
def FnExactConvergentsOfUptoSaid : Prop := fnExactConvergentsOfUptoRow.holds Try.pinned (OpenSpec.upto fnExactConvergentsOfSpec)

/-- 'laws.FnExactExponentOf', WHERE WHAT IT READS IS OF BULK AT MOST 1048576: true; the input reads as it did. -/
def fnExactExponentOfUptoRow : OpenClaim := { program := "ytdhcpekngpndnaa", sum := "da8e9db081775f73fc58e737f894a1b91c9618e51b3753183b67cb15605eabf3", func := "loop.example/g01245/laws.FnExactExponentOf", spec := "fnExactExponentOf", inPlace := ["slices.overlaps[loop.example/g01245/impl.row]"], unfollowed := true, recurses := true, apart := false, narrowed := true }
def FnExactExponentOfUptoSaid : Prop := fnExactExponentOfUptoRow.holds Try.pinned (OpenSpec.upto fnExactExponentOfSpec)

/-- 'laws.FnExactCarlitzGenerator', WHERE WHAT IT READS IS OF BULK AT MOST 1048576: true; the input reads as it did. -/
def fnExactCarlitzGeneratorUptoRow : OpenClaim := { program := "ytdhcpekngpndnaa", sum := "da8e9db081775f73fc58e737f894a1b91c9618e51b3753183b67cb15605eabf3", func := "loop.example/g01245/laws.FnExactCarlitzGenerator", spec := "fnExactCarlitzGenerator", inPlace := ["slices.overlaps[loop.example/g01245/impl.row]"], unfollowed := true, recurses := true, apart := false, narrowed := true }
def FnExactCarlitzGeneratorUptoSaid : Prop := fnExactCarlitzGeneratorUptoRow.holds Try.pinned (OpenSpec.upto fnExactCarlitzGeneratorSpec)

/-- 'laws.FnExactTorsionNumber', WHERE WHAT IT READS IS OF BULK AT MOST 1048576: true; the input reads as it did. -/
def fnExactTorsionNumberUptoRow : OpenClaim := { program := "ytdhcpekngpndnaa", sum := "da8e9db081775f73fc58e737f894a1b91c9618e51b3753183b67cb15605eabf3", func := "loop.example/g01245/laws.FnExactTorsionNumber", spec := "fnExactTorsionNumber", unfollowed := true, recurses := true, apart := false, narrowed := true }
def FnExactTorsionNumberUptoSaid : Prop := fnExactTorsionNumberUptoRow.holds Try.pinned (OpenSpec.upto fnExactTorsionNumberSpec)

/-- 'laws.FnExactSymbolOf', WHERE WHAT IT READS IS OF BULK AT MOST 1048576: true; the input reads as it did. -/
def fnExactSymbolOfUptoRow : OpenClaim := { program := "ytdhcpekngpndnaa", sum := "da8e9db081775f73fc58e737f894a1b91c9618e51b3753183b67cb15605eabf3", func := "loop.example/g01245/laws.FnExactSymbolOf", spec := "fnExactSymbolOf", unfollowed := true, recurses := true, apart := false, narrowed := true }
def FnExactSymbolOfUptoSaid : Prop := fnExactSymbolOfUptoRow.holds Try.pinned (OpenSpec.upto fnExactSymbolOfSpec)

/-- 'laws.FnExactQuadraticSymbol', WHERE WHAT IT READS IS OF BULK AT MOST 1048576: true; the input reads as it did. -/
def fnExactQuadraticSymbolUptoRow : OpenClaim := { program := "ytdhcpekngpndnaa", sum := "da8e9db081775f73fc58e737f894a1b91c9618e51b3753183b67cb15605eabf3", func := "loop.example/g01245/laws.FnExactQuadraticSymbol", spec := "fnExactQuadraticSymbol", unfollowed := true, recurses := true, apart := false, narrowed := true }
def FnExactQuadraticSymbolUptoSaid : Prop := fnExactQuadraticSymbolUptoRow.holds Try.pinned (OpenSpec.upto fnExactQuadraticSymbolSpec)

/-- 'laws.FnExactDeepRest', WHERE WHAT IT READS IS OF BULK AT MOST 1048576: true; the input reads as it did. -/
def fnExactDeepRestUptoRow : OpenClaim := { program := "ytdhcpekngpndnaa", sum := "da8e9db081775f73fc58e737f894a1b91c9618e51b3753183b67cb15605eabf3", func := "loop.example/g01245/laws.FnExactDeepRest", spec := "fnExactDeepRest", unfollowed := true, recurses := true, apart := false, narrowed := true }
def FnExactDeepRestUptoSaid : Prop := fnExactDeepRestUptoRow.holds Try.pinned (OpenSpec.upto fnExactDeepRestSpec)

/-- 'laws.FnExactSymbolSum', WHERE WHAT IT READS IS OF BULK AT MOST 1048576: true; the input reads as it did. -/
def fnExactSymbolSumUptoRow : OpenClaim := { program := "ytdhcpekngpndnaa", sum := "da8e9db081775f73fc58e737f894a1b91c9618e51b3753183b67cb15605eabf3", func := "loop.example/g01245/laws.FnExactSymbolSum", spec := "fnExactSymbolSum", unfollowed := true, recurses := true, apart := false, narrowed := true }
def FnExactSymbolSumUptoSaid : Prop := fnExactSymbolSumUptoRow.holds Try.pinned (OpenSpec.upto fnExactSymbolSumSpec)

/-- 'laws.FnExactInvariantOf', WHERE WHAT IT READS IS OF BULK AT MOST 1048576: true; the input reads as it did. -/
def fnExactInvariantOfUptoRow : OpenClaim := { program := "ytdhcpekngpndnaa", sum := "da8e9db081775f73fc58e737f894a1b91c9618e51b3753183b67cb15605eabf3", func := "loop.example/g01245/laws.FnExactInvariantOf", spec := "fnExactInvariantOf", unfollowed := true, recurses := true, apart := false, narrowed := true }
def FnExactInvariantOfUptoSaid : Prop := fnExactInvariantOfUptoRow.holds Try.pinned (OpenSpec.upto fnExactInvariantOfSpec)

end Rows
end Go.Proofs.Ytdhcpekngpndnaa
