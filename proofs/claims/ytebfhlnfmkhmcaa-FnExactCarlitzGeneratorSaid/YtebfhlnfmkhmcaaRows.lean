/-
  No cell of these rows narrows 'for every input' (looked for: loops, veiled, ifaces, maps, wideKeys, modest, calm, conditions, laid).
  DERIVED. THE GIVEN ROWS OF THIS SEAT. 3 by the template 'for every input the law returns true; each argument reads behind the call as it read before'; 0 by the template 'total and deterministic' (their statements: YtebfhlnfmkhmcaaTotals.lean).
  GIVEN WITH THE SEED: the statements are not yours to turn. If you find one false, say at which input.
  Laid BY PROGRAM, IN A SANDBOX (cutbox-rows.mjs): the forced cells as the released guide's own fill.sh prints them over the translation d111a37de167cac5… (all of the seat's roots in one cut). By AI agents, Wed Nov 11 2026. No macro, syntax, notation, axiom, sorry.
-/
import Derived.Test.YtebfhlnfmkhmcaaChecked
import GoSem.Claim
import GoSem.ClaimJoined
import GoSem.ClaimMapViews
import Derived.JoinedTies
import Derived.KernelRfl
namespace Go.Proofs.Ytebfhlnfmkhmcaa
/- THE CELL 'sum', in the pinned program and in every row, IS THE sha256 OF THE DUMP (.gsa) THAT YtebfhlnfmkhmcaaProg.lean LOADS. Nothing in Lean hashes anything: it is a label: what it is worth is what the hold of that sum in a sandbox is worth. -/
noncomputable def Try.pinned : Pinned := { name := "ytebfhlnfmkhmcaa", sum := "d111a37de167cac55119182c92feeef839aa13b70395db37973d5f833a3bab9d", checked := Try.checked }
namespace Rows
def none {H : Type} : Left H := { results := [], args := [] }

/-- 'laws.FnExactGroupOrders': WHATEVER THE INPUT: true; the input reads as it did. -/
def fnExactGroupOrdersSpec : ChangeSpec := { name := "fnExactGroupOrders", fn := fun _ => fun
  | [d1, d2] => { results := [.lit (.bool true)], args := [d1, d2] }
  | _ => none }
def fnExactGroupOrdersRow : OpenClaim := { program := "ytebfhlnfmkhmcaa", sum := "d111a37de167cac55119182c92feeef839aa13b70395db37973d5f833a3bab9d", func := "loop.example/g01245/laws.FnExactGroupOrders", spec := "fnExactGroupOrders", unfollowed := true, recurses := true, apart := false }
def FnExactGroupOrdersSaid : Prop := fnExactGroupOrdersRow.holds Try.pinned (OpenSpec.ofChange fnExactGroupOrdersSpec)

/-- ITS FALSE NEIGHBOUR: 'it returns false'. Refute it at one input. -/
def fnExactGroupOrdersWrong : ChangeSpec := { name := "fnExactGroupOrders", fn := fun _ => fun
  | [d1, d2] => { results := [.lit (.bool false)], args := [d1, d2] }
  | _ => none }
def FnExactGroupOrdersWrongFalsely : Prop := fnExactGroupOrdersRow.holds Try.pinned (OpenSpec.ofChange fnExactGroupOrdersWrong)

/-- 'laws.FnExactExponentOf': WHATEVER THE INPUT: true; the input reads as it did. -/
def fnExactExponentOfSpec : ChangeSpec := { name := "fnExactExponentOf", fn := fun _ => fun
  | [d1, d2] => { results := [.lit (.bool true)], args := [d1, d2] }
  | _ => none }
def fnExactExponentOfRow : OpenClaim := { program := "ytebfhlnfmkhmcaa", sum := "d111a37de167cac55119182c92feeef839aa13b70395db37973d5f833a3bab9d", func := "loop.example/g01245/laws.FnExactExponentOf", spec := "fnExactExponentOf", inPlace := ["slices.overlaps[loop.example/g01245/impl.row]"], unfollowed := true, recurses := true, apart := false }
def FnExactExponentOfSaid : Prop := fnExactExponentOfRow.holds Try.pinned (OpenSpec.ofChange fnExactExponentOfSpec)

/-- ITS FALSE NEIGHBOUR: 'it returns false'. Refute it at one input. -/
def fnExactExponentOfWrong : ChangeSpec := { name := "fnExactExponentOf", fn := fun _ => fun
  | [d1, d2] => { results := [.lit (.bool false)], args := [d1, d2] }
  | _ => none }
def FnExactExponentOfWrongFalsely : Prop := fnExactExponentOfRow.holds Try.pinned (OpenSpec.ofChange fnExactExponentOfWrong)

/-- 'laws.FnExactCarlitzGenerator': WHATEVER THE INPUT: true; the input reads as it did. -/
def fnExactCarlitzGeneratorSpec : ChangeSpec := { name := "fnExactCarlitzGenerator", fn := fun _ => fun
  | [d1, d2] => { results := [.lit (.bool true)], args := [d1, d2] }
  | _ => none }
def fnExactCarlitzGeneratorRow : OpenClaim := { program := "ytebfhlnfmkhmcaa", sum := "d111a37de167cac55119182c92feeef839aa13b70395db37973d5f833a3bab9d", func := "loop.example/g01245/laws.FnExactCarlitzGenerator", spec := "fnExactCarlitzGenerator", inPlace := ["slices.overlaps[loop.example/g01245/impl.row]"], unfollowed := true, recurses := true, apart := false }
def FnExactCarlitzGeneratorSaid : Prop := fnExactCarlitzGeneratorRow.holds Try.pinned (OpenSpec.ofChange fnExactCarlitzGeneratorSpec)

/-- ITS FALSE NEIGHBOUR: 'it returns false'. Refute it at one input. -/
def fnExactCarlitzGeneratorWrong : ChangeSpec := { name := "fnExactCarlitzGenerator", fn := fun _ => fun
  | [d1, d2] => { results := [.lit (.bool false)], args := [d1, d2] }
  | _ => none }
def FnExactCarlitzGeneratorWrongFalsely : Prop := fnExactCarlitzGeneratorRow.holds Try.pinned (OpenSpec.ofChange fnExactCarlitzGeneratorWrong)

/- THE SECOND FORM. 'bulk': how many values and letters a reading holds, each counted each time it is reached (what is shared counts as often as it is met; a slice's spare places count too). A statement '..UptoSaid' is the law's where the arguments, and the package variables that the reading takes, are together of bulk at most 1048576: NARROWER than '..Said'. Prove '..Said' where nothing that the law and all that it calls make is longer than what came in: it says more and counts as full. Else prove '..UptoSaid'. A law counts once. -/
mutual
def uptoBulk {H : Type} : DataW H → Nat
  | .lit (.string bytes) => bytes.length + 1
  | .lit _ => 1
  | .nil => 1
  | .ptr d => uptoBulk d + 1
  | .slice elems spare => uptoBulkAll elems + uptoBulkAll spare + 1
  | .agg parts => uptoBulkAll parts + 1
  | .iface _ d => uptoBulk d + 1
  | .map entries => uptoBulkEntries entries + 1
  | .held _ => 1
def uptoBulkAll {H : Type} : List (DataW H) → Nat
  | [] => 0
  | d :: r => uptoBulk d + uptoBulkAll r
def uptoBulkEntries {H : Type} : List (Lit × DataW H) → Nat
  | [] => 0
  | x :: r => uptoBulkEntry x + uptoBulkEntries r
def uptoBulkEntry {H : Type} : Lit × DataW H → Nat
  | (.string bytes, d) => bytes.length + uptoBulk d + 1
  | (_, d) => uptoBulk d + 1
 end
def uptoSmall : (H : Type) → List (DataW H) → Bool := fun _ ds => decide (uptoBulkAll ds ≤ 1048576)
def OpenSpec.upto (s : _root_.Go.ChangeSpec) : _root_.Go.OpenSpec := { _root_.Go.OpenSpec.ofChange s with cond := some uptoSmall }

/-- 'laws.FnExactGroupOrders', WHERE WHAT IT READS IS OF BULK AT MOST 1048576: true; the input reads as it did. -/
def fnExactGroupOrdersUptoRow : OpenClaim := { program := "ytebfhlnfmkhmcaa", sum := "d111a37de167cac55119182c92feeef839aa13b70395db37973d5f833a3bab9d", func := "loop.example/g01245/laws.FnExactGroupOrders", spec := "fnExactGroupOrders", unfollowed := true, recurses := true, apart := false, narrowed := true }
def FnExactGroupOrdersUptoSaid : Prop := fnExactGroupOrdersUptoRow.holds Try.pinned (OpenSpec.upto fnExactGroupOrdersSpec)

/-- 'laws.FnExactExponentOf', WHERE WHAT IT READS IS OF BULK AT MOST 1048576: true; the input reads as it did. -/
def fnExactExponentOfUptoRow : OpenClaim := { program := "ytebfhlnfmkhmcaa", sum := "d111a37de167cac55119182c92feeef839aa13b70395db37973d5f833a3bab9d", func := "loop.example/g01245/laws.FnExactExponentOf", spec := "fnExactExponentOf", inPlace := ["slices.overlaps[loop.example/g01245/impl.row]"], unfollowed := true, recurses := true, apart := false, narrowed := true }
def FnExactExponentOfUptoSaid : Prop := fnExactExponentOfUptoRow.holds Try.pinned (OpenSpec.upto fnExactExponentOfSpec)

/-- 'laws.FnExactCarlitzGenerator', WHERE WHAT IT READS IS OF BULK AT MOST 1048576: true; the input reads as it did. -/
def fnExactCarlitzGeneratorUptoRow : OpenClaim := { program := "ytebfhlnfmkhmcaa", sum := "d111a37de167cac55119182c92feeef839aa13b70395db37973d5f833a3bab9d", func := "loop.example/g01245/laws.FnExactCarlitzGenerator", spec := "fnExactCarlitzGenerator", inPlace := ["slices.overlaps[loop.example/g01245/impl.row]"], unfollowed := true, recurses := true, apart := false, narrowed := true }
def FnExactCarlitzGeneratorUptoSaid : Prop := fnExactCarlitzGeneratorUptoRow.holds Try.pinned (OpenSpec.upto fnExactCarlitzGeneratorSpec)

end Rows
end Go.Proofs.Ytebfhlnfmkhmcaa
