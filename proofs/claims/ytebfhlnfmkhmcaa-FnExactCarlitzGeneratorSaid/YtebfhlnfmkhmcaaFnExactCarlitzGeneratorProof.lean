/- the first generator of a Carlitz module is the same in the program and in the reference -/
import Derived.Test.YtebfhlnfmkhmcaaRows
import Derived.Test.YtebfhlnfmkhmcaaPlain2
import Derived.Test.YtebfhlnfmkhmcaaAbsY
import Derived.WalkKit
import Derived.ProofKit
import Derived.OpenShut
namespace Go.Proofs.Ytebfhlnfmkhmcaa.fnExactCarlitzGenerator
open Go.ChangeShapes Go.WideShapes Go.ChangeAt Go.RowKit Go.Abs
set_option linter.unusedVariables false

theorem own : ownKnob Try.prog.godebug = none := by kernel_rfl

def W22 (v : (Vec Int 64)) : Prop := ∀ d ∈ v.1, (fun n => (Lit.int .u8 n).wf = true) d
theorem dec22 : Dec Try.prog 22 eA64u8 W22 64 := Dec.arr (sz := 1) (e := (AV.int .u8)) (wf := (fun n => (Lit.int .u8 n).wf = true)) Try.underlying22 (by kernel_rfl) (Dec.int Try.underlying5 (by kernel_rfl))
theorem bytes22 {v : (Vec Int 64)} (h : W22 v) : IsB v := fun d hd => by
  have := h d hd
  simp [Lit.wf, IntKind.min, IntKind.max, IntKind.signed, IntKind.bits] at this
  omega

/-! The walk. -/
theorem walk (a0 : Int) (w0 : (Lit.int .i64 a0).wf = true) (a1 : (Vec Int 64)) (wa1 : W22 a1) (v1 : Value) (hv1 : ∀ S w, ∃ cs, VRel S w (eA64u8 a1) cs ∧ v1 = .agg cs.toArray) (w : World) :
    Calls Try.prog 5 #[.int .i64 a0, v1] w fun e w' => e = .returned (.bool true) ∧ Grown w w' := by
  refine (den_grown (B0 := fun _ => False) (laws_FnExactCarlitzGenerator_ok a0 a1 true (car_law a0 a1 (bytes22 wa1))) rfl (fun _ h => h.elim) (cargs := [.int .i64 a0, v1]) ⟨_, _, rfl, rfl, ⟨_, _, rfl, hv1 _ _, rfl⟩⟩).mono ?_
  rintro e w' ⟨⟨v, rfl, S, ρ, H, h⟩, hg⟩
  exact ⟨by rw [show v = .bool true from h], hg⟩

/-! The row. -/
set_option maxRecDepth 100000 in
theorem lifted (os : Os) (started : os.Started) (H : Type) (enc : TypeId × Value → H) :
    ReturnsInHanded {} Try.checked os 5 .any (Rows.fnExactCarlitzGeneratorSpec.pre6 enc Try.prog Try.f5 Rows.fnExactCarlitzGeneratorRow.domain false) (Rows.fnExactCarlitzGeneratorSpec.post enc Try.prog Try.f5 false true false false) := by
  refine returnsInHanded_of_change (C := Try.checked) own started (by kernel_rfl) Try.func5
    (ChangeSpec.witness6 (enc := enc) (C := Try.checked) false ⟨#[], #[.int .i64 0, .agg (Array.replicate 64 (.int .u8 0))], []⟩ 8 (by kernel_rfl) (by kernel_rfl) (by kernel_rfl) (by kernel_rfl)) ?_
  intro W base args ds gs before hval0 hW hcnd _
  have hval : ∀ (j : Nat) t v, Try.f5.params[j]? = some t → args[j]? = some v → Value.okWide Try.prog W .any base t v := hval0
  have hW' := hW
  obtain ⟨p, q, hA0, hV, rfl, hfz, hnd⟩ := hW
  have hA : DataW.TrodAll enc Try.prog W 0 (fun _ => true) true Try.f5.params.toList args.toList ds p := hA0
  rw [Try.params5] at hA hval
  obtain ⟨v0, vs0, d0, ds0, p0, q0, hargs, rfl, rfl, h0, r0⟩ := trodAll_cons hA
  obtain ⟨v1, vs1, d1, ds1, p1, q1, rfl, rfl, rfl, h1, r1⟩ := trodAll_cons r0
  obtain ⟨rfl, rfl, rfl⟩ := trodAll_nil r1
  obtain rfl : args = #[v0, v1] := by cases args; simp_all
  obtain ⟨rfl, rfl⟩ := trodVars_none hV
  obtain ⟨a0, rfl, rfl, rfl, w0⟩ := open_int Try.underlying2 (hval 0 2 v0 rfl rfl) h0
  have hagg1 : ∃ cs, v1 = .agg cs := by
    have h := hval 1 22 v1 rfl rfl
    unfold Value.okWide at h
    rw [Try.underlying22] at h
    obtain ⟨cs, h, _⟩ := h
    exact ⟨cs, h⟩
  obtain ⟨a1, wa1, rfl, hv1, hsh1⟩ := dec22.open hagg1 h1
  clear hA0 hval0
  simp only [List.append_nil] at hW'
  refine (walk a0 w0 a1 wa1 v1 hv1 W).mono fun e W' ⟨he, hg⟩ => ?_
  subst he
  exact ⟨_, rfl, post_of_same (pa := []) (pv := []) hW' (fun _ _ _ => (trodAll_cons_mk (shut_bool Try.underlying4 _) trodAll_mk0)) (fun sp _ => (trodAll_cons_mk (shut_int Try.underlying2 w0) (trodAll_cons_mk (hsh1 _ _ _ _) trodAll_mk0))) (fun _ _ => rfl) rfl
    (hg.frame _) hg.2.1 (ok_one (by kernel_rfl) rfl (okWide_bool_mk Try.underlying4 _))⟩

theorem over : Rows.fnExactCarlitzGeneratorRow.holds Try.pinned (OpenSpec.ofChange Rows.fnExactCarlitzGeneratorSpec) :=
  OpenClaim.holds_of_wide 5 Try.f5 rfl rfl rfl rfl rfl rfl rfl ⟨rfl, rfl, rfl, rfl, rfl⟩ rfl rfl rfl rfl rfl (by kernel_rfl) Try.func5 (by kernel_rfl)
    (of_decide_eq_true (by kernel_rfl)) (by unfold Func.isWrapper; first | (rw [if_pos (by decide +kernel)]; kernel_rfl) | (rw [if_neg (by decide +kernel)]; exact ⟨rfl, rfl⟩))
    (fun os started H enc _ => lifted os started H enc)

/-- The statement. -/
theorem proved : Rows.FnExactCarlitzGeneratorSaid :=
  over
#print axioms proved
end Go.Proofs.Ytebfhlnfmkhmcaa.fnExactCarlitzGenerator

