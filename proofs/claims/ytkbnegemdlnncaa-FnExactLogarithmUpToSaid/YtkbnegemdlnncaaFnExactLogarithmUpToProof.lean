/- The program's LogarithmUpTo returns what the reference's returns, for all arguments. -/
import Derived.Test.YtkbnegemdlnncaaRows
import Derived.Test.YtkbnegemdlnncaaPlain2
import Derived.Test.YtkbnegemdlnncaaAbsY
import Derived.WalkKit
import Derived.ProofKit
import Derived.OpenShut
namespace Go.Proofs.Ytkbnegemdlnncaa.fnExactLogarithmUpTo
open Go.ChangeShapes Go.WideShapes Go.ChangeAt Go.RowKit Go.Abs
set_option linter.unusedVariables false

theorem own : ownKnob Try.prog.godebug = none := by kernel_rfl

def W24 (v : (Vec Int 64)) : Prop := ∀ d ∈ v.1, (fun n => (Lit.int .u8 n).wf = true) d
theorem dec24 : Dec Try.prog 24 eA64u8 W24 64 := Dec.arr (sz := 1) (e := (AV.int .u8)) (wf := (fun n => (Lit.int .u8 n).wf = true)) Try.underlying24 (by kernel_rfl) (Dec.int Try.underlying5 (by kernel_rfl))
theorem bytes24 {v : (Vec Int 64)} (h : W24 v) : IsB v := fun d hd => by
  have := h d hd
  simp [Lit.wf, IntKind.min, IntKind.max, IntKind.signed, IntKind.bits] at this
  omega

/-! The walk. -/
theorem walk (a0 : Int) (w0 : (Lit.int .i64 a0).wf = true) (a1 : (Vec Int 64)) (wa1 : W24 a1) (v1 : Value) (hv1 : ∀ S w, ∃ cs, VRel S w (eA64u8 a1) cs ∧ v1 = .agg cs.toArray) (a2 : (Vec Int 64)) (wa2 : W24 a2) (v2 : Value) (hv2 : ∀ S w, ∃ cs, VRel S w (eA64u8 a2) cs ∧ v2 = .agg cs.toArray) (a3 : Int) (w3 : (Lit.int .i64 a3).wf = true) (w : World) :
    Calls Try.prog 6 #[.int .i64 a0, v1, v2, .int .i64 a3] w fun e w' => e = .returned (.bool true) ∧ Grown w w' := by
  refine (den_grown (B0 := fun _ => False) (laws_FnExactLogarithmUpTo_ok a0 a1 a2 a3 true (secondCut_law a0 a1 a2 a3 (bytes24 wa1) (bytes24 wa2))) rfl (fun _ h => h.elim) (cargs := [.int .i64 a0, v1, v2, .int .i64 a3]) ⟨_, _, rfl, rfl, ⟨_, _, rfl, hv1 _ _, ⟨_, _, rfl, hv2 _ _, ⟨_, _, rfl, rfl, rfl⟩⟩⟩⟩).mono ?_
  rintro e w' ⟨⟨v, rfl, S, ρ, H, h⟩, hg⟩
  exact ⟨by rw [show v = .bool true from h], hg⟩

/-! The row. -/
set_option maxRecDepth 100000 in
theorem lifted (os : Os) (started : os.Started) (H : Type) (enc : TypeId × Value → H) :
    ReturnsInHanded {} Try.checked os 6 .any (Rows.fnExactLogarithmUpToSpec.pre6 enc Try.prog Try.f6 Rows.fnExactLogarithmUpToRow.domain false) (Rows.fnExactLogarithmUpToSpec.post enc Try.prog Try.f6 false true false false) := by
  refine returnsInHanded_of_change (C := Try.checked) own started (by kernel_rfl) Try.func6
    (ChangeSpec.witness6 (enc := enc) (C := Try.checked) false ⟨#[], #[.int .i64 0, .agg (Array.replicate 64 (.int .u8 0)), .agg (Array.replicate 64 (.int .u8 0)), .int .i64 0], []⟩ 8 (by kernel_rfl) (by kernel_rfl) (by kernel_rfl) (by kernel_rfl)) ?_
  intro W base args ds gs before hval0 hW hcnd _
  have hval : ∀ (j : Nat) t v, Try.f6.params[j]? = some t → args[j]? = some v → Value.okWide Try.prog W .any base t v := hval0
  have hW' := hW
  obtain ⟨p, q, hA0, hV, rfl, hfz, hnd⟩ := hW
  have hA : DataW.TrodAll enc Try.prog W 0 (fun _ => true) true Try.f6.params.toList args.toList ds p := hA0
  rw [Try.params6] at hA hval
  obtain ⟨v0, vs0, d0, ds0, p0, q0, hargs, rfl, rfl, h0, r0⟩ := trodAll_cons hA
  obtain ⟨v1, vs1, d1, ds1, p1, q1, rfl, rfl, rfl, h1, r1⟩ := trodAll_cons r0
  obtain ⟨v2, vs2, d2, ds2, p2, q2, rfl, rfl, rfl, h2, r2⟩ := trodAll_cons r1
  obtain ⟨v3, vs3, d3, ds3, p3, q3, rfl, rfl, rfl, h3, r3⟩ := trodAll_cons r2
  obtain ⟨rfl, rfl, rfl⟩ := trodAll_nil r3
  obtain rfl : args = #[v0, v1, v2, v3] := by cases args; simp_all
  obtain ⟨rfl, rfl⟩ := trodVars_none hV
  obtain ⟨a0, rfl, rfl, rfl, w0⟩ := open_int Try.underlying2 (hval 0 2 v0 rfl rfl) h0
  have hagg1 : ∃ cs, v1 = .agg cs := by
    have h := hval 1 24 v1 rfl rfl
    unfold Value.okWide at h
    rw [Try.underlying24] at h
    obtain ⟨cs, h, _⟩ := h
    exact ⟨cs, h⟩
  obtain ⟨a1, wa1, rfl, hv1, hsh1⟩ := dec24.open hagg1 h1
  have hagg2 : ∃ cs, v2 = .agg cs := by
    have h := hval 2 24 v2 rfl rfl
    unfold Value.okWide at h
    rw [Try.underlying24] at h
    obtain ⟨cs, h, _⟩ := h
    exact ⟨cs, h⟩
  obtain ⟨a2, wa2, rfl, hv2, hsh2⟩ := dec24.open hagg2 h2
  obtain ⟨a3, rfl, rfl, rfl, w3⟩ := open_int Try.underlying2 (hval 3 2 v3 rfl rfl) h3
  clear hA0 hval0
  simp only [List.append_nil] at hW'
  refine (walk a0 w0 a1 wa1 v1 hv1 a2 wa2 v2 hv2 a3 w3 W).mono fun e W' ⟨he, hg⟩ => ?_
  subst he
  exact ⟨_, rfl, post_of_same (pa := []) (pv := []) hW' (fun _ _ _ => (trodAll_cons_mk (shut_bool Try.underlying4 _) trodAll_mk0)) (fun sp _ => (trodAll_cons_mk (shut_int Try.underlying2 w0) (trodAll_cons_mk (hsh1 _ _ _ _) (trodAll_cons_mk (hsh2 _ _ _ _) (trodAll_cons_mk (shut_int Try.underlying2 w3) trodAll_mk0))))) (fun _ _ => rfl) rfl
    (hg.frame _) hg.2.1 (ok_one (by kernel_rfl) rfl (okWide_bool_mk Try.underlying4 _))⟩

theorem over : Rows.fnExactLogarithmUpToRow.holds Try.pinned (OpenSpec.ofChange Rows.fnExactLogarithmUpToSpec) :=
  OpenClaim.holds_of_wide 6 Try.f6 rfl rfl rfl rfl rfl rfl rfl ⟨rfl, rfl, rfl, rfl, rfl⟩ rfl rfl rfl rfl rfl (by kernel_rfl) Try.func6 (by kernel_rfl)
    (of_decide_eq_true (by kernel_rfl)) (by unfold Func.isWrapper; first | (rw [if_pos (by decide +kernel)]; kernel_rfl) | (rw [if_neg (by decide +kernel)]; exact ⟨rfl, rfl⟩))
    (fun os started H enc _ => lifted os started H enc)

/-- The statement. -/
theorem proved : Rows.FnExactLogarithmUpToSaid :=
  over
#print axioms proved
end Go.Proofs.Ytkbnegemdlnncaa.fnExactLogarithmUpTo

