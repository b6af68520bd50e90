/- Forms compose as told, on both sides, for all codes. -/
import Derived.Test.YtebfhlnfmkhmcaaGreatRows
import Derived.Test.YtebfhlnfmkhmcaaGreatPlain2
import Derived.Test.YtebfhlnfmkhmcaaGreatAbsYS
import Derived.WalkKit
import Derived.ProofKit
import Derived.OpenShut
namespace Go.Proofs.YtebfhlnfmkhmcaaGreat.fnForms
open Go.ChangeShapes Go.WideShapes Go.ChangeAt Go.RowKit Go.Abs
set_option linter.unusedVariables false

theorem own : ownKnob Tryz.prog.godebug = none := by kernel_rfl

theorem bytesl22 {l : List Int} (h : ∀ a ∈ l, (fun n => (Lit.int .u8 n).wf = true) a) : ∀ a ∈ l, 0 ≤ a ∧ a < 256 := fun d hd => by
  have := h d hd
  simp [Lit.wf, IntKind.min, IntKind.max, IntKind.signed, IntKind.bits] at this
  omega

/-! The walk. -/
theorem walk (a0 : (List Int)) (wa0 : ∀ a ∈ a0, (fun n => (Lit.int .u8 n).wf = true) a) (l0 : a0.length ≤ maxLen) (v0 : Value) (w : World) (hv0 : VRel (fun k => k < w.heap.size) w (xJ a0) [v0]) :
    Calls Tryz.prog 3 #[v0] w fun e w' => e = .returned (.bool true) ∧ Grown w w' := by
  refine (zzd (B0 := fun k => k < w.heap.size) (zos a0 true (zul a0 (bytesl22 wa0) l0)) rfl (fun _ h => h) (cargs := [v0]) ⟨_, _, rfl, hv0, rfl⟩).mono ?_
  rintro e w' ⟨⟨v, rfl, S, ρ, H, h⟩, hg⟩
  exact ⟨by rw [show v = .bool true from h], hg⟩

/-! The row. -/
set_option maxRecDepth 100000 in
theorem lifted (os : Os) (started : os.Started) (H : Type) (enc : TypeId × Value → H) :
    ReturnsInHanded {} Tryz.checked os 3 .any (Rows.fnFormsSpec.pre6 enc Tryz.prog Tryz.f3 Rows.fnFormsRow.domain false) (Rows.fnFormsSpec.post enc Tryz.prog Tryz.f3 false true false false) := by
  refine returnsInHanded_of_change (C := Tryz.checked) own started (by kernel_rfl) Tryz.func3
    (ChangeSpec.witness6 (enc := enc) (C := Tryz.checked) false ⟨#[], #[.slice none 0 0], []⟩ 8 (by kernel_rfl) (by kernel_rfl) (by kernel_rfl) (by kernel_rfl)) ?_
  intro W base args ds gs before hval0 hW hcnd _
  have hval : ∀ (j : Nat) t v, Tryz.f3.params[j]? = some t → args[j]? = some v → Value.okWide Tryz.prog W .any base t v := hval0
  have hW' := hW
  obtain ⟨p, q, hA0, hV, rfl, hfz, hnd⟩ := hW
  have hA : DataW.TrodAll enc Tryz.prog W 0 (fun _ => true) true Tryz.f3.params.toList args.toList ds p := hA0
  rw [Tryz.params3] at hA hval
  obtain ⟨v0, vs0, d0, ds0, p0, q0, hargs, rfl, rfl, h0, r0⟩ := trodAll_cons hA
  obtain ⟨rfl, rfl, rfl⟩ := trodAll_nil r0
  obtain rfl : args = #[v0] := by cases args; simp_all
  obtain ⟨rfl, rfl⟩ := trodVars_none hV
  obtain ⟨a0, wa0, l0, hv0⟩ := z32 Tryz.underlying22 (Dec.int Tryz.underlying5 (by kernel_rfl)) (by decide) (okWide_slice Tryz.underlying22 (hval 0 22 v0 rfl rfl)) h0
  clear hA0 hval0
  skip
  refine (walk a0 wa0 l0 v0 W hv0).mono fun e W' ⟨he, hg⟩ => ?_
  subst he
  exact ⟨_, rfl, post_of_same (pa := (p0 ++ [])) (pv := []) hW' (fun _ _ _ => (trodAll_cons_mk (shut_bool Tryz.underlying4 _) trodAll_mk0)) (fun sp hsp => (trodAll_cons_mk (WideElems.Trod_stays (by kernel_rfl) (by kernel_rfl) (of_decide_eq_true (by kernel_rfl)) h0 (zxi h0 (fun p hp => hW'.lt p (by simp [hp])) hg) (fun p hp => hsp p (by simp [hp]))) trodAll_mk0)) (fun _ _ => rfl) (by simp)
    (hg.frame _) hg.2.1 (ok_one (by kernel_rfl) rfl (okWide_bool_mk Tryz.underlying4 _))⟩

theorem over : Rows.fnFormsRow.holds Tryz.pinned (OpenSpec.ofChange Rows.fnFormsSpec) :=
  OpenClaim.holds_of_wide 3 Tryz.f3 rfl rfl rfl rfl rfl rfl rfl ⟨rfl, rfl, rfl, rfl, rfl⟩ rfl rfl rfl rfl rfl (by kernel_rfl) Tryz.func3 (by kernel_rfl)
    (of_decide_eq_true (by kernel_rfl)) (by unfold Func.isWrapper; first | (rw [if_pos (by decide +kernel)]; kernel_rfl) | (rw [if_neg (by decide +kernel)]; exact ⟨rfl, rfl⟩))
    (fun os started H enc _ => lifted os started H enc)

/-- The statement. -/
theorem proved : Rows.FnFormsSaid :=
  over
#print axioms proved
end Go.Proofs.YtebfhlnfmkhmcaaGreat.fnForms

