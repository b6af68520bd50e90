/- FnExactIsDesk: for every desk, the program's IsDesk returns what the reference's returns; no condition. -/
import Derived.Test.YtacebpbhddkelaaRows
import Derived.Test.YtacebpbhddkelaaIsDesk
import Derived.Test.YtacebpbhddkelaaAbsY
import Derived.WalkKit
import Derived.ProofKit
import Derived.OpenShut
namespace Go.Proofs.Ytacebpbhddkelaa.fnExactIsDesk
open Go.ChangeShapes Go.WideShapes Go.ChangeAt Go.RowKit Go.Abs
set_option linter.unusedVariables false

theorem own : ownKnob Try.prog.godebug = none := by kernel_rfl

def Wu8 (v : V64) : Prop := ∀ d ∈ v.1, (Lit.int .u8 d).wf = true
theorem dec22 : Dec Try.prog 22 eA64u8 Wu8 64 := Dec.arr (sz := 1) (e := AV.int .u8) (wf := fun d => (Lit.int .u8 d).wf = true) Try.underlying22 (by kernel_rfl) (Dec.int Try.underlying5 (by kernel_rfl))
def Wdesk (a : Int × V64 × V64 × V64) : Prop := (Lit.int .i64 a.1).wf = true ∧ Wu8 a.2.1 ∧ Wu8 a.2.2.1 ∧ Wu8 a.2.2.2
theorem dec36 : Dec Try.prog 36 eT_i64_A64u8_A64u8_A64u8_Z Wdesk 193 := by
  refine Dec.struct (szs := [1, 64, 64, 64]) (es := fun a : Int × V64 × V64 × V64 => [AV.int .i64 a.1, eA64u8 a.2.1, eA64u8 a.2.2.1, eA64u8 a.2.2.2]) (wf := Wdesk) Try.underlying36 (by kernel_rfl) ?_
  refine DecFs.cons (off := 0) (sz := 1) (e := AV.int .i64) (es := fun a : V64 × V64 × V64 => [eA64u8 a.1, eA64u8 a.2.1, eA64u8 a.2.2]) (wf := fun n => (Lit.int .i64 n).wf = true) (wfs := fun a => Wu8 a.1 ∧ Wu8 a.2.1 ∧ Wu8 a.2.2) rfl (Dec.int Try.underlying2 (by kernel_rfl)) ?_
  refine DecFs.cons (off := 1) (sz := 64) (e := eA64u8) (es := fun a : V64 × V64 => [eA64u8 a.1, eA64u8 a.2]) (wf := Wu8) (wfs := fun a => Wu8 a.1 ∧ Wu8 a.2) rfl dec22 ?_
  refine DecFs.cons (off := 65) (sz := 64) (e := eA64u8) (es := fun a : V64 => [eA64u8 a]) (wf := Wu8) (wfs := Wu8) rfl dec22 ?_
  exact DecFs.one (off := 129) (sz := 64) (e := eA64u8) (wf := Wu8) rfl dec22

theorem bytes_of {v : V64} (h : Wu8 v) : IsB v := fun d hd => by
  have := h d hd
  simp [Lit.wf, IntKind.min, IntKind.max, IntKind.signed, IntKind.bits] at this
  omega

theorem walk (a0 : Int × V64 × V64 × V64) (wa : Wdesk a0) (v0 : Value) (hv : ∀ S w, ∃ cs, VRel S w (eT_i64_A64u8_A64u8_A64u8_Z a0) cs ∧ v0 = .agg cs.toArray) (w : World) :
    Calls Try.prog 6 #[v0] w fun e w' => e = .returned (.bool true) ∧ Grown w w' := by
  refine (den_grown (B0 := fun _ => False) (laws_FnExactIsDesk_ok a0 true (isDesk_law a0 (bytes_of wa.2.1) (bytes_of wa.2.2.1) (bytes_of wa.2.2.2))) rfl (fun _ h => h.elim) (cargs := [v0]) ⟨_, _, rfl, hv _ _, rfl⟩).mono ?_
  rintro e w' ⟨⟨v, rfl, S, ρ, H, h⟩, hg⟩
  exact ⟨by rw [show v = .bool true from h], hg⟩

set_option maxRecDepth 100000 in
theorem lifted (os : Os) (started : os.Started) (H : Type) (enc : TypeId × Value → H) :
    ReturnsInHanded {} Try.checked os 6 .any (Rows.fnExactIsDeskSpec.pre6 enc Try.prog Try.f6 Rows.fnExactIsDeskRow.domain false) (Rows.fnExactIsDeskSpec.post enc Try.prog Try.f6 false true false false) := by
  refine returnsInHanded_of_change (C := Try.checked) own started (by kernel_rfl) Try.func6
    (ChangeSpec.witness6 (enc := enc) (C := Try.checked) false ⟨#[], #[.agg (#[.int .i64 0] ++ Array.replicate 192 (.int .u8 0))], []⟩ 8 (by kernel_rfl) (by kernel_rfl) (by kernel_rfl) (by kernel_rfl)) ?_
  intro W base args ds gs before hval0 hW hcnd _
  have hval : ∀ (j : Nat) t v, Try.f6.params[j]? = some t → args[j]? = some v → Value.okWide Try.prog W .any base t v := hval0
  have hW' := hW
  obtain ⟨p, q, hA0, hV, rfl, hfz, hnd⟩ := hW
  have hA : DataW.TrodAll enc Try.prog W 0 (fun _ => true) true Try.f6.params.toList args.toList ds p := hA0
  rw [Try.params6] at hA hval
  obtain ⟨v0, vs0, d0, ds0, p0, q0, hargs, rfl, rfl, h0, r0⟩ := trodAll_cons hA
  obtain ⟨rfl, rfl, rfl⟩ := trodAll_nil r0
  obtain rfl : args = #[v0] := by cases args; simp_all
  obtain ⟨rfl, rfl⟩ := trodVars_none hV
  have hagg : ∃ cs, v0 = .agg cs := by
    have h := hval 0 36 v0 rfl rfl
    unfold Value.okWide at h
    rw [Try.underlying36] at h
    obtain ⟨cs, h, _⟩ := h
    exact ⟨cs, h⟩
  obtain ⟨a0, wa, rfl, hv, hsh⟩ := dec36.open hagg h0
  clear hA0 hval0
  simp only [List.append_nil] at hW'
  refine (walk a0 wa v0 hv W).mono fun e W' ⟨he, hg⟩ => ?_
  subst he
  exact ⟨_, rfl, post_of_same (pa := []) (pv := []) hW' (fun _ _ _ => (trodAll_cons_mk (shut_bool Try.underlying4 _) trodAll_mk0)) (fun sp _ => (trodAll_cons_mk (hsh _ _ _ _) trodAll_mk0)) (fun _ _ => rfl) rfl
    (hg.frame _) hg.2.1 (ok_one (by kernel_rfl) rfl (okWide_bool_mk Try.underlying4 _))⟩

theorem over : Rows.fnExactIsDeskRow.holds Try.pinned (OpenSpec.ofChange Rows.fnExactIsDeskSpec) :=
  OpenClaim.holds_of_wide 6 Try.f6 rfl rfl rfl rfl rfl rfl rfl ⟨rfl, rfl, rfl, rfl, rfl⟩ rfl rfl rfl rfl rfl (by kernel_rfl) Try.func6 (by kernel_rfl)
    (of_decide_eq_true (by kernel_rfl)) (by unfold Func.isWrapper; first | (rw [if_pos (by decide +kernel)]; kernel_rfl) | (rw [if_neg (by decide +kernel)]; exact ⟨rfl, rfl⟩))
    (fun os started H enc _ => lifted os started H enc)

/-- The statement. -/
theorem proved : Rows.FnExactIsDeskSaid :=
  over
#print axioms proved
end Go.Proofs.Ytacebpbhddkelaa.fnExactIsDesk
