/- Own texts, put together. -/
import Derived.Test.YtcgohoclbjgmkaaPlain1
set_option linter.unusedSimpArgs false
set_option linter.unusedVariables false
/- Loops that look for an element. -/
namespace Go.Abs
theorem any_loop {α β : Type} [Inhabited α] {l : List α} (b : α → Bool) (v : Nat → β) {body : Int → Option (Int ⊕ (Unit ⊕ β))} (h1 : ∀ i : Nat, i < l.length → body (i : Int) = some (if b (rd l i) then .inr (.inr (v i)) else .inl ((i + 1 : Nat) : Int))) (h2 : body (l.length : Int) = some (.inr (.inl ()))) :
    ∃ r, loopM body 0 = some r ∧ ((r = .inl () ∧ l.any b = false) ∨ (∃ i, r = .inr (v i) ∧ l.any b = true)) := by
  have key : ∀ (m i : Nat), i + m = l.length → (l.take i).any b = false → ∃ r, loopM body (i : Int) = some r ∧ ((r = .inl () ∧ l.any b = false) ∨ (∃ i, r = .inr (v i) ∧ l.any b = true)) := by
    intro m
    induction m with
    | zero =>
      intro i hi ha
      have : i = l.length := by omega
      subst this
      rw [List.take_length] at ha
      exact ⟨.inl (), by rw [loopM_eq, h2]; rfl, .inl ⟨rfl, ha⟩⟩
    | succ m ih =>
      intro i hi ha
      have hil : i < l.length := by omega
      have er : rd l i = l[i] := by simp [rd, hil]
      cases e : b (rd l i) with
      | true =>
        refine ⟨.inr (v i), by rw [loopM_eq, h1 i hil, e]; rfl, .inr ⟨i, rfl, ?_⟩⟩
        rw [List.any_eq_true]
        exact ⟨l[i], List.getElem_mem _, by rw [← er]; exact e⟩
      | false =>
        obtain ⟨r, k1, k2⟩ := ih (i + 1) (by omega) (by rw [List.take_succ_eq_append_getElem hil, List.any_append, ha, ← er]; simp [e])
        refine ⟨r, ?_, k2⟩
        rw [loopM_eq, h1 i hil, e]
        exact k1
  exact key l.length 0 (by omega) (by simp)
theorem all_not {α : Type} (l : List α) (b : α → Bool) : l.all b = !(l.any fun x => !b x) := by
  induction l with
  | nil => rfl
  | cons x l ih => simp only [List.all_cons, List.any_cons, ih, Bool.not_or, Bool.not_not]
theorem rd_in {α : Type} [Inhabited α] {l : List α} {i : Nat} (h : i < l.length) : rd l i ∈ l := by
  have : rd l i = l[i] := by simp [rd, h]
  rw [this]; exact List.getElem_mem _
end Go.Abs
/- Skew polynomials: which arrays are some, in the program and in the reference. -/
namespace Go.Proofs.Ytcgohoclbjgmkaa
open Go.Abs
abbrev Sk := Vec V64 8
theorem toSkew_is (a : Sk) : laws_toSkew a = some a := by
  obtain ⟨v, h1, h2⟩ := loopM_for (body := fun s : Int × Sk => laws_toSkew_l1 a s.1 s.2) (fun i u => ((i : Int), u)) (fun u => u) 8
    (fun i u => ∀ j, j < i → rd u.1 j = rd a.1 j) (fun i u hi hI => by
      refine ⟨vset u i (rd a.1 i), ?_, fun j hj => ?_⟩
      · simp only [laws_toSkew_l1, toPoly_is, Option.bind_some, Int.toNat_natCast]
        rw [if_pos (decide_eq_true (by omega)), ifp_pos (by omega), ifp_pos (by omega), wrap64 (by omega) (by omega)]
        rfl
      · have hl : i < u.1.length := by rw [u.2]; exact hi
        by_cases e : j = i
        · subst e; simp [rd, vset, hl]
        · have h1 : rd (vset u i (rd a.1 i)).1 j = rd u.1 j := by simp [rd, vset, Ne.symm e]
          rw [h1, hI j (by omega)]) (fun u hI => by
      simp only [laws_toSkew_l1]
      rw [if_neg (by rw [decide_eq_true_eq]; omega)]) 8 0 (vrep 8 (vrep 64 0)) (by omega) (fun j hj => by omega)
  have e : v = a := by
    apply Subtype.ext
    apply List.ext_getElem
    · rw [v.2, a.2]
    · intro j k1 k2
      have := h2 j (by rw [v.2] at k1; exact k1)
      simpa [rd, k1, k2] using this
  have h1' : loopM (fun s : Int × Sk => laws_toSkew_l1 a s.1 s.2) (0, vrep 8 (vrep 64 0)) = some v := h1
  simp only [laws_toSkew, h1', Option.bind_some, e]
/-- Bytes alone. -/
def SkB (f : Sk) : Prop := ∀ a ∈ f.1, IsB a
noncomputable def skewB (p : Int) (m : V64) (f : Sk) : Bool := f.1.all (resi p m)
theorem skIs_S {p : Int} (hp : isP p = true) {m : V64} {f : Sk} (hf : SkB f) : spec_l03Is p m f = some (skewB p m f) := by
  obtain ⟨r, h1, h2⟩ := any_loop (l := f.1) (fun a => !resi p m a) (fun _ => false) (body := fun s : Int => spec_l03Is_l1 p m f s) (fun i hi => by
    have hi8 : i < 8 := by rw [f.2] at hi; exact hi
    simp only [spec_l03Is_l1, Int.toNat_natCast, resiS hp (hf _ (rd_in hi)), Option.bind_some]
    rw [if_pos (decide_eq_true (by omega)), ifp_pos (by omega), wrap64 (by omega) (by omega)]
    cases resi p m (rd f.1 i) <;> rfl) (by
    simp only [spec_l03Is_l1]
    rw [if_neg (by rw [decide_eq_true_eq, f.2]; omega)])
  simp only [spec_l03Is, h1, Option.bind_some, skewB, all_not]
  rcases h2 with ⟨rfl, h⟩ | ⟨i, rfl, h⟩ <;> simp [h]
theorem skIs_I {p : Int} {m : V64} {f : Sk} (hf : SkB f) : impl_field_isSkew (p, row m) f = some (skewB p m f) := by
  obtain ⟨r, h1, h2⟩ := any_loop (l := f.1) (fun a => !resi p m a) (fun i => (i : Int)) (body := fun s : Int => slices_IndexFunc_impl_Poly_impl_Poly_of_impl_areAll_impl_Poly__c1_p_isResidue_l1 f.1 (p, row m) s) (fun i hi => by
    have hi8 : i < 8 := by rw [f.2] at hi; exact hi
    simp only [slices_IndexFunc_impl_Poly_impl_Poly_of_impl_areAll_impl_Poly__c1_p_isResidue_l1, impl_areAll_impl_Poly__c1_of_p_isResidue, Int.toNat_natCast, resiI (hf _ (rd_in hi)), Option.bind_some]
    rw [if_pos (decide_eq_true (by omega)), ifp_pos (by omega), wrap64 (by omega) (by omega)]
    cases resi p m (rd f.1 i) <;> rfl) (by
    simp only [slices_IndexFunc_impl_Poly_impl_Poly_of_impl_areAll_impl_Poly__c1_p_isResidue_l1]
    rw [if_neg (by rw [decide_eq_true_eq, f.2]; omega)])
  simp only [impl_field_isSkew, impl_areAll_impl_Poly_of_impl_field_isResidue, slices_ContainsFunc_impl_Poly_impl_Poly_of_impl_areAll_impl_Poly__c1_p_isResidue, slices_IndexFunc_impl_Poly_impl_Poly_of_impl_areAll_impl_Poly__c1_p_isResidue, h1, Option.bind_some, skewB, all_not]
  rcases h2 with ⟨rfl, h⟩ | ⟨i, rfl, h⟩ <;> simp [h]
end Go.Proofs.Ytcgohoclbjgmkaa
/- FnExactIsSkew. -/
namespace Go.Proofs.Ytcgohoclbjgmkaa
open Go.Abs
theorem isSkew_law (p : Int) (m : V64) (f : Sk) (hm : IsB m) (hf : SkB f) : laws_FnExactIsSkew p m f = some true := by
  simp only [laws_FnExactIsSkew, toPoly_is, toSkew_is, spec_IsSkew, impl_IsSkew, fieldS p hm, fieldI p hm, fieldOf_is hm, skIs_I hf, Option.bind_some]
  cases h : fld p m
  · simp
  · simp only [if_true, skIs_S (fld_prime h).1 hf, Option.bind_some]
    simp
end Go.Proofs.Ytcgohoclbjgmkaa
