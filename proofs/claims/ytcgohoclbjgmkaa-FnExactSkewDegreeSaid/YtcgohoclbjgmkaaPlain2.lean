/- Own texts, put together. -/
import Derived.Test.YtcgohoclbjgmkaaPlain1
set_option linter.unusedSimpArgs false
set_option linter.unusedVariables false
/- Loops that look for an element. -/
namespace Go.Abs
theorem any_loop {α β : Type} [Inhabited α] {l : List α} (b : α → Bool) (v : Nat → β) {body : Int → Option (Int ⊕ (Unit ⊕ β))} (h1 : ∀ i : Nat, i < l.length → body (i : Int) = some (if b (rd l i) then .inr (.inr (v i)) else .inl ((i + 1 : Nat) : Int))) (h2 : body (l.length : Int) = some (.inr (.inl ()))) :
    ∃ r, loopM body 0 = some r ∧ ((r = .inl () ∧ l.any b = false) ∨ (∃ i, r = .inr (v i) ∧ l.any b = true)) := by
  have key : ∀ (m i : Nat), i + m = l.length → (l.take i).any b = false → ∃ r, loopM body (i : Int) = some r ∧ ((r = .inl () ∧ l.any b = false) ∨ (∃ i, r = .inr (v i) ∧ l.any b = true)) := by
    intro m
    induction m with
    | zero =>
      intro i hi ha
      have : i = l.length := by omega
      subst this
      rw [List.take_length] at ha
      exact ⟨.inl (), by rw [loopM_eq, h2]; rfl, .inl ⟨rfl, ha⟩⟩
    | succ m ih =>
      intro i hi ha
      have hil : i < l.length := by omega
      have er : rd l i = l[i] := by simp [rd, hil]
      cases e : b (rd l i) with
      | true =>
        refine ⟨.inr (v i), by rw [loopM_eq, h1 i hil, e]; rfl, .inr ⟨i, rfl, ?_⟩⟩
        rw [List.any_eq_true]
        exact ⟨l[i], List.getElem_mem _, by rw [← er]; exact e⟩
      | false =>
        obtain ⟨r, k1, k2⟩ := ih (i + 1) (by omega) (by rw [List.take_succ_eq_append_getElem hil, List.any_append, ha, ← er]; simp [e])
        refine ⟨r, ?_, k2⟩
        rw [loopM_eq, h1 i hil, e]
        exact k1
  exact key l.length 0 (by omega) (by simp)
theorem all_not {α : Type} (l : List α) (b : α → Bool) : l.all b = !(l.any fun x => !b x) := by
  induction l with
  | nil => rfl
  | cons x l ih => simp only [List.all_cons, List.any_cons, ih, Bool.not_or, Bool.not_not]
theorem rd_in {α : Type} [Inhabited α] {l : List α} {i : Nat} (h : i < l.length) : rd l i ∈ l := by
  have : rd l i = l[i] := by simp [rd, h]
  rw [this]; exact List.getElem_mem _
end Go.Abs
/- Skew polynomials: which arrays are some, in the program and in the reference. -/
namespace Go.Proofs.Ytcgohoclbjgmkaa
open Go.Abs
abbrev Sk := Vec V64 8
theorem toSkew_is (a : Sk) : laws_toSkew a = some a := by
  obtain ⟨v, h1, h2⟩ := loopM_for (body := fun s : Int × Sk => laws_toSkew_l1 a s.1 s.2) (fun i u => ((i : Int), u)) (fun u => u) 8
    (fun i u => ∀ j, j < i → rd u.1 j = rd a.1 j) (fun i u hi hI => by
      refine ⟨vset u i (rd a.1 i), ?_, fun j hj => ?_⟩
      · simp only [laws_toSkew_l1, toPoly_is, Option.bind_some, Int.toNat_natCast]
        rw [if_pos (decide_eq_true (by omega)), ifp_pos (by omega), ifp_pos (by omega), wrap64 (by omega) (by omega)]
        rfl
      · have hl : i < u.1.length := by rw [u.2]; exact hi
        by_cases e : j = i
        · subst e; simp [rd, vset, hl]
        · have h1 : rd (vset u i (rd a.1 i)).1 j = rd u.1 j := by simp [rd, vset, Ne.symm e]
          rw [h1, hI j (by omega)]) (fun u hI => by
      simp only [laws_toSkew_l1]
      rw [if_neg (by rw [decide_eq_true_eq]; omega)]) 8 0 (vrep 8 (vrep 64 0)) (by omega) (fun j hj => by omega)
  have e : v = a := by
    apply Subtype.ext
    apply List.ext_getElem
    · rw [v.2, a.2]
    · intro j k1 k2
      have := h2 j (by rw [v.2] at k1; exact k1)
      simpa [rd, k1, k2] using this
  have h1' : loopM (fun s : Int × Sk => laws_toSkew_l1 a s.1 s.2) (0, vrep 8 (vrep 64 0)) = some v := h1
  simp only [laws_toSkew, h1', Option.bind_some, e]
/-- Bytes alone. -/
def SkB (f : Sk) : Prop := ∀ a ∈ f.1, IsB a
noncomputable def skewB (p : Int) (m : V64) (f : Sk) : Bool := f.1.all (resi p m)
theorem skIs_S {p : Int} (hp : isP p = true) {m : V64} {f : Sk} (hf : SkB f) : spec_l03Is p m f = some (skewB p m f) := by
  obtain ⟨r, h1, h2⟩ := any_loop (l := f.1) (fun a => !resi p m a) (fun _ => false) (body := fun s : Int => spec_l03Is_l1 p m f s) (fun i hi => by
    have hi8 : i < 8 := by rw [f.2] at hi; exact hi
    simp only [spec_l03Is_l1, Int.toNat_natCast, resiS hp (hf _ (rd_in hi)), Option.bind_some]
    rw [if_pos (decide_eq_true (by omega)), ifp_pos (by omega), wrap64 (by omega) (by omega)]
    cases resi p m (rd f.1 i) <;> rfl) (by
    simp only [spec_l03Is_l1]
    rw [if_neg (by rw [decide_eq_true_eq, f.2]; omega)])
  simp only [spec_l03Is, h1, Option.bind_some, skewB, all_not]
  rcases h2 with ⟨rfl, h⟩ | ⟨i, rfl, h⟩ <;> simp [h]
theorem skIs_I {p : Int} {m : V64} {f : Sk} (hf : SkB f) : impl_field_isSkew (p, row m) f = some (skewB p m f) := by
  obtain ⟨r, h1, h2⟩ := any_loop (l := f.1) (fun a => !resi p m a) (fun i => (i : Int)) (body := fun s : Int => slices_IndexFunc_impl_Poly_impl_Poly_of_impl_areAll_impl_Poly__c1_p_isResidue_l1 f.1 (p, row m) s) (fun i hi => by
    have hi8 : i < 8 := by rw [f.2] at hi; exact hi
    simp only [slices_IndexFunc_impl_Poly_impl_Poly_of_impl_areAll_impl_Poly__c1_p_isResidue_l1, impl_areAll_impl_Poly__c1_of_p_isResidue, Int.toNat_natCast, resiI (hf _ (rd_in hi)), Option.bind_some]
    rw [if_pos (decide_eq_true (by omega)), ifp_pos (by omega), wrap64 (by omega) (by omega)]
    cases resi p m (rd f.1 i) <;> rfl) (by
    simp only [slices_IndexFunc_impl_Poly_impl_Poly_of_impl_areAll_impl_Poly__c1_p_isResidue_l1]
    rw [if_neg (by rw [decide_eq_true_eq, f.2]; omega)])
  simp only [impl_field_isSkew, impl_areAll_impl_Poly_of_impl_field_isResidue, slices_ContainsFunc_impl_Poly_impl_Poly_of_impl_areAll_impl_Poly__c1_p_isResidue, slices_IndexFunc_impl_Poly_impl_Poly_of_impl_areAll_impl_Poly__c1_p_isResidue, h1, Option.bind_some, skewB, all_not]
  rcases h2 with ⟨rfl, h⟩ | ⟨i, rfl, h⟩ <;> simp [h]
end Go.Proofs.Ytcgohoclbjgmkaa
/- The code of skew polynomials. -/
namespace Go.Proofs.Ytcgohoclbjgmkaa
open Go.Abs
theorem skCodeS {p : Int} {m : V64} {l : List Sk} (hm : IsB m) (hl : ∀ f ∈ l, SkB f) (hn : l.length ≤ 1000000) : spec_l03Code p m l = some (if fld p m && l.all (skewB p m) then 0 else 1) := by
  simp only [spec_l03Code, fieldS p hm, Option.bind_some]
  cases h : fld p m
  · rfl
  · obtain ⟨r, h1, h2⟩ := any_loop (l := l) (fun a => !skewB p m a) (fun _ => (1 : Int)) (body := fun s : Int => spec_l03Code_l1 l p m s) (fun i hi => by
      simp only [spec_l03Code_l1, Int.toNat_natCast, skIs_S (fld_prime h).1 (hl _ (rd_in hi)), Option.bind_some]
      rw [if_pos (decide_eq_true (by omega)), ifp_pos (by omega), wrap64 (by omega) (by omega)]
      cases skewB p m (rd l i) <;> rfl) (by
      simp only [spec_l03Code_l1]
      rw [if_neg (by rw [decide_eq_true_eq]; omega)])
    simp only [h1, Option.bind_some, all_not]
    rcases h2 with ⟨rfl, h⟩ | ⟨i, rfl, h⟩ <;> simp [h]
theorem skCodeI {p : Int} {m : V64} {l : List Sk} (hm : IsB m) (hl : ∀ f ∈ l, SkB f) (hn : l.length ≤ 1000000) : impl_skewsCode p m l = some (if fld p m && l.all (skewB p m) then 0 else 1) := by
  obtain ⟨r, h1, h2⟩ := any_loop (l := l) (fun a => !skewB p m a) (fun i => (i : Int)) (body := fun s : Int => slices_IndexFunc_impl_Skew_impl_Skew_of_impl_areAll_impl_Skew__c1_p_isSkew_l1 l (p, row m) s) (fun i hi => by
    simp only [slices_IndexFunc_impl_Skew_impl_Skew_of_impl_areAll_impl_Skew__c1_p_isSkew_l1, impl_areAll_impl_Skew__c1_of_p_isSkew, Int.toNat_natCast, skIs_I (hl _ (rd_in hi)), Option.bind_some]
    rw [if_pos (decide_eq_true (by omega)), ifp_pos (by omega), wrap64 (by omega) (by omega)]
    cases skewB p m (rd l i) <;> rfl) (by
    simp only [slices_IndexFunc_impl_Skew_impl_Skew_of_impl_areAll_impl_Skew__c1_p_isSkew_l1]
    rw [if_neg (by rw [decide_eq_true_eq]; omega)])
  have e : impl_areAll_impl_Skew_of_impl_field_isSkew l (p, row m) = some (l.all (skewB p m)) := by
    simp only [impl_areAll_impl_Skew_of_impl_field_isSkew, slices_ContainsFunc_impl_Skew_impl_Skew_of_impl_areAll_impl_Skew__c1_p_isSkew, slices_IndexFunc_impl_Skew_impl_Skew_of_impl_areAll_impl_Skew__c1_p_isSkew, h1, Option.bind_some, all_not]
    rcases h2 with ⟨rfl, h⟩ | ⟨i, rfl, h⟩ <;> simp [h]
  simp only [impl_skewsCode, fieldI p hm, fieldOf_is hm, e, Option.bind_some]
  cases fld p m <;> cases l.all (skewB p m) <;> rfl
end Go.Proofs.Ytcgohoclbjgmkaa
/- FnExactSkewDegree. -/
namespace Go.Proofs.Ytcgohoclbjgmkaa
open Go.Abs
/-- How far a list reaches that ends in elements of a kind. -/
def reach {α : Type} [Inhabited α] (z : α → Bool) (l : List α) : Nat → Nat
  | 0 => 0
  | n + 1 => if z (rd l n) then reach z l n else n + 1
theorem reach_le {α : Type} [Inhabited α] (z : α → Bool) (l : List α) : ∀ n, reach z l n ≤ n
  | 0 => Nat.le_refl _
  | n + 1 => by simp only [reach]; split; exact Nat.le_succ_of_le (reach_le z l n); exact Nat.le_refl _
theorem reach_congr {α β : Type} [Inhabited α] [Inhabited β] {z : α → Bool} {y : β → Bool} {l : List α} {k : List β} : ∀ n, (∀ i, i < n → z (rd l i) = y (rd k i)) → reach z l n = reach y k n
  | 0, _ => rfl
  | n + 1, h => by simp only [reach]; rw [h n (by omega), reach_congr n fun i hi => h i (by omega)]
noncomputable def skDeg (f : Sk) : Nat := reach (fun a : V64 => decide (a = vrep 64 0)) f.1 8
theorem skDegS_loop (f : Sk) : ∀ n : Nat, n ≤ 8 → loopM (fun s : Int => spec_l03Deg_l1 f s) ((n : Int) - 1) = some ((reach (fun a : V64 => decide (a = vrep 64 0)) f.1 n : Int) - 1)
  | 0, _ => by
    have step : spec_l03Deg_l1 f (((0 : Nat) : Int) - 1) = some (.inr (((0 : Nat) : Int) - 1)) := by
      simp only [spec_l03Deg_l1]
      rw [if_neg (by rw [decide_eq_true_eq]; omega)]; rfl
    rw [loopM_eq]
    simp only [step, Option.bind_some]; rfl
  | n + 1, h => by
    have e1 : ((n + 1 : Nat) : Int) - 1 = (n : Int) := by omega
    have step : spec_l03Deg_l1 f (((n + 1 : Nat) : Int) - 1) = some (if rd f.1 n = vrep 64 0 then .inl ((n : Int) - 1) else .inr (n : Int)) := by
      simp only [spec_l03Deg_l1, e1, Int.toNat_natCast]
      rw [if_pos (decide_eq_true (by omega)), ifp_pos (by omega)]
      simp only [Option.bind_some, decide_eq_true_eq]
      by_cases hz : rd f.1 n = vrep 64 0
      · rw [if_pos hz, if_pos hz, wrap64 (by omega) (by omega)]
      · rw [if_neg hz, if_neg hz]
    rw [loopM_eq]
    simp only [step, Option.bind_some, reach, decide_eq_true_eq]
    by_cases hz : rd f.1 n = vrep 64 0
    · rw [if_pos hz, if_pos hz]
      exact skDegS_loop f n (by omega)
    · rw [if_neg hz, if_neg hz, show ((n + 1 : Nat) : Int) - 1 = (n : Int) by omega]
theorem skDegS (f : Sk) : spec_l03Deg f = some ((skDeg f : Int) - 1) := by
  have h : loopM (fun s : Int => spec_l03Deg_l1 f s) 7 = _ := skDegS_loop f 8 (Nat.le_refl _)
  simp only [spec_l03Deg, h, Option.bind_some]; rfl
theorem skRows {f : Sk} (hf : SkB f) : loopM (fun s : Int × List (List Int) => impl_skewOf_l1 f s.1 s.2) (0, []) = some (f.1.map row) := by
  obtain ⟨v, h1, h2⟩ := loopM_for (body := fun s : Int × List (List Int) => impl_skewOf_l1 f s.1 s.2) (fun i u => ((i : Int), u)) (fun u => u) 8
    (fun i u => u = (f.1.take i).map row) (fun i u hi hI => by
      subst hI
      have hl : i < f.1.length := by rw [f.2]; exact hi
      have er : rd f.1 i = f.1[i] := by simp [rd, hl]
      refine ⟨((f.1.take i).map row) ++ [row (rd f.1 i)], ?_, by rw [List.take_succ_eq_append_getElem hl, er, List.map_append]; rfl⟩
      simp only [impl_skewOf_l1, Int.toNat_natCast, row_is (hf _ (rd_in hl)), Option.bind_some]
      rw [if_pos (decide_eq_true (by omega)), ifp_pos (by omega), ifp_pos (by simp; omega), wrap64 (by omega) (by omega)]
      rfl) (fun u hI => by
      simp only [impl_skewOf_l1]
      rw [if_neg (by rw [decide_eq_true_eq]; omega)]) 8 0 [] (by omega) (by simp)
  have e : v = f.1.map row := by
    rw [h2, List.take_of_length_le (by rw [f.2]; exact Nat.le_refl _)]
  rw [← e]; exact h1
theorem skTrim_loop {l : List (List Int)} (hl : l.length ≤ 1000000) (hr : ∀ x ∈ l, x.length ≤ 1000000) : ∀ n : Nat, n ≤ l.length → loopM (fun s : Int => impl_skew_trimmed_l1 l s) (n : Int) = some (reach (fun a : List Int => decide (a.length = 0)) l n : Int)
  | 0, _ => by
    have step : impl_skew_trimmed_l1 l ((0 : Nat) : Int) = some (.inr ((0 : Nat) : Int)) := by
      simp [impl_skew_trimmed_l1]
    rw [loopM_eq]
    simp only [step, Option.bind_some]; rfl
  | n + 1, h => by
    have e1 : IntKind.i64.wrap (((n + 1 : Nat) : Int) - 1) = (n : Int) := by rw [wrap64 (by omega) (by omega)]; omega
    have step : impl_skew_trimmed_l1 l ((n + 1 : Nat) : Int) = some (if (rd l n).length = 0 then .inl (n : Int) else .inr ((n + 1 : Nat) : Int)) := by
      simp only [impl_skew_trimmed_l1, e1, letp, Int.toNat_natCast]
      rw [if_pos (decide_eq_true (by omega)), ifp_pos (by omega)]
      simp only [Option.bind_some, beq_iff_eq]
      by_cases hz : (rd l n).length = 0
      · rw [if_pos (by omega), if_pos hz]
      · rw [if_neg (by omega), if_neg hz]
    rw [loopM_eq]
    simp only [step, Option.bind_some, reach, decide_eq_true_eq]
    by_cases hz : (rd l n).length = 0
    · rw [if_pos hz, if_pos hz]
      exact skTrim_loop hl hr n (by omega)
    · rw [if_neg hz, if_neg hz]
theorem skDegI {f : Sk} (hf : SkB f) : ∃ l, impl_skewOf f = some l ∧ l = (f.1.map row).take (skDeg f) ∧ l.length = skDeg f := by
  have hr : ∀ x ∈ f.1.map row, x.length ≤ 1000000 := fun x hx => by
    obtain ⟨a, _, rfl⟩ := List.mem_map.1 hx
    have := row_len a; omega
  have hlen : (f.1.map row).length = 8 := by rw [List.length_map, f.2]
  have h := skTrim_loop (l := f.1.map row) (by omega) hr 8 (by omega)
  have e : reach (fun a : List Int => decide (a.length = 0)) (f.1.map row) 8 = skDeg f := by
    refine reach_congr 8 fun i hi => ?_
    have hl : i < f.1.length := by rw [f.2]; exact hi
    have e1 : rd (f.1.map row) i = row (rd f.1 i) := by simp [rd, hl]
    rw [e1, decide_eq_decide]
    exact zero_row.symm
  rw [e] at h
  have hle : skDeg f ≤ 8 := reach_le _ _ 8
  refine ⟨_, ?_, rfl, by rw [List.length_take, hlen]; omega⟩
  have h' : loopM (fun s : Int => impl_skew_trimmed_l1 (f.1.map row) s) ((f.1.map row).length : Int) = some (skDeg f : Int) := by rw [hlen]; exact h
  simp only [impl_skewOf, skRows hf, impl_skew_trimmed, h', Option.bind_some, Int.toNat_natCast]
  rw [ifp_pos (by omega)]; rfl
theorem skewDegree_law (p : Int) (m : V64) (f : Sk) (hm : IsB m) (hf : SkB f) : laws_FnExactSkewDegree p m f = some true := by
  obtain ⟨l, h1, _, h2⟩ := skDegI hf
  have hle : skDeg f ≤ 8 := reach_le _ _ 8
  simp only [laws_FnExactSkewDegree, toPoly_is, toSkew_is, spec_SkewDegree, impl_SkewDegree, Option.bind_some]
  rw [skCodeS hm (by simpa using hf) (by simp), skCodeI hm (by simpa using hf) (by simp)]
  simp only [Option.bind_some, skDegS, h1, impl_skew_degree, h2]
  rw [wrap64 (by omega) (by omega)]
  cases fld p m && [f].all (skewB p m) <;> simp
end Go.Proofs.Ytcgohoclbjgmkaa
