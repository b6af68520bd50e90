/- FnExactIsDesk. -/
import Derived.Test.YtacebpbhddkelaaBase
namespace Go.Proofs.Ytacebpbhddkelaa
open Go.Abs

/-- All coefficients lie below p. -/
def Small (p : Int) (a : V64) : Prop := ∀ j, j < 64 → rd a.1 j < p
open Classical in
noncomputable def small (p : Int) (a : V64) : Bool := decide (Small p a)

theorem is_loop {p : Int} {a : V64} (hb : IsB a) : ∀ s : Int, (∃ i : Nat, s = i ∧ i ≤ 64 ∧ ∀ j, j < i → rd a.1 j < p) → ∃ r, loopM (fun s : Int => spec_l01Is_l1 a p s) s = some r ∧ ((r = .inl () ∧ Small p a) ∨ (r = .inr false ∧ ¬ Small p a)) := by
  refine loopM_ind (fun (s : Int) => ∃ i : Nat, s = i ∧ i ≤ 64 ∧ ∀ j, j < i → rd a.1 j < p) (fun (s : Int) (r : Unit ⊕ Bool) => (r = .inl () ∧ Small p a) ∨ (r = .inr false ∧ ¬ Small p a)) (fun s => 64 - s.toNat) ?_
  rintro s ⟨i, rfl, hi, hlt⟩
  by_cases h : i = 64
  · right
    subst h
    exact ⟨.inl (), by simp [spec_l01Is_l1], .inl ⟨rfl, hlt⟩⟩
  · have hbi := hb.rd (show i < 64 by omega)
    by_cases e : rd a.1 i < p
    · left
      refine ⟨((i + 1 : Nat) : Int), ?_, ⟨i + 1, rfl, by omega, fun j hj => ?_⟩, by simp; omega, fun r hr => hr⟩
      · simp only [spec_l01Is_l1]
        rw [if_pos (by simp; omega), ifp_pos (by omega), Int.toNat_natCast, wrap64 (by omega) (by omega), if_neg (by simp; omega), wrap64 (by omega) (by omega)]
        rfl
      · by_cases hj' : j = i
        · rw [hj']; exact e
        · exact hlt j (by omega)
    · right
      refine ⟨.inr false, ?_, .inr ⟨rfl, fun hs => e (hs i (by omega))⟩⟩
      simp only [spec_l01Is_l1]
      rw [if_pos (by simp; omega), ifp_pos (by omega), Int.toNat_natCast, wrap64 (by omega) (by omega), if_pos (by simp; omega)]
theorem is_is {p : Int} {a : V64} (hb : IsB a) : spec_l01Is p a = some (small p a && isP p) := by
  obtain ⟨r, h1, h2⟩ := is_loop (p := p) hb 0 ⟨0, rfl, by omega, fun j hj => by omega⟩
  rcases h2 with ⟨rfl, h⟩ | ⟨rfl, h⟩ <;> simp [spec_l01Is, h1, small, h, isPrime_spec]

theorem code_loop {p : Int} {l : List V64} (hb : ∀ a ∈ l, IsB a) (hl : l.length ≤ 1000000) (hp : isP p = true) : ∀ s : Int, (∃ i : Nat, s = i ∧ i ≤ l.length ∧ ∀ a ∈ l.take i, small p a = true) → ∃ r, loopM (fun s : Int => spec_l01Code_l1 l p s) s = some r ∧ ((r = .inl () ∧ l.all (small p) = true) ∨ (r = .inr 1 ∧ l.all (small p) = false)) := by
  refine loopM_ind (fun (s : Int) => ∃ i : Nat, s = i ∧ i ≤ l.length ∧ ∀ a ∈ l.take i, small p a = true) (fun (s : Int) (r : Unit ⊕ Int) => (r = .inl () ∧ l.all (small p) = true) ∨ (r = .inr 1 ∧ l.all (small p) = false)) (fun s => l.length - s.toNat) ?_
  rintro s ⟨i, rfl, hi, hlt⟩
  by_cases h : i = l.length
  · right
    subst h
    exact ⟨.inl (), by simp [spec_l01Code_l1], .inl ⟨rfl, by rw [List.take_length] at hlt; simpa using hlt⟩⟩
  · have hil : i < l.length := by omega
    have er : rd l i = l[i] := by simp [rd, hil]
    have hbi := is_is (p := p) (hb l[i] (List.getElem_mem _))
    rw [hp, Bool.and_true] at hbi
    cases e : small p l[i] with
    | true =>
      left
      refine ⟨((i + 1 : Nat) : Int), ?_, ⟨i + 1, rfl, by omega, fun a ha => ?_⟩, by simp; omega, fun r hr => hr⟩
      · simp only [spec_l01Code_l1]
        rw [if_pos (by simp; omega), ifp_pos (by omega), Int.toNat_natCast, er, hbi, e]
        simp only [Option.bind_some, Bool.not_true, Bool.false_eq_true, if_false]
        rw [wrap64 (by omega) (by omega)]; rfl
      · rw [List.take_succ_eq_append_getElem hil] at ha
        rcases List.mem_append.1 ha with ha | ha
        · exact hlt a ha
        · have : a = l[i] := by simpa using ha
          rw [this]; exact e
    | false =>
      right
      refine ⟨.inr 1, ?_, .inr ⟨rfl, ?_⟩⟩
      · simp only [spec_l01Code_l1]
        rw [if_pos (by simp; omega), ifp_pos (by omega), Int.toNat_natCast, er, hbi, e]
        rfl
      · rw [List.all_eq_false]
        exact ⟨l[i], List.getElem_mem _, by simp [e]⟩
theorem code_is {p : Int} {l : List V64} (hb : ∀ a ∈ l, IsB a) (hl : l.length ≤ 1000000) : spec_l01Code p l = some (if isP p && l.all (small p) then 0 else 1) := by
  unfold spec_l01Code
  rw [isPrime_spec]
  cases hp : isP p with
  | false => simp
  | true =>
    obtain ⟨r, h1, h2⟩ := code_loop hb hl hp 0 ⟨0, rfl, by omega, by simp⟩
    simp only [Option.bind_some, Bool.not_true, Bool.false_eq_true, if_false, h1, Bool.true_and]
    rcases h2 with ⟨rfl, h⟩ | ⟨rfl, h⟩ <;> simp [h]

theorem index_loop {p : Int} {a : V64} (hb : IsB a) : ∀ s : Int, (∃ i : Nat, s = i ∧ i ≤ 64 ∧ ∀ j, j < i → rd a.1 j < p) → ∃ r, loopM (fun s : Int => slices_IndexFunc_byte_byte_of_impl_areAll_byte__c1_p_l1 a.1 p s) s = some r ∧ ((r = .inl () ∧ Small p a) ∨ (∃ i : Nat, r = .inr (i : Int) ∧ ¬ Small p a)) := by
  refine loopM_ind (fun (s : Int) => ∃ i : Nat, s = i ∧ i ≤ 64 ∧ ∀ j, j < i → rd a.1 j < p) (fun (s : Int) (r : Unit ⊕ Int) => (r = .inl () ∧ Small p a) ∨ (∃ i : Nat, r = .inr (i : Int) ∧ ¬ Small p a)) (fun s => 64 - s.toNat) ?_
  rintro s ⟨i, rfl, hi, hlt⟩
  have h64 := a.2
  by_cases h : i = 64
  · right
    subst h
    exact ⟨.inl (), by simp [slices_IndexFunc_byte_byte_of_impl_areAll_byte__c1_p_l1, h64], .inl ⟨rfl, hlt⟩⟩
  · have hbi := hb.rd (show i < 64 by omega)
    have e1 : impl_areAll_byte__c1_of_p (rd a.1 i) p = some (!decide (rd a.1 i < p)) := by
      simp only [impl_areAll_byte__c1_of_p, impl_isPoly_c1_of_p, Option.bind_some]
      rw [wrap64 (by omega) (by omega)]
    by_cases e : rd a.1 i < p
    · left
      refine ⟨((i + 1 : Nat) : Int), ?_, ⟨i + 1, rfl, by omega, fun j hj => ?_⟩, by simp; omega, fun r hr => hr⟩
      · simp only [slices_IndexFunc_byte_byte_of_impl_areAll_byte__c1_p_l1, h64]
        rw [if_pos (by simp; omega), ifp_pos (by omega), Int.toNat_natCast, e1, wrap64 (by omega) (by omega)]
        simp [e]
      · by_cases hj' : j = i
        · rw [hj']; exact e
        · exact hlt j (by omega)
    · right
      refine ⟨.inr (i : Int), ?_, .inr ⟨i, rfl, fun hs => e (hs i (by omega))⟩⟩
      simp only [slices_IndexFunc_byte_byte_of_impl_areAll_byte__c1_p_l1, h64]
      rw [if_pos (by simp; omega), ifp_pos (by omega), Int.toNat_natCast, e1]
      simp [e]
theorem isPoly_is {p : Int} {a : V64} (hb : IsB a) : impl_isPoly p a = some (small p a) := by
  obtain ⟨r, h1, h2⟩ := index_loop (p := p) hb 0 ⟨0, rfl, by omega, fun j hj => by omega⟩
  simp only [impl_isPoly, impl_areAll_byte_of_impl_isPoly_c1_p, slices_ContainsFunc_byte_byte_of_impl_areAll_byte__c1_p, slices_IndexFunc_byte_byte_of_impl_areAll_byte__c1_p, h1, Option.bind_some]
  rcases h2 with ⟨rfl, h⟩ | ⟨i, rfl, h⟩ <;> simp [small, h]
theorem IsPoly_is {p : Int} {a : V64} (hb : IsB a) : impl_IsPoly p a = some (isP p && small p a) := by
  simp only [impl_IsPoly, isPrime_impl, isPoly_is hb, Option.bind_some]
  cases isP p <;> simp

/-- With first coefficient 1, and of a degree from 1 to 5. -/
def modOk (a : V64) : Bool := decide (1 ≤ top (rd a.1) 64) && (rd a.1 (top (rd a.1) 64 - 1) == 1) && decide (2 ≤ top (rd a.1) 64 ∧ top (rd a.1) 64 ≤ 6)
theorem isModulus_is {a : V64} (hb : IsB a) : impl_isModulus a = some (modOk a) := by
  have ht := top_le (rd a.1) 64
  have hl : (a.1.take (top (rd a.1) 64)).length = top (rd a.1) 64 := by rw [List.length_take, a.2]; omega
  simp only [impl_isModulus, rowOf_is hb, Option.bind_some, impl_row_lead, impl_row_degree, impl_within, hl, modOk]
  generalize htt : top (rd a.1) 64 = t at ht hl
  by_cases h0 : t = 0
  · subst h0; simp
  · have e1 : IntKind.i64.wrap ((t : Int) - 1) = ((t - 1 : Nat) : Int) := by rw [wrap64 (by omega) (by omega)]; omega
    have er : rd (a.1.take t) (t - 1) = rd a.1 (t - 1) := by
      have : t - 1 < a.1.length := by rw [a.2]; omega
      simp [rd, show t - 1 < t by omega]
    rw [if_neg (by simp; omega), e1, ifp_pos (by omega), Int.toNat_natCast, er]
    by_cases h1 : rd a.1 (t - 1) = 1
    · have q1 : (decide (1 ≤ t)) = true := by simp; omega
      have q2 : decide (2 ≤ t ∧ t ≤ 6) = (decide ((1 : Int) ≤ ((t - 1 : Nat) : Int)) && decide (((t - 1 : Nat) : Int) ≤ 5)) := by
        rw [Bool.eq_iff_iff]; simp only [decide_eq_true_eq, Bool.and_eq_true]; omega
      rw [q1, q2, h1]
      have q3 : decide (((t - 1 : Nat) : Int) ≥ 1) = decide ((1 : Int) ≤ ((t - 1 : Nat) : Int)) := rfl
      try rw [q3]
      cases decide ((1 : Int) ≤ ((t - 1 : Nat) : Int)) <;> cases decide (((t - 1 : Nat) : Int) ≤ 5) <;> simp
    · simp [h1]
theorem spec_modulus {a : V64} : (Option.bind (spec_l01Monic a) fun r32 => (if (!r32) then (some true) else (Option.bind (spec_l01Deg a) fun r36 => (Option.bind (spec_l01In r36 1 5) fun r38 => (some (!r38)))))) = some (!modOk a) := by
  have ht := top_le (rd a.1) 64
  simp only [spec_l01Monic, deg_is, Option.bind_some, spec_l01In, modOk]
  generalize htt : top (rd a.1) 64 = t at ht
  by_cases h0 : t = 0
  · subst h0; simp
  · have e1 : ((t : Int) - 1) = ((t - 1 : Nat) : Int) := by omega
    rw [e1, if_pos (by simp), ifp_pos (by omega), Int.toNat_natCast]
    by_cases h1 : rd a.1 (t - 1) = 1
    · have q1 : (decide (1 ≤ t)) = true := by simp; omega
      have q2 : decide (2 ≤ t ∧ t ≤ 6) = (decide ((1 : Int) ≤ ((t - 1 : Nat) : Int)) && decide (((t - 1 : Nat) : Int) ≤ 5)) := by
        rw [Bool.eq_iff_iff]; simp only [decide_eq_true_eq, Bool.and_eq_true]; omega
      rw [q1, q2, h1]
      have q3 : decide (((t - 1 : Nat) : Int) ≥ 1) = decide ((1 : Int) ≤ ((t - 1 : Nat) : Int)) := rfl
      try rw [q3]
      cases decide ((1 : Int) ≤ ((t - 1 : Nat) : Int)) <;> cases decide (((t - 1 : Nat) : Int) ≤ 5) <;> simp
    · simp [h1]

theorem isDesk_law (d : Int × V64 × V64 × V64) (h1 : IsB d.2.1) (h2 : IsB d.2.2.1) (h3 : IsB d.2.2.2) : laws_FnExactIsDesk d = some true := by
  obtain ⟨p, a, b, c⟩ := d
  simp only at h1 h2 h3
  have s1 : spec_IsDesk (p, a, b, c) = some (isP p && small p c && (small p a && small p b) && modOk c) := by
    simp only [spec_IsDesk, spec_l02Modulus, spec_modulus]
    rw [code_is (by simpa using h3) (by simp), code_is (by simp [h1, h2]) (by simp)]
    simp only [Option.bind_some, List.all_cons, List.all_nil, Bool.and_true]
    cases isP p <;> cases small p a <;> cases small p b <;> cases small p c <;> cases modOk c <;> simp
  have s2 : impl_IsDesk (p, a, b, c) = some (isP p && small p c && (small p a && small p b) && modOk c) := by
    simp only [impl_IsDesk, IsPoly_is h1, IsPoly_is h2, IsPoly_is h3, isModulus_is h3, Option.bind_some]
    cases isP p <;> cases small p a <;> cases small p b <;> cases small p c <;> cases modOk c <;> simp
  simp only [laws_FnExactIsDesk, toDesk_is, Option.bind_some, s1, s2]
  simp
end Go.Proofs.Ytacebpbhddkelaa
