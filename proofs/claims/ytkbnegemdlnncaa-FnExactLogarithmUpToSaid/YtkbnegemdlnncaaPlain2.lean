/- Own texts, put together. -/
import Derived.Test.YtkbnegemdlnncaaPlain1
import Derived.Test.YtkbnegemdlnncaaFn1
import Derived.Test.YtkbnegemdlnncaaFn2
import Derived.Test.YtkbnegemdlnncaaFn3
import Derived.Test.YtkbnegemdlnncaaFn4
import Derived.Test.YtkbnegemdlnncaaFn5
import Derived.Test.YtkbnegemdlnncaaFn6
import Derived.Test.YtkbnegemdlnncaaFn7
set_option linter.unusedSimpArgs false
set_option linter.unusedVariables false
/- The code for polynomials, in the reference. -/
namespace Go.Proofs.Ytkbnegemdlnncaa
open Go.Abs
theorem code_loop {p : Int} {l : List V64} (hb : ∀ a ∈ l, IsB a) (hl : l.length ≤ 2000000) (hp : isP p = true) : ∀ s : Int, (∃ i : Nat, s = i ∧ i ≤ l.length ∧ ∀ a ∈ l.take i, small p a = true) → ∃ r, loopM (fun s : Int => spec_l01Code_l1 l p s) s = some r ∧ ((r = .inl () ∧ l.all (small p) = true) ∨ (r = .inr 1 ∧ l.all (small p) = false)) := by
  refine loopM_ind (fun (s : Int) => ∃ i : Nat, s = i ∧ i ≤ l.length ∧ ∀ a ∈ l.take i, small p a = true) (fun (s : Int) (r : Unit ⊕ Int) => (r = .inl () ∧ l.all (small p) = true) ∨ (r = .inr 1 ∧ l.all (small p) = false)) (fun s => l.length - s.toNat) ?_
  rintro s ⟨i, rfl, hi, hlt⟩
  by_cases h : i = l.length
  · right
    subst h
    exact ⟨.inl (), by simp [spec_l01Code_l1], .inl ⟨rfl, by rw [List.take_length] at hlt; simpa using hlt⟩⟩
  · have hil : i < l.length := by omega
    have er : rd l i = l[i] := by simp [rd, hil]
    have hbi := is_is (p := p) (hb l[i] (List.getElem_mem _))
    rw [hp, Bool.and_true] at hbi
    cases e : small p l[i] with
    | true =>
      left
      refine ⟨((i + 1 : Nat) : Int), ?_, ⟨i + 1, rfl, by omega, fun a ha => ?_⟩, by simp; omega, fun r hr => hr⟩
      · simp only [spec_l01Code_l1]
        rw [if_pos (by simp; omega), ifp_pos (by omega), Int.toNat_natCast, er, hbi, e]
        simp only [Option.bind_some, Bool.not_true, Bool.false_eq_true, if_false]
        rw [wrap64 (by omega) (by omega)]; rfl
      · rw [List.take_succ_eq_append_getElem hil] at ha
        rcases List.mem_append.1 ha with ha | ha
        · exact hlt a ha
        · have : a = l[i] := by simpa using ha
          rw [this]; exact e
    | false =>
      right
      refine ⟨.inr 1, ?_, .inr ⟨rfl, ?_⟩⟩
      · simp only [spec_l01Code_l1]
        rw [if_pos (by simp; omega), ifp_pos (by omega), Int.toNat_natCast, er, hbi, e]
        rfl
      · rw [List.all_eq_false]
        exact ⟨l[i], List.getElem_mem _, by simp [e]⟩
theorem code_is {p : Int} {l : List V64} (hb : ∀ a ∈ l, IsB a) (hl : l.length ≤ 2000000) : spec_l01Code p l = some (if isP p && l.all (small p) then 0 else 1) := by
  unfold spec_l01Code
  rw [isPrime_spec]
  cases hp : isP p with
  | false => simp
  | true =>
    obtain ⟨r, h1, h2⟩ := code_loop hb hl hp 0 ⟨0, rfl, by omega, by simp⟩
    simp only [Option.bind_some, Bool.not_true, Bool.false_eq_true, if_false, h1, Bool.true_and]
    rcases h2 with ⟨rfl, h⟩ | ⟨rfl, h⟩ <;> simp [h]

end Go.Proofs.Ytkbnegemdlnncaa
/- Which arrays are polynomials, in the program. -/
namespace Go.Proofs.Ytkbnegemdlnncaa
open Go.Abs

theorem index_loop {p : Int} {a : V64} (hb : IsB a) : ∀ s : Int, (∃ i : Nat, s = i ∧ i ≤ 64 ∧ ∀ j, j < i → rd a.1 j < p) → ∃ r, loopM (fun s : Int => slices_IndexFunc_byte_byte_of_impl_areAll_byte__c1_p_l1 a.1 p s) s = some r ∧ ((r = .inl () ∧ Small p a) ∨ (∃ i : Nat, r = .inr (i : Int) ∧ ¬ Small p a)) := by
  refine loopM_ind (fun (s : Int) => ∃ i : Nat, s = i ∧ i ≤ 64 ∧ ∀ j, j < i → rd a.1 j < p) (fun (s : Int) (r : Unit ⊕ Int) => (r = .inl () ∧ Small p a) ∨ (∃ i : Nat, r = .inr (i : Int) ∧ ¬ Small p a)) (fun s => 64 - s.toNat) ?_
  rintro s ⟨i, rfl, hi, hlt⟩
  have h64 := a.2
  by_cases h : i = 64
  · right
    subst h
    exact ⟨.inl (), by simp [slices_IndexFunc_byte_byte_of_impl_areAll_byte__c1_p_l1, h64], .inl ⟨rfl, hlt⟩⟩
  · have hbi := hb.rd (show i < 64 by omega)
    have e1 : impl_areAll_byte__c1_of_p (rd a.1 i) p = some (!decide (rd a.1 i < p)) := by
      simp only [impl_areAll_byte__c1_of_p, impl_isPoly_c1_of_p, Option.bind_some]
      rw [wrap64 (by omega) (by omega)]
    by_cases e : rd a.1 i < p
    · left
      refine ⟨((i + 1 : Nat) : Int), ?_, ⟨i + 1, rfl, by omega, fun j hj => ?_⟩, by simp; omega, fun r hr => hr⟩
      · simp only [slices_IndexFunc_byte_byte_of_impl_areAll_byte__c1_p_l1, h64]
        rw [if_pos (by simp; omega), ifp_pos (by omega), Int.toNat_natCast, e1, wrap64 (by omega) (by omega)]
        simp [e]
      · by_cases hj' : j = i
        · rw [hj']; exact e
        · exact hlt j (by omega)
    · right
      refine ⟨.inr (i : Int), ?_, .inr ⟨i, rfl, fun hs => e (hs i (by omega))⟩⟩
      simp only [slices_IndexFunc_byte_byte_of_impl_areAll_byte__c1_p_l1, h64]
      rw [if_pos (by simp; omega), ifp_pos (by omega), Int.toNat_natCast, e1]
      simp [e]
theorem isPoly_is {p : Int} {a : V64} (hb : IsB a) : impl_isPoly p a = some (small p a) := by
  obtain ⟨r, h1, h2⟩ := index_loop (p := p) hb 0 ⟨0, rfl, by omega, fun j hj => by omega⟩
  simp only [impl_isPoly, impl_areAll_byte_of_impl_isPoly_c1_p, slices_ContainsFunc_byte_byte_of_impl_areAll_byte__c1_p, slices_IndexFunc_byte_byte_of_impl_areAll_byte__c1_p, h1, Option.bind_some]
  rcases h2 with ⟨rfl, h⟩ | ⟨i, rfl, h⟩ <;> simp [small, h]
end Go.Proofs.Ytkbnegemdlnncaa
/- The code for polynomials, in the program. -/
namespace Go.Proofs.Ytkbnegemdlnncaa
open Go.Abs

theorem indexP_loop {p : Int} {l : List V64} (hb : ∀ a ∈ l, IsB a) (hl : l.length ≤ 2000000) : ∀ s : Int, (∃ i : Nat, s = i ∧ i ≤ l.length ∧ ∀ a ∈ l.take i, small p a = true) → ∃ r, loopM (fun s : Int => slices_IndexFunc_impl_Poly_impl_Poly_of_impl_areAll_impl_Poly__c1_p_l1 l p s) s = some r ∧ ((r = .inl () ∧ l.all (small p) = true) ∨ (∃ i : Nat, r = .inr (i : Int) ∧ l.all (small p) = false)) := by
  refine loopM_ind (fun (s : Int) => ∃ i : Nat, s = i ∧ i ≤ l.length ∧ ∀ a ∈ l.take i, small p a = true) (fun (s : Int) (r : Unit ⊕ Int) => (r = .inl () ∧ l.all (small p) = true) ∨ (∃ i : Nat, r = .inr (i : Int) ∧ l.all (small p) = false)) (fun s => l.length - s.toNat) ?_
  rintro s ⟨i, rfl, hi, hlt⟩
  by_cases h : i = l.length
  · right
    subst h
    exact ⟨.inl (), by simp [slices_IndexFunc_impl_Poly_impl_Poly_of_impl_areAll_impl_Poly__c1_p_l1], .inl ⟨rfl, by rw [List.take_length] at hlt; simpa using hlt⟩⟩
  · have hil : i < l.length := by omega
    have er : rd l i = l[i] := by simp [rd, hil]
    have hbi := isPoly_is (p := p) (hb l[i] (List.getElem_mem _))
    have e1 : impl_areAll_impl_Poly__c1_of_p (rd l i) p = some (!small p l[i]) := by
      simp only [impl_areAll_impl_Poly__c1_of_p, impl_polysCode_c1_of_p, er, hbi, Option.bind_some]
    cases e : small p l[i] with
    | true =>
      left
      refine ⟨((i + 1 : Nat) : Int), ?_, ⟨i + 1, rfl, by omega, fun a ha => ?_⟩, by simp; omega, fun r hr => hr⟩
      · simp only [slices_IndexFunc_impl_Poly_impl_Poly_of_impl_areAll_impl_Poly__c1_p_l1]
        rw [if_pos (decide_eq_true (by omega)), ifp_pos (by omega), Int.toNat_natCast, e1, e]
        simp only [Option.bind_some, Bool.not_true, Bool.false_eq_true, if_false]
        rw [wrap64 (by omega) (by omega)]; rfl
      · rw [List.take_succ_eq_append_getElem hil] at ha
        rcases List.mem_append.1 ha with ha | ha
        · exact hlt a ha
        · have : a = l[i] := by simpa using ha
          rw [this]; exact e
    | false =>
      right
      refine ⟨.inr (i : Int), ?_, .inr ⟨i, rfl, ?_⟩⟩
      · simp only [slices_IndexFunc_impl_Poly_impl_Poly_of_impl_areAll_impl_Poly__c1_p_l1]
        rw [if_pos (decide_eq_true (by omega)), ifp_pos (by omega), Int.toNat_natCast, e1, e]
        rfl
      · rw [List.all_eq_false]
        exact ⟨l[i], List.getElem_mem _, by simp [e]⟩
theorem polysCode_is {p : Int} {l : List V64} (hb : ∀ a ∈ l, IsB a) (hl : l.length ≤ 2000000) : impl_polysCode p l = some (if isP p && l.all (small p) then 0 else 1) := by
  obtain ⟨r, h1, h2⟩ := indexP_loop (p := p) hb hl 0 ⟨0, rfl, by omega, by simp⟩
  have e : impl_areAll_impl_Poly_of_impl_polysCode_c1_p l p = some (l.all (small p)) := by
    simp only [impl_areAll_impl_Poly_of_impl_polysCode_c1_p, slices_ContainsFunc_impl_Poly_impl_Poly_of_impl_areAll_impl_Poly__c1_p, slices_IndexFunc_impl_Poly_impl_Poly_of_impl_areAll_impl_Poly__c1_p, h1, Option.bind_some]
    rcases h2 with ⟨rfl, h⟩ | ⟨i, rfl, h⟩ <;> simp [h]
  simp only [impl_polysCode, isPrime_impl, e, Option.bind_some]
  cases isP p <;> cases l.all (small p) <;> simp
end Go.Proofs.Ytkbnegemdlnncaa
/- The row of an array. -/
namespace Go.Proofs.Ytkbnegemdlnncaa
open Go.Abs
theorem row_is {d : V64} (hb : IsB d) : impl_rowOf d = some (row d) := by
  rw [rowOf_is hb]
  congr 1
  have := top_le (rd d.1) 64
  refine rd_ext (by rw [row, ofF_len]; simp; rw [d.2]; omega) fun i hi => ?_
  simp at hi
  rw [rd_take, row, rd_ofF', if_pos (by omega), if_pos (by omega)]
theorem row_length (d : V64) : (row d).length = top (rd d.1) 64 := by rw [row, ofF_len]
theorem row_rd (d : V64) {i : Nat} (hi : i < 64) : rd (row d) i = rd d.1 i := by rw [row, rd_ofF', if_pos hi]
end Go.Proofs.Ytkbnegemdlnncaa
/- Polynomials in arrays. -/
namespace Go.Proofs.Ytkbnegemdlnncaa
open Go.Abs

theorem pri_of {p : Int} (h : isP p = true) : ∃ P : Pri, p = P.p := by
  have hp := isP_pos h
  obtain ⟨n, hn⟩ : ∃ n : Nat, p = n := ⟨p.toNat, by omega⟩
  subst hn
  exact ⟨⟨n, h⟩, rfl⟩
/-- The polynomial in an array. -/
def ppv {P : Pri} (v : V64) (hb : IsB v) (hs : small P.p v = true) : PP P := ⟨row v, row_row (res_of_small hb hs)⟩
theorem ppv_len {P : Pri} {v : V64} {hb : IsB v} {hs : small P.p v = true} : (ppv v hb hs).len ≤ 64 := row_len v
theorem ppv_pad {P : Pri} {v : V64} {hb : IsB v} {hs : small P.p v = true} : pad (ppv v hb hs).1 = v := pad_row v
end Go.Proofs.Ytkbnegemdlnncaa
/- Numbers in a range. -/
namespace Go.Proofs.Ytkbnegemdlnncaa
open Go.Abs

theorem within_is (a b c : Int) : impl_within a b c = some (decide (b ≤ a ∧ a ≤ c)) := by
  simp only [impl_within]
  by_cases h : b ≤ a <;> simp [h]
theorem inS_is (a b c : Int) : spec_l01In a b c = some (decide (b ≤ a ∧ a ≤ c)) := by
  simp only [spec_l01In]
  by_cases h : b ≤ a <;> simp [h]
end Go.Proofs.Ytkbnegemdlnncaa
/- A copy of a polynomial. -/
namespace Go.Proofs.Ytkbnegemdlnncaa
open Go.Abs

theorem toPoly_loop (a : V64) : ∀ s : Int × V64, (∃ i : Nat, s.1 = i ∧ i ≤ 64 ∧ ∀ j, j < i → rd s.2.1 j = rd a.1 j) → ∃ r, loopM (fun s : Int × V64 => laws_toPoly_l1 a s.1 s.2) s = some r ∧ r = a := by
  refine loopM_ind (fun (s : Int × V64) => ∃ i : Nat, s.1 = i ∧ i ≤ 64 ∧ ∀ j, j < i → rd s.2.1 j = rd a.1 j) (fun (s : Int × V64) (r : V64) => r = a) (fun (s : Int × V64) => 64 - s.1.toNat) ?_
  rintro ⟨x, v⟩ ⟨i, hx, hi, hv⟩
  simp only at hx hv
  subst hx
  by_cases h : i = 64
  · right
    subst h
    exact ⟨v, by simp [laws_toPoly_l1], vec_ext hv⟩
  · left
    refine ⟨(((i + 1 : Nat) : Int), vset v i (rd a.1 i)), ?_, ⟨i + 1, rfl, by omega, fun j hj => ?_⟩, by simp; omega, fun r hr => hr⟩
    · simp only [laws_toPoly_l1]
      rw [if_pos (by simp; omega), ifp_pos (by omega), ifp_pos (by omega), wrap64 (by omega) (by omega)]
      simp
    · rw [rd_vset _ _ _ _ (by omega)]
      by_cases e : j = i
      · rw [if_pos e, e]
      · rw [if_neg e]; exact hv j (by omega)

theorem toPoly_is (a : V64) : laws_toPoly a = some a := by
  obtain ⟨r, h1, h2⟩ := toPoly_loop a (0, vrep 64 0) ⟨0, rfl, by omega, fun j hj => by omega⟩
  simp only [laws_toPoly, h1, h2, Option.bind_some]
end Go.Proofs.Ytkbnegemdlnncaa
/- Comparing polynomials. -/
namespace Go.Proofs.Ytkbnegemdlnncaa
open Go.Abs

theorem eqPoly_loop (a b : V64) : ∀ s : Int, (∃ i : Nat, s = i ∧ i ≤ 64) → ∃ r, loopM (fun s : Int => laws_eqPoly_l1 a b s) s = some r ∧ ∀ i : Nat, s = i → (r = .inl () ∧ ∀ j, i ≤ j → j < 64 → rd a.1 j = rd b.1 j) ∨ (r = .inr false ∧ ∃ j, j < 64 ∧ rd a.1 j ≠ rd b.1 j) := by
  refine loopM_ind (fun (s : Int) => ∃ i : Nat, s = i ∧ i ≤ 64) (fun (s : Int) (r : Unit ⊕ Bool) => ∀ i : Nat, s = i → (r = .inl () ∧ ∀ j, i ≤ j → j < 64 → rd a.1 j = rd b.1 j) ∨ (r = .inr false ∧ ∃ j, j < 64 ∧ rd a.1 j ≠ rd b.1 j)) (fun s => 64 - s.toNat) ?_
  rintro s ⟨i, rfl, hi⟩
  by_cases h : i = 64
  · subst h
    right
    refine ⟨.inl (), by simp [laws_eqPoly_l1], fun k hk => .inl ⟨rfl, fun j h1 h2 => by omega⟩⟩
  · by_cases e : rd a.1 i = rd b.1 i
    · left
      refine ⟨((i + 1 : Nat) : Int), ?_, ⟨i + 1, rfl, by omega⟩, by simp; omega, fun r hr k hk => ?_⟩
      · simp only [laws_eqPoly_l1]
        rw [if_pos (by simp; omega), ifp_pos (by omega), ifp_pos (by omega)]
        simp only [Int.toNat_natCast, e, bne_self_eq_false, Bool.false_eq_true, if_false]
        rw [wrap64 (by omega) (by omega)]; rfl
      · have hki : k = i := by omega
        subst hki
        rcases hr (k + 1) rfl with ⟨h1, h2⟩ | h1
        · refine .inl ⟨h1, fun j h3 h4 => ?_⟩
          by_cases hj : j = k
          · subst hj; exact e
          · exact h2 j (by omega) h4
        · exact .inr h1
    · right
      refine ⟨.inr false, ?_, fun k hk => .inr ⟨rfl, i, by omega, e⟩⟩
      simp only [laws_eqPoly_l1]
      rw [if_pos (by simp; omega), ifp_pos (by omega), ifp_pos (by omega)]
      simp [e]

theorem eqPoly_is (a b : V64) : laws_eqPoly a b = some (decide (a = b)) := by
  obtain ⟨r, h1, h2⟩ := eqPoly_loop a b 0 ⟨0, rfl, by omega⟩
  unfold laws_eqPoly
  rcases h2 0 rfl with ⟨rfl, h⟩ | ⟨rfl, j, h3, h4⟩
  · have : a = b := vec_ext fun j hj => h j (by omega) hj
    rw [h1]; simp [this]
  · have : a ≠ b := fun e => h4 (by rw [e])
    rw [h1]; simp [this]
end Go.Proofs.Ytkbnegemdlnncaa
/- FnExactLogarithmUpTo. -/
namespace Go.Proofs.Ytkbnegemdlnncaa
open Go.Abs
theorem cutsecond {P : Pri} {a b : PP P} {k : Nat} (hb : b ≠ 0) (la : a.len ≤ 64) (lb : b.len ≤ 64) (hk : k ≤ 3) : ∃ (x y : V64) (c : Int) (ok : Bool) (x' y' : V64), impl_cut_sum_of_s_impl_prime_second P.p a.1 b.1 ((k + 1 : Nat) : Int) P.p (-1) = some (x, y, c) ∧ spec_l10Series P.p (pad a.1) (pad b.1) ((k + 1 : Nat) : Int) true = some (x', y', ok) ∧
    ((ok = true ∧ c = 0 ∧ x' = x ∧ y' = y) ∨ (ok = false ∧ c = 3 ∧ x = vrep 64 0 ∧ y = vrep 64 0)) := by
  have hp := P.two
  have hw : IntKind.i64.wrap (((k + 1 : Nat) : Int) - 1) = (k : Int) := by rw [wrap64 (by omega) (by omega)]; omega
  have hsb : sprP b k ≠ 0 := by rw [sprP_pw]; exact pw_ne hb _
  have hl1 : (sprP b k * facP P true k).len = _ := len_mul hsb (facP_ne true k)
  have hsl := sprP_len hb k
  have hFp := len_pos (facP_ne (P := P) true k)
  have hb1 := len_pos hb
  have hbot := botsecond (a := a) hb lb hk
  have e1 := factS (P := P) true hk
  have e2 := raiseS (P := P) lb hk
  by_cases hB : (sprP b k * facP P true k).len ≤ 64
  · rw [if_pos hB] at hbot
    rw [if_pos (by omega)] at e1
    rw [if_pos (.inr (by omega))] at e2
    obtain ⟨w1, e3, e4⟩ := timesT (P := P) (a := facP P true k) (b := sprP b k) (by omega) (by omega)
    rw [e4 (.inr (.inr (by omega))), decide_eq_true (by omega), ppring.mul_comm] at e3
    obtain ⟨r, r1, r2, r3⟩ := cutloopsecond hb la lb hk hB true (k + 1) 0 0 (by omega) (by rw [len_zero.2 rfl]; omega)
    have z : pad (0 : PP P).1 = vrep 64 0 := pad_nil
    rw [z] at r2
    have r2' : loopM (fun s : Bool × Int × V64 => spec_l10Series_l1 ((k + 1 : Nat) : Int) P.p (pad b.1) (pad (sprP b k * facP P true k).1, true) (pad a.1) s.1 s.2.1 s.2.2) (true, 0, vrep 64 0) = _ := r2
    have r3' : loopM (fun s : List Int × Int × Int => impl_cut_sum_of_s_impl_prime_second_l1 ((k + 1 : Nat) : Int) P.p a.1 b.1 P.p (-1) s.1 s.2.1 s.2.2) ([], 1, 0) = _ := r3
    cases r with
    | none =>
      refine ⟨vrep 64 0, vrep 64 0, 3, false, vrep 64 0, vrep 64 0, ?_, ?_, .inr ⟨rfl, rfl, rfl, rfl⟩⟩
      · simp only [impl_cut_sum_of_s_impl_prime_second, hbot, r3', Option.bind_some, Bool.not_true, Bool.false_eq_true, if_false]
      · simp only [spec_l10Series, hw, e1, e2, e3, r2', Option.bind_some, Bool.not_true, Bool.false_eq_true, if_false]
    | some t =>
      have lt := r1 t rfl
      have hBn : sprP b k * facP P true k ≠ 0 := fun e => by rcases pp_dom _ _ e with h | h; exact hsb h; exact facP_ne true k h
      obtain ⟨x, y, f1, f2⟩ := cut_end lt hB hBn
      refine ⟨x, y, 0, true, x, y, ?_, ?_, .inl ⟨rfl, rfl, rfl, rfl⟩⟩
      · simp only [impl_cut_sum_of_s_impl_prime_second, hbot, r3', Option.bind_some, Bool.not_true, Bool.false_eq_true, if_false]
        exact f1
      · simp only [spec_l10Series, hw, e1, e2, e3, r2', Option.bind_some, Bool.not_true, Bool.false_eq_true, if_false]
        exact f2
  · rw [if_neg hB] at hbot
    refine ⟨vrep 64 0, vrep 64 0, 3, false, vrep 64 0, vrep 64 0, ?_, ?_, .inr ⟨rfl, rfl, rfl, rfl⟩⟩
    · simp only [impl_cut_sum_of_s_impl_prime_second, hbot, Option.bind_some, Bool.not_false, if_true]
    · have bad : ∃ (q q2 q3 : V64 × Bool), spec_l04Factorial P.p k true = some q ∧ spec_l04Raise P.p (pad b.1) k = some q2 ∧ spec_l01Times P.p q.1 q2.1 = some q3 ∧ (if (!q.2) then (some true) else (if (!q2.2) then (some true) else (some (!q3.2)))) = some true := by
        have z : pad (0 : PP P).1 = vrep 64 0 := pad_nil
        have zl : (0 : PP P).len ≤ 64 := by rw [len_zero.2 rfl]; omega
        by_cases h1 : (facP P true k).len ≤ 64
        · rw [if_pos h1] at e1
          by_cases h2 : b.len = 0 ∨ (b.len - 1) * P.n ^ k ≤ 63
          · rw [if_pos h2] at e2
            obtain ⟨w1, e3, _⟩ := timesT (P := P) (a := facP P true k) (b := sprP b k) h1 (by omega)
            refine ⟨_, _, _, e1, e2, e3, ?_⟩
            rw [decide_eq_false (by omega)]; rfl
          · rw [if_neg h2] at e2
            obtain ⟨w1, e3, _⟩ := timesT (P := P) (a := facP P true k) (b := 0) h1 zl
            rw [z] at e3
            exact ⟨_, _, _, e1, e2, e3, rfl⟩
        · rw [if_neg h1] at e1
          by_cases h2 : b.len = 0 ∨ (b.len - 1) * P.n ^ k ≤ 63
          · rw [if_pos h2] at e2
            obtain ⟨w1, e3, _⟩ := timesT (P := P) (a := 0) (b := sprP b k) zl (by omega)
            rw [z] at e3
            exact ⟨_, _, _, e1, e2, e3, rfl⟩
          · rw [if_neg h2] at e2
            obtain ⟨w1, e3, _⟩ := timesT (P := P) (a := 0) (b := 0) zl zl
            rw [z] at e3
            exact ⟨_, _, _, e1, e2, e3, rfl⟩
      obtain ⟨q, q2, q3, c1, c2, c3, c4⟩ := bad
      simp only [spec_l10Series, hw, c1, c2, c3, c4, Option.bind_some, if_true]
theorem secondCut_law (p : Int) (a b : V64) (n : Int) (ha : IsB a) (hb : IsB b) : laws_FnExactLogarithmUpTo p a b n = some true := by
  have key : ∃ r, spec_LogarithmUpTo p a b n = some r ∧ impl_LogarithmUpTo p a b n = some r := by
    have hinI : impl_within n 1 4 = some (decide (1 ≤ n ∧ n ≤ 4)) := within_is n 1 4
    have hinS : spec_l01In n 1 4 = some (decide (1 ≤ n ∧ n ≤ 4)) := inS_is n 1 4
    simp only [spec_LogarithmUpTo, impl_LogarithmUpTo, spec_l10Cut, spec_l10Code, impl_quotientCode, hinI, hinS, Option.bind_some]
    rw [code_is (by simp [ha, hb]) (by simp), polysCode_is (by simp [ha, hb]) (by simp)]
    simp only [List.all_cons, List.all_nil, Bool.and_true, Option.bind_some]
    by_cases hok : isP p = true ∧ small p a = true ∧ small p b = true
    · obtain ⟨hp, h1, h2⟩ := hok
      obtain ⟨P, rfl⟩ := pri_of hp
      rw [hp, h1, h2]
      simp only [Bool.and_self, if_true, bne_self_eq_false, Bool.false_eq_true, if_false]
      by_cases hn : 1 ≤ n ∧ n ≤ 4
      · by_cases hz : b = vrep 64 0
        · exact ⟨(vrep 64 0, vrep 64 0, 5), by simp [hz, hn], by simp [hz, hn]⟩
        · obtain ⟨k, rfl⟩ : ∃ k : Nat, n = ((k + 1 : Nat) : Int) := ⟨(n - 1).toNat, by omega⟩
          have hbn : ppv b hb h2 ≠ 0 := fun e => hz (by
            have h3 : (row b).length = 0 := len_zero.2 e
            rw [← pad_row b, List.eq_nil_of_length_eq_zero h3, pad_nil])
          obtain ⟨x, y, c, ok, x', y', f1, f2, f3⟩ := cutsecond (P := P) (a := ppv a ha h1) (b := ppv b hb h2) (k := k) hbn ppv_len ppv_len (by omega)
          rw [ppv_pad, ppv_pad] at f2
          have f1' : impl_cut_sum_of_s_impl_prime_second P.p (row a) (row b) ((k + 1 : Nat) : Int) P.p (-1) = some (x, y, c) := f1
          refine ⟨(x, y, c), ?_, ?_⟩
          · rw [decide_eq_true hn, decide_eq_false hz]
            simp only [Bool.not_true, Bool.false_eq_true, if_false, Option.bind_some, f2]
            rcases f3 with ⟨rfl, rfl, rfl, rfl⟩ | ⟨rfl, rfl, rfl, rfl⟩ <;> rfl
          · rw [decide_eq_true hn, decide_eq_false hz]
            simp only [Bool.not_true, Bool.false_eq_true, if_false, Option.bind_some, row_is ha, row_is hb, f1']
            rfl
      · by_cases hz : b = vrep 64 0
        · exact ⟨(vrep 64 0, vrep 64 0, 2), by simp [hz, hn], by simp [hz, hn]⟩
        · exact ⟨(vrep 64 0, vrep 64 0, 2), by simp [hz, hn], by simp [hz, hn]⟩
    · have h : (isP p && (small p a && small p b)) = false := by
        cases h1 : isP p <;> cases h2 : small p a <;> cases h3 : small p b <;> simp_all
      rw [h]
      exact ⟨(vrep 64 0, vrep 64 0, 1), by simp, by simp⟩
  obtain ⟨r, k1, k2⟩ := key
  simp only [laws_FnExactLogarithmUpTo, toPoly_is, k1, k2, Option.bind_some, eqPoly_is]
  simp
end Go.Proofs.Ytkbnegemdlnncaa
