/- Numbers as digits; primes; comparing polynomials. -/
import Derived.Test.YtacebpbhddkelaaVec
import Derived.Test.YtacebpbhddkelaaFnA
namespace Go.Proofs.Ytacebpbhddkelaa
open Go.Abs
def digs (p n : Nat) : List Int := if n = 0 ∨ p < 2 then [] else ((n % p : Nat) : Int) :: digs p (n / p)
termination_by n
decreasing_by exact Nat.div_lt_self (by omega) (by omega)

theorem digs_zero (p : Nat) : digs p 0 = [] := by rw [digs]; simp
theorem digs_pos {p n : Nat} (hp : 2 ≤ p) (hn : 0 < n) : digs p n = ((n % p : Nat) : Int) :: digs p (n / p) := by
  rw [digs, if_neg (by omega)]

theorem digs_sum {p : Nat} : ∀ n : Nat, (∀ d ∈ digs p n, (0 : Int) ≤ d) ∧ (digs p n).sum ≤ n ∧ (digs p n).length ≤ n := by
  intro n
  induction n using Nat.strongRecOn with
  | ind n ih =>
    by_cases h : n = 0 ∨ p < 2
    · rw [digs, if_pos h]; simp
    · have hlt : n / p < n := Nat.div_lt_self (by omega) (by omega)
      have hle : n % p + n / p ≤ n := by
        have := Nat.div_add_mod n p
        have h3 : n / p ≤ p * (n / p) := Nat.le_mul_of_pos_left _ (by omega)
        omega
      obtain ⟨h1, h2, h3⟩ := ih _ hlt
      rw [digs, if_neg h]
      refine ⟨fun d hd => ?_, ?_, ?_⟩
      · rcases List.mem_cons.1 hd with rfl | hd
        · omega
        · exact h1 d hd
      · simp only [List.sum_cons]; omega
      · simp only [List.length_cons]; omega

def isP (p : Int) : Bool := p == 2 || p == 3 || p == 5 || p == 7
theorem isPrime_spec (p : Int) : spec_l01Prime p = some (isP p) := by
  unfold spec_l01Prime isP
  by_cases h1 : p = 2 <;> by_cases h2 : p = 3 <;> by_cases h3 : p = 5 <;> simp [h1, h2, h3]
theorem isPrime_impl (p : Int) : impl_isPrime p = some (isP p) := by
  unfold impl_isPrime isP
  by_cases h1 : p = 2 <;> by_cases h2 : p = 3 <;> by_cases h3 : p = 5 <;> simp [h1, h2, h3]
theorem range_spec (p n a b : Int) : spec_l04Range p n a b = some (if isP p then (if a ≤ n ∧ n ≤ b then 0 else 2) else 1) := by
  unfold spec_l04Range spec_l01In
  rw [isPrime_spec]
  cases isP p <;> simp
  by_cases h1 : a ≤ n <;> by_cases h2 : n ≤ b <;> simp [h1, h2]
theorem range_impl (p n a b : Int) : impl_numberCode p n a b = some (if isP p then (if a ≤ n ∧ n ≤ b then 0 else 2) else 1) := by
  unfold impl_numberCode impl_within
  rw [isPrime_impl]
  cases isP p <;> simp
  by_cases h1 : a ≤ n <;> by_cases h2 : n ≤ b <;> simp [h1, h2]

theorem numbered_loop {p : Nat} (hp : 2 ≤ p) : ∀ s : Int × List Int, (∃ n : Nat, s.1 = n ∧ s.2.length + n ≤ 1000000000000) → ∃ r, loopM (fun s : Int × List Int => impl_prime_numbered_l1 p s.1 s.2) s = some r ∧ ∀ n : Nat, s.1 = n → r = s.2 ++ digs p n := by
  refine loopM_ind (fun (s : Int × List Int) => ∃ n : Nat, s.1 = n ∧ s.2.length + n ≤ 1000000000000) (fun (s : Int × List Int) (r : List Int) => ∀ n : Nat, s.1 = n → r = s.2 ++ digs p n) (fun (s : Int × List Int) => s.1.toNat) ?_
  rintro ⟨x, l⟩ ⟨n, hx, h2⟩
  simp only at hx h2
  subst hx
  by_cases hn : n = 0
  · right
    subst hn
    refine ⟨l, by simp [impl_prime_numbered_l1], fun m hm => ?_⟩
    have : m = 0 := by simpa using hm.symm
    subst this
    rw [digs_zero]; simp
  · left
    have hlt : n / p < n := Nat.div_lt_self (by omega) hp
    have e1 : Int.tdiv (n : Int) p = ((n / p : Nat) : Int) := rfl
    have e2 : Int.tmod (n : Int) p = ((n % p : Nat) : Int) := rfl
    have ed := digs_pos hp (show 0 < n by omega)
    generalize n / p = q at hlt e1 ed
    generalize n % p = d at e2 ed
    refine ⟨((q : Int), l ++ [(d : Int)]), ?_, ⟨q, rfl, by simp only [List.length_append, List.length_singleton]; omega⟩, by simp only [Int.toNat_natCast]; exact hlt, fun r hr m hm => ?_⟩
    · simp only [impl_prime_numbered_l1]
      rw [if_pos (by simp; omega), ifp_pos (by omega), ifp_pos (by simp; omega), ifp_pos (by omega), e1, e2, wrap64 (by omega) (by omega)]
    · have : m = n := by have : (n : Int) = m := hm; omega
      subst this
      rw [hr q rfl, ed]
      simp


theorem numbered_is {p n : Nat} (hp : 2 ≤ p) (hn : n ≤ 1000000000000) : impl_prime_numbered p n = some (digs p n) := by
  obtain ⟨l, h3, h4⟩ := numbered_loop hp ((n : Int), []) ⟨n, rfl, by simp; omega⟩
  have e := h4 n rfl
  simp only [List.nil_append] at e
  simp [impl_prime_numbered, h3, e]

theorem digs_lt {p : Nat} (hp : 2 ≤ p) : ∀ n : Nat, ∀ d ∈ digs p n, 0 ≤ d ∧ d < p := by
  intro n
  induction n using Nat.strongRecOn with
  | ind n ih =>
    intro d hd
    by_cases h : n = 0
    · subst h; rw [digs_zero] at hd; cases hd
    · rw [digs_pos hp (by omega)] at hd
      rcases List.mem_cons.1 hd with rfl | hd
      · have := Nat.mod_lt n (show p > 0 by omega)
        generalize n % p = x at this
        omega
      · exact ih _ (Nat.div_lt_self (by omega) hp) d hd
theorem digs_len {p : Nat} (hp : 2 ≤ p) : ∀ (k n : Nat), n < 2 ^ k → (digs p n).length ≤ k
  | 0, n, h => by
    have : n = 0 := by simpa using h
    subst this; rw [digs_zero]; simp
  | k + 1, n, h => by
    by_cases hn : n = 0
    · subst hn; rw [digs_zero]; simp
    · rw [digs_pos hp (by omega)]
      have : n / p < 2 ^ k := by
        have h1 : n / p ≤ n / 2 := Nat.div_le_div_left hp (by omega)
        have h2 : n / 2 < 2 ^ k := by rw [Nat.pow_succ] at h; omega
        omega
      have := digs_len hp k _ this
      simp only [List.length_cons]; omega
theorem digs_len40 {p n : Nat} (hp : 2 ≤ p) (hn : n ≤ 1000000000000) : (digs p n).length ≤ 40 := digs_len hp 40 n (by omega)

/-! Comparing. -/
theorem eqPoly_loop (a b : V64) : ∀ s : Int, (∃ i : Nat, s = i ∧ i ≤ 64) → ∃ r, loopM (fun s : Int => laws_eqPoly_l1 a b s) s = some r ∧ ∀ i : Nat, s = i → (r = .inl () ∧ ∀ j, i ≤ j → j < 64 → rd a.1 j = rd b.1 j) ∨ (r = .inr false ∧ ∃ j, j < 64 ∧ rd a.1 j ≠ rd b.1 j) := by
  refine loopM_ind (fun (s : Int) => ∃ i : Nat, s = i ∧ i ≤ 64) (fun (s : Int) (r : Unit ⊕ Bool) => ∀ i : Nat, s = i → (r = .inl () ∧ ∀ j, i ≤ j → j < 64 → rd a.1 j = rd b.1 j) ∨ (r = .inr false ∧ ∃ j, j < 64 ∧ rd a.1 j ≠ rd b.1 j)) (fun s => 64 - s.toNat) ?_
  rintro s ⟨i, rfl, hi⟩
  by_cases h : i = 64
  · subst h
    right
    refine ⟨.inl (), by simp [laws_eqPoly_l1], fun k hk => .inl ⟨rfl, fun j h1 h2 => by omega⟩⟩
  · by_cases e : rd a.1 i = rd b.1 i
    · left
      refine ⟨((i + 1 : Nat) : Int), ?_, ⟨i + 1, rfl, by omega⟩, by simp; omega, fun r hr k hk => ?_⟩
      · simp only [laws_eqPoly_l1]
        rw [if_pos (by simp; omega), ifp_pos (by omega), ifp_pos (by omega)]
        simp only [Int.toNat_natCast, e, bne_self_eq_false, Bool.false_eq_true, if_false]
        rw [wrap64 (by omega) (by omega)]; rfl
      · have hki : k = i := by omega
        subst hki
        rcases hr (k + 1) rfl with ⟨h1, h2⟩ | h1
        · refine .inl ⟨h1, fun j h3 h4 => ?_⟩
          by_cases hj : j = k
          · subst hj; exact e
          · exact h2 j (by omega) h4
        · exact .inr h1
    · right
      refine ⟨.inr false, ?_, fun k hk => .inr ⟨rfl, i, by omega, e⟩⟩
      simp only [laws_eqPoly_l1]
      rw [if_pos (by simp; omega), ifp_pos (by omega), ifp_pos (by omega)]
      simp [e]
theorem eqPoly_is (a b : V64) : laws_eqPoly a b = some (decide (a = b)) := by
  obtain ⟨r, h1, h2⟩ := eqPoly_loop a b 0 ⟨0, rfl, by omega⟩
  unfold laws_eqPoly
  rcases h2 0 rfl with ⟨rfl, h⟩ | ⟨rfl, j, h3, h4⟩
  · have : a = b := vec_ext fun j hj => h j (by omega) hj
    rw [h1]; simp [this]
  · have : a ≠ b := fun e => h4 (by rw [e])
    rw [h1]; simp [this]

/-! A list as a polynomial. -/
theorem poly_loop {l : List Int} (hb : Bytes l) (hl : l.length ≤ 64) : ∀ s : Int × V64, (∃ i : Nat, s.1 = i ∧ i ≤ l.length ∧ s.2 = pad (l.take i)) → ∃ r, loopM (fun s : Int × V64 => impl_row_poly_l1 l s.1 s.2) s = some r ∧ r = pad l := by
  refine loopM_ind (fun (s : Int × V64) => ∃ i : Nat, s.1 = i ∧ i ≤ l.length ∧ s.2 = pad (l.take i)) (fun (s : Int × V64) r => r = pad l) (fun (s : Int × V64) => 64 - s.1.toNat) ?_
  rintro ⟨x, v⟩ ⟨i, hx, hi, hv⟩
  simp only at hx hv
  subst hx hv
  by_cases h : i = l.length
  · right
    subst h
    exact ⟨pad l, by simp [impl_row_poly_l1], rfl⟩
  · left
    have hil : i < l.length := by omega
    have er : rd l i = l[i] := by simp [rd, hil]
    have hbi := hb l[i] (List.getElem_mem _)
    refine ⟨(((i + 1 : Nat) : Int), pad (l.take (i + 1))), ?_, ⟨i + 1, rfl, by omega, rfl⟩, by simp; omega, fun r hr => hr⟩
    simp only [impl_row_poly_l1]
    rw [if_pos (by simp; omega), ifp_pos (by omega), ifp_pos (by omega)]
    simp only [Int.toNat_natCast, er]
    rw [wrap64 (by omega) (by omega), wrap8 hbi.1 hbi.2]
    have := pad_set (l.take i) l[i] (by simp; omega)
    rw [List.length_take, Nat.min_eq_left (by omega)] at this
    rw [this, List.take_succ_eq_append_getElem hil]
    simp
theorem poly_is {l : List Int} (hb : Bytes l) (hl : l.length ≤ 64) : impl_row_poly l = some (pad l) := by
  obtain ⟨r, h1, h2⟩ := poly_loop hb hl (0, pad []) ⟨0, rfl, by omega, by simp⟩
  simp only [impl_row_poly, ← pad_nil, h1, h2, Option.bind_some]
end Go.Proofs.Ytacebpbhddkelaa
