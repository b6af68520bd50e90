/- FnExactDigitSum: both count the digits to the base p. -/
import Derived.Test.YtacebpbhddkelaaPlain
import Derived.Test.YtacebpbhddkelaaD
namespace Go.Proofs.Ytacebpbhddkelaa
open Go.Abs

def digs (p n : Nat) : List Int := if n = 0 ∨ p < 2 then [] else ((n % p : Nat) : Int) :: digs p (n / p)
termination_by n
decreasing_by exact Nat.div_lt_self (by omega) (by omega)

theorem digs_zero (p : Nat) : digs p 0 = [] := by rw [digs]; simp
theorem digs_pos {p n : Nat} (hp : 2 ≤ p) (hn : 0 < n) : digs p n = ((n % p : Nat) : Int) :: digs p (n / p) := by
  rw [digs, if_neg (by omega)]

theorem f53_is {p : Nat} (hp : 2 ≤ p) : ∀ s : Int × Int, (∃ n : Nat, s.1 = n ∧ 0 ≤ s.2 ∧ s.2 + n ≤ 1000000000000) → ∃ r, loopM (fun s : Int × Int => f53_l1 p s.1 s.2) s = some r ∧ ∀ n : Nat, s.1 = n → r = s.2 + (digs p n).sum := by
  refine loopM_ind (fun (s : Int × Int) => ∃ n : Nat, s.1 = n ∧ 0 ≤ s.2 ∧ s.2 + n ≤ 1000000000000) (fun (s : Int × Int) (r : Int) => ∀ n : Nat, s.1 = n → r = s.2 + (digs p n).sum) (fun (s : Int × Int) => s.1.toNat) ?_
  rintro ⟨x, acc⟩ ⟨n, hx, h1, h2⟩
  simp only at hx h1 h2
  subst hx
  by_cases hn : n = 0
  · right
    subst hn
    refine ⟨acc, by simp [f53_l1], fun m hm => ?_⟩
    have : m = 0 := by simpa using hm.symm
    subst this
    rw [digs_zero]; simp
  · left
    have hlt : n / p < n := Nat.div_lt_self (by omega) hp
    have hle : n % p + n / p ≤ n := by
      have := Nat.div_add_mod n p
      have h3 : n / p ≤ p * (n / p) := Nat.le_mul_of_pos_left _ (by omega)
      omega
    have e1 : Int.tdiv (n : Int) p = ((n / p : Nat) : Int) := rfl
    have e2 : Int.tmod (n : Int) p = ((n % p : Nat) : Int) := rfl
    have ed := digs_pos hp (show 0 < n by omega)
    generalize n / p = q at hlt hle e1 ed
    generalize n % p = d at hle e2 ed
    refine ⟨((q : Int), acc + (d : Int)), ?_, ⟨q, rfl, by simp only; omega, by simp only; omega⟩, by simp only [Int.toNat_natCast]; exact hlt, fun r hr m hm => ?_⟩
    · simp only [f53_l1]
      rw [if_pos (by simp; omega), ifp_pos (by omega), ifp_pos (by omega), e1, e2, wrap64 (by omega) (by omega), wrap64 (by omega) (by omega)]
    · have : m = n := by have : (n : Int) = m := hm; omega
      subst this
      rw [hr q rfl, ed]
      simp only [List.sum_cons]
      omega

theorem f55_is {p : Nat} (hp : 2 ≤ p) : ∀ s : Int × List Int, (∃ n : Nat, s.1 = n ∧ s.2.length + n ≤ 1000000000000) → ∃ r, loopM (fun s : Int × List Int => f55_l1 p s.1 s.2) s = some r ∧ ∀ n : Nat, s.1 = n → r = s.2 ++ digs p n := by
  refine loopM_ind (fun (s : Int × List Int) => ∃ n : Nat, s.1 = n ∧ s.2.length + n ≤ 1000000000000) (fun (s : Int × List Int) (r : List Int) => ∀ n : Nat, s.1 = n → r = s.2 ++ digs p n) (fun (s : Int × List Int) => s.1.toNat) ?_
  rintro ⟨x, l⟩ ⟨n, hx, h2⟩
  simp only at hx h2
  subst hx
  by_cases hn : n = 0
  · right
    subst hn
    refine ⟨l, by simp [f55_l1], fun m hm => ?_⟩
    have : m = 0 := by simpa using hm.symm
    subst this
    rw [digs_zero]; simp
  · left
    have hlt : n / p < n := Nat.div_lt_self (by omega) hp
    have e1 : Int.tdiv (n : Int) p = ((n / p : Nat) : Int) := rfl
    have e2 : Int.tmod (n : Int) p = ((n % p : Nat) : Int) := rfl
    have ed := digs_pos hp (show 0 < n by omega)
    generalize n / p = q at hlt e1 ed
    generalize n % p = d at e2 ed
    refine ⟨((q : Int), l ++ [(d : Int)]), ?_, ⟨q, rfl, by simp only [List.length_append, List.length_singleton]; omega⟩, by simp only [Int.toNat_natCast]; exact hlt, fun r hr m hm => ?_⟩
    · simp only [f55_l1]
      rw [if_pos (by simp; omega), ifp_pos (by omega), ifp_pos (by simp; omega), ifp_pos (by omega), e1, e2, wrap64 (by omega) (by omega)]
    · have : m = n := by have : (n : Int) = m := hm; omega
      subst this
      rw [hr q rfl, ed]
      simp

theorem digs_sum {p : Nat} : ∀ n : Nat, (∀ d ∈ digs p n, (0 : Int) ≤ d) ∧ (digs p n).sum ≤ n ∧ (digs p n).length ≤ n := by
  intro n
  induction n using Nat.strongRecOn with
  | ind n ih =>
    by_cases h : n = 0 ∨ p < 2
    · rw [digs, if_pos h]; simp
    · have hlt : n / p < n := Nat.div_lt_self (by omega) (by omega)
      have hle : n % p + n / p ≤ n := by
        have := Nat.div_add_mod n p
        have h3 : n / p ≤ p * (n / p) := Nat.le_mul_of_pos_left _ (by omega)
        omega
      obtain ⟨h1, h2, h3⟩ := ih _ hlt
      rw [digs, if_neg h]
      refine ⟨fun d hd => ?_, ?_, ?_⟩
      · rcases List.mem_cons.1 hd with rfl | hd
        · omega
        · exact h1 d hd
      · simp only [List.sum_cons]; omega
      · simp only [List.length_cons]; omega

theorem f19_is {l : List Int} (hl : (∀ d ∈ l, 0 ≤ d) ∧ l.length ≤ 1000000000000) : ∀ s : Int × Int, (∃ i : Nat, s.2 = i ∧ i ≤ l.length ∧ 0 ≤ s.1 ∧ s.1 + (l.drop i).sum ≤ 1000000000000) → ∃ r, loopM (fun s : Int × Int => f19_l1 l s.1 s.2) s = some r ∧ ∀ i : Nat, s.2 = i → r = s.1 + (l.drop i).sum := by
  refine loopM_ind (fun (s : Int × Int) => ∃ i : Nat, s.2 = i ∧ i ≤ l.length ∧ 0 ≤ s.1 ∧ s.1 + (l.drop i).sum ≤ 1000000000000) (fun (s : Int × Int) (r : Int) => ∀ i : Nat, s.2 = i → r = s.1 + (l.drop i).sum) (fun (s : Int × Int) => l.length - s.2.toNat) ?_
  rintro ⟨acc, x⟩ ⟨i, hx, h1, h2, h3⟩
  simp only at hx h1 h2 h3
  subst hx
  by_cases hn : i = l.length
  · right
    subst hn
    refine ⟨acc, by simp [f19_l1], fun m hm => ?_⟩
    have : m = l.length := by simp at hm; omega
    subst this
    simp
  · left
    have hil : i < l.length := by omega
    have ed : l.drop i = l[i] :: l.drop (i + 1) := List.drop_eq_getElem_cons hil
    have er : rd l ((i : Int).toNat) = l[i] := by simp [rd, hil]
    have hnn := hl.1 l[i] (List.getElem_mem _)
    have hrest : 0 ≤ (l.drop (i + 1)).sum := by
      have : ∀ (k : List Int), (∀ d ∈ k, 0 ≤ d) → 0 ≤ k.sum := by
        intro k
        induction k with
        | nil => simp
        | cons a k ih => intro h; simp only [List.sum_cons]; have := h a (by simp); have := ih fun d hd => h d (by simp [hd]); omega
      exact this _ fun d hd => hl.1 d (List.mem_of_mem_drop hd)
    rw [ed] at h3
    simp only [List.sum_cons] at h3
    refine ⟨(acc + l[i], ((i + 1 : Nat) : Int)), ?_, ⟨i + 1, rfl, by omega, by simp only; omega, by simp only; omega⟩, by simp only [Int.toNat_natCast]; omega, fun r hr m hm => ?_⟩
    · simp only [f19_l1]
      rw [if_pos (by simp; omega), ifp_pos (by omega), er, wrap64 (by omega) (by omega), wrap64 (by omega) (by omega)]
      simp
    · have : m = i := by simp at hm; omega
      subst this
      rw [hr (m + 1) rfl, ed]
      simp only [List.sum_cons]
      omega

def isP (p : Int) : Bool := p == 2 || p == 3 || p == 5 || p == 7
theorem f56_is (p : Int) : f56 p = some (isP p) := by
  unfold f56 isP
  by_cases h1 : p = 2 <;> by_cases h2 : p = 3 <;> by_cases h3 : p = 5 <;> simp [h1, h2, h3]
theorem f59_is (p : Int) : f59 p = some (isP p) := by
  unfold f59 isP
  by_cases h1 : p = 2 <;> by_cases h2 : p = 3 <;> by_cases h3 : p = 5 <;> simp [h1, h2, h3]
theorem f52_is (p n a b : Int) : f52 p n a b = some (if isP p then (if a ≤ n ∧ n ≤ b then 0 else 2) else 1) := by
  unfold f52 f57
  rw [f56_is]
  cases isP p <;> simp
  by_cases h1 : a ≤ n <;> by_cases h2 : n ≤ b <;> simp [h1, h2]
theorem f54_is (p n a b : Int) : f54 p n a b = some (if isP p then (if a ≤ n ∧ n ≤ b then 0 else 2) else 1) := by
  unfold f54 f66
  rw [f59_is]
  cases isP p <;> simp
  by_cases h1 : a ≤ n <;> by_cases h2 : n ≤ b <;> simp [h1, h2]

theorem digitSum_law (p k : Int) : f4 p k = some true := by
  have key : ∃ r, f18 p k = some r ∧ f19 p k = some r := by
    unfold f18 f19
    rw [f52_is, f54_is]
    simp only [Option.bind_some]
    cases hp : isP p
    · exact ⟨(0, 1), by simp, by simp⟩
    · by_cases hk : 0 ≤ k ∧ k ≤ 1000000000000
      · simp only [hk, and_self, if_true]
        obtain ⟨q, rfl⟩ : ∃ q : Nat, p = q := ⟨p.toNat, by simp [isP] at hp; omega⟩
        obtain ⟨n, rfl⟩ : ∃ n : Nat, k = n := ⟨k.toNat, by omega⟩
        have hq : 2 ≤ q := by simp [isP] at hp; omega
        obtain ⟨r, h1, h2⟩ := f53_is hq ((n : Int), 0) ⟨n, rfl, by simp, by simp; omega⟩
        obtain ⟨l, h3, h4⟩ := f55_is hq ((n : Int), []) ⟨n, rfl, by simp; omega⟩
        have e1 := h2 n rfl
        have e2 := h4 n rfl
        simp only [List.nil_append, Int.zero_add] at e1 e2
        subst e2
        obtain ⟨g1, g2, g3⟩ := digs_sum (p := q) n
        obtain ⟨r', h5, h6⟩ := f19_is (l := digs q n) ⟨g1, by omega⟩ (0, 0) ⟨0, rfl, by simp, by simp, by simp; omega⟩
        have e3 := h6 0 rfl
        simp only [List.drop_zero, Int.zero_add] at e3
        refine ⟨(r, 0), ?_, ?_⟩
        · simp [f53, h1]
        · simp [f55, h3, h5, e3, e1]
      · rw [if_neg hk]
        exact ⟨(0, 2), by simp, by simp⟩
  obtain ⟨r, h1, h2⟩ := key
  unfold f4
  rw [h1, h2]
  simp
end Go.Proofs.Ytacebpbhddkelaa
