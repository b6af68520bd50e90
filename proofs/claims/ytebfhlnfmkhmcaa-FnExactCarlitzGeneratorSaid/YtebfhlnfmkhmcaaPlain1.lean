/- Own texts, put together. -/
import Derived.Test.YtebfhlnfmkhmcaaAbsX
import Derived.Test.YtebfhlnfmkhmcaaFn1
import Derived.Test.YtebfhlnfmkhmcaaFn2
import Derived.Test.YtebfhlnfmkhmcaaFn3
import Derived.Test.YtebfhlnfmkhmcaaFn4
import Derived.Test.YtebfhlnfmkhmcaaFn5
import Derived.Test.YtebfhlnfmkhmcaaFn6
set_option linter.unusedSimpArgs false
set_option linter.unusedVariables false
/- Plain facts on loops and wraps. -/
namespace Go.Abs

/-- A loop with a measure ends, and what it leaves. -/
theorem loopM_ind {α β : Type} {body : α → Option (α ⊕ β)} (I : α → Prop) (Post : α → β → Prop) (m : α → Nat)
    (step : ∀ s, I s → (∃ s', body s = some (.inl s') ∧ I s' ∧ m s' < m s ∧ ∀ r, Post s' r → Post s r) ∨ ∃ r, body s = some (.inr r) ∧ Post s r) :
    ∀ s, I s → ∃ r, loopM body s = some r ∧ Post s r := by
  have key : ∀ n s, m s ≤ n → I s → ∃ r, loopM body s = some r ∧ Post s r := by
    intro n
    induction n with
    | zero =>
      intro s hn hs
      rcases step s hs with ⟨s', h1, h2, h3, h4⟩ | ⟨r, h1, h2⟩
      · omega
      · exact ⟨r, by rw [loopM_eq, h1]; rfl, h2⟩
    | succ n ih =>
      intro s hn hs
      rcases step s hs with ⟨s', h1, h2, h3, h4⟩ | ⟨r, h1, h2⟩
      · obtain ⟨r, k1, k2⟩ := ih s' (by omega) h2
        exact ⟨r, by rw [loopM_eq, h1]; exact k1, h4 r k2⟩
      · exact ⟨r, by rw [loopM_eq, h1]; rfl, h2⟩
  exact fun s hs => key (m s) s (Nat.le_refl _) hs

theorem wrap64 {n : Int} (h1 : -9223372036854775808 ≤ n) (h2 : n < 9223372036854775808) : IntKind.i64.wrap n = n := by
  simp only [IntKind.wrap, IntKind.signed, IntKind.bits]
  simp
  omega
theorem wrap8 {n : Int} (h1 : 0 ≤ n) (h2 : n < 256) : IntKind.u8.wrap n = n := by
  simp only [IntKind.wrap, IntKind.signed, IntKind.bits]
  simp
  omega

/-- A loop that counts from i to n. -/
theorem loopM_for {α β σ : Type} {body : α → Option (α ⊕ β)} (at' : Nat → σ → α) (out : σ → β) (n : Nat) (I : Nat → σ → Prop)
    (step : ∀ i s, i < n → I i s → ∃ s', body (at' i s) = some (.inl (at' (i + 1) s')) ∧ I (i + 1) s') (stop : ∀ s, I n s → body (at' n s) = some (.inr (out s))) :
    ∀ (m i : Nat) (s : σ), i + m = n → I i s → ∃ s', loopM body (at' i s) = some (out s') ∧ I n s'
  | 0, i, s, h, hI => by
    have : i = n := by omega
    subst this
    exact ⟨s, by rw [loopM_eq, stop s hI]; rfl, hI⟩
  | m + 1, i, s, h, hI => by
    obtain ⟨s', h1, h2⟩ := step i s (by omega) hI
    obtain ⟨s'', h3, h4⟩ := loopM_for at' out n I step stop m (i + 1) s' (by omega) h2
    exact ⟨s'', by rw [loopM_eq, h1]; exact h3, h4⟩
end Go.Abs
/- Commutative rings, told by their laws: powers, the Frobenius, roots of polynomials, powers in finite fields. -/
namespace Go.Abs

structure IsRing (K : Type) [Add K] [Mul K] [Neg K] [Zero K] [One K] : Prop where
  add_comm : ∀ a b : K, a + b = b + a
  add_assoc : ∀ a b c : K, a + b + c = a + (b + c)
  add_zero : ∀ a : K, a + 0 = a
  add_neg : ∀ a : K, a + -a = 0
  mul_comm : ∀ a b : K, a * b = b * a
  mul_assoc : ∀ a b c : K, a * b * c = a * (b * c)
  mul_one : ∀ a : K, a * 1 = a
  mul_add : ∀ a b c : K, a * (b + c) = a * b + a * c

section
variable {K : Type} [Add K] [Mul K] [Neg K] [Zero K] [One K]

def pw (x : K) : Nat → K
  | 0 => 1
  | n + 1 => pw x n * x
def nsm : Nat → K → K
  | 0, _ => 0
  | n + 1, x => nsm n x + x

namespace IsRing
variable (R : IsRing K)
include R
theorem zero_add (a : K) : 0 + a = a := by rw [R.add_comm, R.add_zero]
theorem neg_add (a : K) : -a + a = 0 := by rw [R.add_comm, R.add_neg]
theorem add_left_comm (a b c : K) : a + (b + c) = b + (a + c) := by rw [← R.add_assoc, R.add_comm a b, R.add_assoc]
theorem mul_left_comm (a b c : K) : a * (b * c) = b * (a * c) := by rw [← R.mul_assoc, R.mul_comm a b, R.mul_assoc]
theorem one_mul (a : K) : 1 * a = a := by rw [R.mul_comm, R.mul_one]
theorem add_mul (a b c : K) : (a + b) * c = a * c + b * c := by rw [R.mul_comm, R.mul_add, R.mul_comm c a, R.mul_comm c b]
theorem cancel {a b c : K} (h : a + b = a + c) : b = c := by
  have : -a + (a + b) = -a + (a + c) := by rw [h]
  rwa [← R.add_assoc, ← R.add_assoc, R.neg_add, R.zero_add, R.zero_add] at this
theorem mul_zero (a : K) : a * 0 = 0 := by
  have h : a * 0 + a * 0 = a * 0 + 0 := by rw [← R.mul_add, R.add_zero, R.add_zero]
  exact R.cancel h
theorem zero_mul (a : K) : 0 * a = 0 := by rw [R.mul_comm, R.mul_zero]
theorem neg_of {a b : K} (h : a + b = 0) : b = -a := R.cancel (a := a) (by rw [h, R.add_neg])
theorem mul_neg (a b : K) : a * -b = -(a * b) := R.neg_of (by rw [← R.mul_add, R.add_neg, R.mul_zero])
theorem neg_neg (a : K) : - -a = a := (R.neg_of (R.neg_add a)).symm
theorem sub_zero {a b : K} (h : a + -b = 0) : a = b := by
  have h' := R.neg_of ((R.add_comm _ _).trans h)
  rw [R.neg_neg] at h'
  exact h'

/-! Powers and multiples. -/
theorem pw_add (x : K) (n m : Nat) : pw x (n + m) = pw x n * pw x m := by
  induction m with
  | zero => simp only [pw, Nat.add_zero, R.mul_one]
  | succ m ih => rw [← Nat.add_assoc]; simp only [pw, ih, R.mul_assoc]
theorem pw_mul (x : K) (n m : Nat) : pw x (n * m) = pw (pw x n) m := by
  induction m with
  | zero => simp only [pw, Nat.mul_zero]
  | succ m ih => rw [Nat.mul_succ, R.pw_add, ih]; rfl
theorem nsm_add (n m : Nat) (x : K) : nsm (n + m) x = nsm n x + nsm m x := by
  induction m with
  | zero => simp only [nsm, Nat.add_zero, R.add_zero]
  | succ m ih => rw [← Nat.add_assoc]; simp only [nsm, ih, R.add_assoc]
theorem nsm_mul (n m : Nat) (x : K) : nsm (n * m) x = nsm n (nsm m x) := by
  induction n with
  | zero => simp only [nsm, Nat.zero_mul]
  | succ n ih => rw [Nat.succ_mul, R.nsm_add, ih]; rfl
theorem mul_nsm (n : Nat) (x y : K) : x * nsm n y = nsm n (x * y) := by
  induction n with
  | zero => simp only [nsm, R.mul_zero]
  | succ n ih => simp only [nsm, R.mul_add, ih]
theorem nsm_zero (n : Nat) : nsm n (0 : K) = 0 := by
  induction n with
  | zero => rfl
  | succ n ih => simp only [nsm, ih, R.add_zero]

end IsRing

/-- The sum of c_i x^i y^(n - i). -/
def hom (x y : K) : List Nat → K
  | [] => 0
  | c :: l => nsm c (pw y l.length) + x * hom x y l
def pasc : Nat → List Nat → List Nat
  | k, [] => [k]
  | k, c :: l => (k + c) :: pasc c l
theorem pasc_len : ∀ (k : Nat) (l : List Nat), (pasc k l).length = l.length + 1
  | _, [] => rfl
  | k, c :: l => by simp only [pasc, List.length_cons, pasc_len c l]
def pascn : Nat → List Nat
  | 0 => [1]
  | n + 1 => pasc 0 (pascn n)

namespace IsRing
variable (R : IsRing K)
include R
theorem hom_pasc (x y : K) : ∀ (l : List Nat) (k : Nat), hom x y (pasc k l) = nsm k (pw y l.length) + (x + y) * hom x y l
  | [], k => by simp only [pasc, hom, List.length_nil, pw, R.mul_zero]
  | c :: l, k => by
    simp only [pasc, hom, pasc_len, List.length_cons, hom_pasc x y l c]
    have e1 : nsm (k + c) (pw y (l.length + 1)) = nsm k (pw y (l.length + 1)) + y * nsm c (pw y l.length) := by
      rw [R.nsm_add, R.mul_nsm, R.mul_comm y]; rfl
    rw [e1]
    simp only [R.mul_add, R.add_mul, R.add_assoc, R.mul_left_comm y x]
    congr 1
    exact R.add_left_comm _ _ _
theorem pw_sum (x y : K) (n : Nat) : pw (x + y) n = hom x y (pascn n) := by
  induction n with
  | zero => simp only [pw, pascn, hom, List.length_nil, nsm, R.mul_zero, R.add_zero, R.zero_add]
  | succ n ih => simp only [pw, pascn, ih, R.hom_pasc, nsm, R.zero_add, R.mul_comm]
theorem frob {p : Nat} (hp : p = 2 ∨ p = 3 ∨ p = 5 ∨ p = 7) (hc : ∀ x : K, nsm p x = 0) (x y : K) : pw (x + y) p = pw x p + pw y p := by
  have hm : ∀ m (z : K), nsm (m * p) z = 0 := fun m z => by rw [R.nsm_mul, hc, R.nsm_zero]
  rw [R.pw_sum]
  rcases hp with rfl | rfl | rfl | rfl
  · have h := hm 1
    show hom x y [1, 2, 1] = _
    simp only [hom, List.length_cons, List.length_nil, h, nsm, R.zero_add, R.add_zero, R.mul_zero, pw, R.mul_one, R.one_mul, R.mul_assoc] at h ⊢
    rw [R.add_comm]
    simp only [h, R.zero_add]
  · have h1 := hm 1
    show hom x y [1, 3, 3, 1] = _
    have e : ∀ z : K, nsm 3 z = 0 := h1
    unfold hom hom hom hom hom
    simp only [e, List.length_cons, List.length_nil, R.zero_add]
    simp only [nsm, R.zero_add, R.add_zero, R.mul_zero, pw, R.mul_one, R.one_mul, R.mul_assoc]
    rw [R.add_comm]
  · have e1 : ∀ z : K, nsm 5 z = 0 := hm 1
    have e2 : ∀ z : K, nsm 10 z = 0 := hm 2
    show hom x y [1, 5, 10, 10, 5, 1] = _
    unfold hom hom hom hom hom hom hom
    simp only [e1, e2, List.length_cons, List.length_nil, R.zero_add]
    simp only [nsm, R.zero_add, R.add_zero, R.mul_zero, pw, R.mul_one, R.one_mul, R.mul_assoc]
    rw [R.add_comm]
  · have e1 : ∀ z : K, nsm 7 z = 0 := hm 1
    have e2 : ∀ z : K, nsm 21 z = 0 := hm 3
    have e3 : ∀ z : K, nsm 35 z = 0 := hm 5
    show hom x y [1, 7, 21, 35, 35, 21, 7, 1] = _
    unfold hom hom hom hom hom hom hom hom hom
    simp only [e1, e2, e3, List.length_cons, List.length_nil, R.zero_add]
    simp only [nsm, R.zero_add, R.add_zero, R.mul_zero, pw, R.mul_one, R.one_mul, R.mul_assoc]
    rw [R.add_comm]
end IsRing

/-! Polynomials from the leading coefficient on. -/
def hn (x : K) : K → List K → K
  | a, [] => a
  | a, c :: l => hn x (a * x + c) l
def synd (r : K) : K → List K → List K
  | _, [] => []
  | a, c :: l => a :: synd r (a * r + c) l
omit [Neg K] [Zero K] [One K] in
theorem synd_len (r : K) : ∀ (a : K) (l : List K), (synd r a l).length = l.length
  | _, [] => rfl
  | a, c :: l => by simp only [synd, List.length_cons, synd_len r _ l]

namespace IsRing
variable (R : IsRing K)
include R
theorem hn_synd (x r : K) : ∀ (l : List K) (a y : K), hn x (a + (x + -r) * y) l = (x + -r) * hn x y (synd r a l) + hn r a l
  | [], a, y => by simp only [hn, synd]; exact R.add_comm _ _
  | c :: l, a, y => by
    simp only [hn, synd]
    rw [← hn_synd x r l (a * r + c) (y * x + a)]
    congr 1
    have e : a * x = a * r + (x + -r) * a := by
      rw [R.add_mul, R.mul_comm (-r), R.mul_neg, R.mul_comm x a, R.add_left_comm, R.add_neg, R.add_zero]
    rw [R.add_mul, e, R.mul_add, R.mul_assoc]
    simp only [R.add_assoc, R.add_comm c]
    congr 1
    rw [R.add_left_comm]
/-- A monic polynomial has no more roots than its degree. -/
theorem roots (hd : ∀ a b : K, a * b = 0 → a = 0 ∨ b = 0) (h10 : (1 : K) ≠ 0) : ∀ (n : Nat) (l L : List K), l.length = n → L.Nodup → (∀ x ∈ L, hn x 1 l = 0) → L.length ≤ n
  | _, _, [], _, _, _ => Nat.zero_le _
  | 0, l, r :: L, hl, _, hr => by
    have : l = [] := List.eq_nil_of_length_eq_zero hl
    subst this
    exact absurd (hr r (by simp)) h10
  | n + 1, [], r :: L, hl, _, _ => by simp at hl
  | n + 1, c :: l, r :: L, hl, hN, hr => by
    have hr0 : hn r 1 (c :: l) = 0 := hr r (by simp)
    have key : ∀ x ∈ L, hn x 1 (synd r (1 * r + c) l) = 0 := by
      intro x hx
      have h0 := hr x (by simp [hx])
      have h1 := R.hn_synd x r (c :: l) 1 0
      rw [R.mul_zero, R.add_zero, h0, hr0, R.add_zero] at h1
      simp only [synd, hn, R.zero_mul, R.zero_add] at h1
      rcases hd _ _ h1.symm with h | h
      · have : x = r := R.sub_zero h
        subst this
        exact absurd hx (List.nodup_cons.1 hN).1
      · exact h
    have := roots hd h10 n (synd r (1 * r + c) l) L (by rw [synd_len]; simpa using hl) (List.nodup_cons.1 hN).2 key
    simp only [List.length_cons]; omega
end IsRing
def prd : List K → K
  | [] => 1
  | x :: l => x * prd l
namespace IsRing
variable (R : IsRing K)
include R
end IsRing
end
end Go.Abs
/- Rings: divisors, residues by an element. -/
namespace Go.Abs
section
variable {K : Type} [Add K] [Mul K] [Neg K] [Zero K] [One K]

def Dv (a b : K) : Prop := ∃ q, b = q * a
namespace IsRing
variable (R : IsRing K)
include R
theorem dv_refl (a : K) : Dv a a := ⟨1, (R.one_mul a).symm⟩
theorem dv_zero (a : K) : Dv a 0 := ⟨0, (R.zero_mul a).symm⟩
theorem dv_add {a b c : K} (h1 : Dv a b) (h2 : Dv a c) : Dv a (b + c) := by
  obtain ⟨x, rfl⟩ := h1
  obtain ⟨y, rfl⟩ := h2
  exact ⟨x + y, (R.add_mul _ _ _).symm⟩
theorem dv_mul {a b : K} (h : Dv a b) (c : K) : Dv a (c * b) := by
  obtain ⟨x, rfl⟩ := h
  exact ⟨c * x, (R.mul_assoc _ _ _).symm⟩
theorem dv_mul' {a b : K} (h : Dv a b) (c : K) : Dv a (b * c) := by rw [R.mul_comm]; exact R.dv_mul h c
theorem dv_neg {a b : K} (h : Dv a b) : Dv a (-b) := by
  obtain ⟨x, rfl⟩ := h
  exact ⟨-x, by rw [R.mul_comm (-x), R.mul_neg, R.mul_comm]⟩
theorem dv_trans {a b c : K} (h1 : Dv a b) (h2 : Dv b c) : Dv a c := by
  obtain ⟨y, rfl⟩ := h2
  exact R.dv_mul h1 y
theorem dv_one {a b : K} (h : Dv a 1) : Dv a b := by
  have := R.dv_mul h b
  rwa [R.mul_one] at this
/-- Of a sum and a part of it, the other part. -/
theorem dv_sub {a b c : K} (h1 : Dv a (b + c)) (h2 : Dv a b) : Dv a c := by
  have h := R.dv_add h1 (R.dv_neg h2)
  have e : b + c + -b = c := by rw [R.add_comm b c, R.add_assoc, R.add_neg, R.add_zero]
  rwa [e] at h
theorem neg_add' (a b : K) : -(a + b) = -a + -b := by
  refine (R.neg_of ?_).symm
  rw [R.add_assoc, R.add_left_comm b, R.add_neg, R.add_zero, R.add_neg]
/-! Congruence by an element. -/
theorem cong_eqv (f : K) : Equivalence fun a b : K => Dv f (a + -b) := by
  refine ⟨fun a => by rw [R.add_neg]; exact R.dv_zero f, fun {a b} h => ?_, fun {a b c} h1 h2 => ?_⟩
  · have := R.dv_neg h
    rwa [R.neg_add', R.neg_neg, R.add_comm] at this
  · have := R.dv_add h1 h2
    have e : a + -b + (b + -c) = a + -c := by rw [R.add_assoc, ← R.add_assoc (-b), R.neg_add, R.zero_add]
    rwa [e] at this
end IsRing
def sdv (R : IsRing K) (f : K) : Setoid K := ⟨fun a b => Dv f (a + -b), R.cong_eqv f⟩
def Qt (R : IsRing K) (f : K) : Type := Quotient (sdv R f)
def qm (R : IsRing K) (f a : K) : Qt R f := Quotient.mk (sdv R f) a
theorem qm_iff (R : IsRing K) {f a b : K} : qm R f a = qm R f b ↔ Dv f (a + -b) := ⟨fun h => Quotient.exact h, fun h => Quotient.sound h⟩
variable (R : IsRing K) (f : K)
instance : Add (Qt R f) := ⟨Quotient.lift₂ (fun a b => qm R f (a + b)) fun a b c d h1 h2 => by
  refine (qm_iff R).2 ?_
  have h := R.dv_add (show Dv f (a + -c) from h1) (show Dv f (b + -d) from h2)
  have e : a + -c + (b + -d) = a + b + -(c + d) := by
    rw [R.neg_add']; simp only [R.add_assoc]; rw [R.add_left_comm (-c)]
  rwa [e] at h⟩
instance : Mul (Qt R f) := ⟨Quotient.lift₂ (fun a b => qm R f (a * b)) fun a b c d h1 h2 => by
  refine (qm_iff R).2 ?_
  have h := R.dv_add (R.dv_mul' (show Dv f (a + -c) from h1) b) (R.dv_mul (show Dv f (b + -d) from h2) c)
  have e : (a + -c) * b + c * (b + -d) = a * b + -(c * d) := by
    rw [R.add_mul, R.mul_add, R.mul_neg, R.mul_comm (-c), R.mul_neg, R.mul_comm b c, R.add_assoc, ← R.add_assoc (-(c * b)), R.neg_add, R.zero_add]
  rwa [e] at h⟩
instance : Neg (Qt R f) := ⟨Quotient.lift (fun a => qm R f (-a)) fun a c h1 => by
  refine (qm_iff R).2 ?_
  have h := R.dv_neg (show Dv f (a + -c) from h1)
  rwa [R.neg_add'] at h⟩
instance : Zero (Qt R f) := ⟨qm R f 0⟩
instance : One (Qt R f) := ⟨qm R f 1⟩
end
end Go.Abs
/- Plain facts on arrays of 64 numbers. -/
namespace Go.Abs

abbrev V64 := Vec Int 64
def pad (l : List Int) : V64 := ⟨(List.range 64).map fun j => l.getD j 0, by simp⟩

theorem pad_rd (l : List Int) {j : Nat} (h : j < 64) : rd (pad l).1 j = l.getD j 0 := by
  simp [rd, pad, h]
theorem vec_ext {n : Nat} {a b : Vec Int n} (h : ∀ j, j < n → rd a.1 j = rd b.1 j) : a = b := by
  apply Subtype.ext
  apply List.ext_getElem
  · rw [a.2, b.2]
  · intro j h1 h2
    have := h j (by rw [a.2] at h1; exact h1)
    simpa [rd, h1, h2] using this
theorem rd_vset {n : Nat} (a : Vec Int n) (i j : Nat) (d : Int) (hi : i < n) : rd (vset a i d).1 j = if j = i then d else rd a.1 j := by
  have hl : i < a.1.length := by rw [a.2]; exact hi
  by_cases h : j = i
  · subst h; simp [rd, vset, hl]
  · rw [if_neg h]
    simp [rd, vset, Ne.symm h]
theorem rd_vrep {n : Nat} (j : Nat) (h : j < n) : rd (vrep n (0 : Int)).1 j = 0 := by
  simp [rd, vrep, h]
theorem pad_nil : pad [] = vrep 64 0 := vec_ext fun j h => by rw [pad_rd _ h, rd_vrep _ h]; simp
theorem pad_set (l : List Int) (d : Int) (h : l.length < 64) : vset (pad l) l.length d = pad (l ++ [d]) := by
  refine vec_ext fun j hj => ?_
  rw [rd_vset _ _ _ _ h, pad_rd _ hj, pad_rd _ hj]
  by_cases e : j = l.length
  · subst e; simp
  · rw [if_neg e]
    rcases Nat.lt_or_ge j l.length with h1 | h1
    · simp [h1, List.getElem?_append]
    · have h2 : l.length < j := by omega
      have h3 : (l ++ [d]).length ≤ j := by simp; omega
      rw [List.getD_eq_getElem?_getD, List.getD_eq_getElem?_getD, List.getElem?_eq_none h1, List.getElem?_eq_none h3]

theorem getD_app (l k : List Int) (j : Nat) : (l ++ k).getD j 0 = if j < l.length then l.getD j 0 else k.getD (j - l.length) 0 := by
  simp only [List.getD_eq_getElem?_getD, List.getElem?_append]
  split <;> rfl

/-- Bytes. -/
def Bytes (l : List Int) : Prop := ∀ d ∈ l, 0 ≤ d ∧ d < 256
end Go.Abs
/- Polynomials: coefficient functions, and rows of coefficients up to the leading one. -/
namespace Go.Abs

/-! How far a row reaches. -/
def top (g : Nat → Int) : Nat → Nat
  | 0 => 0
  | n + 1 => if g n = 0 then top g n else n + 1
theorem top_le (g : Nat → Int) : ∀ n, top g n ≤ n
  | 0 => Nat.le_refl _
  | n + 1 => by simp only [top]; split; exact Nat.le_succ_of_le (top_le g n); exact Nat.le_refl _
theorem top_zero (g : Nat → Int) : ∀ n i, top g n ≤ i → i < n → g i = 0
  | 0, i, _, h => by omega
  | n + 1, i, h1, h2 => by
    simp only [top] at h1
    split at h1
    · rename_i e
      by_cases hi : i = n
      · subst hi; exact e
      · exact top_zero g n i h1 (by omega)
    · omega
theorem top_lead (g : Nat → Int) : ∀ n, top g n ≠ 0 → g (top g n - 1) ≠ 0
  | 0, h => by simp [top] at h
  | n + 1, h => by
    simp only [top] at h ⊢
    split
    · rename_i e; rw [if_pos e] at h; exact top_lead g n h
    · rename_i e; simpa using e
theorem top_congr {f g : Nat → Int} : ∀ n, (∀ i, i < n → f i = g i) → top f n = top g n
  | 0, _ => rfl
  | n + 1, h => by simp only [top]; rw [h n (by omega), top_congr n fun i hi => h i (by omega)]
/-- The leading place is told by what stands there and behind. -/
theorem top_is {g : Nat → Int} {n k : Nat} (hk : k ≤ n) (hz : ∀ i, k ≤ i → i < n → g i = 0) (hl : k ≠ 0 → g (k - 1) ≠ 0) : top g n = k := by
  rcases Nat.lt_trichotomy (top g n) k with h | h | h
  · have := top_zero g n (k - 1) (by omega) (by omega)
    exact absurd this (hl (by omega))
  · exact h
  · have h1 := top_lead g n (by omega)
    have h2 := top_le g n
    exact absurd (hz (top g n - 1) (by omega) (by omega)) h1
/-! Reading rows. -/
theorem rd_nil (i : Nat) : rd ([] : List Int) i = 0 := by simp [rd]
theorem rd_lt {l : List Int} {i : Nat} (h : i < l.length) : rd l i = l[i] := by simp [rd, h]
theorem rd_ge {l : List Int} {i : Nat} (h : l.length ≤ i) : rd l i = 0 := by simp [rd, h]
theorem rd_mem {l : List Int} {i : Nat} (h : i < l.length) : rd l i ∈ l := by rw [rd_lt h]; exact List.getElem_mem _
theorem rd_ext {a b : List Int} (hl : a.length = b.length) (h : ∀ i, i < a.length → rd a i = rd b i) : a = b := by
  apply List.ext_getElem hl
  intro i h1 h2
  have := h i h1
  rwa [rd_lt h1, rd_lt h2] at this
theorem rd_take (l : List Int) (k i : Nat) : rd (l.take k) i = if i < k then rd l i else 0 := by
  by_cases h : i < k
  · rw [if_pos h]
    by_cases hl : i < l.length
    · rw [rd_lt (by simp; omega), rd_lt hl]; simp
    · rw [rd_ge (by simp; omega), rd_ge (by omega)]
  · rw [if_neg h, rd_ge (by simp; omega)]
theorem rd_set (l : List Int) (k : Nat) (d : Int) (i : Nat) (hk : k < l.length) : rd (l.set k d) i = if i = k then d else rd l i := by
  by_cases h : i = k
  · subst h; simp [rd, hk]
  · rw [if_neg h]; simp [rd, Ne.symm h]
theorem rd_rep (n i : Nat) : rd (List.replicate n (0 : Int)) i = 0 := by
  by_cases h : i < n
  · rw [rd_lt (by simpa using h)]; simp
  · rw [rd_ge (by simp; omega)]
theorem rd_padl (l : List Int) {j : Nat} (h : j < 64) : rd (pad l).1 j = rd l j := by rw [pad_rd _ h]; rfl
theorem rd_map {f : Nat → Int} (n i : Nat) : rd ((List.range n).map f) i = if i < n then f i else 0 := by
  by_cases h : i < n
  · rw [if_pos h, rd_lt (by simpa using h)]; simp
  · rw [if_neg h, rd_ge (by simp; omega)]

/-! Rows of functions. -/
def ofF (n : Nat) (f : Nat → Int) : List Int := (List.range (top f n)).map f
theorem ofF_len (n : Nat) (f : Nat → Int) : (ofF n f).length = top f n := by simp [ofF]
theorem rd_ofF {n : Nat} {f : Nat → Int} (hz : ∀ i, n ≤ i → f i = 0) (i : Nat) : rd (ofF n f) i = f i := by
  rw [ofF, rd_map]
  split
  · rfl
  · by_cases h : i < n
    · exact (top_zero f n i (by omega) h).symm
    · exact (hz i (by omega)).symm
theorem rd_ofF' {n : Nat} {f : Nat → Int} (i : Nat) : rd (ofF n f) i = if i < n then f i else 0 := by
  rw [ofF, rd_map]
  have := top_le f n
  by_cases h : i < n
  · rw [if_pos h]
    split
    · rfl
    · exact (top_zero f n i (by omega) h).symm
  · rw [if_neg h, if_neg (by omega)]
theorem ofF_congr {n : Nat} {f g : Nat → Int} (h : ∀ i, i < n → f i = g i) : ofF n f = ofF n g := by
  have e := top_congr n h
  have := top_le g n
  refine rd_ext (by rw [ofF_len, ofF_len, e]) fun i hi => ?_
  rw [rd_ofF', rd_ofF']
  split
  · exact h i (by assumption)
  · rfl
/-- A list without the zeros at its end. -/
theorem trim_eq (l : List Int) : l.take (top (rd l) l.length) = ofF l.length (rd l) := by
  have := top_le (rd l) l.length
  refine rd_ext (by rw [ofF_len]; simp; omega) fun i hi => ?_
  rw [rd_take, rd_ofF']
  simp at hi
  rw [if_pos (by omega), if_pos (by omega)]

/-- The coefficients of a polynomial modulo p, up to the leading one. -/
structure Row (p : Int) (l : List Int) : Prop where
  res : ∀ d ∈ l, 0 ≤ d ∧ d < p
  nrm : l.length ≠ 0 → rd l (l.length - 1) ≠ 0
theorem Row.rd {p : Int} {l : List Int} (h : Row p l) (hp : 0 < p) (i : Nat) : 0 ≤ rd l i ∧ rd l i < p := by
  by_cases hi : i < l.length
  · exact h.res _ (rd_mem hi)
  · rw [rd_ge (by omega)]; exact ⟨Int.le_refl _, hp⟩
theorem Row.bytes {p : Int} {l : List Int} (h : Row p l) (hp : p ≤ 256) : Bytes l := fun d hd => by have := h.res d hd; omega
theorem row_nil (p : Int) : Row p [] := ⟨by simp, by simp⟩
theorem row_ext {p q : Int} {a b : List Int} (ha : Row p a) (hb : Row q b) (h : ∀ i, rd a i = rd b i) : a = b := by
  have hl : a.length = b.length := by
    rcases Nat.lt_trichotomy a.length b.length with h1 | h1 | h1
    · have := hb.nrm (by omega)
      rw [← h, rd_ge (by omega)] at this
      exact absurd rfl this
    · exact h1
    · have := ha.nrm (by omega)
      rw [h, rd_ge (by omega)] at this
      exact absurd rfl this
  exact rd_ext hl fun i _ => h i
theorem row_ofF {p : Int} {n : Nat} {f : Nat → Int} (h : ∀ i, i < n → 0 ≤ f i ∧ f i < p) : Row p (ofF n f) := by
  have hle := top_le f n
  refine ⟨fun d hd => ?_, fun hn => ?_⟩
  · simp only [ofF, List.mem_map, List.mem_range] at hd
    obtain ⟨i, hi, rfl⟩ := hd
    exact h i (by omega)
  · rw [ofF_len] at hn ⊢
    rw [rd_ofF', if_pos (by omega)]
    exact top_lead f n hn
theorem Row.top {p : Int} {l : List Int} (h : Row p l) {n : Nat} (hn : l.length ≤ n) : top (Abs.rd l) n = l.length :=
  top_is hn (fun i h1 _ => rd_ge h1) h.nrm
theorem Row.ofF {p : Int} {l : List Int} (h : Row p l) {n : Nat} (hn : l.length ≤ n) : ofF n (Abs.rd l) = l := by
  refine rd_ext (by rw [ofF_len, h.top hn]) fun i hi => ?_
  rw [rd_ofF fun i hi => rd_ge (by omega)]
/-! Arrays and rows. -/
def row (v : V64) : List Int := ofF 64 (rd v.1)
/-- Coefficients from 0 to p - 1. -/
def Res (p : Int) (v : V64) : Prop := ∀ j, j < 64 → 0 ≤ rd v.1 j ∧ rd v.1 j < p
theorem row_row {p : Int} {v : V64} (h : Res p v) : Row p (row v) := row_ofF h
theorem row_len (v : V64) : (row v).length ≤ 64 := by rw [row, ofF_len]; exact top_le _ _
theorem pad_row (v : V64) : pad (row v) = v := vec_ext fun j hj => by rw [rd_padl _ hj, row, rd_ofF', if_pos hj]
theorem row_pad {p : Int} {l : List Int} (h : Row p l) (hl : l.length ≤ 64) : row (pad l) = l := by
  rw [row, ofF_congr (g := rd l) fun i hi => rd_padl l hi, h.ofF hl]
theorem res_pad {p : Int} {l : List Int} (h : Row p l) (hp : 0 < p) : Res p (pad l) := fun j hj => by rw [rd_padl _ hj]; exact h.rd hp j
/-! Sums and products of coefficient functions. -/
def sumTo : Nat → (Nat → Int) → Int
  | 0, _ => 0
  | n + 1, f => sumTo n f + f n
theorem sumTo_congr {f g : Nat → Int} : ∀ n, (∀ i, i < n → f i = g i) → sumTo n f = sumTo n g
  | 0, _ => rfl
  | n + 1, h => by simp only [sumTo]; rw [sumTo_congr n fun i hi => h i (by omega), h n (by omega)]
theorem sumTo_zero {f : Nat → Int} : ∀ n, (∀ i, i < n → f i = 0) → sumTo n f = 0
  | 0, _ => rfl
  | n + 1, h => by simp only [sumTo]; rw [sumTo_zero n fun i hi => h i (by omega), h n (by omega)]; rfl
theorem sumTo_more {f : Nat → Int} {n : Nat} : ∀ m, (∀ i, n ≤ i → i < n + m → f i = 0) → sumTo (n + m) f = sumTo n f
  | 0, _ => rfl
  | m + 1, h => by
    rw [← Nat.add_assoc]
    simp only [sumTo]
    rw [sumTo_more m fun i h1 h2 => h i h1 (by omega), h (n + m) (by omega) (by omega), Int.add_zero]
/-- The summand that the first n coefficients give to a product. -/
def cv (a b : Nat → Int) (n k : Nat) : Int := sumTo n fun i => if i ≤ k then a i * b (k - i) else 0
theorem cv_succ (a b : Nat → Int) (n k : Nat) : cv a b (n + 1) k = cv a b n k + (if n ≤ k then a n * b (k - n) else 0) := rfl
def conv (a b : Nat → Int) (k : Nat) : Int := cv a b (k + 1) k
theorem cv_conv {a b : Nat → Int} {n : Nat} (hz : ∀ i, n ≤ i → a i = 0) (k : Nat) : cv a b n k = conv a b k := by
  unfold conv cv
  rcases Nat.le_total n (k + 1) with h | h
  · obtain ⟨m, e⟩ : ∃ m, k + 1 = n + m := ⟨k + 1 - n, by omega⟩
    rw [e]
    refine (sumTo_more m fun i h1 h2 => ?_).symm
    rw [hz i h1]; simp
  · obtain ⟨m, rfl⟩ : ∃ m, n = k + 1 + m := ⟨n - (k + 1), by omega⟩
    exact sumTo_more m fun i h1 h2 => if_neg (by omega)
theorem conv_zero {a b : Nat → Int} {n m : Nat} (ha : ∀ i, n ≤ i → a i = 0) (hb : ∀ i, m ≤ i → b i = 0) {k : Nat} (hk : n + m ≤ k + 1) : conv a b k = 0 := by
  refine sumTo_zero _ fun i hi => ?_
  rw [if_pos (by omega)]
  by_cases h : i < n
  · rw [hb (k - i) (by omega), Int.mul_zero]
  · rw [ha i (by omega), Int.zero_mul]
/-- The leading coefficient of a product. -/
theorem conv_lead {a b : Nat → Int} {n m : Nat} (ha : ∀ i, n < i → a i = 0) (hb : ∀ i, m < i → b i = 0) : conv a b (n + m) = a n * b m := by
  have h1 : conv a b (n + m) = cv a b (n + 1) (n + m) := (cv_conv (fun i hi => ha i (by omega)) _).symm
  rw [h1]
  unfold cv
  simp only [sumTo]
  rw [sumTo_zero n fun i hi => ?_, if_pos (by omega), show n + m - n = m by omega, Int.zero_add]
  rw [if_pos (by omega), hb _ (by omega), Int.mul_zero]

/-! Operations on rows. -/
def comb (p : Int) (a b : List Int) (k : Int) : List Int := ofF (max a.length b.length) fun i => (rd a i + k * rd b i) % p
def mul (p : Int) (a b : List Int) : List Int := ofF (a.length + b.length - 1) fun i => conv (rd a) (rd b) i % p

theorem emod_res {p : Int} (hp : 0 < p) (x : Int) : 0 ≤ x % p ∧ x % p < p := ⟨Int.emod_nonneg _ (by omega), Int.emod_lt_of_pos _ hp⟩
theorem comb_row {p : Int} (hp : 0 < p) (a b : List Int) (k : Int) : Row p (comb p a b k) := row_ofF fun _ _ => emod_res hp _
theorem mul_row {p : Int} (hp : 0 < p) (a b : List Int) : Row p (mul p a b) := row_ofF fun _ _ => emod_res hp _
theorem comb_rd (p : Int) (a b : List Int) (k : Int) (i : Nat) : rd (comb p a b k) i = (rd a i + k * rd b i) % p := by
  refine rd_ofF (fun i hi => ?_) i
  rw [rd_ge (by omega), rd_ge (by omega)]; simp
theorem mul_rd (p : Int) (a b : List Int) (i : Nat) : rd (mul p a b) i = conv (rd a) (rd b) i % p := by
  refine rd_ofF (fun i hi => ?_) i
  rw [conv_zero (n := a.length) (m := b.length) (fun i hi => rd_ge hi) (fun i hi => rd_ge hi) (by omega)]; simp
theorem comb_len (p : Int) (a b : List Int) (k : Int) : (comb p a b k).length ≤ max a.length b.length := by rw [comb, ofF_len]; exact top_le _ _
theorem mul_len (p : Int) (a b : List Int) : (mul p a b).length ≤ a.length + b.length - 1 := by rw [mul, ofF_len]; exact top_le _ _
theorem mul_nil (p : Int) (b : List Int) : mul p [] b = [] := by
  have h : ∀ i, conv (rd []) (rd b) i = 0 := fun i => sumTo_zero _ fun j _ => by rw [rd_nil]; simp
  have : (mul p [] b).length = 0 := by
    rw [mul, ofF_len]
    exact top_is (Nat.zero_le _) (fun i _ _ => by rw [h]; simp) (by simp)
  exact List.eq_nil_of_length_eq_zero this
theorem mul_nil' (p : Int) (a : List Int) : mul p a [] = [] := by
  have h : ∀ i, conv (rd a) (rd []) i = 0 := fun i => sumTo_zero _ fun j _ => by rw [rd_nil]; simp
  have : (mul p a []).length = 0 := by
    rw [mul, ofF_len]
    exact top_is (Nat.zero_le _) (fun i _ _ => by rw [h]; simp) (by simp)
  exact List.eq_nil_of_length_eq_zero this

/-! Small primes. -/
def isP (p : Int) : Bool := p == 2 || p == 3 || p == 5 || p == 7
theorem isP_iff {p : Int} : isP p = true ↔ p = 2 ∨ p = 3 ∨ p = 5 ∨ p = 7 := by
  simp [isP, or_assoc]
theorem isP_pos {p : Int} (h : isP p = true) : 2 ≤ p ∧ p ≤ 7 := by
  rcases isP_iff.1 h with rfl | rfl | rfl | rfl <;> omega
theorem noz2 : ∀ x y : Fin 2, x ≠ 0 → y ≠ 0 → (x.1 * y.1) % 2 ≠ 0 := by decide
theorem noz3 : ∀ x y : Fin 3, x ≠ 0 → y ≠ 0 → (x.1 * y.1) % 3 ≠ 0 := by decide
theorem noz5 : ∀ x y : Fin 5, x ≠ 0 → y ≠ 0 → (x.1 * y.1) % 5 ≠ 0 := by decide
theorem noz7 : ∀ x y : Fin 7, x ≠ 0 → y ≠ 0 → (x.1 * y.1) % 7 ≠ 0 := by decide
theorem noz_of {n : Nat} (hn : 0 < n) (h : ∀ x y : Fin n, x.1 ≠ 0 → y.1 ≠ 0 → (x.1 * y.1) % n ≠ 0) {x y : Int} (hx : 0 < x ∧ x < n) (hy : 0 < y ∧ y < n) : x * y % n ≠ 0 := by
  obtain ⟨a, rfl⟩ : ∃ a : Nat, x = a := ⟨x.toNat, by omega⟩
  obtain ⟨b, rfl⟩ : ∃ b : Nat, y = b := ⟨y.toNat, by omega⟩
  have := h ⟨a, by omega⟩ ⟨b, by omega⟩ (by simp; omega) (by simp; omega)
  simp only at this
  rw [← Int.natCast_mul, ← Int.natCast_emod]
  omega
theorem noz {p : Int} (hp : isP p = true) {x y : Int} (hx : 0 ≤ x ∧ x < p) (hy : 0 ≤ y ∧ y < p) (h1 : x ≠ 0) (h2 : y ≠ 0) : x * y % p ≠ 0 := by
  rcases isP_iff.1 hp with rfl | rfl | rfl | rfl
  · exact noz_of (n := 2) (by omega) (fun x y a b => noz2 x y (fun e => a (by rw [e]; rfl)) (fun e => b (by rw [e]; rfl))) ⟨by omega, hx.2⟩ ⟨by omega, hy.2⟩
  · exact noz_of (n := 3) (by omega) (fun x y a b => noz3 x y (fun e => a (by rw [e]; rfl)) (fun e => b (by rw [e]; rfl))) ⟨by omega, hx.2⟩ ⟨by omega, hy.2⟩
  · exact noz_of (n := 5) (by omega) (fun x y a b => noz5 x y (fun e => a (by rw [e]; rfl)) (fun e => b (by rw [e]; rfl))) ⟨by omega, hx.2⟩ ⟨by omega, hy.2⟩
  · exact noz_of (n := 7) (by omega) (fun x y a b => noz7 x y (fun e => a (by rw [e]; rfl)) (fun e => b (by rw [e]; rfl))) ⟨by omega, hx.2⟩ ⟨by omega, hy.2⟩
theorem mul_len_is {p : Int} (hp : isP p = true) {a b : List Int} (ha : Row p a) (hb : Row p b) (h1 : a.length ≠ 0) (h2 : b.length ≠ 0) : (mul p a b).length = a.length + b.length - 1 := by
  have hp2 := isP_pos hp
  rw [mul, ofF_len]
  refine top_is (Nat.le_refl _) (fun i h3 h4 => by omega) fun _ => ?_
  have e : a.length + b.length - 1 - 1 = (a.length - 1) + (b.length - 1) := by omega
  rw [e, conv_lead (fun i hi => rd_ge (by omega)) (fun i hi => rd_ge (by omega))]
  exact noz hp (ha.rd (by omega) _) (hb.rd (by omega) _) (ha.nrm h1) (hb.nrm h2)
end Go.Abs
/- Polynomials modulo p are a ring: products go along with sums, in any order. -/
namespace Go.Abs

theorem sumTo_add (f g : Nat → Int) : ∀ n, sumTo n (fun i => f i + g i) = sumTo n f + sumTo n g
  | 0 => rfl
  | n + 1 => by simp only [sumTo, sumTo_add f g n]; omega
theorem sumTo_mul (c : Int) (f : Nat → Int) : ∀ n, sumTo n (fun i => c * f i) = c * sumTo n f
  | 0 => by simp [sumTo]
  | n + 1 => by simp only [sumTo, sumTo_mul c f n, Int.mul_add]
theorem sumTo_mul' (c : Int) (f : Nat → Int) (n : Nat) : sumTo n (fun i => f i * c) = sumTo n f * c := by
  rw [Int.mul_comm, ← sumTo_mul]
  exact sumTo_congr n fun i _ => Int.mul_comm _ _
theorem sumTo_swap (f : Nat → Nat → Int) (m : Nat) : ∀ n, sumTo n (fun i => sumTo m (fun j => f i j)) = sumTo m (fun j => sumTo n (fun i => f i j))
  | 0 => (sumTo_zero m fun _ _ => rfl).symm
  | n + 1 => by simp only [sumTo]; rw [sumTo_swap f m n, ← sumTo_add]
/-- The first summand apart. -/
theorem sumTo_first (f : Nat → Int) : ∀ n, sumTo (n + 1) f = f 0 + sumTo n fun i => f (i + 1)
  | 0 => by simp [sumTo]
  | n + 1 => by
    have := sumTo_first f n
    simp only [sumTo] at this ⊢
    omega
theorem sumTo_rev (f : Nat → Int) : ∀ n, sumTo (n + 1) f = sumTo (n + 1) fun i => f (n - i)
  | 0 => rfl
  | n + 1 => by
    rw [sumTo_first (fun i => f (n + 1 - i)) (n + 1)]
    have h := sumTo_rev f n
    have e : sumTo (n + 1) (fun i => f (n + 1 - (i + 1))) = sumTo (n + 1) fun i => f (n - i) := sumTo_congr _ fun i _ => by rw [show n + 1 - (i + 1) = n - i by omega]
    rw [e, ← h]
    simp only [sumTo, Nat.sub_zero]
    omega
/-- Summands from j on. -/
theorem sumTo_from (g : Nat → Int) (j : Nat) : ∀ n, sumTo (j + n) (fun i => if j ≤ i then g (i - j) else 0) = sumTo n g
  | 0 => by rw [Nat.add_zero]; exact sumTo_zero j fun i hi => if_neg (by omega)
  | n + 1 => by
    rw [← Nat.add_assoc]
    simp only [sumTo]
    rw [sumTo_from g j n, if_pos (by omega), show j + n - j = n by omega]

theorem cv_more (a b : Nat → Int) {n k : Nat} (h : k + 1 ≤ n) : cv a b n k = conv a b k := by
  obtain ⟨m, rfl⟩ : ∃ m, n = k + 1 + m := ⟨n - (k + 1), by omega⟩
  exact sumTo_more m fun i h1 _ => if_neg (by omega)
theorem conv_comm (a b : Nat → Int) (k : Nat) : conv a b k = conv b a k := by
  unfold conv cv
  rw [sumTo_rev]
  refine sumTo_congr _ fun i hi => ?_
  rw [if_pos (by omega), if_pos (by omega), show k - (k - i) = i by omega, Int.mul_comm]
theorem conv_assoc (a b c : Nat → Int) (k : Nat) : conv (conv a b) c k = conv a (conv b c) k := by
  have h1 : conv (conv a b) c k = sumTo (k + 1) fun i => sumTo (k + 1) fun j => (if j ≤ i then a j * b (i - j) else 0) * c (k - i) := by
    unfold conv
    refine sumTo_congr _ fun i hi => ?_
    rw [if_pos (by omega), sumTo_mul']
    congr 1
    exact (cv_more a b (n := k + 1) (by omega)).symm
  have h2 : conv a (conv b c) k = sumTo (k + 1) fun j => a j * sumTo (k + 1 - j) fun l => b l * c (k - j - l) := by
    unfold conv
    refine sumTo_congr _ fun j hj => ?_
    rw [if_pos (by omega)]
    congr 1
    show sumTo (k - j + 1) (fun i => if i ≤ k - j then b i * c (k - j - i) else 0) = _
    rw [show k - j + 1 = k + 1 - j by omega]
    exact sumTo_congr _ fun l hl => if_pos (by omega)
  rw [h1, h2, sumTo_swap]
  refine sumTo_congr _ fun j hj => ?_
  rw [← sumTo_mul, ← sumTo_from (fun l => a j * (b l * c (k - j - l))) j (k + 1 - j), show j + (k + 1 - j) = k + 1 by omega]
  refine sumTo_congr _ fun i hi => ?_
  by_cases h : j ≤ i
  · rw [if_pos h, if_pos h, show k - j - (i - j) = k - i by omega, Int.mul_assoc]
  · rw [if_neg h, if_neg h, Int.zero_mul]
theorem conv_addl (a b c : Nat → Int) (s : Int) (k : Nat) : conv (fun i => a i + s * b i) c k = conv a c k + s * conv b c k := by
  unfold conv cv
  rw [← sumTo_mul, ← sumTo_add]
  refine sumTo_congr _ fun i _ => ?_
  split
  · rw [Int.add_mul, Int.mul_assoc]
  · simp

/-! Modulo p. -/
theorem sumTo_mod {p : Int} {f g : Nat → Int} : ∀ n, (∀ i, i < n → f i % p = g i % p) → sumTo n f % p = sumTo n g % p
  | 0, _ => rfl
  | n + 1, h => by
    simp only [sumTo]
    rw [Int.add_emod, sumTo_mod n fun i hi => h i (by omega), h n (by omega), ← Int.add_emod]
theorem conv_mod {p : Int} {a a' b b' : Nat → Int} (ha : ∀ i, a i % p = a' i % p) (hb : ∀ i, b i % p = b' i % p) (k : Nat) : conv a b k % p = conv a' b' k % p := by
  refine sumTo_mod _ fun i _ => ?_
  split
  · rw [Int.mul_emod, ha, hb, ← Int.mul_emod]
  · rfl
theorem Row.mod {p : Int} {l : List Int} (h : Row p l) (hp : 0 < p) (i : Nat) : Abs.rd l i % p = Abs.rd l i := Int.emod_eq_of_lt (h.rd hp i).1 (h.rd hp i).2

theorem mul_comm' (p : Int) (a b : List Int) : mul p a b = mul p b a := by
  unfold mul
  rw [Nat.add_comm]
  exact ofF_congr fun i _ => by rw [conv_comm]
theorem mul_assoc' {p : Int} (hp : 0 < p) (a b c : List Int) : mul p (mul p a b) c = mul p a (mul p b c) := by
  refine row_ext (mul_row hp _ _) (mul_row hp _ _) fun i => ?_
  rw [mul_rd, mul_rd]
  rw [conv_mod (a' := conv (rd a) (rd b)) (b' := rd c) (fun j => by rw [mul_rd, Int.emod_emod]) (fun _ => rfl), conv_assoc]
  exact conv_mod (fun _ => rfl) (fun j => by rw [mul_rd, Int.emod_emod]) i
theorem conv_one (a : Nat → Int) (i : Nat) : conv a (rd [1]) i = a i := by
  rw [conv_comm]
  unfold conv cv
  rw [sumTo_first, if_pos (by omega), sumTo_zero i fun j hj => ?_]
  · simp [rd]
  · rw [show rd ([1] : List Int) (j + 1) = 0 from rd_ge (by simp)]; simp
theorem mul_one' {p : Int} (hp : 0 < p) {a : List Int} (ha : Row p a) : mul p a [1] = a :=
  row_ext (mul_row hp _ _) ha fun i => by rw [mul_rd, conv_one, ha.mod hp]
theorem comb_mul {p : Int} (hp : 0 < p) (a b c : List Int) (k : Int) : mul p (comb p a b k) c = comb p (mul p a c) (mul p b c) k := by
  refine row_ext (mul_row hp _ _) (comb_row hp _ _ _) fun i => ?_
  rw [mul_rd, comb_rd, mul_rd, mul_rd, conv_mod (a' := fun i => rd a i + k * rd b i) (b' := rd c) (fun j => by rw [comb_rd, Int.emod_emod]) (fun _ => rfl), conv_addl]
  rw [Int.add_emod (conv (rd a) (rd c) i % p), Int.emod_emod, Int.mul_emod k (conv (rd b) (rd c) i % p), Int.emod_emod, ← Int.mul_emod, ← Int.add_emod]
theorem mul_comb {p : Int} (hp : 0 < p) (a b c : List Int) (k : Int) : mul p c (comb p a b k) = comb p (mul p c a) (mul p c b) k := by
  rw [mul_comm', comb_mul hp, mul_comm' p a, mul_comm' p b]
/-! Products of lists, as long as their degrees are not too great. -/
def degs : List (List Int) → Nat
  | [] => 0
  | b :: M => (b.length - 1) + degs M
def prodF (p : Int) (o : List Int) (M : List (List Int)) : List Int := M.foldl (mul p) o
end Go.Abs
/- Numbers modulo p. -/
namespace Go.Proofs.Ytebfhlnfmkhmcaa
open Go.Abs

theorem tmod_fix {n p : Int} (hp : 0 < p) : Int.tmod (Int.tmod n p + p) p = n % p := by
  have h1 := Int.lt_tmod_of_pos n hp
  rw [Int.tmod_eq_emod_of_nonneg (by omega), Int.tmod_def, Int.add_emod_right, Int.sub_mul_emod_self_left]

/-- Numbers that are small. -/
def Ent (l : List Int) : Prop := ∀ i, 0 ≤ rd l i ∧ rd l i < 256

theorem _root_.Go.Abs.Row.ent {p : Int} {l : List Int} (h : Row p l) (hp : 0 < p ∧ p ≤ 256) : Ent l := fun i => by have := h.rd hp.1 i; omega

def V64.Ent (v : V64) : Prop := ∀ i, i < 64 → 0 ≤ rd v.1 i ∧ rd v.1 i < 256

theorem mulk {x k : Int} (hx : 0 ≤ x ∧ x < 256) (hk : -1099511627776 ≤ k ∧ k ≤ 1099511627776) : -281474976710656 ≤ k * x ∧ k * x ≤ 281474976710656 := by
  have h1 : (-1099511627776) * x ≤ k * x := Int.mul_le_mul_of_nonneg_right hk.1 hx.1
  have h2 : k * x ≤ 1099511627776 * x := Int.mul_le_mul_of_nonneg_right hk.2 hx.1
  omega

theorem _root_.Go.Abs.Res.ent {p : Int} {v : V64} (h : Res p v) (hp : p ≤ 256) : V64.Ent v := fun i hi => by have := h i hi; omega

theorem ent_pad {p : Int} {l : List Int} (h : Row p l) (hp : 0 < p ∧ p ≤ 256) : V64.Ent (pad l) := Res.ent (res_pad h hp.1) hp.2

theorem mul_small {x y : Int} (hx : 0 ≤ x ∧ x < 256) (hy : 0 ≤ y ∧ y < 256) : 0 ≤ x * y ∧ x * y ≤ 65025 :=
  ⟨Int.mul_nonneg hx.1 hy.1, Int.mul_le_mul (c := 255) (d := 255) (by omega) (by omega) hy.1 (by omega)⟩
end Go.Proofs.Ytebfhlnfmkhmcaa
/- Inverses modulo p. -/
namespace Go.Proofs.Ytebfhlnfmkhmcaa
open Go.Abs

/-- The inverse of x modulo p. -/
def inv (p x : Int) : Int := if p = 2 then 1 else if p = 3 then x else if p = 5 then (if x = 1 then 1 else if x = 2 then 3 else if x = 3 then 2 else 4) else (if x = 1 then 1 else if x = 2 then 4 else if x = 3 then 5 else if x = 4 then 2 else if x = 5 then 3 else 6)
theorem inv_cases {p x : Int} (hp : isP p = true) (hx : 0 < x ∧ x < p) : (p = 2 ∧ x = 1) ∨ (p = 3 ∧ x = 1) ∨ (p = 3 ∧ x = 2) ∨ (p = 5 ∧ x = 1) ∨ (p = 5 ∧ x = 2) ∨ (p = 5 ∧ x = 3) ∨ (p = 5 ∧ x = 4) ∨
    (p = 7 ∧ x = 1) ∨ (p = 7 ∧ x = 2) ∨ (p = 7 ∧ x = 3) ∨ (p = 7 ∧ x = 4) ∨ (p = 7 ∧ x = 5) ∨ (p = 7 ∧ x = 6) := by
  rcases isP_iff.1 hp with rfl | rfl | rfl | rfl <;> omega
theorem inv_is {p x : Int} (hp : isP p = true) (hx : 0 < x ∧ x < p) : 0 < inv p x ∧ inv p x < p ∧ x * inv p x % p = 1 := by
  rcases inv_cases hp hx with ⟨rfl, rfl⟩ | ⟨rfl, rfl⟩ | ⟨rfl, rfl⟩ | ⟨rfl, rfl⟩ | ⟨rfl, rfl⟩ | ⟨rfl, rfl⟩ | ⟨rfl, rfl⟩ | ⟨rfl, rfl⟩ | ⟨rfl, rfl⟩ | ⟨rfl, rfl⟩ | ⟨rfl, rfl⟩ | ⟨rfl, rfl⟩ | ⟨rfl, rfl⟩ <;> decide
theorem inv_first {p x : Int} (hp : isP p = true) (hx : 0 < x ∧ x < p) {j : Int} (h1 : 1 ≤ j) (h2 : j < inv p x) : j * x % p ≠ 1 := by
  rcases inv_cases hp hx with ⟨rfl, rfl⟩ | ⟨rfl, rfl⟩ | ⟨rfl, rfl⟩ | ⟨rfl, rfl⟩ | ⟨rfl, rfl⟩ | ⟨rfl, rfl⟩ | ⟨rfl, rfl⟩ | ⟨rfl, rfl⟩ | ⟨rfl, rfl⟩ | ⟨rfl, rfl⟩ | ⟨rfl, rfl⟩ | ⟨rfl, rfl⟩ | ⟨rfl, rfl⟩ <;> simp [inv] at h2 <;> omega
theorem inv_pow {p x : Int} (hp : isP p = true) (hx : 0 < x ∧ x < p) : x ^ (p - 2).toNat % p = inv p x := by
  rcases inv_cases hp hx with ⟨rfl, rfl⟩ | ⟨rfl, rfl⟩ | ⟨rfl, rfl⟩ | ⟨rfl, rfl⟩ | ⟨rfl, rfl⟩ | ⟨rfl, rfl⟩ | ⟨rfl, rfl⟩ | ⟨rfl, rfl⟩ | ⟨rfl, rfl⟩ | ⟨rfl, rfl⟩ | ⟨rfl, rfl⟩ | ⟨rfl, rfl⟩ | ⟨rfl, rfl⟩ <;> decide
end Go.Proofs.Ytebfhlnfmkhmcaa
/- Division of polynomials, from the leading coefficient on. -/
namespace Go.Proofs.Ytebfhlnfmkhmcaa
open Go.Abs

def dstep (p : Int) (b : Nat → Int) (m : Nat) (f : Int) (i : Nat) (r : Nat → Int) (j : Nat) : Int := if i ≤ j ∧ j ≤ i + m then (r j - f * b (j - i)) % p else r j
def dfac (p iv : Int) (m i : Nat) (r : Nat → Int) : Int := r (i + m) * iv % p
def drem (p : Int) (b : Nat → Int) (m : Nat) (iv : Int) : Nat → (Nat → Int) → Nat → Int
  | 0, r => r
  | i + 1, r => drem p b m iv i (dstep p b m (dfac p iv m i r) i r)
def dquo (p : Int) (b : Nat → Int) (m : Nat) (iv : Int) : Nat → (Nat → Int) → Nat → Int
  | 0, _, _ => 0
  | i + 1, r, j => if j = i then dfac p iv m i r else dquo p b m iv i (dstep p b m (dfac p iv m i r) i r) j
def lead (b : List Int) : Int := rd b (b.length - 1)
def quo (p : Int) (a b : List Int) : List Int := ofF (a.length + 1 - b.length) (dquo p (rd b) (b.length - 1) (inv p (lead b)) (a.length + 1 - b.length) (rd a))
def rem (p : Int) (a b : List Int) : List Int := ofF a.length (drem p (rd b) (b.length - 1) (inv p (lead b)) (a.length + 1 - b.length) (rd a))

section
variable {p : Int} {b : Nat → Int} {m : Nat} {iv : Int}
theorem dstep_res (hp : 0 < p) {r : Nat → Int} (hr : ∀ j, 0 ≤ r j ∧ r j < p) (f : Int) (i j : Nat) : 0 ≤ dstep p b m f i r j ∧ dstep p b m f i r j < p := by
  unfold dstep
  split
  · exact emod_res hp _
  · exact hr j
theorem drem_res (hp : 0 < p) : ∀ (i : Nat) (r : Nat → Int), (∀ j, 0 ≤ r j ∧ r j < p) → ∀ j, 0 ≤ drem p b m iv i r j ∧ drem p b m iv i r j < p
  | 0, r, hr, j => hr j
  | i + 1, r, hr, j => drem_res hp i _ (fun j => dstep_res hp hr _ i j) j
theorem dquo_res (hp : 0 < p) : ∀ (i : Nat) (r : Nat → Int) (j : Nat), 0 ≤ dquo p b m iv i r j ∧ dquo p b m iv i r j < p
  | 0, r, j => by simp only [dquo]; omega
  | i + 1, r, j => by
    simp only [dquo]
    split
    · exact emod_res hp _
    · exact dquo_res hp i _ j
theorem dquo_ge : ∀ (i : Nat) (r : Nat → Int) (j : Nat), i ≤ j → dquo p b m iv i r j = 0
  | 0, _, _, _ => rfl
  | i + 1, r, j, h => by
    simp only [dquo]
    rw [if_neg (by omega)]
    exact dquo_ge i _ j (by omega)
theorem cv_congr {f g c : Nat → Int} (k : Nat) : ∀ n, (∀ i, i < n → f i = g i) → cv f c n k = cv g c n k := fun n h => sumTo_congr n fun i hi => by rw [h i hi]
/-- The rest vanishes from the place m on. -/
theorem drem_zero (hp : 0 < p) (hb : b m * iv % p = 1 % p) : ∀ (i : Nat) (r : Nat → Int), (∀ j, 0 ≤ r j ∧ r j < p) → (∀ j, i + m ≤ j → r j = 0) → ∀ j, m ≤ j → drem p b m iv i r j = 0
  | 0, r, _, hz, j, hj => hz j (by omega)
  | i + 1, r, hr, hz, j, hj => by
    refine drem_zero hp hb i _ (fun j => dstep_res hp hr _ i j) (fun j hj => ?_) j hj
    unfold dstep
    by_cases e : j = i + m
    · subst e
      rw [if_pos (by omega), show i + m - i = m by omega]
      have h1 : (r (i + m) - dfac p iv m i r * b m) % p = 0 := by
        unfold dfac
        have h2 : (r (i + m) * iv % p) * b m % p = r (i + m) % p := by
          rw [Int.mul_emod, Int.emod_emod, ← Int.mul_emod, Int.mul_assoc, Int.mul_emod, Int.mul_comm iv, hb, ← Int.mul_emod, Int.mul_one]
        rw [Int.sub_emod, h2, Int.sub_self]; rfl
      exact h1
    · rw [if_neg (by omega)]
      exact hz j (by omega)
/-- Quotient and rest give what was divided. -/
theorem div_eq (hp : 0 < p) (hbz : ∀ j, m < j → b j = 0) : ∀ (i : Nat) (r : Nat → Int) (j : Nat), (cv (dquo p b m iv i r) b i j + drem p b m iv i r j) % p = r j % p
  | 0, r, j => by simp [cv, sumTo, drem]
  | i + 1, r, j => by
    have ih := div_eq hp hbz i (dstep p b m (dfac p iv m i r) i r) j
    simp only [drem]
    rw [cv_succ, cv_congr (g := dquo p b m iv i (dstep p b m (dfac p iv m i r) i r)) j i fun k hk => by simp only [dquo]; rw [if_neg (by omega)]]
    have e : dquo p b m iv (i + 1) r i = dfac p iv m i r := by simp only [dquo, if_true]
    rw [e]
    generalize dfac p iv m i r = f at *
    generalize cv (dquo p b m iv i (dstep p b m f i r)) b i j = c at *
    generalize drem p b m iv i (dstep p b m f i r) j = d at *
    by_cases h : i ≤ j
    · rw [if_pos h]
      by_cases h2 : j ≤ i + m
      · simp only [dstep] at ih
        rw [if_pos ⟨h, h2⟩, Int.emod_emod] at ih
        have e1 : c + f * b (j - i) + d = (c + d) + f * b (j - i) := by omega
        rw [e1, Int.add_emod, ih, ← Int.add_emod]
        congr 1
        omega
      · simp only [dstep] at ih
        rw [if_neg (by omega)] at ih
        rw [hbz (j - i) (by omega), Int.mul_zero, Int.add_zero]
        exact ih
    · simp only [dstep] at ih
      rw [if_neg (by omega)] at ih
      rw [if_neg h, Int.add_zero]
      exact ih
end

theorem lead_pos {p : Int} (hp : 0 < p) {b : List Int} (hb : Row p b) (h0 : b.length ≠ 0) : 0 < lead b ∧ lead b < p := by
  have h1 := hb.rd hp (b.length - 1)
  have h2 := hb.nrm h0
  unfold lead
  omega
theorem quo_row {p : Int} (hp : 0 < p) (a b : List Int) : Row p (quo p a b) := row_ofF fun i _ => dquo_res hp _ _ i
theorem rem_row {p : Int} (hp : 0 < p) {a : List Int} (ha : Row p a) (b : List Int) : Row p (rem p a b) := row_ofF fun i _ => drem_res hp _ _ (fun j => ha.rd hp j) i
theorem quo_len (p : Int) (a b : List Int) : (quo p a b).length ≤ a.length + 1 - b.length := by rw [quo, ofF_len]; exact top_le _ _
theorem rem_len' (p : Int) (a b : List Int) : (rem p a b).length ≤ a.length := by rw [rem, ofF_len]; exact top_le _ _
theorem quo_rd (p : Int) (a b : List Int) (j : Nat) : rd (quo p a b) j = dquo p (rd b) (b.length - 1) (inv p (lead b)) (a.length + 1 - b.length) (rd a) j := rd_ofF (fun i hi => dquo_ge _ _ _ hi) j
theorem drem_big {p : Int} {b : Nat → Int} {m : Nat} {iv : Int} : ∀ (i : Nat) (r : Nat → Int) (n : Nat), i + m ≤ n → (∀ j, n ≤ j → r j = 0) → ∀ j, n ≤ j → drem p b m iv i r j = 0
  | 0, r, n, _, hz, j, hj => hz j hj
  | i + 1, r, n, hn, hz, j, hj => drem_big i _ n (by omega) (fun j hj => by unfold dstep; rw [if_neg (by omega)]; exact hz j hj) j hj
theorem rem_rd {p : Int} (a : List Int) {b : List Int} (h0 : b.length ≠ 0) (j : Nat) : rd (rem p a b) j = drem p (rd b) (b.length - 1) (inv p (lead b)) (a.length + 1 - b.length) (rd a) j := by
  refine rd_ofF (fun i hi => ?_) j
  rcases Nat.lt_or_ge a.length b.length with h | h
  · rw [show a.length + 1 - b.length = 0 by omega]; exact rd_ge hi
  · exact drem_big _ _ a.length (by omega) (fun j hj => rd_ge hj) i hi
theorem rem_len {p : Int} (hp : isP p = true) {a b : List Int} (ha : Row p a) (hb : Row p b) (h0 : b.length ≠ 0) : (rem p a b).length < b.length := by
  have hp2 := isP_pos hp
  have hi := inv_is hp (lead_pos (show 0 < p by omega) hb h0)
  have hz : ∀ j, b.length - 1 ≤ j → rd (rem p a b) j = 0 := fun j hj => by
    rw [rem_rd a h0]
    refine drem_zero (by omega) ?_ _ _ (fun j => ha.rd (by omega) j) (fun j hj => rd_ge (by omega)) j hj
    have : (1 : Int) % p = 1 := Int.emod_eq_of_lt (by omega) (by omega)
    rw [this]
    exact hi.2.2
  rcases Nat.lt_or_ge (rem p a b).length b.length with h | h
  · exact h
  · have h1 := (rem_row (show 0 < p by omega) ha b).nrm (by omega)
    exact absurd (hz _ (by omega)) h1
/-- What is divided is quotient times divisor, plus the rest. -/
theorem divide_eq {p : Int} (hp : isP p = true) {a b : List Int} (ha : Row p a) (h0 : b.length ≠ 0) (j : Nat) : rd a j = (conv (rd (quo p a b)) (rd b) j + rd (rem p a b) j) % p := by
  have hp2 := isP_pos hp
  have h := div_eq (p := p) (b := rd b) (m := b.length - 1) (iv := inv p (lead b)) (by omega) (fun j hj => rd_ge (by omega)) (a.length + 1 - b.length) (rd a) j
  have e : conv (rd (quo p a b)) (rd b) j = cv (dquo p (rd b) (b.length - 1) (inv p (lead b)) (a.length + 1 - b.length) (rd a)) (rd b) (a.length + 1 - b.length) j := by
    rw [← cv_conv (n := a.length + 1 - b.length) fun i hi => rd_ge (Nat.le_trans (quo_len p a b) hi)]
    exact cv_congr _ _ fun i _ => quo_rd p a b i
  have hr := ha.rd (show 0 < p by omega) j
  rw [e, rem_rd a h0, h, Int.emod_eq_of_lt hr.1 hr.2]
end Go.Proofs.Ytebfhlnfmkhmcaa
/- Numbers as digits. -/
namespace Go.Proofs.Ytebfhlnfmkhmcaa
open Go.Abs

def digs (p n : Nat) : List Int := if n = 0 ∨ p < 2 then [] else ((n % p : Nat) : Int) :: digs p (n / p)
termination_by n
decreasing_by exact Nat.div_lt_self (by omega) (by omega)

theorem digs_zero (p : Nat) : digs p 0 = [] := by rw [digs]; simp

theorem digs_pos {p n : Nat} (hp : 2 ≤ p) (hn : 0 < n) : digs p n = ((n % p : Nat) : Int) :: digs p (n / p) := by
  rw [digs, if_neg (by omega)]

theorem digs_lt {p : Nat} (hp : 2 ≤ p) : ∀ n : Nat, ∀ d ∈ digs p n, 0 ≤ d ∧ d < p := by
  intro n
  induction n using Nat.strongRecOn with
  | ind n ih =>
    intro d hd
    by_cases h : n = 0
    · subst h; rw [digs_zero] at hd; cases hd
    · rw [digs_pos hp (by omega)] at hd
      rcases List.mem_cons.1 hd with rfl | hd
      · have := Nat.mod_lt n (show p > 0 by omega)
        generalize n % p = x at this
        omega
      · exact ih _ (Nat.div_lt_self (by omega) hp) d hd

theorem digs_len {p : Nat} (hp : 2 ≤ p) : ∀ (k n : Nat), n < 2 ^ k → (digs p n).length ≤ k
  | 0, n, h => by
    have : n = 0 := by simpa using h
    subst this; rw [digs_zero]; simp
  | k + 1, n, h => by
    by_cases hn : n = 0
    · subst hn; rw [digs_zero]; simp
    · rw [digs_pos hp (by omega)]
      have : n / p < 2 ^ k := by
        have h1 : n / p ≤ n / 2 := Nat.div_le_div_left hp (by omega)
        have h2 : n / 2 < 2 ^ k := by rw [Nat.pow_succ] at h; omega
        omega
      have := digs_len hp k _ this
      simp only [List.length_cons]; omega

theorem digs_len40 {p n : Nat} (hp : 2 ≤ p) (hn : n ≤ 1000000000000) : (digs p n).length ≤ 40 := digs_len hp 40 n (by omega)

theorem rd_cons (x : Int) (l : List Int) (i : Nat) : rd (x :: l) (i + 1) = rd l i := by simp [rd]
theorem digs_row {p : Nat} (hp : 2 ≤ p) (n : Nat) : Row p (digs p n) := by
  refine ⟨fun d hd => ?_, ?_⟩
  · have := digs_lt hp n d hd; omega
  · induction n using Nat.strongRecOn with
    | ind n ih =>
      intro h
      have hn : 0 < n := by
        rcases Nat.eq_zero_or_pos n with rfl | h'
        · rw [digs_zero] at h; simp at h
        · exact h'
      rw [digs_pos hp hn]
      simp only [List.length_cons, Nat.add_sub_cancel]
      rcases Nat.eq_zero_or_pos (n / p) with h0 | h0
      · rw [h0, digs_zero]
        have : n < p := by
          rcases Nat.lt_or_ge n p with h | h
          · exact h
          · have := Nat.div_pos h (by omega); omega
        rw [Nat.mod_eq_of_lt this]
        simp [rd]; omega
      · have hlt : n / p < n := Nat.div_lt_self hn (by omega)
        have h1 : (digs p (n / p)).length ≠ 0 := by rw [digs_pos hp h0]; simp
        have h2 := ih _ hlt h1
        obtain ⟨m, hm⟩ : ∃ m, (digs p (n / p)).length = m + 1 := ⟨(digs p (n / p)).length - 1, by omega⟩
        rw [hm] at h2 ⊢
        rw [rd_cons]
        simpa using h2
end Go.Proofs.Ytebfhlnfmkhmcaa
/- The polynomials modulo p as a ring; irreducible ones. -/
namespace Go.Proofs.Ytebfhlnfmkhmcaa
open Go.Abs

structure Pri where
  n : Nat
  ok : isP (n : Int) = true
def Pri.p (P : Pri) : Int := P.n
theorem Pri.okp (P : Pri) : isP P.p = true := P.ok
theorem Pri.pos (P : Pri) : 0 < P.p := by have := isP_pos P.ok; unfold Pri.p; omega
theorem Pri.two (P : Pri) : 2 ≤ P.p ∧ P.p ≤ 7 := isP_pos P.ok
theorem Pri.is (P : Pri) : P.n = 2 ∨ P.n = 3 ∨ P.n = 5 ∨ P.n = 7 := by
  have := isP_iff.1 P.ok; omega
structure PP (P : Pri) where
  l : List Int
  row : Row P.p l
theorem pp_eq {P : Pri} : ∀ {a b : PP P}, a.1 = b.1 → a = b
  | ⟨_, _⟩, ⟨_, _⟩, h => by cases h; rfl
variable {P : Pri}
def PP.len (a : PP P) : Nat := a.1.length
def PP.c (a : PP P) (i : Nat) : Int := rd a.1 i
theorem PP.c_res (a : PP P) (i : Nat) : 0 ≤ a.c i ∧ a.c i < P.p := a.2.rd P.pos i
theorem PP.c_mod (a : PP P) (i : Nat) : a.c i % P.p = a.c i := a.2.mod P.pos i
theorem pp_ext {a b : PP P} (h : ∀ i, a.c i = b.c i) : a = b := pp_eq (row_ext a.2 b.2 h)
theorem row1 {p : Int} (hp : 2 ≤ p) : Row p [1] := ⟨by simp; omega, by simp [rd]⟩
theorem rowT {p : Int} (hp : 2 ≤ p) : Row p [0, 1] := ⟨by simp; omega, by simp [rd]⟩
instance : Add (PP P) := ⟨fun a b => ⟨comb P.p a.1 b.1 1, comb_row P.pos _ _ _⟩⟩
instance : Mul (PP P) := ⟨fun a b => ⟨mul P.p a.1 b.1, mul_row P.pos _ _⟩⟩
instance : Neg (PP P) := ⟨fun a => ⟨comb P.p [] a.1 (-1), comb_row P.pos _ _ _⟩⟩
instance : Zero (PP P) := ⟨⟨[], row_nil _⟩⟩
instance : One (PP P) := ⟨⟨[1], row1 P.two.1⟩⟩
def ppm (l : List Int) (h : Row P.p l) : PP P := ⟨l, h⟩
def ppT : PP P := ⟨[0, 1], rowT P.two.1⟩
theorem add_c (a b : PP P) (i : Nat) : (a + b).c i = (a.c i + b.c i) % P.p := by
  show rd (comb P.p a.1 b.1 1) i = _
  rw [comb_rd, Int.one_mul]; rfl
theorem neg_c (a : PP P) (i : Nat) : (-a).c i = (-a.c i) % P.p := by
  show rd (comb P.p [] a.1 (-1)) i = _
  rw [comb_rd, rd_nil, Int.zero_add, Int.neg_mul, Int.one_mul]; rfl
theorem mul_c (a b : PP P) (i : Nat) : (a * b).c i = conv a.c b.c i % P.p := mul_rd _ _ _ _
theorem zero_c (i : Nat) : (0 : PP P).c i = 0 := rd_nil i
theorem ppring : IsRing (PP P) where
  add_comm a b := pp_ext fun i => by rw [add_c, add_c, Int.add_comm]
  add_assoc a b c := pp_ext fun i => by simp only [add_c, Int.emod_add_emod, Int.add_emod_emod, Int.add_assoc]
  add_zero a := pp_ext fun i => by rw [add_c, zero_c, Int.add_zero, PP.c_mod]
  add_neg a := pp_ext fun i => by rw [add_c, neg_c, zero_c, Int.add_emod_emod, Int.add_right_neg]; rfl
  mul_comm a b := pp_eq (mul_comm' _ _ _)
  mul_assoc a b c := pp_eq (mul_assoc' P.pos _ _ _)
  mul_one a := pp_eq (mul_one' P.pos a.2)
  mul_add a b c := pp_eq (mul_comb P.pos _ _ _ _)

theorem len_zero {a : PP P} : a.len = 0 ↔ a = 0 := ⟨fun h => pp_eq (List.eq_nil_of_length_eq_zero h), fun h => by rw [h]; rfl⟩
theorem len_one : (1 : PP P).len = 1 := rfl
theorem one_ne : (1 : PP P) ≠ 0 := fun h => by have := len_zero.2 h; rw [len_one] at this; omega
theorem len_mul {a b : PP P} (ha : a ≠ 0) (hb : b ≠ 0) : (a * b).len = a.len + b.len - 1 :=
  mul_len_is P.ok a.2 b.2 (fun h => ha (len_zero.1 h)) (fun h => hb (len_zero.1 h))
theorem len_add (a b : PP P) : (a + b).len ≤ max a.len b.len := comb_len _ _ _ _
theorem len_neg (a : PP P) : (-a).len ≤ a.len := by
  have := comb_len P.p [] a.1 (-1)
  show (comb P.p [] a.1 (-1)).length ≤ a.1.length
  simpa using this
theorem len_pos {a : PP P} (h : a ≠ 0) : 1 ≤ a.len := by
  rcases Nat.eq_zero_or_pos a.len with h0 | h0
  · exact absurd (len_zero.1 h0) h
  · exact h0
theorem pp_dom : ∀ a b : PP P, a * b = 0 → a = 0 ∨ b = 0 := fun a b h => by
  by_cases ha : a = 0
  · exact .inl ha
  · by_cases hb : b = 0
    · exact .inr hb
    · have h1 := len_mul ha hb
      rw [h, len_zero.2 rfl] at h1
      have := len_pos ha
      have := len_pos hb
      omega
theorem nsm_c (n : Nat) (a : PP P) (i : Nat) : (nsm n a).c i = (n * a.c i) % P.p := by
  induction n with
  | zero => simp [nsm, zero_c]
  | succ n ih =>
    simp only [nsm, add_c, ih, Int.emod_add_emod]
    congr 1
    rw [Int.natCast_succ, Int.add_mul, Int.one_mul]
theorem pp_char (x : PP P) : nsm P.n x = 0 := pp_ext fun i => by
  rw [nsm_c, zero_c]
  exact Int.emod_eq_zero_of_dvd ⟨x.c i, rfl⟩

/-! Division. -/
def pquo (a b : PP P) : PP P := ⟨quo P.p a.1 b.1, quo_row P.pos _ _⟩
def prem (a b : PP P) : PP P := ⟨rem P.p a.1 b.1, rem_row P.pos a.2 _⟩
theorem pdiv (a : PP P) {b : PP P} (hb : b ≠ 0) : a = pquo a b * b + prem a b ∧ (prem a b).len < b.len := by
  have h0 : b.1.length ≠ 0 := fun h => hb (len_zero.1 h)
  refine ⟨pp_ext fun i => ?_, rem_len P.ok a.2 b.2 h0⟩
  rw [add_c, mul_c, Int.emod_add_emod]
  exact divide_eq P.ok a.2 h0 i
theorem dv_len {a b : PP P} (h : Dv a b) (hb : b ≠ 0) : a.len ≤ b.len := by
  obtain ⟨q, rfl⟩ := h
  have hq : q ≠ 0 := fun e => hb (by rw [e, ppring.zero_mul])
  have ha : a ≠ 0 := fun e => hb (by rw [e, ppring.mul_zero])
  have := len_mul hq ha
  have := len_pos hq
  omega
theorem dv_small {a b : PP P} (h : Dv a b) (hl : b.len < a.len) : b = 0 := by
  by_cases hb : b = 0
  · exact hb
  · have := dv_len h hb; omega
theorem prem_iff {a b : PP P} (hb : b ≠ 0) : prem a b = 0 ↔ Dv b a := by
  obtain ⟨h1, h2⟩ := pdiv a hb
  constructor
  · intro h
    rw [h, ppring.add_zero] at h1
    exact ⟨_, h1⟩
  · intro h
    rw [h1] at h
    exact dv_small (ppring.dv_sub h (ppring.dv_mul (ppring.dv_refl b) _)) h2
theorem quo_is {a b q r : PP P} (hb : b ≠ 0) (h : a = q * b + r) (hr : r.len < b.len) : pquo a b = q ∧ prem a b = r := by
  obtain ⟨h1, h2⟩ := pdiv a hb
  have R : IsRing (PP P) := ppring
  have e : (pquo a b + -q) * b = r + -prem a b := by
    have h3 : q * b + r = pquo a b * b + prem a b := by rw [← h, ← h1]
    rw [R.add_mul, R.mul_comm (-q), R.mul_neg, R.mul_comm b q]
    refine R.cancel (a := q * b) ?_
    rw [R.add_left_comm, R.add_neg, R.add_zero]
    refine R.cancel (a := prem a b) ?_
    rw [R.add_comm (prem a b), ← h3, R.add_left_comm (prem a b), R.add_left_comm (prem a b), R.add_neg, R.add_zero]
  have hz : r + -prem a b = 0 := by
    refine dv_small (a := b) ⟨_, e.symm⟩ ?_
    have := len_add r (-prem a b)
    have := len_neg (prem a b)
    omega
  have hr' := R.sub_zero hz
  refine ⟨?_, hr'.symm⟩
  rw [hz] at e
  rcases pp_dom _ _ e with h4 | h4
  · exact R.sub_zero h4
  · exact absurd h4 hb

/-! Units, the greatest common divisor. -/
theorem unit_of {a : PP P} (h : a.len = 1) : ∃ b, b * a = 1 := by
  have hc := a.c_res 0
  have hn : a.c 0 ≠ 0 := by
    have := a.2.nrm (by have : a.1.length = 1 := h; omega)
    have h1 : a.1.length = 1 := h
    rw [h1] at this
    exact this
  obtain ⟨i1, i2, i3⟩ := inv_is P.ok (x := a.c 0) ⟨by omega, hc.2⟩
  have hr : Row P.p [inv P.p (a.c 0)] := ⟨by simp only [List.mem_singleton, forall_eq]; exact ⟨by have : 0 < inv P.p (a.c 0) := i1; omega, i2⟩, fun _ => by simp [rd]; have : 0 < inv P.p (a.c 0) := i1; omega⟩
  refine ⟨ppm _ hr, ?_⟩
  refine pp_ext fun i => ?_
  have h1 : a.1.length = 1 := h
  rw [mul_c]
  have e1 : (1 : PP P).c i = if i = 0 then 1 else 0 := by
    show rd [1] i = _
    by_cases hi : i = 0
    · subst hi; simp [rd]
    · rw [if_neg hi, rd_ge (by simp; omega)]
  rw [e1]
  by_cases hi : i = 0
  · subst hi
    rw [if_pos rfl]
    have : conv (PP.c (ppm _ hr : PP P)) a.c 0 = inv P.p (a.c 0) * a.c 0 := by
      simp [conv, cv, sumTo, PP.c, ppm, rd]
    rw [this, Int.mul_comm]
    exact i3
  · have z1 : ∀ j, 1 ≤ j → (ppm _ hr : PP P).c j = 0 := fun j hj => rd_ge (l := [inv P.p (a.c 0)]) (by simpa using hj)
    have z2 : ∀ j, 1 ≤ j → a.c j = 0 := fun j hj => rd_ge (l := a.1) (by omega)
    rw [if_neg hi, conv_zero (n := 1) (m := 1) z1 z2 (by omega)]
    rfl
theorem dv_unit {a : PP P} (h : a.len = 1) (b : PP P) : Dv a b := by
  obtain ⟨u, hu⟩ := unit_of h
  exact ppring.dv_one ⟨u, hu.symm⟩
theorem bezout : ∀ (n : Nat) (a b : PP P), b.len ≤ n → ∃ g u v, g = u * a + v * b ∧ Dv g a ∧ Dv g b
  | 0, a, b, h => by
    have hb : b = 0 := len_zero.1 (by omega)
    subst hb
    exact ⟨a, 1, 0, by rw [ppring.one_mul, ppring.zero_mul, ppring.add_zero], ppring.dv_refl a, ppring.dv_zero a⟩
  | n + 1, a, b, h => by
    by_cases hb : b = 0
    · subst hb
      exact ⟨a, 1, 0, by rw [ppring.one_mul, ppring.zero_mul, ppring.add_zero], ppring.dv_refl a, ppring.dv_zero a⟩
    · obtain ⟨h1, h2⟩ := pdiv a hb
      obtain ⟨g, u, v, e, d1, d2⟩ := bezout n b (prem a b) (by omega)
      have R : IsRing (PP P) := ppring
      refine ⟨g, v, u + -(v * pquo a b), ?_, ?_, d1⟩
      · have e2 : v * a = v * (pquo a b * b) + v * prem a b := by rw [← R.mul_add, ← h1]
        have e3 : -(v * pquo a b) * b = -(v * (pquo a b * b)) := by rw [R.mul_comm (-(v * pquo a b)), R.mul_neg, R.mul_comm b, R.mul_assoc]
        rw [e2, R.add_mul, e3, e]
        generalize v * (pquo a b * b) = x
        generalize v * prem a b = y
        generalize u * b = z
        rw [R.add_comm z (-x), R.add_assoc x, R.add_left_comm y, ← R.add_assoc x, R.add_neg, R.zero_add, R.add_comm]
      · rw [h1]
        exact R.dv_add (R.dv_mul d1 _) d2

def Irr (f : PP P) : Prop := 2 ≤ f.len ∧ ∀ a b : PP P, f = a * b → a.len = 1 ∨ b.len = 1
theorem Irr.ne {f : PP P} (h : Irr f) : f ≠ 0 := fun e => by have := h.1; rw [len_zero.2 e] at this; omega
/-- What divides an irreducible polynomial is a unit, or is divided by it. -/
theorem Irr.dv {f g : PP P} (h : Irr f) (hg : Dv g f) : g.len = 1 ∨ Dv f g := by
  obtain ⟨q, e⟩ := hg
  rcases h.2 q g e with h1 | h1
  · obtain ⟨u, hu⟩ := unit_of h1
    exact .inr ⟨u, by rw [e, ← ppring.mul_assoc, hu, ppring.one_mul]⟩
  · exact .inl h1
theorem Irr.coprime {f a : PP P} (h : Irr f) (ha : ¬ Dv f a) : ∃ u v, u * a + v * f = 1 := by
  obtain ⟨g, u, v, e, d1, d2⟩ := bezout f.len a f (Nat.le_refl _)
  rcases h.dv d2 with h1 | h1
  · obtain ⟨w, hw⟩ := unit_of h1
    exact ⟨w * u, w * v, by rw [← hw, e, ppring.mul_add, ppring.mul_assoc, ppring.mul_assoc]⟩
  · exact absurd (ppring.dv_trans h1 d1) ha
/-- What is not irreducible has a divisor of at most half its degree. -/
theorem Irr.of_not {f : PP P} (h2 : 2 ≤ f.len) (h : ¬ Irr f) : ∃ a b, f = a * b ∧ 2 ≤ a.len ∧ 2 ≤ b.len ∧ a.len < f.len ∧ b.len < f.len ∧ a.len + b.len = f.len + 1 := by
  have h3 : ∃ a b, f = a * b ∧ ¬ (a.len = 1 ∨ b.len = 1) := Classical.byContradiction fun hn => h ⟨h2, fun a b e => Classical.byContradiction fun hc => hn ⟨a, b, e, hc⟩⟩
  obtain ⟨a, b, e, hc⟩ := h3
  have hf : f ≠ 0 := fun e0 => by rw [len_zero.2 e0] at h2; omega
  have ha : a ≠ 0 := fun e0 => hf (by rw [e, e0, ppring.zero_mul])
  have hb : b ≠ 0 := fun e0 => hf (by rw [e, e0, ppring.mul_zero])
  have h4 := len_mul ha hb
  rw [← e] at h4
  have := len_pos ha
  have := len_pos hb
  exact ⟨a, b, e, by omega, by omega, by omega, by omega, by omega⟩
theorem exists_irr : ∀ (n : Nat) (f : PP P), f.len ≤ n → 2 ≤ f.len → ∃ g, Irr g ∧ Dv g f
  | 0, f, h, h2 => by omega
  | n + 1, f, h, h2 => by
    by_cases hi : Irr f
    · exact ⟨f, hi, ppring.dv_refl f⟩
    · obtain ⟨a, b, e, h3, h4, h5, _⟩ := Irr.of_not h2 hi
      obtain ⟨g, hg, hd⟩ := exists_irr n a (by omega) h3
      exact ⟨g, hg, by rw [e]; exact ppring.dv_mul' hd b⟩
end Go.Proofs.Ytebfhlnfmkhmcaa
/- Irreducible polynomials modulo p: which of them divide T^(p^n) - T. -/
namespace Go.Proofs.Ytebfhlnfmkhmcaa
open Go.Abs

/-! Numbers of polynomials. -/
def num (p : Nat) : List Int → Nat
  | [] => 0
  | c :: l => c.toNat + p * num p l
theorem row_tail {p c : Int} {l : List Int} (h : Row p (c :: l)) : Row p l := by
  refine ⟨fun d hd => h.res d (by simp [hd]), fun hl => ?_⟩
  have := h.nrm (by simp)
  simp only [List.length_cons, Nat.add_sub_cancel] at this
  obtain ⟨m, hm⟩ : ∃ m, l.length = m + 1 := ⟨l.length - 1, by omega⟩
  rw [hm, rd_cons] at this
  rw [hm]; exact this
theorem digs_num {p : Nat} (hp : 2 ≤ p) : ∀ l : List Int, Row p l → digs p (num p l) = l
  | [], _ => digs_zero p
  | c :: l, h => by
    have hc := h.res c (by simp)
    have ih := digs_num hp l (row_tail h)
    have e1 : (c.toNat + p * num p l) % p = c.toNat := by rw [Nat.add_mul_mod_self_left, Nat.mod_eq_of_lt (by omega)]
    have e2 : (c.toNat + p * num p l) / p = num p l := by rw [Nat.add_mul_div_left _ _ (by omega), Nat.div_eq_of_lt (by omega)]; omega
    have hpos : 0 < c.toNat + p * num p l := by
      cases l with
      | nil =>
        have := h.nrm (by simp)
        simp [rd] at this
        omega
      | cons d l =>
        have : num p (d :: l) ≠ 0 := fun e => by rw [e, digs_zero] at ih; cases ih
        have : 0 < p * num p (d :: l) := Nat.mul_pos (by omega) (by omega)
        omega
    simp only [num]
    rw [digs_pos hp hpos, e1, e2, ih]
    congr 1
    omega
theorem num_lt {p : Nat} (hp : 2 ≤ p) : ∀ l : List Int, Row p l → num p l < p ^ l.length
  | [], _ => by simp [num]
  | c :: l, h => by
    have hc := h.res c (by simp)
    have ih := num_lt hp l (row_tail h)
    simp only [num, List.length_cons, Nat.pow_succ]
    have h1 : p * (num p l + 1) ≤ p * p ^ l.length := Nat.mul_le_mul_left _ ih
    rw [Nat.mul_add, Nat.mul_one] at h1
    rw [Nat.mul_comm (p ^ l.length)]
    omega
theorem digs_len_lt {p : Nat} (hp : 2 ≤ p) : ∀ (d n : Nat), n < p ^ d → (digs p n).length ≤ d
  | 0, n, h => by
    have : n = 0 := by simpa using h
    subst this; rw [digs_zero]; simp
  | d + 1, n, h => by
    rcases Nat.eq_zero_or_pos n with rfl | hn
    · rw [digs_zero]; simp
    · rw [digs_pos hp hn]
      have : n / p < p ^ d := by
        rw [Nat.div_lt_iff_lt_mul (by omega), ← Nat.pow_succ]; exact h
      have := digs_len_lt hp d _ this
      simp only [List.length_cons]; omega

variable {P : Pri}
theorem Pri.ge (P : Pri) : 2 ≤ P.n := by have := P.is; omega
def ppn (P : Pri) (n : Nat) : PP P := ⟨digs P.n n, digs_row P.ge n⟩
theorem ppn_num (a : PP P) : ppn P (num P.n a.1) = a := pp_eq (digs_num P.ge _ a.2)
theorem ppn_len {d n : Nat} (h : n < P.n ^ d) : (ppn P n).len ≤ d := digs_len_lt P.ge d n h

theorem conv_T (g : Nat → Int) (i : Nat) : conv (rd ([0, 1] : List Int)) g i = if 1 ≤ i then g (i - 1) else 0 := by
  rw [← cv_conv (n := 2) fun j hj => rd_ge (by simpa using hj)]
  simp only [cv, sumTo]
  have e0 : rd ([0, 1] : List Int) 0 = 0 := rfl
  have e1 : rd ([0, 1] : List Int) 1 = 1 := rfl
  rw [e0, e1, if_pos (Nat.zero_le i)]
  split <;> simp
theorem one_c (i : Nat) : (1 : PP P).c i = if i = 0 then 1 else 0 := by
  show rd [1] i = _
  by_cases hi : i = 0
  · subst hi; simp [rd]
  · rw [if_neg hi, rd_ge (by simp; omega)]
/-- All polynomials come from 0 by times T and plus 1. -/
theorem pp_ind {S : PP P → Prop} (h0 : S 0) (hT : ∀ x, S x → S (ppT * x)) (h1 : ∀ x, S x → S (x + 1)) (a : PP P) : S a := by
  have hk : ∀ k x, S x → S (x + nsm k 1) := by
    intro k
    induction k with
    | zero => intro x hx; simp only [nsm]; rw [ppring.add_zero]; exact hx
    | succ k ih => intro x hx; simp only [nsm]; rw [← ppring.add_assoc]; exact h1 _ (ih x hx)
  have key : ∀ (l : List Int) (h : Row P.p l), S (ppm l h) := by
    intro l
    induction l with
    | nil => intro h; exact h0
    | cons c l ih =>
      intro h
      have hc := h.res c (by simp)
      have e : (ppm (c :: l) h : PP P) = ppT * ppm l (row_tail h) + nsm c.toNat 1 := by
        refine pp_ext fun i => ?_
        rw [add_c, mul_c, nsm_c, one_c]
        have e1 : conv (PP.c (ppT : PP P)) (PP.c (ppm l (row_tail h) : PP P)) i = if 1 ≤ i then rd l (i - 1) else 0 := conv_T _ i
        rw [e1]
        cases i with
        | zero =>
          rw [if_neg (by omega), if_pos rfl, Int.mul_one, Int.emod_add_emod, Int.add_emod_emod, Int.zero_add, Int.toNat_of_nonneg hc.1, Int.emod_eq_of_lt hc.1 hc.2]
          rfl
        | succ i =>
          rw [if_pos (by omega), if_neg (by omega), Int.mul_zero, Int.emod_add_emod, Int.zero_emod, Int.add_zero, Nat.add_sub_cancel, (row_tail h).mod P.pos]
          exact rd_cons c l i
      rw [e]
      exact hk _ _ (hT _ (ih _))
  exact key a.1 a.2

/-! Residues by an irreducible polynomial. -/
section
variable {f : PP P} (hf : Irr f)
include hf
omit hf in
/-- All residues. -/
def els (f : PP P) : List (Qt ppring f) := (List.range (P.n ^ (f.len - 1))).map fun n => qm ppring f (ppn P n)
end
end Go.Proofs.Ytebfhlnfmkhmcaa
/- Inverses modulo p, in the program. -/
namespace Go.Proofs.Ytebfhlnfmkhmcaa
open Go.Abs

theorem inverse_impl {p x : Int} (hp : isP p = true) (hx : 0 < x ∧ x < p) : impl_prime_inverse p x = some (inv p x) := by
  have hp2 := isP_pos hp
  obtain ⟨n, hn⟩ : ∃ n : Nat, p - 2 = n := ⟨(p - 2).toNat, by omega⟩
  have ew : IntKind.i64.wrap (p - 2) = (n : Int) := by rw [wrap64 (by omega) (by omega), hn]
  obtain ⟨c, h1, h2⟩ := loopM_for (body := fun s : Int × Int => impl_prime_inverse_l1 p x s.1 s.2) (fun i c => (c, (i : Int))) (fun c => c) n
    (fun i c => c = x ^ i % p) (fun i c hi hI => by
      subst hI
      have h3 := emod_res (show 0 < p by omega) (x ^ i)
      have h4 := mul_small (x := x ^ i % p) (y := x) (by omega) (by omega)
      refine ⟨x ^ (i + 1) % p, ?_, rfl⟩
      simp only [impl_prime_inverse_l1]
      rw [ew, if_pos (decide_eq_true (by omega)), ifp_pos (by omega), wrap64 (n := x ^ i % p * x) (by omega) (by omega), Int.tmod_eq_emod_of_nonneg h4.1, wrap64 (by omega) (by omega)]
      have : x ^ i % p * x % p = x ^ (i + 1) % p := by rw [Int.pow_succ, Int.mul_emod (x ^ i % p), Int.emod_emod, ← Int.mul_emod]
      rw [this]; rfl) (fun c hI => by
      simp only [impl_prime_inverse_l1]
      rw [ew, if_neg (by rw [decide_eq_true_eq]; omega)]) n 0 1 (by omega) (by rw [Int.pow_zero, Int.emod_eq_of_lt (by omega) (by omega)])
  have h1' : loopM (fun s : Int × Int => impl_prime_inverse_l1 p x s.1 s.2) (1, 0) = some c := h1
  simp only [impl_prime_inverse, h1', Option.bind_some]
  rw [h2, ← inv_pow hp hx, hn, Int.toNat_natCast]
end Go.Proofs.Ytebfhlnfmkhmcaa
/- Rows without the zeros at their ends. -/
namespace Go.Proofs.Ytebfhlnfmkhmcaa
open Go.Abs

def IsB (v : V64) : Prop := ∀ d ∈ v.1, 0 ≤ d ∧ d < 256

theorem IsB.rd {v : V64} (h : IsB v) {j : Nat} (hj : j < 64) : 0 ≤ rd v.1 j ∧ rd v.1 j < 256 := by
  have hl : j < v.1.length := by rw [v.2]; exact hj
  have : Abs.rd v.1 j = v.1[j] := by simp [Abs.rd, hl]
  rw [this]; exact h _ (List.getElem_mem _)

theorem trimmed_loop {l : List Int} (hl : l.length ≤ 1000000) : ∀ s : Int, (∃ i : Nat, s = i ∧ i ≤ l.length) → ∃ r, loopM (fun s : Int => impl_row_trimmed_l1 l s) s = some r ∧ ∀ i : Nat, s = i → r = (top (rd l) i : Int) := by
  refine loopM_ind (fun (s : Int) => ∃ i : Nat, s = i ∧ i ≤ l.length) (fun (s : Int) (r : Int) => ∀ i : Nat, s = i → r = (top (rd l) i : Int)) (fun s => s.toNat) ?_
  rintro s ⟨i, rfl, hi⟩
  match i with
  | 0 =>
    right
    refine ⟨0, by simp [impl_row_trimmed_l1], fun k hk => ?_⟩
    have : k = 0 := by omega
    subst this; simp [top]
  | i + 1 =>
    have e1 : IntKind.i64.wrap (((i + 1 : Nat) : Int) - 1) = (i : Int) := by rw [wrap64 (by omega) (by omega)]; omega
    by_cases e : rd l i = 0
    · left
      refine ⟨(i : Int), ?_, ⟨i, rfl, by omega⟩, by omega, fun r hr k hk => ?_⟩
      · simp only [impl_row_trimmed_l1, e1]
        rw [if_pos (by simp), ifp_pos (by omega)]
        simp [e]
      · have : k = i + 1 := by omega
        subst this
        rw [hr i rfl]; simp [top, e]
    · right
      refine ⟨((i + 1 : Nat) : Int), ?_, fun k hk => ?_⟩
      · simp only [impl_row_trimmed_l1, e1]
        rw [if_pos (by simp), ifp_pos (by omega)]
        simp [e]
      · have : k = i + 1 := by omega
        subst this
        simp [top, e]

theorem trimmed_is {l : List Int} (hl : l.length ≤ 1000000) : impl_row_trimmed l = some (l.take (top (rd l) l.length)) := by
  obtain ⟨r, h1, h2⟩ := trimmed_loop hl (l.length : Nat) ⟨l.length, rfl, Nat.le_refl _⟩
  rw [h2 _ rfl] at h1
  have := top_le (rd l) l.length
  simp only [impl_row_trimmed, h1, Option.bind_some]
  rw [ifp_pos (by omega)]
  simp

end Go.Proofs.Ytebfhlnfmkhmcaa
/- Sums, in the program. -/
namespace Go.Proofs.Ytebfhlnfmkhmcaa
open Go.Abs

theorem at_is (l : List Int) (i : Nat) : impl_row_at l i = some (rd l i) := by
  unfold impl_row_at
  by_cases h : i < l.length
  · rw [if_pos (by simpa using h), ifp_pos (by omega)]; simp
  · rw [if_neg (by simpa using h), rd_ge (by omega)]

theorem reduce_is {p n : Int} (hp : 0 < p ∧ p ≤ 256) (hn : -4611686018427387904 ≤ n ∧ n < 4611686018427387904) : impl_prime_reduce p n = some (n % p) := by
  unfold impl_prime_reduce
  have h1 := Int.lt_tmod_of_pos n hp.1
  have h2 := Int.tmod_lt_of_pos n hp.1
  rw [ifp_pos (by omega), ifp_pos (by omega), wrap64 (by omega) (by omega), tmod_fix hp.1]

theorem combine_is {p k : Int} {a b : List Int} (hp : 0 < p ∧ p ≤ 256) (ha : Ent a) (hb : Ent b) (la : a.length ≤ 1000000) (lb : b.length ≤ 1000000) (hk : -1099511627776 ≤ k ∧ k ≤ 1099511627776) :
    impl_prime_combine p a b k = some (comb p a b k) := by
  obtain ⟨n, hn⟩ : ∃ n : Nat, n = max a.length b.length := ⟨_, rfl⟩
  have e : (if (b.length : Int) > (a.length : Int) then (b.length : Int) else (a.length : Int)) = (n : Int) := by split <;> omega
  obtain ⟨s, h1, h2, h3⟩ := loopM_for (body := fun s : Int × List Int => impl_prime_combine_l1 (n : Int) a b p k s.1 s.2) (fun i s => ((i : Int), s)) (fun s => s) n
    (fun i s => s.length = n ∧ ∀ j, rd s j = if j < i then (rd a j + k * rd b j) % p else 0) (fun i s hi hI => by
      obtain ⟨hl, hr⟩ := hI
      have h1 := ha i
      have h2 := mulk (hb i) hk
      refine ⟨s.set i ((rd a i + k * rd b i) % p), ?_, by simpa using hl, fun j => ?_⟩
      · simp only [impl_prime_combine_l1, letp, Int.toNat_natCast, List.length_replicate]
        rw [if_pos (by simp; omega), at_is, at_is]
        simp only [Option.bind_some]
        rw [wrap64 (n := k * rd b i) (by omega) (by omega), wrap64 (n := rd a i + k * rd b i) (by omega) (by omega), reduce_is hp (by omega)]
        simp only [Option.bind_some]
        rw [ifp_pos (by omega), wrap64 (by omega) (by omega)]
        rfl
      · rw [rd_set _ _ _ _ (by omega), hr j]
        by_cases h : j = i
        · subst h; simp
        · rw [if_neg h]
          simp only [show (j < i + 1) = (j < i) from by rw [eq_iff_iff]; omega]) (fun s hI => by
      simp only [impl_prime_combine_l1, letp, Int.toNat_natCast, List.length_replicate]
      rw [if_neg (by simp)]) n 0 (List.replicate n 0) (by omega) ⟨by simp, fun j => by rw [rd_rep, if_neg (by omega)]⟩
  have hs : s.take (top (rd s) s.length) = comb p a b k := by
    rw [trim_eq, h2, comb, ← hn]
    exact ofF_congr fun i hi => by rw [h3 i, if_pos hi]
  simp only [impl_prime_combine, letp, e]
  rw [ifp_pos (by omega)]
  simp only [Int.toNat_natCast]
  have h1' : loopM (fun s : Int × List Int => impl_prime_combine_l1 (n : Int) a b p k s.1 s.2) (0, List.replicate n 0) = some s := h1
  rw [h1']
  simp only [Option.bind_some]
  rw [trimmed_is (by omega), hs]
  rfl
end Go.Proofs.Ytebfhlnfmkhmcaa
/- Division, in the program. -/
namespace Go.Proofs.Ytebfhlnfmkhmcaa
open Go.Abs

theorem clone_is {a : List Int} (ha : a.length ≤ 1000000) : slices_Clone_impl_row_int64_fresh a = some a := by
  unfold slices_Clone_impl_row_int64_fresh
  rw [ifc_pos, ifp_pos]
  · simp
  · simp; omega
  · intro h
    subst h
    rw [ifp_pos (by simp)]
    simp
theorem divI_inner {p f : Int} (hp : 2 ≤ p ∧ p ≤ 7) {b : List Int} (hb : Row p b) (hf : 0 ≤ f ∧ f < p) {i : Nat} {s t : List Int} (hi : i + b.length ≤ s.length) (hl : s.length ≤ 1000000) (hs : ∀ j, 0 ≤ rd s j ∧ rd s j < p) {s0 : List Int} {x r9 : Int} (hx : Int.tmod (IntKind.i64.wrap (rd s0 x.toNat * r9)) p = f) :
    ∃ s', loopM (fun q : Int × List Int => impl_prime_divide_l2 b (i : Int) s0 x r9 p t q.1 q.2) (0, s) = some (s', t.set i f) ∧ s'.length = s.length ∧ ∀ j, rd s' j = dstep p (rd b) (b.length - 1) f i (rd s) j := by
  obtain ⟨s', h1, h2, h3⟩ := loopM_for (body := fun q : Int × List Int => impl_prime_divide_l2 b (i : Int) s0 x r9 p t q.1 q.2) (fun k u => ((k : Int), u)) (fun u => (u, t.set i f)) b.length
    (fun k u => u.length = s.length ∧ ∀ j, rd u j = if i ≤ j ∧ j < i + k then (rd s j - f * rd b (j - i)) % p else rd s j) (fun k u hk hI => by
      obtain ⟨hul, hu⟩ := hI
      have hbk := hb.rd (show 0 < p by omega) k
      have hsk := hs (i + k)
      have hm := mul_small (x := f) (y := rd b k) (by omega) (by omega)
      have e1 : IntKind.i64.wrap ((i : Int) + (k : Int)) = ((i + k : Nat) : Int) := by rw [wrap64 (by omega) (by omega)]; omega
      have huk := hu (i + k)
      rw [if_neg (by omega)] at huk
      refine ⟨u.set (i + k) ((rd s (i + k) - f * rd b k) % p), ?_, by simpa using hul, fun j => ?_⟩
      · simp only [impl_prime_divide_l2, letp, hx]
        rw [if_pos (decide_eq_true (by omega)), ifp_pos (by omega), e1, ifp_pos (by omega), Int.toNat_natCast, Int.toNat_natCast, huk, wrap64 (n := f * rd b k) (by omega) (by omega), wrap64 (n := rd s (i + k) - f * rd b k) (by omega) (by omega), reduce_is (by omega) (by omega)]
        simp only [Option.bind_some]
        rw [ifp_pos (by omega), wrap64 (by omega) (by omega)]
        rfl
      · rw [rd_set _ _ _ _ (by omega), hu j]
        by_cases e : j = i + k
        · subst e
          rw [if_pos rfl, if_pos (by omega), show i + k - i = k by omega]
        · rw [if_neg e]
          by_cases hc : i ≤ j ∧ j < i + k
          · rw [if_pos hc, if_pos (by omega)]
          · rw [if_neg hc, if_neg (by omega)]) (fun u hI => by
      simp only [impl_prime_divide_l2, hx]
      rw [if_neg (by rw [decide_eq_true_eq]; omega), Int.toNat_natCast]) b.length 0 s (by omega) ⟨rfl, fun j => by rw [if_neg (by omega)]⟩
  refine ⟨s', h1, h2, fun j => ?_⟩
  rw [h3 j]
  unfold dstep
  rcases Nat.eq_zero_or_pos b.length with h0 | h0
  · rw [if_neg (by omega)]
    split
    · have : rd b (j - i) = 0 := rd_ge (by omega)
      have := hs j
      rw [show rd b (j - i) = 0 from rd_ge (by omega), Int.mul_zero, Int.sub_zero, Int.emod_eq_of_lt this.1 this.2]
    · rfl
  · simp only [show (i ≤ j ∧ j < i + b.length) = (i ≤ j ∧ j ≤ i + (b.length - 1)) from by rw [eq_iff_iff]; omega]
theorem divI_outer {p : Int} (hp : isP p = true) {b : List Int} (hb : Row p b) (h0 : b.length ≠ 0) {n : Nat} (hn : n ≤ 500000) : ∀ (i : Nat) (s t : List Int), i + b.length - 1 ≤ s.length → i ≤ n → s.length ≤ 1000000 → t.length = n → (∀ j, 0 ≤ rd s j ∧ rd s j < p) →
    ∃ s' t', loopM (fun q : Int × List Int × List Int => impl_prime_divide_l1 b p (inv p (lead b)) q.1 q.2.1 q.2.2) ((i : Int) - 1, s, t) = some (s', t') ∧ s'.length = s.length ∧ t'.length = n ∧
      (∀ j, rd s' j = drem p (rd b) (b.length - 1) (inv p (lead b)) i (rd s) j) ∧ ∀ j, rd t' j = if j < i then dquo p (rd b) (b.length - 1) (inv p (lead b)) i (rd s) j else rd t j
  | 0, s, t, _, _, _, ht, _ => by
    refine ⟨s, t, ?_, rfl, ht, fun _ => rfl, fun j => by rw [if_neg (by omega)]⟩
    have step : impl_prime_divide_l1 b p (inv p (lead b)) (((0 : Nat) : Int) - 1) s t = some (.inr (s, t)) := by
      simp only [impl_prime_divide_l1]
      rw [if_neg (by rw [decide_eq_true_eq]; omega)]
    rw [loopM_eq]
    simp only [step, Option.bind_some]
  | i + 1, s, t, hi, hin, hsl, ht, hs => by
    have hp2 := isP_pos hp
    have hinv := inv_is hp (lead_pos (show 0 < p by omega) hb h0)
    have hsx := hs (i + (b.length - 1))
    have hm := mul_small (x := rd s (i + (b.length - 1))) (y := inv p (lead b)) (by omega) (by omega)
    have hf := emod_res (show 0 < p by omega) (rd s (i + (b.length - 1)) * inv p (lead b))
    have e0 : ((i + 1 : Nat) : Int) - 1 = (i : Int) := by omega
    have e1 : IntKind.i64.wrap (IntKind.i64.wrap ((i : Int) + (b.length : Int)) - 1) = ((i + (b.length - 1) : Nat) : Int) := by
      rw [wrap64 (n := (i : Int) + (b.length : Int)) (by omega) (by omega), wrap64 (by omega) (by omega)]; omega
    have hx : Int.tmod (IntKind.i64.wrap (rd s (((i + (b.length - 1) : Nat) : Int)).toNat * inv p (lead b))) p = dfac p (inv p (lead b)) (b.length - 1) i (rd s) := by
      rw [Int.toNat_natCast, wrap64 (by omega) (by omega), Int.tmod_eq_emod_of_nonneg hm.1]; rfl
    obtain ⟨s1, g1, g2, g3⟩ := divI_inner hp2 hb (f := dfac p (inv p (lead b)) (b.length - 1) i (rd s)) hf (i := i) (s := s) (t := t) (by omega) hsl hs hx
    have hs1 : rd s1 = dstep p (rd b) (b.length - 1) (dfac p (inv p (lead b)) (b.length - 1) i (rd s)) i (rd s) := funext g3
    obtain ⟨s', t', k1, k2, k3, k4, k5⟩ := divI_outer hp hb h0 hn i s1 (t.set i (dfac p (inv p (lead b)) (b.length - 1) i (rd s))) (by omega) (by omega) (by omega) (by simpa using ht) (fun j => by rw [hs1]; exact dstep_res (by omega) hs _ i j)
    refine ⟨s', t', ?_, by omega, k3, fun j => ?_, fun j => ?_⟩
    · have step : impl_prime_divide_l1 b p (inv p (lead b)) (((i + 1 : Nat) : Int) - 1) s t = some (.inl ((i : Int) - 1, s1, t.set i (dfac p (inv p (lead b)) (b.length - 1) i (rd s)))) := by
        rw [e0]
        simp only [impl_prime_divide_l1, letp, e1]
        rw [if_pos (decide_eq_true (by omega)), ifp_pos (by omega), ifp_pos (by omega), ifp_pos (by omega), g1]
        simp only [Option.bind_some]
        rw [wrap64 (by omega) (by omega)]
      rw [loopM_eq]
      simp only [step, Option.bind_some]
      exact k1
    · rw [k4 j, hs1]; rfl
    · rw [k5 j, hs1]
      simp only [dquo]
      by_cases e : j = i
      · subst e
        rw [if_neg (by omega), if_pos (by omega), if_pos rfl, rd_set _ _ _ _ (by omega), if_pos rfl]
      · by_cases h : j < i
        · rw [if_pos h, if_pos (by omega), if_neg e]
        · rw [if_neg h, if_neg (by omega), rd_set _ _ _ _ (by omega), if_neg e]
theorem lead_is {b : List Int} (h0 : b.length ≠ 0) (hl : b.length ≤ 1000000) : impl_row_lead b = some (lead b) := by
  unfold impl_row_lead
  have e1 : IntKind.i64.wrap ((b.length : Int) - 1) = ((b.length - 1 : Nat) : Int) := by rw [wrap64 (by omega) (by omega)]; omega
  rw [if_neg (by rw [beq_iff_eq]; omega), e1, ifp_pos (by omega), Int.toNat_natCast]; rfl
theorem divideI_is {p : Int} (hp : isP p = true) {a b : List Int} (ha : Row p a) (hb : Row p b) (h0 : b.length ≠ 0) (la : a.length ≤ 500000) (lb : b.length ≤ 500000) : impl_prime_divide p a b = some (quo p a b, rem p a b) := by
  have hp2 := isP_pos hp
  unfold impl_prime_divide
  rw [clone_is (by omega)]
  simp only [Option.bind_some]
  rcases Nat.lt_or_ge a.length b.length with h | h
  · rw [if_pos (decide_eq_true (by omega))]
    have e1 : quo p a b = [] := by
      have := quo_len p a b
      exact List.eq_nil_of_length_eq_zero (by omega)
    have e2 : rem p a b = a := by
      unfold rem
      rw [show a.length + 1 - b.length = 0 by omega]
      exact ha.ofF (Nat.le_refl _)
    rw [e1, e2]
  · rw [if_neg (by rw [decide_eq_true_eq]; omega)]
    obtain ⟨n, hn⟩ : ∃ n : Nat, n = a.length + 1 - b.length := ⟨_, rfl⟩
    have e1 : IntKind.i64.wrap (IntKind.i64.wrap ((a.length : Int) - (b.length : Int)) + 1) = (n : Int) := by
      rw [wrap64 (n := (a.length : Int) - (b.length : Int)) (by omega) (by omega), wrap64 (by omega) (by omega)]; omega
    have hlead := lead_pos (show 0 < p by omega) hb h0
    simp only [letp, e1, lead_is h0 (by omega), inverse_impl hp hlead, Option.bind_some, Int.toNat_natCast, List.length_replicate]
    rw [ifp_pos (by omega), wrap64 (by omega) (by omega)]
    obtain ⟨s', t', k1, k2, k3, k4, k5⟩ := divI_outer hp hb h0 (n := n) (by omega) n a (List.replicate n 0) (by omega) (Nat.le_refl _) (by omega) (by simp) (fun j => ha.rd (by omega) j)
    rw [k1]
    simp only [Option.bind_some]
    rw [trimmed_is (by omega), trimmed_is (by omega)]
    simp only [Option.bind_some]
    rw [trim_eq, trim_eq, k2, k3]
    congr 2
    · rw [quo, ← hn]
      exact ofF_congr fun i hi => by rw [k5 i, if_pos hi]
    · rw [rem, ← hn]
      exact ofF_congr fun i _ => k4 i
end Go.Proofs.Ytebfhlnfmkhmcaa
/- Products, in the program. -/
namespace Go.Proofs.Ytebfhlnfmkhmcaa
open Go.Abs


theorem cv_small {a b : Nat → Int} (ha : ∀ i, 0 ≤ a i ∧ a i < 256) (hb : ∀ i, 0 ≤ b i ∧ b i < 256) (k : Nat) : ∀ n : Nat, 0 ≤ cv a b n k ∧ cv a b n k ≤ n * 65025
  | 0 => by simp [cv, sumTo]
  | n + 1 => by
    rw [cv_succ]
    have h1 := cv_small ha hb k n
    have h2 := mul_small (ha n) (hb (k - n))
    split <;> omega

/-- The program's product. -/
theorem times_is {p : Int} (hp : 2 ≤ p ∧ p ≤ 256) {a b : List Int} (ha : Ent a) (hb : Ent b) (la : a.length ≤ 500000) (lb : b.length ≤ 500000) : impl_prime_times p a b = some (mul p a b) := by
  simp only [impl_prime_times, letp]
  by_cases h1 : a.length = 0
  · have e : a = [] := List.eq_nil_of_length_eq_zero h1
    subst e
    simp [mul_nil]
  by_cases h2 : b.length = 0
  · have e : b = [] := List.eq_nil_of_length_eq_zero h2
    subst e
    simp [mul_nil']
  obtain ⟨n, hn⟩ : ∃ n : Nat, n = a.length + b.length - 1 := ⟨_, rfl⟩
  have e0 : IntKind.i64.wrap (IntKind.i64.wrap ((a.length : Int) + (b.length : Int)) - 1) = (n : Int) := by
    rw [wrap64 (n := (a.length : Int) + (b.length : Int)) (by omega) (by omega), wrap64 (by omega) (by omega)]; omega
  rw [e0]
  have c1 : (if ((a.length : Int) == 0) = true then some true else some ((b.length : Int) == 0)) = some false := by
    rw [if_neg (by rw [beq_iff_eq]; omega)]
    congr 1
    rw [beq_eq_false_iff_ne]; omega
  rw [c1]
  simp only [Bool.false_eq_true, if_false, Option.bind_some, Int.toNat_natCast]
  rw [ifp_pos (by omega)]
  -- one row
  have hrow : ∀ (i : Nat) (s : List Int), i < a.length → s.length = n → (∀ k, rd s k = cv (rd a) (rd b) i k) →
      ∃ s', loopM (fun s : Int × List Int => impl_prime_times_l2 b (i : Int) a s.1 s.2) (0, s) = some s' ∧ s'.length = n ∧ ∀ k, rd s' k = cv (rd a) (rd b) (i + 1) k := by
    intro i s hi hsl hs
    have hai := ha i
    obtain ⟨s', g1, g2, g3⟩ := loopM_for (body := fun s : Int × List Int => impl_prime_times_l2 b (i : Int) a s.1 s.2) (fun j (u : List Int) => ((j : Int), u)) (fun u => u) b.length
      (fun j u => u.length = n ∧ ∀ k, rd u k = if i ≤ k ∧ k < i + j then cv (rd a) (rd b) (i + 1) k else cv (rd a) (rd b) i k) (fun j u hj hI => by
        obtain ⟨hul, hu⟩ := hI
        have hbj := hb j
        have hm := mul_small hai hbj
        have hc := cv_small ha hb (i + j) i
        have e1 : IntKind.i64.wrap ((i : Int) + (j : Int)) = ((i + j : Nat) : Int) := by rw [wrap64 (by omega) (by omega)]; omega
        have huj := hu (i + j)
        rw [if_neg (by omega)] at huj
        have e2 : cv (rd a) (rd b) (i + 1) (i + j) = cv (rd a) (rd b) i (i + j) + rd a i * rd b j := by
          rw [cv_succ, if_pos (by omega), show i + j - i = j by omega]
        refine ⟨u.set (i + j) (cv (rd a) (rd b) (i + 1) (i + j)), ?_, by simpa using hul, fun k => ?_⟩
        · simp only [impl_prime_times_l2, letp]
          rw [if_pos (by simp; omega), e1]
          rw [ifp_pos (by omega), ifp_pos (by omega), ifp_pos (by omega)]
          simp only [Int.toNat_natCast]
          rw [huj, wrap64 (n := rd a i * rd b j) (by omega) (by omega), wrap64 (n := cv (rd a) (rd b) i (i + j) + rd a i * rd b j) (by omega) (by omega), wrap64 (by omega) (by omega), e2]
          rfl
        · rw [rd_set _ _ _ _ (by omega)]
          by_cases e : k = i + j
          · subst e
            rw [if_pos rfl, if_pos (by omega)]
          · rw [if_neg e, hu k]
            by_cases hc : i ≤ k ∧ k < i + j
            · rw [if_pos hc, if_pos (by omega)]
            · rw [if_neg hc, if_neg (by omega)]) (fun u hI => by
        simp only [impl_prime_times_l2]
        rw [if_neg (by simp)]) b.length 0 s (by omega) ⟨hsl, fun k => by rw [hs k, if_neg (by omega)]⟩
    refine ⟨s', g1, g2, fun k => ?_⟩
    rw [g3 k]
    split
    · rfl
    · rename_i hc
      rw [cv_succ]
      by_cases hik : i ≤ k
      · rw [if_pos hik, rd_ge (l := b) (by omega), Int.mul_zero, Int.add_zero]
      · rw [if_neg hik, Int.add_zero]
  obtain ⟨s, h3, h4, h5⟩ := loopM_for (body := fun s : Int × List Int => impl_prime_times_l1 a b s.1 s.2) (fun i (u : List Int) => ((i : Int), u)) (fun u => u) a.length
    (fun i u => u.length = n ∧ ∀ k, rd u k = cv (rd a) (rd b) i k) (fun i u hi hI => by
      obtain ⟨u', g1, g2, g3⟩ := hrow i u hi hI.1 hI.2
      refine ⟨u', ?_, g2, g3⟩
      simp only [impl_prime_times_l1]
      rw [if_pos (by simp; omega), ifp_pos (by omega), g1]
      simp only [Option.bind_some]
      rw [wrap64 (by omega) (by omega)]; rfl) (fun u hI => by
      simp only [impl_prime_times_l1]
      rw [if_neg (by simp)]) a.length 0 (List.replicate n 0) (by omega) ⟨by simp, fun k => by rw [rd_rep]; simp [cv, sumTo]⟩
  have h3' : loopM (fun s : Int × List Int => impl_prime_times_l1 a b s.1 s.2) (0, List.replicate n 0) = some s := h3
  rw [h3']
  simp only [Option.bind_some]
  obtain ⟨t, h6, h7, h8⟩ := loopM_for (body := fun q : Int × List Int => impl_prime_times_l3 s p q.1 q.2) (fun i (u : List Int) => ((i : Int), u)) (fun u => u) n
    (fun i u => u.length = n ∧ ∀ k, rd u k = if k < i then cv (rd a) (rd b) a.length k % p else cv (rd a) (rd b) a.length k) (fun i u hi hI => by
      obtain ⟨hul, hu⟩ := hI
      have hui := hu i
      rw [if_neg (by omega)] at hui
      have hc := cv_small ha hb i a.length
      refine ⟨u.set i (cv (rd a) (rd b) a.length i % p), ?_, by simpa using hul, fun k => ?_⟩
      · simp only [impl_prime_times_l3]
        rw [if_pos (by simp; omega), ifp_pos (by omega), ifp_pos (by omega), ifp_pos (by omega)]
        simp only [Int.toNat_natCast]
        rw [hui, Int.tmod_eq_emod_of_nonneg hc.1, wrap64 (by omega) (by omega)]; rfl
      · rw [rd_set _ _ _ _ (by omega), hu k]
        by_cases e : k = i
        · subst e; simp
        · rw [if_neg e]
          simp only [show (k < i + 1) = (k < i) from by rw [eq_iff_iff]; omega]) (fun u hI => by
      simp only [impl_prime_times_l3]
      rw [if_neg (by simp; omega)]) n 0 s (by omega) ⟨h4, fun k => by rw [h5 k, if_neg (by omega)]⟩
  have h6' : loopM (fun q : Int × List Int => impl_prime_times_l3 s p q.1 q.2) (0, s) = some t := h6
  rw [h6']
  simp only [Option.bind_some]
  rw [trimmed_is (by omega), trim_eq, h7]
  simp only [Option.bind_some]
  congr 1
  rw [mul, ← hn]
  exact ofF_congr fun k hk => by rw [h8 k, if_pos hk, cv_conv fun i hi => rd_ge (by omega)]
end Go.Proofs.Ytebfhlnfmkhmcaa
/- Products and quotients, in the program. -/
namespace Go.Proofs.Ytebfhlnfmkhmcaa
open Go.Abs

variable {P : Pri}
theorem Pri.sm (P : Pri) : 0 < P.p ∧ P.p ≤ 256 := by have := P.two; omega
theorem PP.ent (a : PP P) : Ent a.1 := a.2.ent P.sm
theorem ne_len {b : PP P} (hb : b ≠ 0) : b.1.length ≠ 0 := fun h => hb (len_zero.1 h)
theorem pdivI {a b : PP P} (hb : b ≠ 0) (la : a.len ≤ 500000) (lb : b.len ≤ 500000) : impl_prime_divide P.p a.1 b.1 = some ((pquo a b).1, (prem a b).1) := divideI_is P.ok a.2 b.2 (ne_len hb) la lb
theorem timesI {a b : PP P} (la : a.len ≤ 500000) (lb : b.len ≤ 500000) : impl_prime_times P.p a.1 b.1 = some (a * b).1 :=
  times_is (by have := P.two; omega) a.ent b.ent la lb
end Go.Proofs.Ytebfhlnfmkhmcaa
/- Inverses modulo p, in the reference. -/
namespace Go.Proofs.Ytebfhlnfmkhmcaa
open Go.Abs

theorem inverse_spec {p x : Int} (hp : isP p = true) (hx : 0 < x ∧ x < p) : spec_l01Inverse p x = some (inv p x) := by
  have hp2 := isP_pos hp
  obtain ⟨hi1, hi2, hi3⟩ := inv_is hp hx
  have key : ∀ (m : Nat) (k : Int), 1 ≤ k → k + m = inv p x → loopM (fun s : Int => spec_l01Inverse_l1 p x s) k = some (.inr (inv p x)) := by
    intro m
    induction m with
    | zero =>
      intro k h1 h2
      have h3 := mul_small (x := k) (y := x) (by omega) (by omega)
      have e : k = inv p x := by omega
      have step : spec_l01Inverse_l1 p x k = some (.inr (.inr (inv p x))) := by
        simp only [spec_l01Inverse_l1, letp]
        rw [if_pos (decide_eq_true (by omega)), ifp_pos (by omega), wrap64 (n := x) (by omega) (by omega), wrap64 (n := k * x) (by omega) (by omega), Int.tmod_eq_emod_of_nonneg h3.1, if_pos, wrap8 (by omega) (by omega), e]
        rw [e, Int.mul_comm, hi3]; rfl
      rw [loopM_eq]
      simp only [step, Option.bind_some]
    | succ m ih =>
      intro k h1 h2
      have h3 := mul_small (x := k) (y := x) (by omega) (by omega)
      have hne := inv_first hp hx h1 (show k < inv p x by omega)
      have step : spec_l01Inverse_l1 p x k = some (.inl (k + 1)) := by
        simp only [spec_l01Inverse_l1, letp]
        rw [if_pos (decide_eq_true (by omega)), ifp_pos (by omega), wrap64 (n := x) (by omega) (by omega), wrap64 (n := k * x) (by omega) (by omega), Int.tmod_eq_emod_of_nonneg h3.1, if_neg (by rw [beq_iff_eq]; exact hne), wrap64 (by omega) (by omega)]
      rw [loopM_eq]
      simp only [step, Option.bind_some]
      exact ih (k + 1) (by omega) (by omega)
  have h := key (inv p x - 1).toNat 1 (by omega) (by omega)
  simp only [spec_l01Inverse, h, Option.bind_some]
end Go.Proofs.Ytebfhlnfmkhmcaa
/- Degrees. -/
namespace Go.Proofs.Ytebfhlnfmkhmcaa
open Go.Abs

theorem deg_loop (a : V64) : ∀ s : Int, (∃ i : Nat, s = (i : Int) - 1 ∧ i ≤ 64) → ∃ r, loopM (fun s : Int => spec_l01Deg_l1 a s) s = some r ∧ ∀ i : Nat, s = (i : Int) - 1 → r = (top (rd a.1) i : Int) - 1 := by
  refine loopM_ind (fun (s : Int) => ∃ i : Nat, s = (i : Int) - 1 ∧ i ≤ 64) (fun (s : Int) (r : Int) => ∀ i : Nat, s = (i : Int) - 1 → r = (top (rd a.1) i : Int) - 1) (fun s => (s + 1).toNat) ?_
  rintro s ⟨i, rfl, hi⟩
  match i with
  | 0 =>
    right
    refine ⟨-1, by simp [spec_l01Deg_l1], fun k hk => ?_⟩
    have : k = 0 := by omega
    subst this; simp [top]
  | i + 1 =>
    have e1 : ((i + 1 : Nat) : Int) - 1 = (i : Int) := by omega
    rw [e1]
    by_cases e : rd a.1 i = 0
    · left
      refine ⟨(i : Int) - 1, ?_, ⟨i, rfl, by omega⟩, by omega, fun r hr k hk => ?_⟩
      · simp only [spec_l01Deg_l1]
        rw [if_pos (by simp), ifp_pos (by omega)]
        simp [e]
        exact wrap64 (by omega) (by omega)
      · have : k = i + 1 := by omega
        subst this
        rw [hr i rfl]; simp [top, e]
    · right
      refine ⟨(i : Int), ?_, fun k hk => ?_⟩
      · simp only [spec_l01Deg_l1]
        rw [if_pos (by simp), ifp_pos (by omega)]
        simp [e]
      · have : k = i + 1 := by omega
        subst this
        simp [top, e]

theorem deg_is (a : V64) : spec_l01Deg a = some ((top (rd a.1) 64 : Int) - 1) := by
  obtain ⟨r, h1, h2⟩ := deg_loop a 63 ⟨64, by omega, by omega⟩
  rw [h2 64 (by omega)] at h1
  simp only [spec_l01Deg, h1, Option.bind_some]
end Go.Proofs.Ytebfhlnfmkhmcaa
/- Division, in the reference. -/
namespace Go.Proofs.Ytebfhlnfmkhmcaa
open Go.Abs

theorem divS_inner {p f y : Int} (hp : 2 ≤ p ∧ p ≤ 7) {b : V64} (hb : Res p b) (hf : 0 ≤ f ∧ f < p) (hy : Int.tmod y p = f) {i m : Nat} (hi : i + m < 64) {s t : V64} (hs : Res p s) :
    ∃ s', loopM (fun q : Int × V64 => spec_l01Divide_l2 (m : Int) y p ((i + m : Nat) : Int) b t q.1 q.2) (0, s) = some (s', vset t i f) ∧ Res p s' ∧ ∀ j, j < 64 → rd s'.1 j = dstep p (rd b.1) m f i (rd s.1) j := by
  have e0 : IntKind.i64.wrap (((i + m : Nat) : Int) - (m : Int)) = (i : Int) := by rw [wrap64 (by omega) (by omega)]; omega
  by_cases h0 : f = 0
  · refine ⟨s, ?_, hs, fun j hj => ?_⟩
    · have step : spec_l01Divide_l2 (m : Int) y p ((i + m : Nat) : Int) b t 0 s = some (.inr (s, vset t i f)) := by
        simp only [spec_l01Divide_l2, hy]
        rw [if_pos (decide_eq_true (by omega))]
        simp only [Option.bind_some]
        rw [if_neg (by rw [h0]; simp), e0, Int.toNat_natCast, wrap8 (by omega) (by omega)]
      rw [loopM_eq]
      simp only [step, Option.bind_some]
    · unfold dstep
      split
      · have := hs j hj
        rw [h0, Int.zero_mul, Int.sub_zero, Int.emod_eq_of_lt this.1 this.2]
      · rfl
  · obtain ⟨s', h1, h2, h3⟩ := loopM_for (body := fun q : Int × V64 => spec_l01Divide_l2 (m : Int) y p ((i + m : Nat) : Int) b t q.1 q.2) (fun k (u : V64) => ((k : Int), u)) (fun u => (u, vset t i f)) (m + 1)
      (fun k u => Res p u ∧ ∀ j, j < 64 → rd u.1 j = if i ≤ j ∧ j < i + k then (rd s.1 j - f * rd b.1 (j - i)) % p else rd s.1 j) (fun k u hk hI => by
        obtain ⟨hur, hu⟩ := hI
        have hbk := hb k (by omega)
        have hsk := hs (i + k) (by omega)
        have hm := mul_small (x := f) (y := rd b.1 k) (by omega) (by omega)
        have e1 : IntKind.i64.wrap ((i : Int) + (k : Int)) = ((i + k : Nat) : Int) := by rw [wrap64 (by omega) (by omega)]; omega
        have huk := hu (i + k) (by omega)
        rw [if_neg (by omega)] at huk
        have ht1 := Int.lt_tmod_of_pos (rd s.1 (i + k) - f * rd b.1 k) (show 0 < p by omega)
        have ht2 := Int.tmod_lt_of_pos (rd s.1 (i + k) - f * rd b.1 k) (show 0 < p by omega)
        have hr := emod_res (show 0 < p by omega) (rd s.1 (i + k) - f * rd b.1 k)
        refine ⟨vset u (i + k) ((rd s.1 (i + k) - f * rd b.1 k) % p), ?_, fun j hj => ?_, fun j hj => ?_⟩
        · simp only [spec_l01Divide_l2, letp, hy, e0]
          rw [if_pos (decide_eq_true (by omega))]
          simp only [Option.bind_some]
          rw [if_pos (by simpa using h0), e1, ifp_pos (by omega), ifp_pos (by omega), ifp_pos (by omega), ifp_pos (by omega), ifp_pos (by omega), Int.toNat_natCast, Int.toNat_natCast, huk]
          rw [wrap64 (n := rd b.1 k) (by omega) (by omega), wrap64 (n := f * rd b.1 k) (by omega) (by omega), wrap64 (n := rd s.1 (i + k)) (by omega) (by omega), wrap64 (n := rd s.1 (i + k) - f * rd b.1 k) (by omega) (by omega), wrap64 (n := _ + p) (by omega) (by omega), tmod_fix (by omega), wrap8 (by omega) (by omega), wrap64 (by omega) (by omega)]
          rfl
        · rw [rd_vset _ _ _ _ (by omega)]
          split
          · exact hr
          · exact hur j hj
        · rw [rd_vset _ _ _ _ (by omega), hu j hj]
          by_cases e : j = i + k
          · subst e
            rw [if_pos rfl, if_pos (by omega), show i + k - i = k by omega]
          · rw [if_neg e]
            by_cases hc : i ≤ j ∧ j < i + k
            · rw [if_pos hc, if_pos (by omega)]
            · rw [if_neg hc, if_neg (by omega)]) (fun u hI => by
        simp only [spec_l01Divide_l2, hy, e0]
        rw [if_neg (by rw [decide_eq_true_eq]; omega)]
        simp only [Option.bind_some, Bool.false_eq_true, if_false]
        rw [Int.toNat_natCast, wrap8 (by omega) (by omega)]) (m + 1) 0 s (by omega) ⟨hs, fun j hj => by rw [if_neg (by omega)]⟩
    refine ⟨s', h1, h2, fun j hj => ?_⟩
    rw [h3 j hj]
    unfold dstep
    simp only [show (i ≤ j ∧ j < i + (m + 1)) = (i ≤ j ∧ j ≤ i + m) from by rw [eq_iff_iff]; omega]
theorem divS_outer {p : Int} (hp : isP p = true) {b : V64} (hb : Res p b) {m : Nat} {iv : Int} (hiv : 0 ≤ iv ∧ iv < p) : ∀ (i : Nat) (s t : V64), i + m ≤ 64 → Res p s →
    ∃ s' t', loopM (fun q : Int × V64 × V64 => spec_l01Divide_l1 (m : Int) iv p b q.1 q.2.1 q.2.2) ((i : Int) + m - 1, s, t) = some (s', t') ∧
      (∀ j, j < 64 → rd s'.1 j = drem p (rd b.1) m iv i (rd s.1) j) ∧ ∀ j, j < 64 → rd t'.1 j = if j < i then dquo p (rd b.1) m iv i (rd s.1) j else rd t.1 j
  | 0, s, t, hi, _ => by
    refine ⟨s, t, ?_, fun _ _ => rfl, fun j _ => by rw [if_neg (by omega)]⟩
    have step : spec_l01Divide_l1 (m : Int) iv p b (((0 : Nat) : Int) + m - 1) s t = some (.inr (s, t)) := by
      simp only [spec_l01Divide_l1]
      rw [if_neg (by rw [decide_eq_true_eq]; omega)]
    rw [loopM_eq]
    simp only [step, Option.bind_some]
  | i + 1, s, t, hi, hs => by
    have hp2 := isP_pos hp
    have hsx := hs (i + m) (by omega)
    have hm := mul_small (x := rd s.1 (i + m)) (y := iv) (by omega) (by omega)
    have hf := emod_res (show 0 < p by omega) (rd s.1 (i + m) * iv)
    have e0 : ((i + 1 : Nat) : Int) + m - 1 = ((i + m : Nat) : Int) := by omega
    have e1 : IntKind.i64.wrap (((i + m : Nat) : Int) - (m : Int)) = (i : Int) := by rw [wrap64 (by omega) (by omega)]; omega
    have hy : Int.tmod (rd s.1 (i + m) * iv) p = dfac p iv m i (rd s.1) := Int.tmod_eq_emod_of_nonneg hm.1
    obtain ⟨s1, g1, g2, g3⟩ := divS_inner hp2 hb (f := dfac p iv m i (rd s.1)) hf hy (i := i) (m := m) (by omega) (t := t) hs
    obtain ⟨s', t', k1, k2, k3⟩ := divS_outer hp hb (m := m) hiv i s1 (vset t i (dfac p iv m i (rd s.1))) (by omega) g2
    -- the functions agree on the places that there are
    have hz : ∀ j, 64 ≤ j → rd s1.1 j = dstep p (rd b.1) m (dfac p iv m i (rd s.1)) i (rd s.1) j := fun j hj => by
      rw [rd_ge (by rw [s1.2]; exact hj)]
      unfold dstep
      rw [if_neg (by omega), rd_ge (by rw [s.2]; exact hj)]
    have hs1 : rd s1.1 = dstep p (rd b.1) m (dfac p iv m i (rd s.1)) i (rd s.1) := funext fun j => by
      rcases Nat.lt_or_ge j 64 with h | h
      · exact g3 j h
      · exact hz j h
    refine ⟨s', t', ?_, fun j hj => ?_, fun j hj => ?_⟩
    · have step : spec_l01Divide_l1 (m : Int) iv p b (((i + 1 : Nat) : Int) + m - 1) s t = some (.inl ((i : Int) + m - 1, s1, vset t i (dfac p iv m i (rd s.1)))) := by
        rw [e0]
        simp only [spec_l01Divide_l1, letp, e1]
        rw [if_pos (decide_eq_true (by omega)), ifp_pos (by omega), Int.toNat_natCast, wrap64 (n := rd s.1 (i + m)) (by omega) (by omega), wrap64 (n := iv) (by omega) (by omega), wrap64 (n := rd s.1 (i + m) * iv) (by omega) (by omega), ifp_pos (by omega), ifp_pos (by omega), g1]
        simp only [Option.bind_some]
        rw [wrap64 (by omega) (by omega)]
        congr 3
      rw [loopM_eq]
      simp only [step, Option.bind_some]
      exact k1
    · rw [k2 j hj, hs1]; rfl
    · rw [k3 j hj, hs1]
      simp only [dquo]
      by_cases e : j = i
      · subst e
        rw [if_neg (by omega), if_pos (by omega), if_pos rfl, rd_vset _ _ _ _ hj, if_pos rfl]
      · by_cases h : j < i
        · rw [if_pos h, if_pos (by omega), if_neg e]
        · rw [if_neg h, if_neg (by omega), rd_vset _ _ _ _ (by omega), if_neg e]
theorem rd_pad_fun {l : List Int} (hl : l.length ≤ 64) : rd (pad l).1 = rd l := funext fun j => by
  rcases Nat.lt_or_ge j 64 with h | h
  · exact rd_padl l h
  · rw [rd_ge (by rw [(pad l).2]; exact h), rd_ge (by omega)]
theorem divideS_is {p : Int} (hp : isP p = true) {a b : List Int} (ha : Row p a) (hb : Row p b) (h0 : b.length ≠ 0) (la : a.length ≤ 64) (lb : b.length ≤ 64) : spec_l01Divide p (pad a) (pad b) = some (pad (quo p a b), pad (rem p a b)) := by
  have hp2 := isP_pos hp
  have hta : top (rd (pad a).1) 64 = a.length := by rw [top_congr 64 fun i hi => rd_padl a hi, ha.top la]
  have htb : top (rd (pad b).1) 64 = b.length := by rw [top_congr 64 fun i hi => rd_padl b hi, hb.top lb]
  have hlead := lead_pos (show 0 < p by omega) hb h0
  have hinv := inv_is hp hlead
  have e1 : ((b.length : Nat) : Int) - 1 = ((b.length - 1 : Nat) : Int) := by omega
  simp only [spec_l01Divide, deg_is, hta, htb, Option.bind_some, e1]
  have hl : rd (pad b).1 (b.length - 1) = lead b := by rw [rd_padl _ (by omega)]; rfl
  rw [ifp_pos (by omega), Int.toNat_natCast, hl, inverse_spec hp hlead]
  simp only [Option.bind_some]
  rcases Nat.lt_or_ge a.length b.length with h | h
  · have step : spec_l01Divide_l1 ((b.length - 1 : Nat) : Int) (inv p (lead b)) p (pad b) ((a.length : Int) - 1) (pad a) (vrep 64 0) = some (.inr (pad a, vrep 64 0)) := by
      simp only [spec_l01Divide_l1]
      rw [if_neg (by rw [decide_eq_true_eq]; omega)]
    rw [loopM_eq]
    simp only [step, Option.bind_some]
    have e2 : quo p a b = [] := by
      have := quo_len p a b
      exact List.eq_nil_of_length_eq_zero (by omega)
    have e3 : rem p a b = a := by
      unfold rem
      rw [show a.length + 1 - b.length = 0 by omega]
      exact ha.ofF (Nat.le_refl _)
    rw [e2, e3, pad_nil]
  · obtain ⟨s', t', k1, k2, k3⟩ := divS_outer hp (res_pad hb (by omega)) (m := b.length - 1) (iv := inv p (lead b)) ⟨by omega, hinv.2.1⟩ (a.length + 1 - b.length) (pad a) (vrep 64 0) (by omega) (res_pad ha (by omega))
    have e2 : ((a.length + 1 - b.length : Nat) : Int) + ((b.length - 1 : Nat) : Int) - 1 = (a.length : Int) - 1 := by omega
    rw [e2] at k1
    rw [k1]
    simp only [Option.bind_some]
    rw [rd_pad_fun la, rd_pad_fun lb] at k2 k3
    congr 2
    · refine vec_ext fun j hj => ?_
      rw [k3 j hj, rd_padl _ hj, quo_rd]
      split
      · rfl
      · rw [rd_vrep _ hj, dquo_ge _ _ _ (by omega)]
    · refine vec_ext fun j hj => ?_
      rw [k2 j hj, rd_padl _ hj, rem_rd a h0]
end Go.Proofs.Ytebfhlnfmkhmcaa
/- Sums, in the reference. -/
namespace Go.Proofs.Ytebfhlnfmkhmcaa
open Go.Abs

theorem add_is {p k : Int} {a b : V64} (hp : 0 < p ∧ p ≤ 256) (ha : V64.Ent a) (hb : V64.Ent b) (hk : -1099511627776 ≤ k ∧ k ≤ 1099511627776) :
    ∃ v, spec_l01Add p a b k = some v ∧ ∀ j, j < 64 → rd v.1 j = (rd a.1 j + k * rd b.1 j) % p := by
  obtain ⟨s, h1, h2⟩ := loopM_for (body := fun s : Int × V64 => spec_l01Add_l1 k b p s.1 s.2) (fun i s => ((i : Int), s)) (fun s => s) 64
    (fun i s => ∀ j, j < 64 → rd s.1 j = if j < i then (rd a.1 j + k * rd b.1 j) % p else rd a.1 j) (fun i s hi hI => by
      have hs := hI i hi
      rw [if_neg (by omega)] at hs
      have h1 := ha i hi
      have h0 := hb i hi
      have h2 := mulk (hb i hi) hk
      have h3 := Int.lt_tmod_of_pos (rd a.1 i + k * rd b.1 i) hp.1
      have h4 := Int.tmod_lt_of_pos (rd a.1 i + k * rd b.1 i) hp.1
      have h5 := emod_res hp.1 (rd a.1 i + k * rd b.1 i)
      refine ⟨vset s i ((rd a.1 i + k * rd b.1 i) % p), ?_, fun j hj => ?_⟩
      · simp only [spec_l01Add_l1, letp, Int.toNat_natCast, hs]
        rw [if_pos (by simp; omega), ifp_pos (by omega), ifp_pos (by omega), ifp_pos (by omega), ifp_pos (by omega), ifp_pos (by omega)]
        rw [wrap64 (n := rd b.1 i) (by omega) (by omega), wrap64 (n := rd a.1 i) (by omega) (by omega), wrap64 (n := k * rd b.1 i) (by omega) (by omega), wrap64 (n := rd a.1 i + k * rd b.1 i) (by omega) (by omega), wrap64 (n := _ + p) (by omega) (by omega), tmod_fix hp.1, wrap8 (by omega) (by omega), wrap64 (by omega) (by omega)]
        rfl
      · rw [rd_vset _ _ _ _ hi, hI j hj]
        by_cases h : j = i
        · subst h; simp
        · rw [if_neg h]
          simp only [show (j < i + 1) = (j < i) from by rw [eq_iff_iff]; omega]) (fun s hI => by
      simp only [spec_l01Add_l1, letp]
      rw [if_neg (by simp)]) 64 0 a (by omega) (fun j hj => by rw [if_neg (by omega)])
  refine ⟨s, ?_, fun j hj => by rw [h2 j hj, if_pos hj]⟩
  have h1' : loopM (fun s : Int × V64 => spec_l01Add_l1 k b p s.1 s.2) (0, a) = some s := h1
  simp only [spec_l01Add, h1', Option.bind_some]

theorem add_pad {p k : Int} {a b : List Int} (hp : 0 < p ∧ p ≤ 256) (ha : Row p a) (hb : Row p b) (la : a.length ≤ 64) (lb : b.length ≤ 64) (hk : -1099511627776 ≤ k ∧ k ≤ 1099511627776) :
    spec_l01Add p (pad a) (pad b) k = some (pad (comb p a b k)) := by
  obtain ⟨v, h1, h2⟩ := add_is hp (ent_pad ha hp) (ent_pad hb hp) hk
  rw [h1]
  congr 1
  exact vec_ext fun j hj => by rw [h2 j hj, rd_padl _ hj, rd_padl _ hj, rd_padl _ hj, comb_rd]
end Go.Proofs.Ytebfhlnfmkhmcaa
/- Sums with multiples, quotients, in the reference. -/
namespace Go.Proofs.Ytebfhlnfmkhmcaa
open Go.Abs

variable {P : Pri}
theorem len_T {P : Pri} : (ppT : PP P).len = 2 := rfl
theorem divS {a b : PP P} (hb : b ≠ 0) (la : a.len ≤ 64) (lb : b.len ≤ 64) : spec_l01Divide P.p (pad a.1) (pad b.1) = some (pad (pquo a b).1, pad (prem a b).1) := divideS_is P.okp a.2 b.2 (ne_len hb) la lb
theorem degS (a : PP P) (la : a.len ≤ 64) : spec_l01Deg (pad a.1) = some ((a.len : Int) - 1) := by
  rw [deg_is, rd_pad_fun la, a.2.top la]; rfl
theorem comb_nsm (x a : PP P) (k : Nat) : comb P.p x.1 a.1 k = (x + nsm k a).1 := by
  refine row_ext (comb_row P.pos _ _ _) (x + nsm k a).2 fun i => ?_
  have h : (x + nsm k a).c i = (x.c i + (nsm k a).c i) % P.p := add_c _ _ _
  rw [comb_rd]
  show _ = (x + nsm k a).c i
  rw [h, nsm_c, Int.add_emod_emod]; rfl
theorem len_nsm (k : Nat) (a : PP P) : (nsm k a).len ≤ a.len := by
  induction k with
  | zero => show 0 ≤ _; omega
  | succ k ih =>
    have := len_add (nsm k a) a
    simp only [nsm]; omega
theorem addS {a b : PP P} (la : a.len ≤ 64) (lb : b.len ≤ 64) {k : Nat} (hk : k ≤ 1099511627776) : spec_l01Add P.p (pad a.1) (pad b.1) k = some (pad (a + nsm k b).1) := by
  rw [add_pad P.sm a.2 b.2 la lb (by omega), comb_nsm]
end Go.Proofs.Ytebfhlnfmkhmcaa
/- Monic polynomials. -/
namespace Go.Proofs.Ytebfhlnfmkhmcaa
open Go.Abs

variable {P : Pri}
def Mo (a : PP P) : Prop := lead a.1 = 1
theorem Mo.ne {a : PP P} (h : Mo a) : a ≠ 0 := fun e => by
  subst e
  have : lead ([] : List Int) = 1 := h
  simp [lead, rd] at this
theorem lead_c (a : PP P) : lead a.1 = a.c (a.len - 1) := rfl
/-- A polynomial made monic. -/
def mon (a : PP P) : PP P := nsm (inv P.p (lead a.1)).toNat a
theorem mon_eq {a : PP P} (ha : a ≠ 0) : ∃ u v : PP P, mon a = u * a ∧ a = v * mon a ∧ (mon a).len = a.len ∧ Mo (mon a) := by
  have hl := lead_pos P.pos a.2 (ne_len ha)
  have hi := inv_is P.okp hl
  obtain ⟨k, hk⟩ : ∃ k : Nat, inv P.p (lead a.1) = k := ⟨(inv P.p (lead a.1)).toNat, by omega⟩
  have e1 : mon a = nsm k a := by unfold mon; rw [hk, Int.toNat_natCast]
  have e2 : mon a = nsm k 1 * a := by rw [e1, ppring.mul_comm, ppring.mul_nsm, ppring.mul_one]
  have hc : (mon a).c (a.len - 1) = 1 := by
    rw [e1, nsm_c, ← lead_c, ← hk, Int.mul_comm, hi.2.2]
  have hle : (mon a).len ≤ a.len := by rw [e1]; exact len_nsm k a
  have hpos := len_pos ha
  have hge : a.len - 1 < (mon a).len := by
    rcases Nat.lt_or_ge (a.len - 1) (mon a).len with h | h
    · exact h
    · have h0 : (mon a).c (a.len - 1) = 0 := rd_ge h
      rw [h0] at hc; omega
  have hlen : (mon a).len = a.len := by omega
  have hmo : Mo (mon a) := by
    unfold Mo
    rw [lead_c, hlen, hc]
  obtain ⟨l, hll⟩ : ∃ l : Nat, lead a.1 = l := ⟨(lead a.1).toNat, by omega⟩
  refine ⟨nsm k 1, nsm l 1, e2, ?_, hlen, hmo⟩
  have e3 : nsm l 1 * mon a = nsm l (mon a) := by rw [ppring.mul_comm, ppring.mul_nsm, ppring.mul_one]
  rw [e3, e1]
  refine pp_ext fun i => ?_
  have hki : (l : Int) * k % P.p = 1 := by rw [← hll, ← hk]; exact hi.2.2
  rw [nsm_c, nsm_c, Int.mul_emod, Int.emod_emod, ← Int.mul_emod, ← Int.mul_assoc, Int.mul_emod, hki, Int.one_mul, Int.emod_emod, a.c_mod]
theorem mon_len {a : PP P} (ha : a ≠ 0) : (mon a).len = a.len := by obtain ⟨u, v, _, _, h, _⟩ := mon_eq ha; exact h
theorem mon_mo {a : PP P} (ha : a ≠ 0) : Mo (mon a) := by obtain ⟨u, v, _, _, _, h⟩ := mon_eq ha; exact h
theorem mon_dv {a : PP P} (ha : a ≠ 0) : Dv a (mon a) ∧ Dv (mon a) a := by obtain ⟨u, v, h1, h2, _, _⟩ := mon_eq ha; exact ⟨⟨u, h1⟩, ⟨v, h2⟩⟩
end Go.Proofs.Ytebfhlnfmkhmcaa
/- Elimination: the least relation of a row of vectors. -/
namespace Go.Proofs.Ytebfhlnfmkhmcaa
open Go.Abs
variable {P : Pri}
/-- A multiple. -/
def smi (k : Int) (a : PP P) : PP P := ⟨comb P.p [] a.1 k, comb_row P.pos _ _ _⟩
theorem smi_c (k : Int) (a : PP P) (i : Nat) : (smi k a).c i = k * a.c i % P.p := by
  show rd (comb P.p [] a.1 k) i = _
  rw [comb_rd, rd_nil, Int.zero_add]; rfl
theorem cmb_eq (v b : PP P) (k : Int) : comb P.p v.1 b.1 k = (v + smi k b).1 := by
  apply row_ext (comb_row P.pos _ _ _) (v + smi k b).2
  intro i
  show rd (comb P.p v.1 b.1 k) i = (v + smi k b).c i
  rw [comb_rd, add_c, smi_c, Int.add_emod_emod]; rfl
theorem smi_len (k : Int) (a : PP P) : (smi k a).len ≤ a.len := by
  have := comb_len P.p [] a.1 k
  show (comb P.p [] a.1 k).length ≤ a.1.length
  simpa using this
theorem smi_add (k : Int) (a b : PP P) : smi k (a + b) = smi k a + smi k b := pp_ext fun i => by
  rw [smi_c, add_c, add_c, smi_c, smi_c, Int.mul_emod, Int.emod_emod, ← Int.mul_emod, Int.mul_add, Int.add_emod]
theorem smi_madd (k l : Int) (a : PP P) : smi ((k + l) % P.p) a = smi k a + smi l a := pp_ext fun i => by
  rw [smi_c, add_c, smi_c, smi_c, Int.mul_emod, Int.emod_emod, ← Int.mul_emod, Int.add_mul, Int.add_emod]
theorem smi_mod (k : Int) (a : PP P) : smi (k % P.p) a = smi k a := pp_ext fun i => by
  rw [smi_c, smi_c, Int.mul_emod, Int.emod_emod, ← Int.mul_emod]
theorem smi_mul (k l : Int) (a : PP P) : smi k (smi l a) = smi (k * l) a := pp_ext fun i => by
  rw [smi_c, smi_c, smi_c, Int.mul_emod, Int.emod_emod, ← Int.mul_emod, Int.mul_assoc]
theorem smi_zero (a : PP P) : smi 0 a = 0 := pp_ext fun i => by rw [smi_c, zero_c, Int.zero_mul]; rfl
theorem smi_z (k : Int) : smi k (0 : PP P) = 0 := pp_ext fun i => by rw [smi_c, zero_c, Int.mul_zero]; rfl
theorem smi_one (a : PP P) : smi 1 a = a := pp_ext fun i => by rw [smi_c, Int.one_mul, a.c_mod]
theorem neg_emod2 (x p : Int) : -x % p = -(x % p) % p := by
  have e : -(x % p) = -x + p * (x / p) := by have := Int.mul_ediv_add_emod x p; omega
  rw [e, Int.add_mul_emod_self_left]
theorem smi_neg (k : Int) (a : PP P) : smi (-k) a = -smi k a := pp_ext fun i => by
  rw [smi_c, neg_c, smi_c, Int.neg_mul]
  exact neg_emod2 _ _
theorem smi_nsm (k : Int) (a : PP P) : smi k a = nsm (k % P.p).toNat a := pp_ext fun i => by
  have := Int.emod_nonneg k (show P.p ≠ 0 by have := P.pos; omega)
  rw [smi_c, nsm_c, Int.toNat_of_nonneg this, Int.mul_emod (k % P.p) (a.c i), Int.emod_emod, ← Int.mul_emod]
/-- The inverse of what is not 0 modulo p. -/
theorem inv_of {c : Int} (h : c % P.p ≠ 0) : ∃ d : Int, c * d % P.p = 1 := by
  have h1 := Int.emod_nonneg c (show P.p ≠ 0 by have := P.pos; omega)
  have h2 := Int.emod_lt_of_pos c P.pos
  have hi := inv_is P.okp (x := c % P.p) ⟨by omega, h2⟩
  refine ⟨inv P.p (c % P.p), ?_⟩
  have h3 := hi.2.2
  rw [Int.mul_emod, Int.emod_emod, ← Int.mul_emod] at h3
  exact h3
theorem smi_ne {c : Int} {a : PP P} (hc : c % P.p ≠ 0) (h : smi c a = 0) : a = 0 := by
  obtain ⟨d, hd⟩ := inv_of hc
  have h1 : smi d (smi c a) = 0 := by rw [h, smi_z]
  rw [smi_mul, Int.mul_comm, ← smi_mod, hd, smi_one] at h1
  exact h1
/-- T to a power. -/
theorem mnl_row (k : Nat) : Row P.p (List.replicate k (0 : Int) ++ [1]) := by
  have hp := P.two
  refine ⟨fun d hd => ?_, fun _ => ?_⟩
  · rcases List.mem_append.1 hd with h | h
    · rw [List.eq_of_mem_replicate h]; omega
    · rw [List.mem_singleton.1 h]; omega
  · simp [rd]
def mnl (k : Nat) : PP P := ⟨List.replicate k 0 ++ [1], mnl_row k⟩
theorem mnl_len (k : Nat) : (mnl k : PP P).len = k + 1 := by
  show (List.replicate k (0 : Int) ++ [1]).length = _
  simp
theorem mnl_c (k i : Nat) : (mnl k : PP P).c i = if i = k then 1 else 0 := by
  show rd (List.replicate k (0 : Int) ++ [1]) i = _
  by_cases h : i < k
  · rw [if_neg (by omega)]
    simp [rd, List.getElem?_append, h]
  · by_cases h2 : i = k
    · subst h2; simp [rd]
    · rw [if_neg h2, rd_ge (by simp; omega)]

/-! Values at a row of vectors. -/
def evn (s : Nat → PP P) (b : PP P) : Nat → PP P
  | 0 => 0
  | n + 1 => evn s b n + smi (b.c n) (s n)
def evs (s : Nat → PP P) (b : PP P) : PP P := evn s b b.len
theorem evn_more (s : Nat → PP P) (b : PP P) : ∀ n, b.len ≤ n → evn s b n = evs s b := by
  intro n h
  obtain ⟨d, rfl⟩ : ∃ d, n = b.len + d := ⟨n - b.len, by omega⟩
  clear h
  induction d with
  | zero => rfl
  | succ d ih =>
    show evn s b (b.len + d) + smi (b.c (b.len + d)) (s (b.len + d)) = _
    have : b.c (b.len + d) = 0 := rd_ge (by show b.len ≤ _; omega)
    rw [ih, this, smi_zero, ppring.add_zero]
theorem pp4 (a b c d : PP P) : a + b + (c + d) = a + c + (b + d) := by
  rw [ppring.add_assoc, ppring.add_assoc, ← ppring.add_assoc b, ppring.add_comm b c, ppring.add_assoc c]
theorem evn_add (s : Nat → PP P) (a b : PP P) : ∀ n, evn s (a + b) n = evn s a n + evn s b n
  | 0 => (ppring.add_zero _).symm
  | n + 1 => by
    simp only [evn]
    rw [evn_add s a b n, add_c, smi_madd, pp4]
theorem evn_smi (s : Nat → PP P) (k : Int) (a : PP P) : ∀ n, evn s (smi k a) n = smi k (evn s a n)
  | 0 => (smi_z k).symm
  | n + 1 => by
    simp only [evn]
    rw [evn_smi s k a n, smi_c, smi_mod, smi_add, smi_mul]
theorem evs_add (s : Nat → PP P) (a b : PP P) : evs s (a + b) = evs s a + evs s b := by
  have := len_add a b
  rw [← evn_more s (a + b) (max a.len b.len) this, evn_add, evn_more s a _ (by omega), evn_more s b _ (by omega)]
theorem evs_smi (s : Nat → PP P) (k : Int) (a : PP P) : evs s (smi k a) = smi k (evs s a) := by
  rw [← evn_more s (smi k a) a.len (smi_len k a), evn_smi]
  rfl
theorem evn_mnl (s : Nat → PP P) (k : Nat) : ∀ n, evn s (mnl k) n = if k < n then s k else 0
  | 0 => rfl
  | n + 1 => by
    simp only [evn]
    rw [evn_mnl s k n, mnl_c]
    by_cases h1 : k < n
    · rw [if_pos h1, if_neg (by omega), if_pos (by omega), smi_zero, ppring.add_zero]
    · by_cases h2 : n = k
      · subst h2; rw [if_neg h1, if_pos rfl, if_pos (by omega), smi_one, ppring.zero_add]
      · rw [if_neg h1, if_neg h2, if_neg (by omega), smi_zero, ppring.add_zero]
theorem evs_mnl (s : Nat → PP P) (k : Nat) : evs s (mnl k) = s k := by
  show evn s (mnl k) (mnl k).len = _
  rw [mnl_len, evn_mnl, if_pos (by omega)]
/-- The monic relation of the least degree. -/
structure IsMin (s : Nat → PP P) (a : PP P) : Prop where
  mo : Mo a
  zero : evs s a = 0
  least : ∀ b, evs s b = 0 → b ≠ 0 → a.len ≤ b.len
theorem len_lt_of {a : PP P} {n : Nat} (h : a.len ≤ n + 1) (hc : a.c n = 0) : a.len ≤ n := by
  rcases Nat.lt_or_ge n a.len with h1 | h1
  · have e : a.len = n + 1 := by omega
    have hn : a.1.length ≠ 0 := by show a.len ≠ 0; omega
    have := a.2.nrm hn
    exact absurd hc (by
      show rd a.1 n ≠ 0
      have e2 : n = a.1.length - 1 := by show n = a.len - 1; omega
      rw [e2]; exact this)
  · exact h1
theorem IsMin.uniq {s : Nat → PP P} {a b : PP P} (ha : IsMin s a) (hb : IsMin s b) : a = b := by
  have h1 := ha.least b hb.zero hb.mo.ne
  have h2 := hb.least a ha.zero ha.mo.ne
  have hl : a.len = b.len := by omega
  have hp := len_pos ha.mo.ne
  have R : IsRing (PP P) := ppring
  refine R.sub_zero (Classical.byContradiction fun hne => ?_)
  have hz : evs s (a + -b) = 0 := by
    have e : -b = smi (-1) b := by rw [smi_neg, smi_one]
    rw [evs_add, ha.zero, e, evs_smi, hb.zero, smi_z, R.add_zero]
  have h3 := ha.least _ hz hne
  have h4 : (a + -b).len ≤ a.len - 1 := by
    refine len_lt_of (n := a.len - 1) ?_ ?_
    · have := len_add a (-b)
      have := len_neg b
      omega
    · rw [add_c, neg_c]
      have e1 : a.c (a.len - 1) = 1 := by rw [← lead_c]; exact ha.mo
      have e2 : b.c (a.len - 1) = 1 := by rw [hl, ← lead_c]; exact hb.mo
      rw [e1, e2, Int.add_emod_emod]
      rfl
  omega

/-! Elimination. -/
def Sp : List (PP P × PP P) → PP P → Prop
  | [], z => z = 0
  | q :: L, z => ∃ (c : Int) (z' : PP P), Sp L z' ∧ z = z' + smi c q.1
theorem Sp.zero : ∀ (L : List (PP P × PP P)), Sp L 0
  | [] => rfl
  | q :: L => ⟨0, 0, Sp.zero L, by rw [smi_zero, ppring.add_zero]⟩
theorem Sp.ins : ∀ (L1 : List (PP P × PP P)) {L2 : List (PP P × PP P)} {q : PP P × PP P} {z : PP P} (c : Int), Sp (L1 ++ L2) z → Sp (L1 ++ q :: L2) (z + smi c q.1)
  | [], _, _, _, c, h => ⟨c, _, h, rfl⟩
  | r :: L1, L2, q, z, c, ⟨d, z', h, e⟩ => ⟨d, z' + smi c q.1, Sp.ins L1 c h, by
    rw [e, ppring.add_assoc, ppring.add_assoc, ppring.add_comm (smi d r.1)]⟩
/-- Where all vectors are 0, so is what they span. -/
theorem Sp.at_ {i : Nat} : ∀ {L : List (PP P × PP P)} {z : PP P}, (∀ q ∈ L, q.1.c i = 0) → Sp L z → z.c i = 0
  | [], z, _, h => by
    have : z = 0 := h
    rw [this, zero_c]
  | q :: L, z, hq, ⟨c, z', h, e⟩ => by
    rw [e, add_c, smi_c, hq q (by simp), Int.mul_zero, Sp.at_ (fun r hr => hq r (by simp [hr])) h]
    rfl
def Ech (L : List (PP P × PP P)) : Prop := (∀ q ∈ L, q.1 ≠ 0) ∧ L.Pairwise fun q q' => q'.1.c (q.1.len - 1) = 0
theorem top_ne {a : PP P} (h : a ≠ 0) : a.c (a.len - 1) ≠ 0 := a.2.nrm (ne_len h)
theorem top_mod {a : PP P} (h : a ≠ 0) : a.c (a.len - 1) % P.p ≠ 0 := by rw [a.c_mod]; exact top_ne h
theorem mul_ne {c d : Int} (hc : c % P.p ≠ 0) (h : d * c % P.p = 0) : d % P.p = 0 := by
  obtain ⟨e, he⟩ := inv_of hc
  have h1 : d * (c * e) % P.p = 0 := by rw [← Int.mul_assoc, Int.mul_emod, h, Int.zero_mul]; rfl
  rw [Int.mul_emod, he, Int.mul_one, Int.emod_emod] at h1
  exact h1
theorem Sp.ech : ∀ {L : List (PP P × PP P)} {z : PP P}, Ech L → Sp L z → (∀ q ∈ L, z.c (q.1.len - 1) = 0) → z = 0
  | [], _, _, h, _ => h
  | q :: L, z, hE, ⟨c, z', h, e⟩, hz => by
    have hp := List.pairwise_cons.1 hE.2
    have h1 : z'.c (q.1.len - 1) = 0 := Sp.at_ (fun r hr => hp.1 r hr) h
    have h2 := hz q (by simp)
    rw [e, add_c, h1, Int.zero_add, smi_c, Int.emod_emod] at h2
    have h3 : c % P.p = 0 := mul_ne (top_mod (hE.1 q (by simp))) h2
    have h4 : z = z' := by rw [e, ← smi_mod, h3, smi_zero, ppring.add_zero]
    rw [h4]
    exact Sp.ech ⟨fun r hr => hE.1 r (by simp [hr]), hp.2⟩ h fun r hr => by rw [← h4]; exact hz r (by simp [hr])
structure Elim (s : Nat → PP P) (k : Nat) (L : List (PP P × PP P)) : Prop where
  vec : ∀ q ∈ L, q.1 = evs s q.2
  len : ∀ q ∈ L, q.2.len ≤ k
  ech : Ech L
  span : ∀ b : PP P, b.len ≤ k → Sp L (evs s b)
  ind : ∀ b : PP P, b.len ≤ k → evs s b = 0 → b = 0
  num : L.length = k
theorem Elim.start (s : Nat → PP P) : Elim s 0 [] := by
  refine ⟨fun _ h => (nomatch h), fun _ h => (nomatch h), ⟨fun _ h => (nomatch h), List.Pairwise.nil⟩, fun b hb => ?_, fun b hb _ => len_zero.1 (by omega), rfl⟩
  rw [len_zero.1 (show b.len = 0 by omega)]
  rfl
/-- What is left of a vector and its source. -/
inductive Red : List (PP P × PP P) → PP P → PP P → PP P → PP P → Prop
  | nil {v o : PP P} : Red [] v o v o
  | cons {q : PP P × PP P} {L : List (PP P × PP P)} {v o v' o' : PP P} (c : Int) : (v + smi c q.1).c (q.1.len - 1) = 0 → Red L (v + smi c q.1) (o + smi c q.2) v' o' → Red (q :: L) v o v' o'
theorem Red.props {s : Nat → PP P} {k : Nat} : ∀ {L : List (PP P × PP P)} {v o v' o' : PP P}, Red L v o v' o' → (∀ q ∈ L, q.1 = evs s q.2) → (∀ q ∈ L, q.2.len ≤ k) → L.Pairwise (fun q q' => q'.1.c (q.1.len - 1) = 0) → v = evs s o → o.len = k + 1 → o.c k = 1 →
    v' = evs s o' ∧ o'.len = k + 1 ∧ o'.c k = 1 ∧ (∀ q ∈ L, v'.c (q.1.len - 1) = 0) ∧ ∀ i, v.c i = 0 → (∀ q ∈ L, q.1.c i = 0) → v'.c i = 0 := by
  intro L v o v' o' h
  induction h with
  | nil => intro _ _ _ h1 h2 h3; exact ⟨h1, h2, h3, fun _ h => (nomatch h), fun i h _ => h⟩
  | @cons q L v o v' o' c hc hr ih =>
    intro hv hl hp h1 h2 h3
    have hp' := List.pairwise_cons.1 hp
    have hq := hv q (by simp)
    have hql := hl q (by simp)
    have e1 : v + smi c q.1 = evs s (o + smi c q.2) := by rw [evs_add, evs_smi, ← h1, ← hq]
    have hs := smi_len c q.2
    have e2 : (o + smi c q.2).len = k + 1 := by
      have hlt : (smi c q.2).len < o.len := by omega
      have a1 := len_add o (smi c q.2)
      have a2 := len_add (o + smi c q.2) (-(smi c q.2))
      have a3 := len_neg (smi c q.2)
      rw [ppring.add_assoc, ppring.add_neg, ppring.add_zero] at a2
      omega
    have e3 : (o + smi c q.2).c k = 1 := by
      have : (smi c q.2).c k = 0 := rd_ge (by show (smi c q.2).len ≤ k; omega)
      rw [add_c, h3, this]
      exact Int.emod_eq_of_lt (by omega) (by have := P.two; omega)
    obtain ⟨g1, g2, g3, g4, g5⟩ := ih (fun r hr => hv r (by simp [hr])) (fun r hr => hl r (by simp [hr])) hp'.2 e1 e2 e3
    refine ⟨g1, g2, g3, fun r hr => ?_, fun i hi hz => ?_⟩
    · rcases List.mem_cons.1 hr with rfl | hr
      · exact g5 _ hc fun t ht => hp'.1 t ht
      · exact g4 r hr
    · refine g5 i ?_ fun t ht => hz t (by simp [ht])
      rw [add_c, hi, smi_c, hz q (by simp), Int.mul_zero]
      rfl
theorem Elim.red {s : Nat → PP P} {k : Nat} {L : List (PP P × PP P)} (h : Elim s k L) {v o : PP P} (hr : Red L (s k) (mnl k) v o) : v = evs s o ∧ o.len = k + 1 ∧ o.c k = 1 ∧ ∀ q ∈ L, v.c (q.1.len - 1) = 0 := by
  obtain ⟨h1, h2, h3, h4, _⟩ := hr.props h.vec h.len h.ech.2 (evs_mnl s k).symm (mnl_len k) (by rw [mnl_c, if_pos rfl])
  exact ⟨h1, h2, h3, h4⟩
/-- A polynomial less a multiple of one of the greatest length. -/
theorem less_top {b o : PP P} {k : Nat} (hb : b.len ≤ k + 1) (ho : o.len ≤ k + 1) (hc : o.c k % P.p ≠ 0) : ∃ c : Int, (b + smi c o).len ≤ k ∧ (b.c k ≠ 0 → c % P.p ≠ 0) := by
  obtain ⟨d, hd⟩ := inv_of hc
  have hs := smi_len (-(b.c k * d)) o
  refine ⟨-(b.c k * d), len_lt_of (by have := len_add b (smi (-(b.c k * d)) o); omega) ?_, fun hne h0 => ?_⟩
  · rw [add_c, smi_c, Int.add_emod_emod]
    have e : b.c k + -(b.c k * d) * o.c k = b.c k + -(b.c k * (o.c k * d)) := by
      rw [Int.neg_mul, Int.mul_assoc, Int.mul_comm d]
    rw [e]
    have e2 : (b.c k * (o.c k * d)) % P.p = b.c k := by rw [Int.mul_emod, hd, Int.mul_one, Int.emod_emod, b.c_mod]
    have e3 : (b.c k + -(b.c k * (o.c k * d))) % P.p = (b.c k - b.c k * (o.c k * d)) % P.p := rfl
    rw [e3, Int.sub_emod, e2, b.c_mod, Int.sub_self]
    rfl
  · have h1 : (b.c k * d) % P.p = 0 := by
      have := Int.emod_emod_of_dvd (-(b.c k * d)) (Int.dvd_refl P.p)
      have hdv : P.p ∣ -(b.c k * d) := Int.dvd_of_emod_eq_zero h0
      exact Int.emod_eq_zero_of_dvd ((Int.dvd_neg).1 hdv)
    have h2 : b.c k % P.p = 0 := by
      have hdd : d % P.p ≠ 0 := fun hz => by
        rw [Int.mul_emod, hz, Int.mul_zero] at hd
        have := P.two
        have : (0 : Int) % P.p = 0 := Int.zero_emod _
        omega
      exact mul_ne hdd h1
    rw [b.c_mod] at h2
    exact hne h2
theorem Elim.done {s : Nat → PP P} {k : Nat} {L : List (PP P × PP P)} (h : Elim s k L) {o : PP P} (hr : Red L (s k) (mnl k) 0 o) : IsMin s o ∧ o.len = k + 1 := by
  obtain ⟨h1, h2, h3, _⟩ := h.red hr
  refine ⟨⟨?_, h1.symm, fun b hb hne => ?_⟩, h2⟩
  · show lead o.1 = 1
    rw [lead_c, h2]; exact h3
  · rcases Nat.lt_or_ge k b.len with hl | hl
    · omega
    · exact absurd (h.ind b hl hb) hne
theorem Elim.next {s : Nat → PP P} {k : Nat} {L1 L2 : List (PP P × PP P)} (h : Elim s k (L1 ++ L2)) {v o : PP P} (hr : Red (L1 ++ L2) (s k) (mnl k) v o) (hv : v ≠ 0) {u : Int} (hu : u % P.p ≠ 0) (h2 : ∀ q ∈ L2, q.1.c (v.len - 1) = 0) :
    Elim s (k + 1) (L1 ++ (smi u v, smi u o) :: L2) := by
  have R : IsRing (PP P) := ppring
  obtain ⟨r1, r2, r3, r4⟩ := h.red hr
  have hul : (smi u v).len = v.len := by
    obtain ⟨d, hd⟩ := inv_of hu
    have a := smi_len u v
    have b := smi_len d (smi u v)
    rw [smi_mul, Int.mul_comm, ← smi_mod, hd, smi_one] at b
    omega
  have hune : smi u v ≠ 0 := fun e => hv (smi_ne hu e)
  have hsp : ∀ b : PP P, b.len ≤ k + 1 → Sp (L1 ++ (smi u v, smi u o) :: L2) (evs s b) := fun b hb => by
    obtain ⟨c, hc, _⟩ := less_top (b := b) (o := smi u o) (k := k) hb (Nat.le_trans (smi_len u o) (by omega)) (by
      rw [smi_c, Int.emod_emod, r3, Int.mul_one]; exact hu)
    have h3 := h.span _ hc
    have h4 := Sp.ins L1 (q := (smi u v, smi u o)) (-c) h3
    have e : evs s (b + smi c (smi u o)) + smi (-c) (smi u v) = evs s b := by
      rw [evs_add, evs_smi, evs_smi, ← r1, smi_neg, R.add_assoc, R.add_neg, R.add_zero]
    rw [e] at h4
    exact h4
  refine ⟨fun q hq => ?_, fun q hq => ?_, ⟨fun q hq => ?_, ?_⟩, hsp, fun b hb hz => ?_, ?_⟩
  · rcases List.mem_append.1 hq with h1 | h1
    · exact h.vec q (List.mem_append.2 (.inl h1))
    · rcases List.mem_cons.1 h1 with rfl | h1
      · show smi u v = evs s (smi u o)
        rw [evs_smi, ← r1]
      · exact h.vec q (List.mem_append.2 (.inr h1))
  · rcases List.mem_append.1 hq with h1 | h1
    · have := h.len q (List.mem_append.2 (.inl h1)); omega
    · rcases List.mem_cons.1 h1 with rfl | h1
      · have := smi_len u o
        show (smi u o).len ≤ k + 1
        omega
      · have := h.len q (List.mem_append.2 (.inr h1)); omega
  · rcases List.mem_append.1 hq with h1 | h1
    · exact h.ech.1 q (List.mem_append.2 (.inl h1))
    · rcases List.mem_cons.1 h1 with rfl | h1
      · exact hune
      · exact h.ech.1 q (List.mem_append.2 (.inr h1))
  · have hp := List.pairwise_append.1 h.ech.2
    rw [List.pairwise_append]
    refine ⟨hp.1, List.pairwise_cons.2 ⟨fun q hq => ?_, hp.2.1⟩, fun a ha b hb => ?_⟩
    · show q.1.c ((smi u v).len - 1) = 0
      rw [hul]; exact h2 q hq
    · rcases List.mem_cons.1 hb with rfl | hb
      · show (smi u v).c (a.1.len - 1) = 0
        rw [smi_c, r4 a (List.mem_append.2 (.inl ha)), Int.mul_zero]
        rfl
      · exact hp.2.2 a ha b hb
  · by_cases hbk : b.c k = 0
    · exact h.ind b (len_lt_of hb hbk) hz
    · exfalso
      have hr3 : o.c k % P.p ≠ 0 := by
        rw [r3, Int.emod_eq_of_lt (by omega) (by have := P.two; omega)]; omega
      obtain ⟨c, hc, hcn⟩ := less_top (b := b) (o := o) (k := k) hb (by omega) hr3
      have h3 := h.span _ hc
      have e : evs s (b + smi c o) = smi c v := by rw [evs_add, hz, evs_smi, ← r1, R.zero_add]
      rw [e] at h3
      have h4 := Sp.ech h.ech h3 fun q hq => by rw [smi_c, r4 q hq, Int.mul_zero]; rfl
      exact hv (smi_ne (hcn hbk) h4)
  · have := h.num
    simp only [List.length_append, List.length_cons] at this ⊢
    omega
/-- There are at most as many steps as there are places. -/
theorem Ech.bound : ∀ (n : Nat) (L : List (PP P × PP P)), Ech L → (∀ q ∈ L, q.1.len ≤ n) → L.length ≤ n := by
  intro n L hE hl
  have hn : (L.map fun q => q.1.len - 1).Nodup := by
    unfold List.Nodup
    rw [List.pairwise_map]
    refine List.Pairwise.imp_of_mem ?_ hE.2
    intro a b ha hb hab e
    have := top_ne (hE.1 b hb)
    rw [← e] at this
    exact this hab
  have hsub : ∀ x ∈ L.map (fun q => q.1.len - 1), x < n := fun x hx => by
    obtain ⟨q, hq, rfl⟩ := List.mem_map.1 hx
    have := hl q hq
    have := len_pos (hE.1 q hq)
    omega
  have key : ∀ (n : Nat) (l : List Nat), l.Nodup → (∀ x ∈ l, x < n) → l.length ≤ n := by
    intro n
    induction n with
    | zero =>
      intro l _ h
      cases l with
      | nil => simp
      | cons x l => exact absurd (h x (by simp)) (by omega)
    | succ n ih =>
      intro l hl h
      have h1 := ih (l.filter (fun x => x != n)) (hl.filter _) (fun x hx => by
        have h2 := List.mem_filter.1 hx
        have h3 := h x h2.1
        have h4 : x ≠ n := by simpa using h2.2
        omega)
      have h2 : l.length ≤ (l.filter (fun x => x != n)).length + 1 := by
        clear h1 ih h
        induction l with
        | nil => simp
        | cons x l ih2 =>
          have hx := List.nodup_cons.1 hl
          by_cases e : x = n
          · subst e
            have : l.filter (fun y => y != x) = l := List.filter_eq_self.2 fun y hy => by
              have : y ≠ x := fun e => hx.1 (e ▸ hy)
              simpa using this
            simp [this]
          · have := ih2 hx.2
            simp [e]; omega
      omega
  have := key n _ hn hsub
  rw [List.length_map] at this
  exact this
end Go.Proofs.Ytebfhlnfmkhmcaa
/- T times a polynomial, coefficient by coefficient. -/
namespace Go.Proofs.Ytebfhlnfmkhmcaa
open Go.Abs
variable {P : Pri}
theorem T_c (a : PP P) (i : Nat) : (ppT * a).c i = if 1 ≤ i then a.c (i - 1) else 0 := by
  rw [mul_c]
  have e : conv (PP.c (ppT : PP P)) a.c i = if 1 ≤ i then a.c (i - 1) else 0 := conv_T _ i
  rw [e]
  split
  · exact a.c_mod _
  · rfl
end Go.Proofs.Ytebfhlnfmkhmcaa
/- Annihilators: polynomials that act by an additive map; a vector whose annihilator is that of all. -/
namespace Go.Proofs.Ytebfhlnfmkhmcaa
open Go.Abs
variable {P : Pri}
theorem sp_bound {s : Nat → PP P} {N k : Nat} {L : List (PP P × PP P)} (h : Elim s k L) (hs : ∀ b, (evs s b).len ≤ N) : k ≤ N := by
  rw [← h.num]
  exact Ech.bound N L h.ech fun q hq => by rw [h.vec q hq]; exact hs _
theorem red_ex {L : List (PP P × PP P)} : (∀ q ∈ L, q.1 ≠ 0) → ∀ v o : PP P, ∃ v' o', Red L v o v' o' := by
  induction L with
  | nil => intro _ v o; exact ⟨v, o, .nil⟩
  | cons q L ih =>
    intro hq v o
    obtain ⟨d, hd⟩ := inv_of (top_mod (hq q (by simp)))
    obtain ⟨v', o', h⟩ := ih (fun r hr => hq r (by simp [hr])) (v + smi (-(v.c (q.1.len - 1) * d)) q.1) (o + smi (-(v.c (q.1.len - 1) * d)) q.2)
    refine ⟨v', o', .cons _ ?_ h⟩
    rw [add_c, smi_c, Int.add_emod_emod, Int.neg_mul, Int.mul_assoc, Int.mul_comm d]
    have e2 : (v.c (q.1.len - 1) * (q.1.c (q.1.len - 1) * d)) % P.p = v.c (q.1.len - 1) := by rw [Int.mul_emod, hd, Int.mul_one, Int.emod_emod, v.c_mod]
    have e3 : ∀ x y : Int, (x + -y) % P.p = (x - y) % P.p := fun _ _ => rfl
    rw [e3, Int.sub_emod, e2, v.c_mod, Int.sub_self]
    rfl
theorem min_ex {s : Nat → PP P} {N : Nat} (hs : ∀ b, (evs s b).len ≤ N) : ∃ a : PP P, IsMin s a ∧ a.len ≤ N + 1 := by
  have key : ∀ (n k : Nat) (L : List (PP P × PP P)), k + n = N + 1 → Elim s k L → ∃ a : PP P, IsMin s a ∧ a.len ≤ N + 1 := by
    intro n
    induction n with
    | zero => intro k L hk h; have := sp_bound h hs; omega
    | succ n ih =>
      intro k L hk h
      obtain ⟨v, o, hr⟩ := red_ex (fun q hq => h.ech.1 q hq) (s k) (mnl k)
      by_cases hv : v = 0
      · subst hv
        obtain ⟨h1, h2⟩ := h.done hr
        exact ⟨o, h1, by omega⟩
      · have h' : Elim s k (L ++ []) := by rw [List.append_nil]; exact h
        have hr' : Red (L ++ []) (s k) (mnl k) v o := by rw [List.append_nil]; exact hr
        exact ih (k + 1) _ (by omega) (h'.next hr' hv (u := 1) (by rw [Int.emod_eq_of_lt (by omega) (by have := P.two; omega)]; omega) (fun _ h => nomatch h))
  exact key (N + 1) 0 [] (by omega) (Elim.start s)

/-! Actions. -/
def itf (f : PP P → PP P) : Nat → PP P → PP P
  | 0, x => x
  | k + 1, x => f (itf f k x)
def ev (f : PP P → PP P) (b x : PP P) : PP P := evs (fun k => itf f k x) b
section
variable {f : PP P → PP P} (hf : ∀ x y, f (x + y) = f x + f y)
include hf
theorem f_zero : f 0 = 0 := by
  have R : IsRing (PP P) := ppring
  have h := hf 0 0
  rw [R.add_zero] at h
  refine R.cancel (a := f 0) ?_
  rw [R.add_zero]
  exact h.symm
theorem f_nsm (n : Nat) (x : PP P) : f (nsm n x) = nsm n (f x) := by
  induction n with
  | zero => exact f_zero hf
  | succ n ih => simp only [nsm]; rw [hf, ih]
theorem f_smi (k : Int) (x : PP P) : f (smi k x) = smi k (f x) := by rw [smi_nsm, f_nsm hf, ← smi_nsm]
theorem itf_add (x y : PP P) : ∀ k, itf f k (x + y) = itf f k x + itf f k y
  | 0 => rfl
  | k + 1 => by simp only [itf]; rw [itf_add x y k, hf]
theorem ev_addx (b x y : PP P) : ev f b (x + y) = ev f b x + ev f b y := by
  unfold ev evs
  generalize b.len = n
  induction n with
  | zero => exact (ppring.add_zero _).symm
  | succ n ih => simp only [evn]; rw [ih, itf_add hf, smi_add, pp4]
theorem ev_zx (b : PP P) : ev f b 0 = 0 := f_zero (ev_addx hf b)
theorem ev_smix (b : PP P) (k : Int) (x : PP P) : ev f b (smi k x) = smi k (ev f b x) := f_smi (ev_addx hf b) k x
theorem ev_T (b x : PP P) : ev f (ppT * b) x = f (ev f b x) := by
  have key : ∀ n, evn (fun k => itf f k x) (ppT * b) (n + 1) = f (evn (fun k => itf f k x) b n) := by
    intro n
    induction n with
    | zero =>
      show (0 : PP P) + smi ((ppT * b).c 0) _ = f 0
      rw [T_c, if_neg (by omega), smi_zero, ppring.add_zero, f_zero hf]
    | succ n ih =>
      show evn _ (ppT * b) (n + 1) + smi ((ppT * b).c (n + 1)) (itf f (n + 1) x) = f (evn _ b n + smi (b.c n) (itf f n x))
      rw [ih, T_c, if_pos (by omega), hf, f_smi hf, Nat.add_sub_cancel]
      rfl
  have hl : (ppT * b).len ≤ b.len + 1 := by
    have : (ppT * b).len ≤ (ppT : PP P).len + b.len - 1 := mul_len _ _ _
    have h2 : (ppT : PP P).len = 2 := rfl
    omega
  unfold ev
  rw [← evn_more _ (ppT * b) (b.len + 1) hl, key]
  rfl
omit hf in
theorem ev_add (a b x : PP P) : ev f (a + b) x = ev f a x + ev f b x := evs_add _ _ _
omit hf in
theorem ev_one (x : PP P) : ev f 1 x = x := evs_mnl (fun k => itf f k x) 0
theorem ev_mul (a b x : PP P) : ev f (a * b) x = ev f a (ev f b x) := by
  refine pp_ind (S := fun a => ev f (a * b) x = ev f a (ev f b x)) ?_ (fun a h => ?_) (fun a h => ?_) a
  · rw [ppring.zero_mul]; rfl
  · rw [ppring.mul_assoc, ev_T hf, h, ev_T hf]
  · rw [ppring.add_mul, ppring.one_mul, ev_add, h, ev_add, ev_one]
/-- The annihilator of x. -/
def An (f : PP P → PP P) (x a : PP P) : Prop := IsMin (fun k => itf f k x) a
theorem An.dv {x a : PP P} (h : An f x a) (b : PP P) : ev f b x = 0 ↔ Dv a b := by
  constructor
  · intro hb
    obtain ⟨h1, h2⟩ := pdiv b h.mo.ne
    rw [← prem_iff h.mo.ne]
    refine Classical.byContradiction fun hne => ?_
    have h3 : ev f (prem b a) x = 0 := by
      rw [h1, ev_add, ev_mul hf, show ev f a x = 0 from h.zero, ev_zx hf, ppring.zero_add] at hb
      exact hb
    have := h.least _ h3 hne
    omega
  · rintro ⟨q, rfl⟩
    rw [ev_mul hf, show ev f a x = 0 from h.zero, ev_zx hf]
end

/-! Divisors. -/
theorem lcm_dv {a b g l u v a' b' : PP P} (hg0 : g ≠ 0) (hg : g = u * a + v * b) (ha : a = g * a') (hb : b = g * b') (hl : a * b = g * l) (c : PP P) : Dv l c ↔ Dv a c ∧ Dv b c := by
  have R : IsRing (PP P) := ppring
  have cn : ∀ x y : PP P, g * x = g * y → x = y := fun x y e => by
    have : g * (x + -y) = 0 := by rw [R.mul_add, R.mul_neg, e, R.add_neg]
    exact R.sub_zero ((pp_dom _ _ this).resolve_left hg0)
  have l1 : l = a' * b := cn _ _ (by rw [← hl, ← R.mul_assoc, ← ha])
  have l2 : l = a * b' := cn _ _ (by rw [← hl, hb, ← R.mul_assoc, ← R.mul_assoc, R.mul_comm a])
  constructor
  · rintro ⟨q, rfl⟩
    exact ⟨⟨q * b', by rw [l2, R.mul_comm a, R.mul_assoc]⟩, ⟨q * a', by rw [l1, R.mul_assoc]⟩⟩
  · rintro ⟨⟨x, hx⟩, ⟨y, hy⟩⟩
    refine ⟨u * y + v * x, cn _ _ ?_⟩
    have e1 : u * a * c = a * b * (u * y) := by rw [hy, R.mul_comm (a * b), R.mul_assoc, R.mul_assoc, R.mul_left_comm a, R.mul_comm y]
    have e2 : v * b * c = a * b * (v * x) := by rw [hx, R.mul_comm (a * b), R.mul_assoc, R.mul_assoc, R.mul_left_comm b, R.mul_comm b a]
    have e3 : g * c = u * a * c + v * b * c := by
      have := congrArg (· * c) hg
      simp only [R.add_mul] at this
      exact this
    rw [e3, e1, e2, ← R.mul_add, hl, R.mul_comm (u * y + v * x), ← R.mul_assoc]
theorem maxpow {π : PP P} (hπ : Irr π) : ∀ (n : Nat) (b : PP P), b.len ≤ n → b ≠ 0 → ∃ e b1, b = pw π e * b1 ∧ ¬ Dv π b1
  | 0, b, h, hb => absurd (len_zero.1 (by omega)) hb
  | n + 1, b, h, hb => by
    have R : IsRing (PP P) := ppring
    by_cases hd : Dv π b
    · obtain ⟨q, rfl⟩ := hd
      have hq : q ≠ 0 := fun e => hb (by rw [e, R.zero_mul])
      have := len_mul hq hπ.ne
      have := hπ.1
      obtain ⟨e, b1, h1, h2⟩ := maxpow hπ n q (by have := len_pos hq; omega) hq
      refine ⟨e + 1, b1, ?_, h2⟩
      have h3 : pw π (e + 1) = pw π e * π := rfl
      rw [h3, R.mul_assoc, R.mul_comm π b1, ← R.mul_assoc, ← h1]
    · exact ⟨0, b, by show b = 1 * b; rw [R.one_mul], hd⟩
theorem cop_pow {π c : PP P} (hπ : Irr π) (hc : ¬ Dv π c) : ∀ e, ∃ u v, u * c + v * pw π e = 1
  | 0 => ⟨0, 1, by rw [ppring.zero_mul, ppring.zero_add, ppring.one_mul]; rfl⟩
  | e + 1 => by
    have R : IsRing (PP P) := ppring
    obtain ⟨u, v, h⟩ := cop_pow hπ hc e
    obtain ⟨u', v', h'⟩ := hπ.coprime hc
    refine ⟨u + v * pw π e * u', v * v', ?_⟩
    have e1 : pw π (e + 1) = pw π e * π := rfl
    have e2 : v * pw π e * (u' * c + v' * π) = v * pw π e := by rw [h', R.mul_one]
    have e3 : v * v' * (pw π e * π) = v * pw π e * (v' * π) := by
      rw [R.mul_assoc, R.mul_assoc]
      congr 1
      rw [R.mul_left_comm]
    rw [e1, R.add_mul, R.mul_assoc (v * pw π e), R.add_assoc, e3, ← R.mul_add, e2, h]
theorem cop_dv {π c b : PP P} (hπ : Irr π) (hc : ¬ Dv π c) (e : Nat) (h : Dv c (pw π e * b)) : Dv c b := by
  have R : IsRing (PP P) := ppring
  obtain ⟨u, v, h1⟩ := cop_pow hπ hc e
  have h2 : b = u * b * c + v * (pw π e * b) := by
    have := congrArg (· * b) h1
    simp only [R.add_mul, R.one_mul] at this
    have t : u * b * c + v * (pw π e * b) = b := by
      rw [R.mul_assoc u b c, R.mul_comm b c, ← R.mul_assoc, ← R.mul_assoc]; exact this
    exact t.symm
  rw [h2]
  exact R.dv_add (R.dv_mul (R.dv_refl c) _) (R.dv_mul h v)
theorem cop_mul {π c b : PP P} (hπ : Irr π) (hc : ¬ Dv π c) (e : Nat) (h1 : Dv c b) (h2 : Dv (pw π e) b) : Dv (c * pw π e) b := by
  have R : IsRing (PP P) := ppring
  obtain ⟨q, rfl⟩ := h2
  obtain ⟨r, hr⟩ := cop_dv hπ hc e (b := q) (by rw [R.mul_comm]; exact h1)
  exact ⟨r, by rw [hr, R.mul_assoc]⟩
theorem pp_split : ∀ (n : Nat) (b a : PP P), b.len ≤ n → b ≠ 0 → ¬ Dv b a → ∃ π e, Irr π ∧ Dv (pw π e) b ∧ ¬ Dv (pw π e) a
  | 0, b, a, h, hb, _ => absurd (len_zero.1 (by omega)) hb
  | n + 1, b, a, h, hb, hd => by
    have R : IsRing (PP P) := ppring
    have hp := len_pos hb
    by_cases h1 : b.len = 1
    · exact absurd (dv_unit h1 a) hd
    · obtain ⟨π, hπ, hπb⟩ := exists_irr _ b (Nat.le_refl _) (by omega)
      obtain ⟨e, b1, hbe, hb1⟩ := maxpow hπ _ b (Nat.le_refl _) hb
      have he : e ≠ 0 := fun e0 => by
        subst e0
        have : b = 1 * b1 := hbe
        rw [R.one_mul] at this
        exact hb1 (this ▸ hπb)
      by_cases h2 : Dv (pw π e) a
      · have hb10 : b1 ≠ 0 := fun e0 => hb (by rw [hbe, e0, R.mul_zero])
        have hpw0 : pw π e ≠ 0 := fun e0 => hb (by rw [hbe, e0, R.zero_mul])
        have hl : b1.len < b.len := by
          have h3 := len_mul hpw0 hb10
          rw [← hbe] at h3
          have h4 : 2 ≤ (pw π e).len := by
            obtain ⟨e', rfl⟩ : ∃ e', e = e' + 1 := ⟨e - 1, by omega⟩
            have h5 : pw π (e' + 1) = pw π e' * π := rfl
            have h6 : pw π e' ≠ 0 := fun z => hpw0 (by rw [h5, z, R.zero_mul])
            have h7 := len_mul h6 hπ.ne
            have := len_pos h6
            have := hπ.1
            rw [h5]; omega
          have := len_pos hb10
          omega
        have h3 : ¬ Dv b1 a := fun h3 => by
          obtain ⟨a1, rfl⟩ := h2
          have h4 : Dv b1 a1 := cop_dv hπ hb1 e (by rw [R.mul_comm]; exact h3)
          obtain ⟨q, rfl⟩ := h4
          exact hd ⟨q, by rw [hbe, R.mul_assoc, R.mul_comm b1]⟩
        obtain ⟨π', e', g1, g2, g3⟩ := pp_split n b1 a (by omega) hb10 h3
        exact ⟨π', e', g1, R.dv_trans g2 ⟨pw π e, hbe⟩, g3⟩
      · exact ⟨π, e, hπ, ⟨b1, by rw [R.mul_comm]; exact hbe⟩, h2⟩

/-! A vector whose annihilator kills all. -/
section
variable {f : PP P → PP P} (hf : ∀ x y, f (x + y) = f x + f y) {N : Nat} (hN : ∀ x : PP P, x.len ≤ N → (f x).len ≤ N)
include hf hN
theorem ev_len (b : PP P) {x : PP P} (hx : x.len ≤ N) : (ev f b x).len ≤ N := by
  have _ := hf
  have hi : ∀ k, (itf f k x).len ≤ N := fun k => by
    induction k with
    | zero => exact hx
    | succ k ih => exact hN _ ih
  unfold ev evs
  generalize b.len = n
  induction n with
  | zero => exact Nat.zero_le _
  | succ n ih =>
    have h1 := len_add (evn (fun k => itf f k x) b n) (smi (b.c n) (itf f n x))
    have h2 := smi_len (b.c n) (itf f n x)
    have h3 := hi n
    simp only [evn]
    omega
theorem an_ex {x : PP P} (hx : x.len ≤ N) : ∃ a : PP P, An f x a ∧ a.len ≤ N + 1 := min_ex fun b => ev_len hf hN b hx
theorem cyclic : ∃ z a : PP P, z.len ≤ N ∧ An f z a ∧ ∀ y : PP P, y.len ≤ N → ev f a y = 0 := by
  have R : IsRing (PP P) := ppring
  -- one of the greatest length
  have hmax : ∃ z a : PP P, z.len ≤ N ∧ An f z a ∧ ∀ y b : PP P, y.len ≤ N → An f y b → b.len ≤ a.len := by
    have key : ∀ (n : Nat) (z a : PP P), z.len ≤ N → An f z a → N + 1 - a.len ≤ n → ∃ z a : PP P, z.len ≤ N ∧ An f z a ∧ ∀ y b : PP P, y.len ≤ N → An f y b → b.len ≤ a.len := by
      intro n
      induction n with
      | zero =>
        intro z a hz ha hn
        refine ⟨z, a, hz, ha, fun y b hy hb => ?_⟩
        obtain ⟨b', hb', hl⟩ := an_ex hf hN hy
        rw [hb.uniq hb']
        omega
      | succ n ih =>
        intro z a hz ha hn
        by_cases h : ∀ y b : PP P, y.len ≤ N → An f y b → b.len ≤ a.len
        · exact ⟨z, a, hz, ha, h⟩
        · obtain ⟨y, b, hy, hb, hl⟩ : ∃ y b : PP P, y.len ≤ N ∧ An f y b ∧ ¬ b.len ≤ a.len := by
            refine Classical.byContradiction fun hn => h fun y b hy hb => Classical.byContradiction fun hl => hn ⟨y, b, hy, hb, hl⟩
          exact ih y b hy hb (by omega)
    obtain ⟨a, ha, _⟩ := an_ex hf hN (x := 0) (Nat.zero_le _)
    exact key _ 0 a (Nat.zero_le _) ha (Nat.le_refl _)
  obtain ⟨x, a, hx, ha, hm⟩ := hmax
  refine ⟨x, a, hx, ha, fun y hy => ?_⟩
  obtain ⟨b, hb, _⟩ := an_ex hf hN hy
  rw [hb.dv hf]
  refine Classical.byContradiction fun hd => ?_
  obtain ⟨π, e, hπ, he1, he2⟩ := pp_split _ b a (Nat.le_refl _) hb.mo.ne hd
  obtain ⟨t, c, hac, hcπ⟩ := maxpow hπ _ a (Nat.le_refl _) ha.mo.ne
  obtain ⟨d, hbd⟩ := he1
  have ha0 := ha.mo.ne
  have hpt : pw π t ≠ 0 := fun e0 => ha0 (by rw [hac, e0, R.zero_mul])
  have hc0 : c ≠ 0 := fun e0 => ha0 (by rw [hac, e0, R.mul_zero])
  have hd0 : d ≠ 0 := fun e0 => hb.mo.ne (by rw [hbd, e0, R.zero_mul])
  have cn : ∀ k x y : PP P, k ≠ 0 → k * x = k * y → x = y := fun k x y hk e => by
    have : k * (x + -y) = 0 := by rw [R.mul_add, R.mul_neg, e, R.add_neg]
    exact R.sub_zero ((pp_dom _ _ this).resolve_left hk)
  have hx' : ∀ q, ev f q (ev f (pw π t) x) = 0 ↔ Dv c q := fun q => by
    rw [← ev_mul hf, ha.dv hf]
    constructor
    · rintro ⟨r, hr⟩
      exact ⟨r, cn (pw π t) _ _ hpt (by rw [R.mul_comm, hr, hac, R.mul_left_comm])⟩
    · rintro ⟨r, rfl⟩
      exact ⟨r, by rw [hac, R.mul_assoc, R.mul_comm c]⟩
  have hy' : ∀ q, ev f q (ev f d y) = 0 ↔ Dv (pw π e) q := fun q => by
    rw [← ev_mul hf, hb.dv hf]
    constructor
    · rintro ⟨r, hr⟩
      exact ⟨r, cn d _ _ hd0 (by rw [R.mul_comm, hr, hbd, R.mul_left_comm])⟩
    · rintro ⟨r, rfl⟩
      exact ⟨r, by rw [hbd, R.mul_assoc, R.mul_comm (pw π e)]⟩
  have hzl : (ev f (pw π t) x + ev f d y).len ≤ N := by
    have h1 := len_add (ev f (pw π t) x) (ev f d y)
    have h2 := ev_len hf hN (pw π t) hx
    have h3 := ev_len hf hN d hy
    omega
  obtain ⟨g, hg, _⟩ := an_ex hf hN hzl
  have hgz : ev f g (ev f (pw π t) x) + ev f g (ev f d y) = 0 := by
    have := hg.zero
    rw [← ev_addx hf]; exact this
  have h1 : Dv c g := by
    refine cop_dv hπ hcπ e ?_
    rw [← hx', ev_mul hf]
    have h2 : ev f (pw π e) (ev f g (ev f (pw π t) x)) + ev f (pw π e) (ev f g (ev f d y)) = 0 := by rw [← ev_addx hf, hgz, ev_zx hf]
    have h3 : ev f (pw π e) (ev f g (ev f d y)) = 0 := by
      rw [← ev_mul hf, hy']
      exact ⟨g, R.mul_comm _ _⟩
    rw [h3, R.add_zero] at h2
    exact h2
  have h2 : Dv (pw π e) g := by
    rw [← hy']
    have h3 := (hx' g).2 h1
    rw [h3, R.zero_add] at hgz
    exact hgz
  have h3 := dv_len (cop_mul hπ hcπ e h1 h2) hg.mo.ne
  have h4 := hm _ g hzl hg
  have hpe : pw π e ≠ 0 := fun e0 => hb.mo.ne (by rw [hbd, e0, R.mul_zero])
  have h5 := len_mul hc0 hpe
  have h6 := len_mul hpt hc0
  rw [← hac] at h6
  have hlt : t < e := by
    rcases Nat.lt_or_ge t e with h | h
    · exact h
    · exfalso
      apply he2
      obtain ⟨k, rfl⟩ : ∃ k, t = e + k := ⟨t - e, by omega⟩
      exact ⟨pw π k * c, by rw [hac, R.pw_add, R.mul_assoc, R.mul_comm (pw π k * c)]⟩
  have hmono : ∀ i j, i < j → pw π j ≠ 0 → (pw π i).len < (pw π j).len := by
    intro i j hij hj
    obtain ⟨k, rfl⟩ : ∃ k, j = i + (k + 1) := ⟨j - i - 1, by omega⟩
    have e1 : pw π (i + (k + 1)) = pw π i * pw π (k + 1) := R.pw_add _ _ _
    have h7 : pw π i ≠ 0 := fun z => hj (by rw [e1, z, R.zero_mul])
    have h8 : pw π (k + 1) ≠ 0 := fun z => hj (by rw [e1, z, R.mul_zero])
    have e2 : pw π (k + 1) = pw π k * π := rfl
    have h9 : pw π k ≠ 0 := fun z => h8 (by rw [e2, z, R.zero_mul])
    have h10 := len_mul h9 hπ.ne
    have h11 := len_mul h7 h8
    have := len_pos h9
    have := len_pos h7
    have := hπ.1
    rw [e1]
    rw [← e2] at h10
    omega
  have h7 := hmono t e hlt hpe
  have := len_pos hc0
  have := len_pos hpt
  omega
end
end Go.Proofs.Ytebfhlnfmkhmcaa
/- Rests of products and powers. -/
namespace Go.Proofs.Ytebfhlnfmkhmcaa
open Go.Abs

variable {P : Pri}
theorem restI {a b : PP P} (hb : b ≠ 0) (la : a.len ≤ 500000) (lb : b.len ≤ 500000) : impl_prime_rest P.p a.1 b.1 = some (prem a b).1 := by
  simp only [impl_prime_rest, pdivI hb la lb, Option.bind_some]

/-! Rests. -/
theorem prem_len (a : PP P) {m : PP P} (hm : m ≠ 0) : (prem a m).len < m.len := (pdiv a hm).2
theorem prem_of {a m r : PP P} (q : PP P) (hm : m ≠ 0) (h : a = q * m + r) (hr : r.len < m.len) : prem a m = r := (quo_is hm h hr).2
theorem prem_add_mul (a c : PP P) {m : PP P} (hm : m ≠ 0) : prem (a + c * m) m = prem a m := by
  refine prem_of (pquo a m + c) hm ?_ (prem_len a hm)
  have h := (pdiv a hm).1
  rw [ppring.add_mul]
  conv => lhs; rw [h]
  rw [ppring.add_assoc, ppring.add_assoc, ppring.add_comm (prem a m)]
theorem prem_small {a m : PP P} (h : a.len < m.len) : prem a m = a := by
  have hm : m ≠ 0 := fun e => by rw [len_zero.2 e] at h; omega
  exact prem_of 0 hm (by rw [ppring.zero_mul, ppring.zero_add]) h
theorem prem_mul_l (a b : PP P) {m : PP P} (hm : m ≠ 0) : prem (prem a m * b) m = prem (a * b) m := by
  have h := (pdiv a hm).1
  have e : a * b = prem a m * b + (pquo a m * b) * m := by
    conv => lhs; rw [h]
    rw [ppring.add_mul, ppring.add_comm, ppring.mul_assoc, ppring.mul_assoc, ppring.mul_comm m b]
  rw [e, prem_add_mul _ _ hm]
theorem prem_mul_r (a b : PP P) {m : PP P} (hm : m ≠ 0) : prem (a * prem b m) m = prem (a * b) m := by
  rw [ppring.mul_comm, prem_mul_l _ _ hm, ppring.mul_comm]
theorem prem_mul (a b : PP P) {m : PP P} (hm : m ≠ 0) : prem (prem a m * prem b m) m = prem (a * b) m := by
  rw [prem_mul_l _ _ hm, prem_mul_r _ _ hm]
theorem prem_add (a b : PP P) {m : PP P} (hm : m ≠ 0) : prem (a + b) m = prem a m + prem b m := by
  have h1 := (pdiv a hm).1
  have h2 := (pdiv b hm).1
  refine prem_of (pquo a m + pquo b m) hm ?_ ?_
  · conv => lhs; rw [h1, h2]
    rw [ppring.add_mul]
    simp only [ppring.add_assoc]
    rw [ppring.add_left_comm (prem a m)]
  · have := len_add (prem a m) (prem b m)
    have := prem_len a hm
    have := prem_len b hm
    omega
theorem pw_two (a : PP P) (k : Nat) : pw (a * a) k = pw a (2 * k) := by
  rw [ppring.pw_mul]
  congr 1
  simp only [pw, ppring.one_mul]
end Go.Proofs.Ytebfhlnfmkhmcaa
/- One. -/
namespace Go.Proofs.Ytebfhlnfmkhmcaa
open Go.Abs

theorem row_one {p : Int} (hp : 2 ≤ p) : Row p [1] := ⟨by simp; omega, by simp [rd]⟩
theorem one_is : spec_l01One = some (pad [1]) := by
  unfold spec_l01One
  congr 1
end Go.Proofs.Ytebfhlnfmkhmcaa
/- Primes. -/
namespace Go.Proofs.Ytebfhlnfmkhmcaa
open Go.Abs

theorem isPrime_spec (p : Int) : spec_l01Prime p = some (isP p) := by
  unfold spec_l01Prime isP
  by_cases h1 : p = 2 <;> by_cases h2 : p = 3 <;> by_cases h3 : p = 5 <;> simp [h1, h2, h3]

theorem isPrime_impl (p : Int) : impl_isPrime p = some (isP p) := by
  unfold impl_isPrime isP
  by_cases h1 : p = 2 <;> by_cases h2 : p = 3 <;> by_cases h3 : p = 5 <;> simp [h1, h2, h3]
end Go.Proofs.Ytebfhlnfmkhmcaa
/- Powers of p; one. -/
namespace Go.Proofs.Ytebfhlnfmkhmcaa
open Go.Abs

theorem ppow_mono {p : Nat} (hp : 2 ≤ p) {n m : Nat} (h : n ≤ m) : p ^ n ≤ p ^ m := Nat.pow_le_pow_right (by omega) h
/-- p to a power, at most a bit more than a limit. -/
theorem norm_is {p n most : Nat} (hp : 2 ≤ p ∧ p ≤ 7) (hn : n ≤ 1000000) (hm : most ≤ 1152921504606846976) : ∃ c : Nat, impl_prime_norm p n most = some (c : Int) ∧ ((p ^ n ≤ most ∧ c = p ^ n) ∨ (most < p ^ n ∧ most < c)) ∧ c ≤ 8070450532247928832 := by
  have key : ∀ (m i : Nat), i + m = n → (i = 0 ∨ p ^ (i - 1) ≤ most) → ∃ c : Nat, loopM (fun s : Int × Int => impl_prime_norm_l1 (n : Int) (most : Int) p s.1 s.2) (((p ^ i : Nat) : Int), (i : Int)) = some (c : Int) ∧ ((p ^ n ≤ most ∧ c = p ^ n) ∨ (most < p ^ n ∧ most < c)  ∨ (n = i ∧ c = p ^ n)) ∧ c ≤ 8070450532247928832 := by
    intro m
    induction m with
    | zero =>
      intro i hi hle
      have : i = n := by omega
      subst this
      have step : impl_prime_norm_l1 (i : Int) (most : Int) p ((p ^ i : Nat) : Int) (i : Int) = some (.inr ((p ^ i : Nat) : Int)) := by
        simp only [impl_prime_norm_l1]
        rw [if_neg (by rw [decide_eq_true_eq]; omega)]
      rw [loopM_eq]
      simp only [step, Option.bind_some]
      refine ⟨p ^ i, rfl, ?_, ?_⟩
      · exact .inr (.inr (by simp))
      · rcases hle with rfl | hle
        · simp
        · rcases Nat.eq_zero_or_pos i with rfl | h
          · simp
          · have : p ^ i = p ^ (i - 1) * p := by rw [← Nat.pow_succ]; congr 1; omega
            rw [this]
            have := Nat.mul_le_mul hle hp.2
            omega
    | succ m ih =>
      intro i hi hle
      have hmono := ppow_mono hp.1 (show i ≤ n by omega)
      by_cases h : most < p ^ i
      · have step : impl_prime_norm_l1 (n : Int) (most : Int) p ((p ^ i : Nat) : Int) (i : Int) = some (.inr ((p ^ i : Nat) : Int)) := by
          simp only [impl_prime_norm_l1]
          rw [if_pos (decide_eq_true (by omega)), if_pos (decide_eq_true (by omega))]
        rw [loopM_eq]
        simp only [step, Option.bind_some]
        refine ⟨p ^ i, rfl, .inr (.inl ⟨by omega, h⟩), ?_⟩
        rcases hle with rfl | hle
        · simp
        · rcases Nat.eq_zero_or_pos i with rfl | h
          · simp
          · have : p ^ i = p ^ (i - 1) * p := by rw [← Nat.pow_succ]; congr 1; omega
            rw [this]
            have := Nat.mul_le_mul hle hp.2
            omega
      · have hle2 := Nat.mul_le_mul (show p ^ i ≤ most by omega) hp.2
        have e1 : ((p ^ i : Nat) : Int) * (p : Int) = ((p ^ (i + 1) : Nat) : Int) := by rw [Nat.pow_succ, Int.natCast_mul]
        have e2 : p ^ (i + 1) = p ^ i * p := Nat.pow_succ ..
        have step : impl_prime_norm_l1 (n : Int) (most : Int) p ((p ^ i : Nat) : Int) (i : Int) = some (.inl (((p ^ (i + 1) : Nat) : Int), ((i + 1 : Nat) : Int))) := by
          simp only [impl_prime_norm_l1]
          rw [if_pos (decide_eq_true (by omega)), if_neg (by rw [decide_eq_true_eq]; omega), e1, wrap64 (n := ((p ^ (i + 1) : Nat) : Int)) (by omega) (by omega), wrap64 (by omega) (by omega)]
          rfl
        rw [loopM_eq]
        simp only [step, Option.bind_some]
        obtain ⟨c, h1, h2, h3⟩ := ih (i + 1) (by omega) (.inr (by simp only [Nat.add_sub_cancel]; omega))
        refine ⟨c, h1, ?_, h3⟩
        rcases h2 with h2 | h2 | ⟨h2, h4⟩
        · exact .inl h2
        · exact .inr (.inl h2)
        · by_cases h5 : p ^ n ≤ most
          · exact .inl ⟨h5, h4⟩
          · exact .inr (.inl ⟨by omega, by omega⟩)
  obtain ⟨c, h1, h2, h3⟩ := key n 0 (by omega) (.inl rfl)
  simp only [Nat.pow_zero] at h1
  refine ⟨c, ?_, ?_, h3⟩
  · have h1' : loopM (fun s : Int × Int => impl_prime_norm_l1 (n : Int) (most : Int) p s.1 s.2) (1, 0) = some (c : Int) := h1
    simp only [impl_prime_norm, h1', Option.bind_some]
  · rcases h2 with h2 | h2 | ⟨h2, h4⟩
    · exact .inl h2
    · exact .inr h2
    · by_cases h5 : p ^ n ≤ most
      · exact .inl ⟨h5, h4⟩
      · exact .inr ⟨by omega, by omega⟩
end Go.Proofs.Ytebfhlnfmkhmcaa
/- Rests of products and powers, in the reference. -/
namespace Go.Proofs.Ytebfhlnfmkhmcaa
open Go.Abs

variable {P : Pri}
theorem modS {a b : PP P} (hb : b ≠ 0) (la : a.len ≤ 64) (lb : b.len ≤ 64) : spec_l01Mod P.p (pad a.1) (pad b.1) = some (pad (prem a b).1) := by
  simp only [spec_l01Mod, divS hb la lb, Option.bind_some]
set_option maxHeartbeats 2000000 in
/-- T times a residue, less a multiple of the modulus. -/
theorem up_is {a m : PP P} (hm : m ≠ 0) (lm : m.len ≤ 64) (la : a.len < m.len) : spec_l01Up P.p (pad a.1) (pad m.1) = some (pad (prem (ppT * a) m).1) := by
  have hp := P.two
  simp only [spec_l01Up, letp, degS m lm, Option.bind_some]
  by_cases h1 : m.len = 1
  · rw [if_pos (by rw [beq_iff_eq]; omega)]
    have h := prem_len (ppT * a) hm
    have : prem (ppT * a) m = 0 := len_zero.1 (by omega)
    rw [this]
    exact congrArg some pad_nil.symm
  · have hml := len_pos hm
    obtain ⟨n, hn⟩ : ∃ n, m.len = n + 2 := ⟨m.len - 2, by omega⟩
    have e0 : ((m.len : Int) - 1) = ((n + 1 : Nat) : Int) := by omega
    rw [if_neg (by rw [beq_iff_eq]; omega), e0]
    have e1 : IntKind.i64.wrap (((n + 1 : Nat) : Int) - 1) = (n : Int) := by rw [wrap64 (by omega) (by omega)]; omega
    rw [e1, ifp_pos (by omega), Int.toNat_natCast]
    have an := a.c_res n
    have ean : rd (pad a.1).1 n = a.c n := rd_padl _ (by omega)
    simp only [Int.toNat_natCast, ean]
    rw [wrap64 (n := a.c n) (by omega) (by omega)]
    -- the shifted coefficients
    obtain ⟨v, h2, h3⟩ := loopM_for (body := fun s : Int × V64 => spec_l01Up_l1 ((n + 1 : Nat) : Int) (pad a.1) s.1 s.2) (fun i u => ((i : Int), u)) (fun u => u) (n + 1)
      (fun i u => 1 ≤ i ∧ ∀ j, j < 64 → rd u.1 j = if 1 ≤ j ∧ j < i then a.c (j - 1) else 0) (fun i u hi hI => by
        obtain ⟨hi1, hI⟩ := hI
        have e2 : IntKind.i64.wrap ((i : Int) - 1) = ((i - 1 : Nat) : Int) := by rw [wrap64 (by omega) (by omega)]; omega
        have e3 : rd (pad a.1).1 (i - 1) = a.c (i - 1) := rd_padl _ (by omega)
        refine ⟨vset u i (a.c (i - 1)), ?_, by omega, fun j hj => ?_⟩
        · simp only [spec_l01Up_l1, e2, Int.toNat_natCast, e3]
          rw [if_pos (decide_eq_true (by omega)), ifp_pos (by omega), ifp_pos (by omega), wrap64 (by omega) (by omega)]
          rfl
        · rw [rd_vset _ _ _ _ (by omega), hI j hj]
          by_cases h : j = i
          · subst h; rw [if_pos rfl, if_pos (by omega)]
          · rw [if_neg h]
            simp only [show (1 ≤ j ∧ j < i + 1) = (1 ≤ j ∧ j < i) from by rw [eq_iff_iff]; omega]) (fun u hI => by
        simp only [spec_l01Up_l1]
        rw [if_neg (by rw [decide_eq_true_eq]; omega)]) n 1 (vrep 64 0) (by omega) ⟨by omega, fun j hj => by rw [rd_vrep _ hj, if_neg (by omega)]⟩
    have h2' : loopM (fun s : Int × V64 => spec_l01Up_l1 ((n + 1 : Nat) : Int) (pad a.1) s.1 s.2) (1, vrep 64 0) = some v := h2
    have emn : rd (pad m.1).1 (n + 1) = lead m.1 := by
      rw [rd_padl _ (by omega)]
      show rd m.1 (n + 1) = rd m.1 (m.1.length - 1)
      have : m.1.length = n + 2 := hn
      rw [this]; rfl
    have hlead := lead_pos P.pos m.2 (ne_len hm)
    have hinv := inv_is P.okp hlead
    obtain ⟨f, hf⟩ : ∃ f : Nat, a.c n * inv P.p (lead m.1) % P.p = f := ⟨(a.c n * inv P.p (lead m.1) % P.p).toNat, by have := emod_res P.pos (a.c n * inv P.p (lead m.1)); omega⟩
    have hfp : (f : Int) < P.p := by rw [← hf]; exact (emod_res P.pos _).2
    have hinv' : 0 < inv P.p (lead m.1) ∧ inv P.p (lead m.1) < P.p := ⟨hinv.1, hinv.2.1⟩
    have hms := mul_small (x := a.c n) (y := inv P.p (lead m.1)) (by omega) (by omega)
    have ef : Int.tmod (IntKind.i64.wrap (a.c n * IntKind.i64.wrap (inv P.p (lead m.1)))) P.p = f := by
      rw [wrap64 (n := inv P.p (lead m.1)) (by omega) (by omega), wrap64 (n := _ * _) (by omega) (by omega), Int.tmod_eq_emod_of_nonneg hms.1, hf]
    -- less a multiple of the modulus
    obtain ⟨w, h4, h5⟩ := loopM_for (body := fun s : Int × V64 => spec_l01Up_l2 ((n + 1 : Nat) : Int) (a.c n) (inv P.p (lead m.1)) P.p (pad m.1) s.1 s.2) (fun i u => ((i : Int), u)) (fun u => u) (n + 1)
      (fun i u => ∀ j, j < 64 → rd u.1 j = if j < i then (rd v.1 j - f * m.c j) % P.p else rd v.1 j) (fun i u hi hI => by
        have hs := hI i (by omega)
        rw [if_neg (by omega)] at hs
        have hv := h3.2 i (by omega)
        have hvb : 0 ≤ rd v.1 i ∧ rd v.1 i < 256 := by
          rw [hv]
          split
          · have := a.c_res (i - 1); omega
          · omega
        have hmi := m.c_res i
        have em : rd (pad m.1).1 i = m.c i := rd_padl _ (by omega)
        have hfm := mul_small (x := (f : Int)) (y := m.c i) (by omega) (by omega)
        have h6 := Int.lt_tmod_of_pos (rd v.1 i - f * m.c i) P.pos
        have h7 := Int.tmod_lt_of_pos (rd v.1 i - f * m.c i) P.pos
        have h8 := emod_res P.pos (rd v.1 i - f * m.c i)
        refine ⟨vset u i ((rd v.1 i - f * m.c i) % P.p), ?_, fun j hj => ?_⟩
        · simp only [spec_l01Up_l2, letp, Int.toNat_natCast, hs, em, ef]
          rw [if_pos (decide_eq_true (by omega)), ifp_pos (by omega), ifp_pos (by omega), ifp_pos (by omega), ifp_pos (by omega), ifp_pos (by omega)]
          rw [wrap64 (n := m.c i) (by omega) (by omega), wrap64 (n := (f : Int) * m.c i) (by omega) (by omega), wrap64 (n := rd v.1 i) (by omega) (by omega), wrap64 (n := rd v.1 i - f * m.c i) (by omega) (by omega), wrap64 (n := _ + P.p) (by omega) (by omega), tmod_fix P.pos, wrap8 (by omega) (by omega), wrap64 (by omega) (by omega)]
          rfl
        · rw [rd_vset _ _ _ _ (by omega), hI j hj]
          by_cases h : j = i
          · subst h; rw [if_pos rfl, if_pos (by omega)]
          · rw [if_neg h]
            simp only [show (j < i + 1) = (j < i) from by rw [eq_iff_iff]; omega]) (fun u hI => by
        simp only [spec_l01Up_l2]
        rw [if_neg (by rw [decide_eq_true_eq]; omega)]) (n + 1) 0 v (by omega) (fun j hj => by rw [if_neg (by omega)])
    have h4' : loopM (fun s : Int × V64 => spec_l01Up_l2 ((n + 1 : Nat) : Int) (a.c n) (inv P.p (lead m.1)) P.p (pad m.1) s.1 s.2) (0, v) = some w := h4
    simp only [h2', Option.bind_some, emn]
    rw [ifp_pos (by omega), inverse_spec P.okp hlead]
    simp only [Option.bind_some]
    rw [ifp_pos (by omega), h4']
    simp only [Option.bind_some]
    -- it is the rest
    have hr : ∀ i, (ppT * a + -(nsm f m)).c i = ((if 1 ≤ i then a.c (i - 1) else 0) - f * m.c i) % P.p := fun i => by
      rw [add_c, neg_c, nsm_c, T_c, Int.add_emod_emod, Int.sub_eq_add_neg]
      rw [Int.add_emod, ← Int.sub_eq_add_neg]
      rw [Int.sub_eq_add_neg, ← Int.add_emod, ← Int.sub_eq_add_neg, ← Int.sub_eq_add_neg]
      exact Int.sub_emod_emod _ _ _
    have hz : ∀ i, n + 1 ≤ i → (ppT * a + -(nsm f m)).c i = 0 := fun i hi => by
      rw [hr]
      by_cases e : i = n + 1
      · subst e
        rw [if_pos (by omega), Nat.add_sub_cancel]
        have e5 : m.c (n + 1) = lead m.1 := by rw [← emn]; exact (rd_padl _ (by omega)).symm
        have e8 : (a.c n * inv P.p (lead m.1) % P.p) * lead m.1 % P.p = a.c n % P.p := by
          rw [Int.mul_emod, Int.emod_emod, ← Int.mul_emod, Int.mul_assoc, Int.mul_comm (inv P.p (lead m.1)), Int.mul_emod, hinv.2.2, Int.mul_one, Int.emod_emod]
        rw [e5, ← hf, Int.sub_emod, e8, Int.sub_self]
        rfl
      · rw [if_pos (by omega)]
        have e5 : a.c (i - 1) = 0 := rd_ge (by have : a.1.length < m.1.length := la; have : m.1.length = n + 2 := hn; omega)
        have e6 : m.c i = 0 := rd_ge (by have : m.1.length = n + 2 := hn; omega)
        rw [e5, e6]; simp
    have hl : (ppT * a + -(nsm f m)).len < m.len := by
      rcases Nat.lt_or_ge (ppT * a + -(nsm f m)).len m.len with h | h
      · exact h
      · have h0 : (ppT * a + -(nsm f m)).1.length ≠ 0 := by have : (ppT * a + -(nsm f m)).1.length = (ppT * a + -(nsm f m)).len := rfl; omega
        have h9 := (ppT * a + -(nsm f m)).2.nrm h0
        have h10 : (ppT * a + -(nsm f m)).c ((ppT * a + -(nsm f m)).len - 1) = 0 := hz _ (by omega)
        exact (h9 h10).elim
    have hrem : prem (ppT * a) m = ppT * a + -(nsm f m) := by
      refine prem_of (nsm f 1) hm ?_ hl
      have e7 : nsm f 1 * m = nsm f m := by rw [ppring.mul_comm, ppring.mul_nsm, ppring.mul_one]
      rw [e7, ppring.add_left_comm, ppring.add_neg, ppring.add_zero]
    rw [hrem]
    congr 1
    refine vec_ext fun j hj => ?_
    rw [h5 j hj, rd_padl _ hj]
    show _ = (ppT * a + -(nsm f m)).c j
    by_cases hjn : j < n + 1
    · rw [if_pos hjn, hr, h3.2 j hj]
      simp only [show (1 ≤ j ∧ j < n + 1) = (1 ≤ j) from by rw [eq_iff_iff]; omega]
    · rw [if_neg hjn, hz j (by omega), h3.2 j hj, if_neg (by omega)]

/-! Products. -/
theorem drop_row {p : Int} : ∀ (i : Nat) {l : List Int}, Row p l → Row p (l.drop i)
  | 0, _, h => h
  | _ + 1, [], h => h
  | i + 1, _ :: _, h => drop_row i (row_tail h)
def pdrop (b : PP P) (i : Nat) : PP P := ⟨b.1.drop i, drop_row i b.2⟩
theorem pdrop_c (b : PP P) (i j : Nat) : (pdrop b i).c j = b.c (i + j) := by
  show rd (b.1.drop i) j = rd b.1 (i + j)
  simp [rd]
theorem pdrop_all (b : PP P) {i : Nat} (h : b.len ≤ i) : pdrop b i = 0 := pp_eq (List.drop_eq_nil_of_le h)
theorem pdrop_step (b : PP P) (i : Nat) : pdrop b i = ppT * pdrop b (i + 1) + nsm (b.c i).toNat 1 := by
  have hb := b.c_res i
  refine pp_ext fun j => ?_
  rw [add_c, T_c, nsm_c, one_c, pdrop_c, pdrop_c, Int.toNat_of_nonneg hb.1]
  cases j with
  | zero => rw [if_neg (by omega), if_pos rfl, Int.mul_one, Int.add_emod_emod, Int.zero_add, Nat.add_zero, b.c_mod]
  | succ j =>
    rw [if_pos (by omega), if_neg (by omega), Int.mul_zero, Int.zero_emod, Int.add_zero, b.c_mod]
    congr 1; omega
theorem mulmod_loop {a b m : PP P} (hm : m ≠ 0) (lm : m.len ≤ 64) (la : a.len ≤ 64) (lb : b.len ≤ 64) : ∀ i : Nat, i ≤ b.len →
    loopM (fun s : Int × V64 => spec_l01MulMod_l1 P.p (pad m.1) (pad a.1) (pad b.1) s.1 s.2) ((i : Int) - 1, pad (prem (a * pdrop b i) m).1) = some (pad (prem (a * b) m).1) := by
  have hp := P.two
  intro i
  induction i with
  | zero =>
    intro _
    have step : spec_l01MulMod_l1 P.p (pad m.1) (pad a.1) (pad b.1) (((0 : Nat) : Int) - 1) (pad (prem (a * pdrop b 0) m).1) = some (.inr (pad (prem (a * pdrop b 0) m).1)) := by
      simp only [spec_l01MulMod_l1]
      rw [if_neg (by simp)]
    rw [loopM_eq]
    simp only [step, Option.bind_some]
    rfl
  | succ i ih =>
    intro hi
    have hbc := b.c_res i
    have l1 := prem_len (a * pdrop b (i + 1)) hm
    have l2 := prem_len (ppT * prem (a * pdrop b (i + 1)) m) hm
    have ew : IntKind.i64.wrap (((i + 1 : Nat) : Int) - 1 - 1) = (i : Int) - 1 := by rw [wrap64 (by omega) (by omega)]; omega
    have eb : rd (pad b.1).1 i = b.c i := rd_padl _ (by omega)
    obtain ⟨k, hk⟩ : ∃ k : Nat, b.c i = k := ⟨(b.c i).toNat, by omega⟩
    have e1 := up_is hm lm l1
    have e2 := addS (P := P) (a := prem (ppT * prem (a * pdrop b (i + 1)) m) m) (b := a) (by omega) la (k := k) (by omega)
    have l3 : (prem (ppT * prem (a * pdrop b (i + 1)) m) m + nsm k a).len ≤ 64 := by
      have := len_add (prem (ppT * prem (a * pdrop b (i + 1)) m) m) (nsm k a)
      have := len_nsm k a
      omega
    have e3 := modS hm l3 lm
    have e4 : prem (prem (ppT * prem (a * pdrop b (i + 1)) m) m + nsm k a) m = prem (a * pdrop b i) m := by
      rw [prem_mul_r _ _ hm]
      have h1 : prem (prem (ppT * (a * pdrop b (i + 1))) m + nsm k a) m = prem (ppT * (a * pdrop b (i + 1)) + nsm k a) m := by
        rw [prem_add _ _ hm, prem_add _ _ hm, prem_small (prem_len (ppT * (a * pdrop b (i + 1))) hm)]
      have h2 : ppT * (a * pdrop b (i + 1)) + nsm k a = a * pdrop b i := by
        rw [pdrop_step b i, ppring.mul_add, ppring.mul_left_comm a ppT, ppring.mul_nsm, ppring.mul_one, hk, Int.toNat_natCast]
      rw [h1, h2]
    have step : spec_l01MulMod_l1 P.p (pad m.1) (pad a.1) (pad b.1) (((i + 1 : Nat) : Int) - 1) (pad (prem (a * pdrop b (i + 1)) m).1) = some (.inl ((i : Int) - 1, pad (prem (a * pdrop b i) m).1)) := by
      simp only [spec_l01MulMod_l1, e1, Option.bind_some]
      rw [if_pos (decide_eq_true (by omega)), ifp_pos (by omega), ew, show (((i + 1 : Nat) : Int) - 1).toNat = i by omega, eb, wrap64 (by omega) (by omega), hk, e2]
      simp only [Option.bind_some]
      rw [e3, e4]
      rfl
    rw [loopM_eq]
    simp only [step, Option.bind_some]
    exact ih (by omega)
theorem mulmodS {a b m : PP P} (hm : m ≠ 0) (lm : m.len ≤ 64) (la : a.len ≤ 64) (lb : b.len ≤ 64) : spec_l01MulMod P.p (pad a.1) (pad b.1) (pad m.1) = some (pad (prem (a * b) m).1) := by
  have h := mulmod_loop hm lm la lb b.len (Nat.le_refl _)
  have e : prem (a * pdrop b b.len) m = 0 := by
    rw [pdrop_all b (Nat.le_refl _), ppring.mul_zero]
    exact prem_small (by have := len_pos hm; rw [len_zero.2 rfl]; omega)
  rw [e] at h
  have e2 : pad (0 : PP P).1 = vrep 64 0 := pad_nil
  rw [e2] at h
  simp only [spec_l01MulMod, degS b lb, Option.bind_some, h]

/-! Powers. -/
theorem powmod_loop {m : PP P} (hm : m ≠ 0) (lm : m.len ≤ 64) : ∀ (n k : Nat) (O B : PP P), k ≤ n → k < 4611686018427387904 →
    loopM (fun s : Int × V64 × V64 => spec_l01PowMod_l1 P.p (pad m.1) s.1 s.2.1 s.2.2) ((k : Int), pad (prem O m).1, pad (prem B m).1) = some (pad (prem (O * pw B k) m).1) := by
  intro n
  induction n with
  | zero =>
    intro k O B hk _
    have : k = 0 := by omega
    subst this
    have step : spec_l01PowMod_l1 P.p (pad m.1) ((0 : Nat) : Int) (pad (prem O m).1) (pad (prem B m).1) = some (.inr (pad (prem O m).1)) := by
      simp only [spec_l01PowMod_l1]
      rw [if_neg (by simp)]
    rw [loopM_eq]
    simp only [step, Option.bind_some, pw, ppring.mul_one]
  | succ n ih =>
    intro k O B hk hb
    rcases Nat.eq_zero_or_pos k with rfl | h0
    · have step : spec_l01PowMod_l1 P.p (pad m.1) ((0 : Nat) : Int) (pad (prem O m).1) (pad (prem B m).1) = some (.inr (pad (prem O m).1)) := by
        simp only [spec_l01PowMod_l1]
        rw [if_neg (by simp)]
      rw [loopM_eq]
      simp only [step, Option.bind_some, pw, ppring.mul_one]
    · have lO := prem_len O hm
      have lB := prem_len B hm
      have e1 : spec_l01MulMod P.p (pad (prem B m).1) (pad (prem B m).1) (pad m.1) = some (pad (prem (B * B) m).1) := by rw [mulmodS hm lm (by omega) (by omega), prem_mul _ _ hm]
      have e2 : spec_l01MulMod P.p (pad (prem O m).1) (pad (prem B m).1) (pad m.1) = some (pad (prem (O * B) m).1) := by rw [mulmodS hm lm (by omega) (by omega), prem_mul _ _ hm]
      have et : Int.tmod (k : Int) 2 = ((k % 2 : Nat) : Int) := by rw [Int.tmod_eq_emod_of_nonneg (by omega)]; omega
      have ed : IntKind.i64.wrap (Int.tdiv (k : Int) 2) = ((k / 2 : Nat) : Int) := by rw [Int.tdiv_eq_ediv_of_nonneg (by omega), wrap64 (by omega) (by omega)]; omega
      have step : spec_l01PowMod_l1 P.p (pad m.1) (k : Int) (pad (prem O m).1) (pad (prem B m).1) = some (.inl (((k / 2 : Nat) : Int), pad (prem (if k % 2 = 1 then O * B else O) m).1, pad (prem (B * B) m).1)) := by
        simp only [spec_l01PowMod_l1, e1, e2, et, ed, Option.bind_some]
        rw [if_pos (decide_eq_true (by omega))]
        by_cases ho : k % 2 = 1
        · rw [if_pos ho, if_pos (by rw [beq_iff_eq]; omega)]; rfl
        · rw [if_neg ho, if_neg (by rw [beq_iff_eq]; omega)]; rfl
      rw [loopM_eq]
      simp only [step, Option.bind_some]
      rw [ih (k / 2) _ _ (by omega) (by omega), pw_two]
      congr 4
      by_cases ho : k % 2 = 1
      · rw [if_pos ho, ppring.mul_assoc]
        have e : k = 2 * (k / 2) + 1 := by omega
        conv => rhs; rw [e]
        simp only [pw]
        rw [ppring.mul_comm B]
      · rw [if_neg ho]
        have e : k = 2 * (k / 2) := by omega
        conv => rhs; rw [e]
theorem powmodS {a m : PP P} (hm : m ≠ 0) (lm : m.len ≤ 64) (la : a.len ≤ 64) {k : Nat} (hk : k < 4611686018427387904) : spec_l01PowMod P.p (pad a.1) k (pad m.1) = some (pad (prem (pw a k) m).1) := by
  have h := powmod_loop hm lm k k 1 a (Nat.le_refl _) hk
  have e1 : spec_l01Mod P.p (pad [1]) (pad m.1) = some (pad (prem (1 : PP P) m).1) := modS (a := (1 : PP P)) hm (by rw [len_one]; omega) lm
  simp only [spec_l01PowMod, one_is, e1, modS hm la lm, Option.bind_some, h, ppring.one_mul]
end Go.Proofs.Ytebfhlnfmkhmcaa
/- Rests of powers, in the program. -/
namespace Go.Proofs.Ytebfhlnfmkhmcaa
open Go.Abs

variable {P : Pri}
theorem and_one {k : Nat} (h : k < 4611686018427387904) : IntKind.i64.wrap (BitVec.ofInt IntKind.i64.bits k &&& BitVec.ofInt IntKind.i64.bits 1).toNat = ((k % 2 : Nat) : Int) := by
  have e : (BitVec.ofInt IntKind.i64.bits (k : Int) &&& BitVec.ofInt IntKind.i64.bits 1).toNat = k % 2 := by
    rw [BitVec.toNat_and, BitVec.toNat_ofInt, BitVec.toNat_ofInt]
    have h1 : ((k : Int) % (2 ^ IntKind.i64.bits : Nat)).toNat = k := by
      rw [Int.emod_eq_of_lt (by omega) (by show (k : Int) < ((2 ^ 64 : Nat) : Int); omega)]
      omega
    have h2 : ((1 : Int) % (2 ^ IntKind.i64.bits : Nat)).toNat = 1 := by decide
    rw [h1, h2, Nat.and_one_is_mod]
  rw [e, wrap64 (by omega) (by omega)]
theorem half_is (k : Nat) : Int.fdiv (k : Int) (2 ^ (min (1 : Int).toNat IntKind.i64.bits)) = ((k / 2 : Nat) : Int) := by
  have e : (2 : Int) ^ (min (1 : Int).toNat IntKind.i64.bits) = 2 := by decide
  rw [e, Int.fdiv_eq_ediv_of_nonneg _ (by omega)]
  omega
theorem powI_loop {m : PP P} (hm : m ≠ 0) (lm : m.len ≤ 1000) : ∀ (n k : Nat) (O B : PP P), k ≤ n → k < 4611686018427387904 →
    loopM (fun s : Int × List Int × List Int => impl_prime_power_l1 P.p m.1 s.1 s.2.1 s.2.2) ((k : Int), (prem O m).1, (prem B m).1) = some (prem (O * pw B k) m).1 := by
  intro n
  induction n with
  | zero =>
    intro k O B hk _
    have : k = 0 := by omega
    subst this
    have step : impl_prime_power_l1 P.p m.1 ((0 : Nat) : Int) (prem O m).1 (prem B m).1 = some (.inr (prem O m).1) := by
      simp only [impl_prime_power_l1]
      rw [if_neg (by simp)]
    rw [loopM_eq]
    simp only [step, Option.bind_some, pw, ppring.mul_one]
  | succ n ih =>
    intro k O B hk hb
    rcases Nat.eq_zero_or_pos k with rfl | h0
    · have step : impl_prime_power_l1 P.p m.1 ((0 : Nat) : Int) (prem O m).1 (prem B m).1 = some (.inr (prem O m).1) := by
        simp only [impl_prime_power_l1]
        rw [if_neg (by simp)]
      rw [loopM_eq]
      simp only [step, Option.bind_some, pw, ppring.mul_one]
    · have lO := prem_len O hm
      have lB := prem_len B hm
      have lOB : (prem O m * prem B m).len ≤ 500000 := by
        have : (prem O m * prem B m).len ≤ (prem O m).len + (prem B m).len - 1 := mul_len _ _ _
        omega
      have lBB : (prem B m * prem B m).len ≤ 500000 := by
        have : (prem B m * prem B m).len ≤ (prem B m).len + (prem B m).len - 1 := mul_len _ _ _
        omega
      have e1 : impl_prime_times P.p (prem B m).1 (prem B m).1 = some (prem B m * prem B m).1 := timesI (by omega) (by omega)
      have e2 : impl_prime_times P.p (prem O m).1 (prem B m).1 = some (prem O m * prem B m).1 := timesI (by omega) (by omega)
      have e3 : impl_prime_rest P.p (prem B m * prem B m).1 m.1 = some (prem (B * B) m).1 := by rw [restI hm lBB (by omega), prem_mul _ _ hm]
      have e4 : impl_prime_rest P.p (prem O m * prem B m).1 m.1 = some (prem (O * B) m).1 := by rw [restI hm lOB (by omega), prem_mul _ _ hm]
      have step : impl_prime_power_l1 P.p m.1 (k : Int) (prem O m).1 (prem B m).1 = some (.inl (((k / 2 : Nat) : Int), (prem (if k % 2 = 1 then O * B else O) m).1, (prem (B * B) m).1)) := by
        simp only [impl_prime_power_l1, letp, and_one hb, half_is, e1, e2, e3, e4, Option.bind_some]
        rw [if_pos (decide_eq_true (by omega))]
        by_cases ho : k % 2 = 1
        · rw [if_pos ho, if_pos (by rw [beq_iff_eq]; omega)]; rfl
        · rw [if_neg ho, if_neg (by rw [beq_iff_eq]; omega)]; rfl
      rw [loopM_eq]
      simp only [step, Option.bind_some]
      rw [ih (k / 2) _ _ (by omega) (by omega), pw_two]
      congr 3
      by_cases ho : k % 2 = 1
      · rw [if_pos ho, ppring.mul_assoc]
        have e : k = 2 * (k / 2) + 1 := by omega
        conv => rhs; rw [e]
        simp only [pw]
        rw [ppring.mul_comm B]
      · rw [if_neg ho]
        have e : k = 2 * (k / 2) := by omega
        conv => rhs; rw [e]
theorem powI_is (a : PP P) {m : PP P} (hm : m ≠ 0) (lm : m.len ≤ 1000) (la : a.len ≤ 500000) {k : Nat} (hk : k < 4611686018427387904) : impl_prime_power P.p a.1 k m.1 = some (prem (pw a k) m).1 := by
  have h := powI_loop hm lm k k 1 a (Nat.le_refl _) hk
  have e1 : impl_prime_rest P.p [1] m.1 = some (prem 1 m).1 := restI (a := 1) hm (by rw [len_one]; omega) (by omega)
  simp only [impl_prime_power, e1, restI hm la (show m.len ≤ 500000 by omega), Option.bind_some]
  have h' : loopM (fun s : Int × List Int × List Int => impl_prime_power_l1 P.p m.1 s.1 s.2.1 s.2.2) ((k : Int), (prem 1 m).1, (prem a m).1) = some (prem (1 * pw a k) m).1 := h
  rw [h', ppring.one_mul]
  rfl
end Go.Proofs.Ytebfhlnfmkhmcaa
/- Products and powers modulo, with those of the program. -/
/- The polynomial T. -/
namespace Go.Proofs.Ytebfhlnfmkhmcaa
open Go.Abs

theorem T_is : spec_l01T = some (pad [0, 1]) := by
  unfold spec_l01T
  congr 1
end Go.Proofs.Ytebfhlnfmkhmcaa
/- The constants of the action: what T makes of a residue. -/
namespace Go.Proofs.Ytebfhlnfmkhmcaa
open Go.Abs
theorem letterI (P : Pri) : impl_letter = some (ppT : PP P).1 := rfl
theorem pp4c {P : Pri} (a b c d : PP P) : a + b + (c + d) = a + c + (b + d) := by
  rw [ppring.add_assoc, ppring.add_assoc, ← ppring.add_assoc b, ppring.add_comm b c, ppring.add_assoc c]
section
variable {P : Pri} {m : PP P} (hm : m ≠ 0) (lm : m.len ≤ 64)
include hm lm
/-- What the action of T makes of a residue. -/
def cst (m x : PP P) : PP P := prem (ppT * x) m + prem (pw x P.n) m
omit lm in
theorem cst_len (x : PP P) : (cst m x).len < m.len := by
  have := len_add (prem (ppT * x) m) (prem (pw x P.n) m)
  have := prem_len (ppT * x) hm
  have := prem_len (pw x P.n) hm
  unfold cst; omega
theorem stepI {x : PP P} (lx : x.len ≤ 64) : impl_prime_step P.p x.1 m.1 = some (cst m x).1 := by
  have l1 : (ppT * x).len ≤ 500000 := by
    have : (ppT * x).len ≤ (ppT : PP P).len + x.len - 1 := mul_len _ _ _
    rw [len_T] at this; omega
  have l2 := prem_len (pw x P.n) hm
  have e1 : impl_prime_times P.p (ppT : PP P).1 x.1 = some (ppT * x).1 := timesI (by rw [len_T]; omega) (by omega)
  have e2 : impl_prime_power P.p x.1 P.p m.1 = some (prem (pw x P.n) m).1 := powI_is x hm (by omega) (by omega) (k := P.n) (by have := P.is; omega)
  have e3 : impl_prime_combine P.p (ppT * x).1 (prem (pw x P.n) m).1 1 = some (ppT * x + prem (pw x P.n) m).1 := by
    rw [combine_is P.sm (PP.ent _) (PP.ent _) (show (ppT * x).len ≤ 1000000 by omega) (show (prem (pw x P.n) m).len ≤ 1000000 by omega) (by omega)]; rfl
  have l3 : (ppT * x + prem (pw x P.n) m).len ≤ 500000 := by
    have := len_add (ppT * x) (prem (pw x P.n) m)
    omega
  simp only [impl_prime_step, letterI P, e1, e2, e3, Option.bind_some, restI hm l3 (show m.len ≤ 500000 by omega)]
  rw [prem_add _ _ hm, prem_small l2]; rfl
theorem stepS {x : PP P} (lx : x.len ≤ 64) : spec_l04Step P.p (pad x.1) (pad m.1) = some (pad (cst m x).1) := by
  have l1 := prem_len (ppT * x) hm
  have l2 := prem_len (pw x P.n) hm
  have l0 := prem_len (ppT : PP P) hm
  have e0 : spec_l01Mod P.p (pad [0, 1]) (pad m.1) = some (pad (prem ppT m).1) := modS (a := ppT) hm (by rw [len_T]; omega) lm
  have e1 := mulmodS (a := prem ppT m) (b := x) hm lm (by omega) lx
  rw [prem_mul_l _ _ hm] at e1
  have e2 : spec_l01PowMod P.p (pad x.1) P.p (pad m.1) = some (pad (prem (pw x P.n) m).1) := powmodS hm lm lx (k := P.n) (by have := P.is; omega)
  have e3 := addS (P := P) (a := prem (ppT * x) m) (b := prem (pw x P.n) m) (by omega) (by omega) (k := 1) (by omega)
  have e4 : nsm 1 (prem (pw x P.n) m) = prem (pw x P.n) m := by simp only [nsm]; rw [ppring.zero_add]
  rw [e4] at e3
  have e3' : spec_l01Add P.p (pad (prem (ppT * x) m).1) (pad (prem (pw x P.n) m).1) 1 = some (pad (cst m x).1) := e3
  simp only [spec_l04Step, T_is, e0, e1, e2, e3', Option.bind_some]
omit lm in
theorem cst_add (x y : PP P) : cst m (x + y) = cst m x + cst m y := by
  unfold cst
  rw [ppring.mul_add, prem_add _ _ hm, ppring.frob P.is pp_char, prem_add _ _ hm, pp4c]
end
end Go.Proofs.Ytebfhlnfmkhmcaa
/- The program's annihilator. -/
namespace Go.Proofs.Ytebfhlnfmkhmcaa
open Go.Abs
variable {P : Pri}
theorem zap (q v : PP P) (hq : q ≠ 0) : (v + smi (-(v.c (q.len - 1)) * inv P.p (lead q.1)) q).c (q.len - 1) = 0 := by
  have hi := (inv_is P.okp (lead_pos P.pos q.2 (ne_len hq))).2.2
  rw [lead_c] at hi
  rw [lead_c, add_c, smi_c, Int.add_emod_emod, Int.neg_mul, Int.neg_mul, Int.mul_assoc, Int.mul_comm (inv P.p _)]
  have e2 : (v.c (q.len - 1) * (q.c (q.len - 1) * inv P.p (q.c (q.len - 1)))) % P.p = v.c (q.len - 1) := by rw [Int.mul_emod, hi, Int.mul_one, Int.emod_emod, v.c_mod]
  have e3 : ∀ x y : Int, (x + -y) % P.p = (x - y) % P.p := fun _ _ => rfl
  rw [e3, Int.sub_emod, e2, v.c_mod, Int.sub_self]
  rfl
theorem add_smi_len {B : Nat} {v q : PP P} (c : Int) (hv : v.len ≤ B) (hq : q.len ≤ B) : (v + smi c q).len ≤ B := by
  have := len_add v (smi c q)
  have := smi_len c q
  omega
def fsts (L : List (PP P × PP P)) : List (List Int) := L.map fun q => q.1.1
def snds (L : List (PP P × PP P)) : List (List Int) := L.map fun q => q.2.1
theorem relI2 {L : List (PP P × PP P)} (hL : ∀ q ∈ L, q.1 ≠ 0 ∧ q.1.len ≤ 64 ∧ q.2.len ≤ 64) (hl : L.length ≤ 64) : ∀ (k i : Nat) (v o : PP P), i + k = L.length → v.len ≤ 64 → o.len ≤ 64 →
    ∃ v' o', Red (L.drop i) v o v' o' ∧ v'.len ≤ 64 ∧ o'.len ≤ 64 ∧ loopM (fun s : List Int × Int × List Int => impl_prime_relation_of_impl_prime_annihilator_c1_l2 (fsts L) P.p (snds L) s.1 s.2.1 s.2.2) (o.1, (i : Int), v.1) = some (o'.1, v'.1)
  | 0, i, v, o, hi, lv, lo => by
    refine ⟨v, o, ?_, lv, lo, ?_⟩
    · rw [List.drop_eq_nil_of_le (by omega)]; exact .nil
    · have step : impl_prime_relation_of_impl_prime_annihilator_c1_l2 (fsts L) P.p (snds L) o.1 (i : Int) v.1 = some (.inr (o.1, v.1)) := by
        simp only [impl_prime_relation_of_impl_prime_annihilator_c1_l2, fsts, List.length_map]
        rw [if_neg (by rw [decide_eq_true_eq]; omega)]
      rw [loopM_eq]
      simp only [step, Option.bind_some]
  | k + 1, i, v, o, hi, lv, lo => by
    have hil : i < L.length := by omega
    obtain ⟨q, hq⟩ : ∃ q, L[i] = q := ⟨_, rfl⟩
    have hqm : q ∈ L := by rw [← hq]; exact List.getElem_mem _
    obtain ⟨h0, l1, l2⟩ := hL q hqm
    have hpos := len_pos h0
    have ed : L.drop i = q :: L.drop (i + 1) := by rw [List.drop_eq_getElem_cons hil, hq]
    have e1 : rd (fsts L) i = q.1.1 := by simp [rd, fsts, hil, hq]
    have e2 : rd (snds L) i = q.2.1 := by simp [rd, snds, hil, hq]
    have hp := P.two
    have hvc := v.c_res (q.1.len - 1)
    have hlp := lead_pos P.pos q.1.2 (ne_len h0)
    have hin := inv_is P.okp hlp
    have hw : IntKind.i64.wrap (((q.1.1.length : Nat) : Int) - 1) = ((q.1.len - 1 : Nat) : Int) := by
      have : ((q.1.1.length : Nat) : Int) - 1 = ((q.1.len - 1 : Nat) : Int) := by show (q.1.len : Int) - 1 = _; omega
      rw [this, wrap64 (by omega) (by omega)]
    have hat : impl_row_at v.1 ((q.1.len - 1 : Nat) : Int) = some (v.c (q.1.len - 1)) := at_is _ _
    have hld : impl_row_lead q.1.1 = some (lead q.1.1) := lead_is (ne_len h0) (show q.1.len ≤ 1000000 by omega)
    have hiv := inverse_impl P.okp hlp
    obtain ⟨c, hc⟩ : ∃ c, -(v.c (q.1.len - 1)) * inv P.p (lead q.1.1) = c := ⟨_, rfl⟩
    have hcb : -1000 ≤ c ∧ c ≤ 1000 := by
      have m1 : v.c (q.1.len - 1) * inv P.p (lead q.1.1) ≤ 7 * 7 := Int.mul_le_mul (by omega) (by omega) (by omega) (by omega)
      have m2 : 0 ≤ v.c (q.1.len - 1) * inv P.p (lead q.1.1) := Int.mul_nonneg (by omega) (by omega)
      rw [Int.neg_mul] at hc
      omega
    have hw2 : IntKind.i64.wrap (IntKind.i64.wrap (0 - v.c (q.1.len - 1)) * inv P.p (lead q.1.1)) = c := by
      rw [wrap64 (n := 0 - v.c (q.1.len - 1)) (by omega) (by omega), Int.zero_sub, hc, wrap64 (by omega) (by omega)]
    have k1 : impl_prime_combine P.p v.1 q.1.1 c = some (v + smi c q.1).1 := by
      rw [combine_is P.sm v.ent q.1.ent (show v.len ≤ 1000000 by omega) (show q.1.len ≤ 1000000 by omega) (by omega), cmb_eq]
    have k2 : impl_prime_combine P.p o.1 q.2.1 c = some (o + smi c q.2).1 := by
      rw [combine_is P.sm o.ent q.2.ent (show o.len ≤ 1000000 by omega) (show q.2.len ≤ 1000000 by omega) (by omega), cmb_eq]
    have step : impl_prime_relation_of_impl_prime_annihilator_c1_l2 (fsts L) P.p (snds L) o.1 (i : Int) v.1 = some (.inl ((o + smi c q.2).1, ((i + 1 : Nat) : Int), (v + smi c q.1).1)) := by
      simp only [impl_prime_relation_of_impl_prime_annihilator_c1_l2, e1, e2, Int.toNat_natCast, hw, hat, hld, hiv, hw2, k1, k2, Option.bind_some]
      have f1 : (fsts L).length = L.length := by simp [fsts]
      have f2 : (snds L).length = L.length := by simp [snds]
      rw [if_pos (decide_eq_true (by omega)), ifp_pos (by omega), ifp_pos (by omega), wrap64 (n := (i : Int) + 1) (by omega) (by omega)]
      rfl
    obtain ⟨v', o', r1, r2, r3, r4⟩ := relI2 hL hl k (i + 1) (v + smi c q.1) (o + smi c q.2) (by omega) (add_smi_len c lv l1) (add_smi_len c lo l2)
    refine ⟨v', o', ?_, r2, r3, ?_⟩
    · rw [ed]
      refine .cons c ?_ r1
      rw [← hc]; exact zap _ _ h0
    · rw [loopM_eq]
      simp only [step, Option.bind_some]
      exact r4
/-- The first place with a shorter vector. -/
theorem place {L : List (List Int)} {v : List Int} (hl : L.length ≤ 64) : ∃ r : Int, slices_IndexFunc_impl_row_impl_row_of_impl_prime_relation_c1_p L v = some r ∧
    ∃ a : Nat, a ≤ L.length ∧ (if (decide (r < 0)) then (some (L.length : Int)) else some r) = some (a : Int) ∧ (∀ j, j < a → v.length ≤ (rd L j).length) ∧ (a < L.length → (rd L a).length < v.length) := by
  have key : ∀ (k i : Nat), i + k = L.length → (∀ j, j < i → v.length ≤ (rd L j).length) → ∃ r, loopM (fun s : Int => slices_IndexFunc_impl_row_impl_row_of_impl_prime_relation_c1_p_l1 L v s) (i : Int) = some r ∧
      ((r = .inl () ∧ ∀ j, j < L.length → v.length ≤ (rd L j).length) ∨ ∃ a : Nat, r = .inr (a : Int) ∧ a < L.length ∧ (∀ j, j < a → v.length ≤ (rd L j).length) ∧ (rd L a).length < v.length) := by
    intro k
    induction k with
    | zero =>
      intro i hi h
      refine ⟨.inl (), ?_, .inl ⟨rfl, fun j hj => h j (by omega)⟩⟩
      have step : slices_IndexFunc_impl_row_impl_row_of_impl_prime_relation_c1_p_l1 L v (i : Int) = some (.inr (.inl ())) := by
        simp only [slices_IndexFunc_impl_row_impl_row_of_impl_prime_relation_c1_p_l1]
        rw [if_neg (by rw [decide_eq_true_eq]; omega)]
      rw [loopM_eq]
      simp only [step, Option.bind_some]
    | succ k ih =>
      intro i hi h
      by_cases hs : (rd L i).length < v.length
      · refine ⟨.inr (i : Int), ?_, .inr ⟨i, rfl, by omega, h, hs⟩⟩
        have step : slices_IndexFunc_impl_row_impl_row_of_impl_prime_relation_c1_p_l1 L v (i : Int) = some (.inr (.inr (i : Int))) := by
          simp only [slices_IndexFunc_impl_row_impl_row_of_impl_prime_relation_c1_p_l1, impl_prime_relation_c1_of_p, Int.toNat_natCast, Option.bind_some]
          rw [if_pos (decide_eq_true (by omega)), ifp_pos (by omega), if_pos (decide_eq_true (by omega))]
        rw [loopM_eq]
        simp only [step, Option.bind_some]
      · obtain ⟨r, r1, r2⟩ := ih (i + 1) (by omega) (fun j hj => by
          by_cases e : j = i
          · subst e; omega
          · exact h j (by omega))
        refine ⟨r, ?_, r2⟩
        have step : slices_IndexFunc_impl_row_impl_row_of_impl_prime_relation_c1_p_l1 L v (i : Int) = some (.inl ((i + 1 : Nat) : Int)) := by
          simp only [slices_IndexFunc_impl_row_impl_row_of_impl_prime_relation_c1_p_l1, impl_prime_relation_c1_of_p, Int.toNat_natCast, Option.bind_some]
          rw [if_pos (decide_eq_true (by omega)), ifp_pos (by omega), if_neg (by rw [decide_eq_true_eq]; omega), wrap64 (by omega) (by omega)]
          rfl
        rw [loopM_eq]
        simp only [step, Option.bind_some]
        exact r1
  obtain ⟨r, r1, r2⟩ := key L.length 0 (by omega) (fun j hj => by omega)
  have r1' : loopM (fun s : Int => slices_IndexFunc_impl_row_impl_row_of_impl_prime_relation_c1_p_l1 L v s) 0 = some r := r1
  rcases r2 with ⟨rfl, h⟩ | ⟨a, rfl, h1, h2, h3⟩
  · refine ⟨-1, by simp only [slices_IndexFunc_impl_row_impl_row_of_impl_prime_relation_c1_p, r1', Option.bind_some], L.length, Nat.le_refl _, by simp, h, fun h => by omega⟩
  · refine ⟨a, by simp only [slices_IndexFunc_impl_row_impl_row_of_impl_prime_relation_c1_p, r1', Option.bind_some], a, by omega, ?_, h2, fun _ => h3⟩
    rw [if_neg (by rw [decide_eq_true_eq]; omega)]
theorem mnl_set (k : Nat) : (List.replicate (k + 1) (0 : Int)).set k 1 = (mnl k : PP P).1 := by
  show _ = List.replicate k (0 : Int) ++ [1]
  apply List.ext_getElem (by simp)
  intro i h1 h2
  rw [List.getElem_set]
  by_cases h : k = i
  · subst h; simp
  · rw [if_neg h, List.getElem_append_left (by simp at h1 ⊢; omega)]
    simp
section
variable {m : PP P} (hm : m ≠ 0) (lm : m.len ≤ 64)
include hm lm
theorem relI1 {x : PP P} (hx : x.len < m.len) : ∀ (n k : Nat) (L : List (PP P × PP P)), k + n = m.len → Elim (fun k => itf (cst m) k x) k L → L.Pairwise (fun q q' => q'.1.len ≤ q.1.len) →
    ∃ a : PP P, An (cst m) x a ∧ a.len ≤ m.len ∧ loopM (fun s : Int × List (List Int) × List (List Int) × List Int => impl_prime_relation_of_impl_prime_annihilator_c1_l1 P.p m.1 P.p s.1 s.2.1 s.2.2.1 s.2.2.2) ((k : Int), fsts L, snds L, (itf (cst m) k x).1) = some a.1 := by
  have hN : ∀ y : PP P, y.len ≤ m.len - 1 → (cst m y).len ≤ m.len - 1 := fun y _ => by
    have := cst_len hm y; omega
  have hs : ∀ b : PP P, (evs (fun k => itf (cst m) k x) b).len ≤ m.len - 1 := fun b => ev_len (cst_add hm) hN b (by omega)
  have hit : ∀ k, (itf (cst m) k x).len ≤ m.len - 1 := fun k => by
    have := hs (mnl k)
    rw [evs_mnl] at this
    exact this
  intro n
  induction n with
  | zero =>
    intro k L hk hE _
    have := sp_bound hE hs
    have := len_pos hm
    omega
  | succ n ih =>
    intro k L hk hE hso
    have hk64 : k ≤ 63 := by omega
    have hnum := hE.num
    have hL : ∀ q ∈ L, q.1 ≠ 0 ∧ q.1.len ≤ 64 ∧ q.2.len ≤ 64 := fun q hq => by
      refine ⟨hE.ech.1 q hq, ?_, ?_⟩
      · have := hs q.2
        rw [← hE.vec q hq] at this
        omega
      · have := hE.len q hq
        omega
    have hik := hit k
    obtain ⟨v, o, r1, r2, r3, r4⟩ := relI2 hL (by omega) L.length 0 (itf (cst m) k x) (mnl k) (by omega) (by omega) (by rw [mnl_len]; omega)
    rw [List.drop_zero] at r1
    obtain ⟨g1, g2, g3, g4⟩ := hE.red r1
    have e0 : impl_prime_annihilator_c1_of_src_p_p (itf (cst m) k x).1 P.p m.1 = some ((itf (cst m) k x).1, (itf (cst m) (k + 1) x).1) := by
      simp only [impl_prime_annihilator_c1_of_src_p_p, stepI hm lm (x := itf (cst m) k x) (by omega), Option.bind_some]
      rfl
    have ek : IntKind.i64.wrap ((k : Int) + 1) = ((k + 1 : Nat) : Int) := by rw [wrap64 (by omega) (by omega)]; rfl
    have r4' : loopM (fun s : List Int × Int × List Int => impl_prime_relation_of_impl_prime_annihilator_c1_l2 (fsts L) P.p (snds L) s.1 s.2.1 s.2.2) ((mnl k : PP P).1, 0, (itf (cst m) k x).1) = some (o.1, v.1) := r4
    have f1 : (fsts L).length = L.length := by simp [fsts]
    have f2 : (snds L).length = L.length := by simp [snds]
    by_cases hv : v = 0
    · subst hv
      obtain ⟨d1, d2⟩ := hE.done r1
      refine ⟨o, d1, by omega, ?_⟩
      have step : impl_prime_relation_of_impl_prime_annihilator_c1_l1 P.p m.1 P.p (k : Int) (fsts L) (snds L) (itf (cst m) k x).1 = some (.inr o.1) := by
        have hz : ((((0 : PP P).1.length : Nat) : Int) == 0) = true := rfl
        rw [impl_prime_relation_of_impl_prime_annihilator_c1_l1, e0, Option.bind_some]
        dsimp only
        rw [ek, ifp_pos (by omega), Int.toNat_natCast, Int.toNat_natCast, ifp_pos (by simp; omega), mnl_set (P := P), r4', Option.bind_some]
        dsimp only
        rw [if_pos hz]
      rw [loopM_eq]
      simp only [step, Option.bind_some]
    · obtain ⟨r, p1, a, a1, a2, a3, a4⟩ := place (L := fsts L) (v := v.1) (by omega)
      have hrd : ∀ j (hj : j < L.length), (rd (fsts L) j).length = (L[j]).1.len := fun j hj => by
        have : rd (fsts L) j = (L[j]).1.1 := by simp [rd, fsts, hj]
        rw [this]; rfl
      have hpos := len_pos hv
      have htop := top_ne hv
      have hpr := List.pairwise_iff_getElem.1 hso
      have hlo : ∀ q ∈ L.drop a, q.1.len < v.len := fun q hq => by
        obtain ⟨j, hj, rfl⟩ := List.mem_iff_getElem.1 hq
        rw [List.getElem_drop]
        rw [List.length_drop] at hj
        have h1 := a4 (by omega)
        rw [hrd a (by omega)] at h1
        have h2 : v.1.length = v.len := rfl
        by_cases h0 : j = 0
        · subst h0; simpa using (show (L[a]).1.len < v.len from h1)
        · have h3 := hpr a (a + j) (by omega) (by omega) (by omega)
          omega
      have hhi : ∀ q ∈ L.take a, v.len ≤ q.1.len := fun q hq => by
        obtain ⟨j, hj, rfl⟩ := List.mem_iff_getElem.1 hq
        rw [List.getElem_take]
        rw [List.length_take] at hj
        have h1 := a3 j (by omega)
        rw [hrd j (by omega)] at h1
        exact h1
      have hE' : Elim (fun k => itf (cst m) k x) k (L.take a ++ L.drop a) := by rw [List.take_append_drop]; exact hE
      have r1' : Red (L.take a ++ L.drop a) (itf (cst m) k x) (mnl k) v o := by rw [List.take_append_drop]; exact r1
      have hn := hE'.next r1' hv (u := 1) (by rw [Int.emod_eq_of_lt (by omega) (by have := P.two; omega)]; omega) (fun q hq => rd_ge (by
        have := hlo q hq
        show q.1.len ≤ v.len - 1
        omega))
      rw [smi_one, smi_one] at hn
      have hso' : (L.take a ++ (v, o) :: L.drop a).Pairwise (fun q q' => q'.1.len ≤ q.1.len) := by
        rw [← List.take_append_drop a L] at hso
        obtain ⟨s1, s2, s3⟩ := List.pairwise_append.1 hso
        refine List.pairwise_append.2 ⟨s1, List.pairwise_cons.2 ⟨fun q hq => by have := hlo q hq; show q.1.len ≤ v.len; omega, s2⟩, fun q hq q' hq' => ?_⟩
        rcases List.mem_cons.1 hq' with rfl | h
        · exact hhi q hq
        · exact s3 q hq q' h
      obtain ⟨b, b1, b2, b3⟩ := ih (k + 1) _ (by omega) hn hso'
      refine ⟨b, b1, b2, ?_⟩
      have i1 : slices_Insert_row (fsts L) (a : Int) v.1 = some (fsts (L.take a ++ (v, o) :: L.drop a)) := by
        simp only [slices_Insert_row, Int.toNat_natCast]
        rw [ifp_pos (by omega)]
        simp [fsts]
      have i2 : slices_Insert_row (snds L) (a : Int) o.1 = some (snds (L.take a ++ (v, o) :: L.drop a)) := by
        simp only [slices_Insert_row, Int.toNat_natCast]
        rw [ifp_pos (by omega)]
        simp [snds]
      have hvl : ((v.1.length : Nat) : Int) = (v.len : Int) := rfl
      have step : impl_prime_relation_of_impl_prime_annihilator_c1_l1 P.p m.1 P.p (k : Int) (fsts L) (snds L) (itf (cst m) k x).1 = some (.inl (((k + 1 : Nat) : Int), fsts (L.take a ++ (v, o) :: L.drop a), snds (L.take a ++ (v, o) :: L.drop a), (itf (cst m) (k + 1) x).1)) := by
        rw [impl_prime_relation_of_impl_prime_annihilator_c1_l1, e0, Option.bind_some]
        dsimp only
        rw [ek, ifp_pos (by omega), Int.toNat_natCast, Int.toNat_natCast, ifp_pos (by simp; omega), mnl_set (P := P), r4', Option.bind_some]
        dsimp only
        rw [if_neg (by rw [beq_iff_eq]; omega), p1, Option.bind_some, a2, Option.bind_some, i1, Option.bind_some, i2, Option.bind_some]
      rw [loopM_eq]
      simp only [step, Option.bind_some]
      exact b3
/-- The program finds the annihilator. -/
theorem annI {x : PP P} (lx : x.len ≤ 500000) : ∃ a : PP P, impl_prime_annihilator P.p x.1 m.1 = some a.1 ∧ An (cst m) (prem x m) a ∧ a.len ≤ m.len := by
  obtain ⟨a, a1, a2, a3⟩ := relI1 hm lm (prem_len x hm) m.len 0 [] (by omega) (Elim.start _) List.Pairwise.nil
  refine ⟨a, ?_, a1, a2⟩
  have a3' : impl_prime_relation_of_impl_prime_annihilator_c1 P.p (prem x m).1 P.p m.1 = some a.1 := a3
  simp only [impl_prime_annihilator, restI hm lx (show m.len ≤ 500000 by omega), a3', Option.bind_some]
end
end Go.Proofs.Ytebfhlnfmkhmcaa
/- The reference's annihilator. -/
namespace Go.Proofs.Ytebfhlnfmkhmcaa
open Go.Abs
variable {P : Pri}
theorem len_le_of {a : PP P} {n : Nat} (h : ∀ i, n ≤ i → a.c i = 0) : a.len ≤ n := by
  rcases Nat.lt_or_ge n a.len with h1 | h1
  · exact absurd (h (a.1.length - 1) (by show n ≤ a.len - 1; omega)) (a.2.nrm (by show a.len ≠ 0; omega))
  · exact h1
/-- Vectors, one after another. -/
def lg (n l : Nat) (g : Nat → PP P) : PP P := ⟨ofF (n * l) (fun t => (g (t / n)).c (t % n)), row_ofF fun t _ => (g (t / n)).c_res (t % n)⟩
theorem lg_c (n l : Nat) (g : Nat → PP P) (t : Nat) : (lg n l g).c t = if t < n * l then (g (t / n)).c (t % n) else 0 := rd_ofF' t
theorem lg_len (n l : Nat) (g : Nat → PP P) : (lg n l g).len ≤ n * l := len_le_of fun i hi => by rw [lg_c, if_neg (by omega)]
theorem evs_lg {n l : Nat} (f : PP P → PP P) (g : Nat → PP P) (b : PP P) (t : Nat) : (evs (fun k => lg n l fun i => itf f k (g i)) b).c t = if t < n * l then (ev f b (g (t / n))).c (t % n) else 0 := by
  unfold ev evs
  generalize b.len = m
  induction m with
  | zero =>
    show (0 : PP P).c t = if t < n * l then (0 : PP P).c (t % n) else 0
    rw [zero_c, zero_c]; split <;> rfl
  | succ m ih =>
    simp only [evn]
    rw [add_c, ih, smi_c, lg_c]
    by_cases ht : t < n * l
    · rw [if_pos ht, if_pos ht, if_pos ht, add_c, smi_c]
    · rw [if_neg ht, if_neg ht, if_neg ht, Int.mul_zero]; rfl
theorem evs_lg_zero {n l : Nat} (hn : 0 < n) {f : PP P → PP P} (hf : ∀ x y, f (x + y) = f x + f y) (hN : ∀ x : PP P, x.len ≤ n → (f x).len ≤ n) {g : Nat → PP P} (hg : ∀ i, i < l → (g i).len ≤ n) (b : PP P) :
    evs (fun k => lg n l fun i => itf f k (g i)) b = 0 ↔ ∀ i, i < l → ev f b (g i) = 0 := by
  constructor
  · intro h i hi
    refine pp_ext fun j => ?_
    rw [zero_c]
    by_cases hj : j < n
    · have h1 := evs_lg (n := n) (l := l) f g b (n * i + j)
      have hlt : n * i + j < n * l := by
        have : n * i + n ≤ n * l := by rw [← Nat.mul_succ]; exact Nat.mul_le_mul_left _ hi
        omega
      rw [h, zero_c, if_pos hlt, Nat.mul_add_div hn, Nat.div_eq_of_lt hj, Nat.add_zero, Nat.mul_add_mod, Nat.mod_eq_of_lt hj] at h1
      exact h1.symm
    · have := ev_len hf hN b (hg i hi)
      exact rd_ge (by show (ev f b (g i)).len ≤ j; omega)
  · intro h
    refine pp_ext fun t => ?_
    rw [evs_lg, zero_c]
    by_cases ht : t < n * l
    · rw [if_pos ht, h _ ((Nat.div_lt_iff_lt_mul hn).2 (by rw [Nat.mul_comm]; exact ht)), zero_c]
    · rw [if_neg ht]
/-- What is monic and divides just the killers is the least. -/
theorem min_of {n l : Nat} (hn : 0 < n) {f : PP P → PP P} (hf : ∀ x y, f (x + y) = f x + f y) (hN : ∀ x : PP P, x.len ≤ n → (f x).len ≤ n) {g : Nat → PP P} (hg : ∀ i, i < l → (g i).len ≤ n) {e : PP P} (he : Mo e) (hd : ∀ b, Dv e b ↔ ∀ i, i < l → ev f b (g i) = 0) :
    IsMin (fun k => lg n l fun i => itf f k (g i)) e := by
  refine ⟨he, (evs_lg_zero hn hf hN hg e).2 ((hd e).1 (ppring.dv_refl e)), fun b hb hne => ?_⟩
  exact dv_len ((hd b).2 ((evs_lg_zero hn hf hN hg b).1 hb)) hne
theorem evs_lg_len {n l : Nat} (f : PP P → PP P) (g : Nat → PP P) (b : PP P) : (evs (fun k => lg n l fun i => itf f k (g i)) b).len ≤ n * l := len_le_of fun i hi => by rw [evs_lg, if_neg (by omega)]

/-! The walk. -/
def padg (l : Nat) (g : Nat → PP P) : List V64 := (List.range l).map fun i => pad (g i).1
theorem padg_len (l : Nat) (g : Nat → PP P) : (padg l g).length = l := by simp [padg]
theorem padg_rd {l i : Nat} (g : Nat → PP P) (h : i < l) : rd (padg l g) i = pad (g i).1 := by simp [rd, padg, h]
theorem padg_set {l i : Nat} (g : Nat → PP P) (x : PP P) (h : i < l) : (padg l g).set i (pad x.1) = padg l (fun j => if j = i then x else g j) := by
  apply List.ext_getElem (by simp [padg])
  intro j h1 h2
  rw [List.getElem_set]
  simp only [padg, List.getElem_map, List.getElem_range]
  by_cases e : i = j
  · subst e; simp
  · rw [if_neg e, if_neg (by omega)]
theorem padg_congr {l : Nat} {g g' : Nat → PP P} (h : ∀ i, i < l → g i = g' i) : padg l g = padg l g' := by
  unfold padg
  refine List.map_congr_left fun i hi => ?_
  rw [h i (List.mem_range.1 hi)]
/-- The coefficients of one vector are put in place. -/
theorem annS3 {n l i : Nat} (hi : i < l) (hl : n * l ≤ 60) (hl64 : l ≤ 60) (hn : n ≤ 60) (g : Nat → PP P) {u : List V64} (hu : u.length = l) (hui : rd u i = pad (g i).1) : ∀ (k j : Nat) (v : V64), j + k = n → (∀ t, t < 64 → rd v.1 t = if t < n * i + j then (lg n l g).c t else 0) →
    ∃ w, loopM (fun s : Int × V64 => spec_l04Annihilator_l3 (n : Int) (i : Int) u s.1 s.2) ((j : Int), v) = some w ∧ ∀ t, t < 64 → rd w.1 t = if t < n * (i + 1) then (lg n l g).c t else 0
  | 0, j, v, hj, hv => by
    have step : spec_l04Annihilator_l3 (n : Int) (i : Int) u (j : Int) v = some (.inr v) := by
      simp only [spec_l04Annihilator_l3]
      rw [if_neg (by rw [decide_eq_true_eq]; omega)]
    refine ⟨v, by rw [loopM_eq]; simp only [step, Option.bind_some], fun t ht => ?_⟩
    rw [hv t ht, Nat.mul_succ]
    have : j = n := by omega
    rw [this]
  | k + 1, j, v, hj, hv => by
    have hjn : j < n := by omega
    have hlt : n * i + j < n * l := by
      have : n * i + n ≤ n * l := by rw [← Nat.mul_succ]; exact Nat.mul_le_mul_left _ hi
      omega
    have hw : IntKind.i64.wrap (IntKind.i64.wrap ((i : Int) * (n : Int)) + (j : Int)) = ((n * i + j : Nat) : Int) := by
      have e : (i : Int) * (n : Int) = ((n * i : Nat) : Int) := by rw [Int.mul_comm]; simp
      rw [e, wrap64 (n := ((n * i : Nat) : Int)) (by omega) (by omega)]
      rw [wrap64 (by omega) (by omega)]; simp
    have er : rd (rd u i).1 j = (g i).c j := by rw [hui, rd_padl _ (by omega)]; rfl
    have step : spec_l04Annihilator_l3 (n : Int) (i : Int) u (j : Int) v = some (.inl (((j + 1 : Nat) : Int), vset v (n * i + j) ((g i).c j))) := by
      simp only [spec_l04Annihilator_l3, hw, Int.toNat_natCast, er]
      rw [if_pos (decide_eq_true (by omega)), ifp_pos (by omega), ifp_pos (by omega), ifp_pos (by omega), wrap64 (by omega) (by omega)]; rfl
    obtain ⟨w, w1, w2⟩ := annS3 hi hl hl64 hn g hu hui k (j + 1) (vset v (n * i + j) ((g i).c j)) (by omega) (fun t ht => by
      rw [rd_vset _ _ _ _ (by omega), hv t ht]
      by_cases e : t = n * i + j
      · subst e
        rw [if_pos rfl, if_pos (by omega), lg_c, if_pos hlt, Nat.mul_add_div (by omega), Nat.div_eq_of_lt hjn, Nat.add_zero, Nat.mul_add_mod, Nat.mod_eq_of_lt hjn]
      · rw [if_neg e]
        by_cases h2 : t < n * i + j
        · rw [if_pos h2, if_pos (by omega)]
        · rw [if_neg h2, if_neg (by omega)])
    exact ⟨w, by rw [loopM_eq]; simp only [step, Option.bind_some]; exact w1, w2⟩
def padf (L : List (PP P × PP P)) : List V64 := L.map fun q => pad q.1.1
def pads (L : List (PP P × PP P)) : List V64 := L.map fun q => pad q.2.1
theorem addI {a b : PP P} (la : a.len ≤ 64) (lb : b.len ≤ 64) {c : Int} (hc : -1000 ≤ c ∧ c ≤ 1000) : spec_l01Add P.p (pad a.1) (pad b.1) c = some (pad (a + smi c b).1) := by
  rw [add_pad P.sm a.2 b.2 la lb (by omega), cmb_eq]
theorem add_smi_lenS {B : Nat} {v q : PP P} (c : Int) (hv : v.len ≤ B) (hq : q.len ≤ B) : (v + smi c q).len ≤ B := by
  have := len_add v (smi c q)
  have := smi_len c q
  omega
theorem annS4 {L : List (PP P × PP P)} (hL : ∀ q ∈ L, Mo q.1 ∧ q.1.len ≤ 64 ∧ q.2.len ≤ 64) (hl : L.length ≤ 64) : ∀ (k i : Nat) (v o : PP P), i + k = L.length → v.len ≤ 64 → o.len ≤ 64 →
    ∃ v' o', Red (L.drop i) v o v' o' ∧ v'.len ≤ 64 ∧ o'.len ≤ 64 ∧ loopM (fun s : Int × V64 × V64 => spec_l04Annihilator_l4 (padf L) P.p (pads L) s.1 s.2.1 s.2.2) ((i : Int), pad v.1, pad o.1) = some (pad v'.1, pad o'.1)
  | 0, i, v, o, hi, lv, lo => by
    refine ⟨v, o, ?_, lv, lo, ?_⟩
    · rw [List.drop_eq_nil_of_le (by omega)]; exact .nil
    · have step : spec_l04Annihilator_l4 (padf L) P.p (pads L) (i : Int) (pad v.1) (pad o.1) = some (.inr (pad v.1, pad o.1)) := by
        simp only [spec_l04Annihilator_l4, padf, List.length_map]
        rw [if_neg (by rw [decide_eq_true_eq]; omega)]
      rw [loopM_eq]
      simp only [step, Option.bind_some]
  | k + 1, i, v, o, hi, lv, lo => by
    have hil : i < L.length := by omega
    obtain ⟨q, hq⟩ : ∃ q, L[i] = q := ⟨_, rfl⟩
    have hqm : q ∈ L := by rw [← hq]; exact List.getElem_mem _
    obtain ⟨h0, l1, l2⟩ := hL q hqm
    have hpos := len_pos h0.ne
    have ed : L.drop i = q :: L.drop (i + 1) := by rw [List.drop_eq_getElem_cons hil, hq]
    have e1 : rd (padf L) i = pad q.1.1 := by simp [rd, padf, hil, hq]
    have e2 : rd (pads L) i = pad q.2.1 := by simp [rd, pads, hil, hq]
    have hp := P.two
    have hvc := v.c_res (q.1.len - 1)
    obtain ⟨d, hd⟩ : ∃ d, q.1.len - 1 = d := ⟨_, rfl⟩
    rw [hd] at hvc
    have hdg : spec_l01Deg (pad q.1.1) = some (d : Int) := by rw [degS q.1 l1]; congr 1; omega
    have hrd : rd (pad v.1).1 d = v.c d := rd_padl _ (by omega)
    have hw : IntKind.i64.wrap (0 - IntKind.i64.wrap (v.c d)) = -(v.c d) := by
      rw [wrap64 (n := v.c d) (by omega) (by omega), wrap64 (by omega) (by omega)]; omega
    have k1 := addI lv l1 (c := -(v.c d)) (by omega)
    have k2 := addI lo l2 (c := -(v.c d)) (by omega)
    have step : spec_l04Annihilator_l4 (padf L) P.p (pads L) (i : Int) (pad v.1) (pad o.1) = some (.inl (((i + 1 : Nat) : Int), pad (v + smi (-(v.c d)) q.1).1, pad (o + smi (-(v.c d)) q.2).1)) := by
      have f1 : (padf L).length = L.length := by simp [padf]
      have f2 : (pads L).length = L.length := by simp [pads]
      simp only [spec_l04Annihilator_l4, e1, e2, Int.toNat_natCast, hdg, hrd, letp, hw, k1, k2, Option.bind_some]
      rw [if_pos (decide_eq_true (by omega)), ifp_pos (by omega), ifp_pos (by omega), wrap64 (n := (i : Int) + 1) (by omega) (by omega)]
      by_cases hz : v.c d = 0
      · rw [if_neg (by rw [hz]; simp), hz]
        show _ = some (Sum.inl (_, pad (v + smi 0 q.1).1, pad (o + smi 0 q.2).1))
        rw [smi_zero, smi_zero, ppring.add_zero, ppring.add_zero]; rfl
      · rw [if_pos (by rw [bne_iff_ne]; exact hz), ifp_pos (by omega), ifp_pos (by omega), ifp_pos (by omega)]; rfl
    obtain ⟨v', o', r1, r2, r3, r4⟩ := annS4 hL hl k (i + 1) (v + smi (-(v.c d)) q.1) (o + smi (-(v.c d)) q.2) (by omega) (add_smi_lenS _ lv l1) (add_smi_lenS _ lo l2)
    refine ⟨v', o', ?_, r2, r3, ?_⟩
    · rw [ed]
      refine .cons _ ?_ r1
      have hq1 : q.1.c d = 1 := by rw [← hd, ← lead_c]; exact h0
      rw [hd, add_c, smi_c, hq1, Int.mul_one, Int.add_emod_emod, Int.add_right_neg]; rfl
    · rw [loopM_eq]
      simp only [step, Option.bind_some]
      exact r4
theorem pad_mnl {k : Nat} (hk : k < 64) : vset (vrep 64 (0 : Int)) k 1 = pad (mnl k : PP P).1 := vec_ext fun j hj => by
  rw [rd_vset _ _ _ _ hk, rd_padl _ hj]
  show _ = (mnl k : PP P).c j
  rw [mnl_c]
  by_cases h : j = k
  · rw [if_pos h, if_pos h]
  · rw [if_neg h, if_neg h, ← pad_nil, rd_padl _ hj, rd_nil]
section
variable {m : PP P} (hm : m ≠ 0) (lm : m.len ≤ 60)
include hm lm
theorem annS2 {n l : Nat} (hnm : n + 1 = m.len) (hl : n * l ≤ 60) (hl64 : l ≤ 60) {g : Nat → PP P} (hg : ∀ i, i < l → (g i).len ≤ 64) : ∀ (k i : Nat) (v : V64), i + k = l → (∀ t, t < 64 → rd v.1 t = if t < n * i then (lg n l g).c t else 0) →
      loopM (fun s : Int × List V64 × V64 => spec_l04Annihilator_l2 (n : Int) P.p (pad m.1) s.1 s.2.1 s.2.2) ((i : Int), padg l (fun j => if j < i then cst m (g j) else g j), v) = some (padg l (fun i => cst m (g i)), pad (lg n l g).1)
  | 0, i, v, hi, hv => by
    have step : spec_l04Annihilator_l2 (n : Int) P.p (pad m.1) (i : Int) (padg l (fun j => if j < i then cst m (g j) else g j)) v = some (.inr (padg l (fun j => if j < i then cst m (g j) else g j), v)) := by
      simp only [spec_l04Annihilator_l2, padg_len]
      rw [if_neg (by rw [decide_eq_true_eq]; omega)]
    rw [loopM_eq]
    simp only [step, Option.bind_some]
    have e : v = pad (lg n l g).1 := vec_ext fun t ht => by
      rw [hv t ht, rd_padl _ ht]
      by_cases h : t < n * i
      · rw [if_pos h]; rfl
      · rw [if_neg h]
        have : (lg n l g).c t = 0 := by
          have : i = l := by omega
          subst this
          rw [lg_c, if_neg h]
        exact this.symm
    rw [e, padg_congr (l := l) (g := fun j => if j < i then cst m (g j) else g j) (g' := fun i => cst m (g i)) (fun j hj => if_pos (by omega))]
  | k + 1, i, v, hi, hv => by
    have hil : i < l := by omega
    obtain ⟨u, hu⟩ : ∃ u, padg l (fun j => if j < i then cst m (g j) else g j) = u := ⟨_, rfl⟩
    have ul : u.length = l := by rw [← hu, padg_len]
    have ui : rd u i = pad (g i).1 := by rw [← hu, padg_rd _ hil, if_neg (by omega)]
    obtain ⟨w, w1, w2⟩ := annS3 (n := n) (l := l) hil hl hl64 (by omega) g ul ui n 0 v (by omega) (fun t ht => by rw [hv t ht, Nat.add_zero])
    have w1' : loopM (fun s : Int × V64 => spec_l04Annihilator_l3 (n : Int) (i : Int) u s.1 s.2) (0, v) = some w := w1
    have hst := stepS hm (show m.len ≤ 64 by omega) (hg i hil)
    have eset : u.set i (pad (cst m (g i)).1) = padg l (fun j => if j < i + 1 then cst m (g j) else g j) := by
      rw [← hu, padg_set _ _ hil]
      refine padg_congr fun j hj => ?_
      by_cases e : j = i
      · subst e; rw [if_pos rfl, if_pos (by omega)]
      · rw [if_neg e]
        by_cases h2 : j < i
        · rw [if_pos h2, if_pos (by omega)]
        · rw [if_neg h2, if_neg (by omega)]
    have step : spec_l04Annihilator_l2 (n : Int) P.p (pad m.1) (i : Int) u v = some (.inl (((i + 1 : Nat) : Int), padg l (fun j => if j < i + 1 then cst m (g j) else g j), w)) := by
      simp only [spec_l04Annihilator_l2, w1', Int.toNat_natCast, ui, hst, eset, Option.bind_some]
      rw [if_pos (decide_eq_true (by omega)), ifp_pos (by omega), ifp_pos (by omega), wrap64 (n := (i : Int) + 1) (by omega) (by omega)]; rfl
    rw [hu, loopM_eq]
    simp only [step, Option.bind_some]
    exact annS2 hnm hl hl64 hg k (i + 1) w (by omega) w2
theorem annS1 {n l : Nat} (hnm : n + 1 = m.len) (h1 : 0 < n) (hl : n * l ≤ 60) (hl64 : l ≤ 60) {g : Nat → PP P} (hg : ∀ i, i < l → (g i).len ≤ n) : ∀ (t k : Nat) (L : List (PP P × PP P)), k + t = n * l + 1 → Elim (fun k => lg n l fun i => itf (cst m) k (g i)) k L → (∀ q ∈ L, Mo q.1) →
    ∃ a : PP P, IsMin (fun k => lg n l fun i => itf (cst m) k (g i)) a ∧ a.len ≤ n * l + 1 ∧ loopM (fun s : Int × List V64 × List V64 × List V64 => spec_l04Annihilator_l1 (n : Int) P.p (pad m.1) s.1 s.2.1 s.2.2.1 s.2.2.2) ((k : Int), padf L, pads L, padg l (fun i => itf (cst m) k (g i))) = some (pad a.1) := by
  have hN : ∀ y : PP P, y.len ≤ n → (cst m y).len ≤ n := fun y _ => by
    have := cst_len hm y; omega
  have hit : ∀ k i, i < l → (itf (cst m) k (g i)).len ≤ n := fun k i hi => by
    induction k with
    | zero => exact hg i hi
    | succ k ih => exact hN _ ih
  have hs : ∀ b : PP P, (evs (fun k => lg n l fun i => itf (cst m) k (g i)) b).len ≤ n * l := fun b => evs_lg_len _ _ b
  intro t
  induction t with
  | zero =>
    intro k L hk hE _
    have := sp_bound hE hs
    omega
  | succ t ih =>
    intro k L hk hE hmo
    have hk64 : k ≤ 60 := by omega
    have hnum := hE.num
    have hL : ∀ q ∈ L, Mo q.1 ∧ q.1.len ≤ 64 ∧ q.2.len ≤ 64 := fun q hq => by
      refine ⟨hmo q hq, ?_, ?_⟩
      · have := hs q.2
        rw [← hE.vec q hq] at this
        omega
      · have := hE.len q hq
        omega
    have hgk : ∀ i, i < l → (itf (cst m) k (g i)).len ≤ 64 := fun i hi => by have := hit k i hi; omega
    have q2 := annS2 hm lm hnm hl hl64 hgk l 0 (vrep 64 (0 : Int)) (by omega) (fun t ht => by
      rw [← pad_nil, rd_padl _ ht, rd_nil, Nat.mul_zero, if_neg (by omega)])
    have q2' : loopM (fun s : Int × List V64 × V64 => spec_l04Annihilator_l2 (n : Int) P.p (pad m.1) s.1 s.2.1 s.2.2) (0, padg l (fun i => itf (cst m) k (g i)), vrep 64 (0 : Int)) = some (padg l (fun i => itf (cst m) (k + 1) (g i)), pad (lg n l fun i => itf (cst m) k (g i)).1) := q2
    have hlg := lg_len n l fun i => itf (cst m) k (g i)
    obtain ⟨v, o, r1, r2, r3, r4⟩ := annS4 hL (by omega) L.length 0 (lg n l fun i => itf (cst m) k (g i)) (mnl k) (by omega) (by omega) (by rw [mnl_len]; omega)
    rw [List.drop_zero] at r1
    have r4' : loopM (fun s : Int × V64 × V64 => spec_l04Annihilator_l4 (padf L) P.p (pads L) s.1 s.2.1 s.2.2) (0, pad (lg n l fun i => itf (cst m) k (g i)).1, vset (vrep 64 (0 : Int)) k 1) = some (pad v.1, pad o.1) := by
      rw [pad_mnl (P := P) (by omega)]; exact r4
    obtain ⟨g1, g2, g3, g4⟩ := hE.red r1
    have f1 : (padf L).length = L.length := by simp [padf]
    have f2 : (pads L).length = L.length := by simp [pads]
    by_cases hv : v = 0
    · subst hv
      obtain ⟨d1, d2⟩ := hE.done r1
      refine ⟨o, d1, by omega, ?_⟩
      have hdg := degS (0 : PP P) (by rw [len_zero.2 rfl]; omega)
      have step : spec_l04Annihilator_l1 (n : Int) P.p (pad m.1) (k : Int) (padf L) (pads L) (padg l (fun i => itf (cst m) k (g i))) = some (.inr (pad o.1)) := by
        rw [spec_l04Annihilator_l1, q2', Option.bind_some]
        dsimp only
        rw [ifp_pos (by omega), Int.toNat_natCast, r4', Option.bind_some]
        dsimp only
        rw [hdg, Option.bind_some, if_pos (by rw [decide_eq_true_eq, len_zero.2 rfl]; omega)]
      rw [loopM_eq]
      simp only [step, Option.bind_some]
    · have hpos := len_pos hv
      have hp := P.two
      have hlp := lead_pos P.pos v.2 (ne_len hv)
      have hin := inv_is P.okp hlp
      have hiv := inverse_spec P.okp hlp
      obtain ⟨d, hd⟩ : ∃ d, v.len - 1 = d := ⟨_, rfl⟩
      have hdg : spec_l01Deg (pad v.1) = some (d : Int) := by rw [degS v r2]; congr 1; omega
      have hrd : rd (pad v.1).1 d = lead v.1 := by rw [lead_c, hd]; exact rd_padl _ (by omega)
      obtain ⟨u, hu⟩ : ∃ u, inv P.p (lead v.1) = u := ⟨_, rfl⟩
      rw [hu] at hin hiv
      have hwu : IntKind.i64.wrap u = u := wrap64 (by omega) (by omega)
      have k1 := addI (P := P) (a := 0) (b := v) (by rw [len_zero.2 rfl]; omega) r2 (c := u) (by omega)
      have k2 := addI (P := P) (a := 0) (b := o) (by rw [len_zero.2 rfl]; omega) r3 (c := u) (by omega)
      have ez : pad (0 : PP P).1 = vrep 64 (0 : Int) := pad_nil
      rw [ppring.zero_add, ez] at k1 k2
      have hu0 : u % P.p ≠ 0 := by rw [Int.emod_eq_of_lt (by omega) hin.2.1]; omega
      have hE' : Elim (fun k => lg n l fun i => itf (cst m) k (g i)) k (L ++ []) := by rw [List.append_nil]; exact hE
      have r1' : Red (L ++ []) (lg n l fun i => itf (cst m) k (g i)) (mnl k) v o := by rw [List.append_nil]; exact r1
      have hn := hE'.next r1' hv hu0 (fun _ h => nomatch h)
      have hul : (smi u v).len = v.len := by
        obtain ⟨d, hd⟩ := inv_of hu0
        have a := smi_len u v
        have b := smi_len d (smi u v)
        rw [smi_mul, Int.mul_comm, ← smi_mod, hd, smi_one] at b
        omega
      have hmu : Mo (smi u v) := by
        show lead (smi u v).1 = 1
        rw [lead_c, hul, smi_c, ← lead_c, Int.mul_comm]
        exact hin.2.2
      obtain ⟨b, b1, b2, b3⟩ := ih (k + 1) _ (by omega) hn (fun q hq => by
        rcases List.mem_append.1 hq with h | h
        · exact hmo q h
        · rcases List.mem_cons.1 h with rfl | h
          · exact hmu
          · exact absurd h (by simp))
      refine ⟨b, b1, b2, ?_⟩
      have p1 : padf L ++ [pad (smi u v).1] = padf (L ++ [(smi u v, smi u o)]) := by simp [padf]
      have p2 : pads L ++ [pad (smi u o).1] = pads (L ++ [(smi u v, smi u o)]) := by simp [pads]
      have step : spec_l04Annihilator_l1 (n : Int) P.p (pad m.1) (k : Int) (padf L) (pads L) (padg l (fun i => itf (cst m) k (g i))) = some (.inl (((k + 1 : Nat) : Int), padf (L ++ [(smi u v, smi u o)]), pads (L ++ [(smi u v, smi u o)]), padg l (fun i => itf (cst m) (k + 1) (g i)))) := by
        rw [spec_l04Annihilator_l1, q2', Option.bind_some]
        dsimp only
        rw [ifp_pos (by omega), Int.toNat_natCast, r4', Option.bind_some]
        dsimp only
        rw [hdg, Option.bind_some, if_neg (by rw [decide_eq_true_eq]; omega), ifp_pos (by omega), Int.toNat_natCast, hrd, hiv, Option.bind_some, hwu, k1, Option.bind_some, ifp_pos (by simp; omega), k2, Option.bind_some, ifp_pos (by simp; omega), p1, p2, wrap64 (by omega) (by omega)]
        rfl
      rw [loopM_eq]
      simp only [step, Option.bind_some]
      exact b3
/-- The reference finds what is least. -/
theorem annS {n l : Nat} (hnm : n + 1 = m.len) (h1 : 0 < n) (hl : n * l ≤ 60) (hl64 : l ≤ 60) {g : Nat → PP P} (hg : ∀ i, i < l → (g i).len ≤ n) :
    ∃ a : PP P, spec_l04Annihilator P.p (padg l g) (pad m.1) = some (pad a.1) ∧ IsMin (fun k => lg n l fun i => itf (cst m) k (g i)) a := by
  obtain ⟨a, a1, a2, a3⟩ := annS1 hm lm hnm h1 hl hl64 hg (n * l + 1) 0 [] (by omega) (Elim.start _) (fun _ h => nomatch h)
  have a3' : loopM (fun s : Int × List V64 × List V64 × List V64 => spec_l04Annihilator_l1 (n : Int) P.p (pad m.1) s.1 s.2.1 s.2.2.1 s.2.2.2) (0, [], [], [] ++ padg l g) = some (pad a.1) := a3
  have hdg : spec_l01Deg (pad m.1) = some (n : Int) := by rw [degS m (by omega)]; congr 1; omega
  refine ⟨a, ?_, a1⟩
  have := padg_len l g
  rw [spec_l04Annihilator, hdg, Option.bind_some, ifp_pos (by simp; omega)]
  exact a3'
end
end Go.Proofs.Ytebfhlnfmkhmcaa
/- Products, in the reference. -/
namespace Go.Proofs.Ytebfhlnfmkhmcaa
open Go.Abs

end Go.Proofs.Ytebfhlnfmkhmcaa
/- The extended algorithm of Euclid. -/
namespace Go.Proofs.Ytebfhlnfmkhmcaa
open Go.Abs

/-- One step for a cofactor. -/
def cx (p : Int) (q s0 s1 : List Int) : List Int := comb p s0 (mul p q s1) (-1)
def ez (p : Int) : Nat → List Int → List Int → List Int → List Int → List Int → List Int → List Int × List Int × List Int
  | 0, a, _, s0, _, t0, _ => (a, s0, t0)
  | n + 1, a, b, s0, s1, t0, t1 => if b.length = 0 then (a, s0, t0) else ez p n b (rem p a b) s1 (cx p (quo p a b) s0 s1) t1 (cx p (quo p a b) t0 t1)
theorem cx_row {p : Int} (hp : 0 < p) (q s0 s1 : List Int) : Row p (cx p q s0 s1) := comb_row hp _ _ _
/-- What the cofactors keep to: M is one more than the greater of the two lengths. -/
structure EzOk (p : Int) (M : Nat) (a b s0 s1 : List Int) : Prop where
  r0 : Row p s0
  r1 : Row p s1
  h1 : s1.length + a.length ≤ M
  h2 : s0.length + b.length ≤ M
theorem EzOk.next {p : Int} (hp : isP p = true) {M : Nat} {a b s0 s1 : List Int} (h : EzOk p M a b s0 s1) (ha : Row p a) (hb : Row p b) (h0 : b.length ≠ 0) :
    EzOk p M b (rem p a b) s1 (cx p (quo p a b) s0 s1) := by
  have hp2 := isP_pos hp
  have c := comb_len p s0 (mul p (quo p a b) s1) (-1)
  have m := mul_len p (quo p a b) s1
  have q := quo_len p a b
  have r := rem_len' p a b
  have r' := rem_len hp ha hb h0
  have h1 := h.h1
  have h2 := h.h2
  refine ⟨h.r1, cx_row (by omega) _ _ _, ?_, by omega⟩
  unfold cx
  rcases Nat.eq_zero_or_pos (quo p a b).length with h3 | h3
  · have e : quo p a b = [] := List.eq_nil_of_length_eq_zero h3
    rw [e, mul_nil] at c ⊢
    simp only [List.length_nil] at c
    omega
  · omega
theorem EzOk.plen {p : Int} {M : Nat} {a b s0 s1 : List Int} (hM : M ≤ 65) (h : EzOk p M a b s0 s1) (h0 : b.length ≠ 0) : (mul p (quo p a b) s1).length ≤ 64 := by
  have q := quo_len p a b
  have h1 := h.h1
  have m := mul_len p (quo p a b) s1
  omega
theorem ezI_loop {p : Int} (hp : isP p = true) {M : Nat} (hM : M ≤ 65) : ∀ (n : Nat) (a b s0 s1 t0 t1 : List Int), Row p a → Row p b → a.length ≤ 64 → b.length ≤ n → b.length ≤ 64 → EzOk p M a b s0 s1 → EzOk p M a b t0 t1 →
    loopM (fun s : List Int × List Int × List Int × List Int × List Int × List Int => impl_prime_bezout_l1 p s.1 s.2.1 s.2.2.1 s.2.2.2.1 s.2.2.2.2.1 s.2.2.2.2.2) (a, b, s0, t0, s1, t1) = some (ez p n a b s0 s1 t0 t1) := by
  have hp2 := isP_pos hp
  have hq : 0 < p ∧ p ≤ 256 := by omega
  intro n
  induction n with
  | zero =>
    intro a b s0 s1 t0 t1 ha hb la lb lb2 hs ht
    have step : impl_prime_bezout_l1 p a b s0 t0 s1 t1 = some (.inr (a, s0, t0)) := by
      simp only [impl_prime_bezout_l1]
      rw [if_neg (by rw [decide_eq_true_eq]; omega)]
    rw [loopM_eq]
    simp only [step, Option.bind_some, ez]
  | succ n ih =>
    intro a b s0 s1 t0 t1 ha hb la lb lb2 hs ht
    by_cases h0 : b.length = 0
    · have step : impl_prime_bezout_l1 p a b s0 t0 s1 t1 = some (.inr (a, s0, t0)) := by
        simp only [impl_prime_bezout_l1]
        rw [if_neg (by rw [decide_eq_true_eq]; omega)]
      rw [loopM_eq]
      simp only [step, Option.bind_some, ez, if_pos h0]
    · have hqr := quo_row (show 0 < p by omega) a b
      have hrr := rem_row (show 0 < p by omega) ha b
      have hql := quo_len p a b
      have hrl := rem_len hp ha hb h0
      have p1 := hs.plen hM h0
      have p2 := ht.plen hM h0
      have q1 := hs.h1
      have q2 := hs.h2
      have q3 := ht.h1
      have q4 := ht.h2
      have step : impl_prime_bezout_l1 p a b s0 t0 s1 t1 = some (.inl (b, rem p a b, s1, t1, cx p (quo p a b) s0 s1, cx p (quo p a b) t0 t1)) := by
        simp only [impl_prime_bezout_l1]
        rw [if_pos (decide_eq_true (by omega)), divideI_is hp ha hb h0 (by omega) (by omega)]
        simp only [Option.bind_some]
        rw [times_is (by omega) (hqr.ent hq) (hs.r1.ent hq) (by omega) (by omega)]
        simp only [Option.bind_some]
        rw [combine_is hq (hs.r0.ent hq) ((mul_row hq.1 _ _).ent hq) (by omega) (by omega) (by omega)]
        simp only [Option.bind_some]
        rw [times_is (by omega) (hqr.ent hq) (ht.r1.ent hq) (by omega) (by omega)]
        simp only [Option.bind_some]
        rw [combine_is hq (ht.r0.ent hq) ((mul_row hq.1 _ _).ent hq) (by omega) (by omega) (by omega)]
        rfl
      rw [loopM_eq]
      simp only [step, Option.bind_some]
      rw [ih b (rem p a b) _ _ _ _ hb hrr lb2 (by omega) (by omega) (hs.next hp ha hb h0) (ht.next hp ha hb h0)]
      simp only [ez, if_neg h0]
theorem ez_row {p : Int} (hp : isP p = true) {M : Nat} (hM : M ≤ 65) : ∀ (n : Nat) (a b s0 s1 t0 t1 : List Int), Row p a → Row p b → a.length ≤ 64 → b.length ≤ 64 → b.length ≤ n → (a.length ≠ 0 ∨ b.length ≠ 0) → s0.length ≤ 64 → s1.length ≤ 64 → t0.length ≤ 64 → t1.length ≤ 64 → EzOk p M a b s0 s1 → EzOk p M a b t0 t1 →
    (Row p (ez p n a b s0 s1 t0 t1).1 ∧ (ez p n a b s0 s1 t0 t1).1.length ≤ 64 ∧ (ez p n a b s0 s1 t0 t1).1.length ≠ 0) ∧ (Row p (ez p n a b s0 s1 t0 t1).2.1 ∧ (ez p n a b s0 s1 t0 t1).2.1.length ≤ 64) ∧ (Row p (ez p n a b s0 s1 t0 t1).2.2 ∧ (ez p n a b s0 s1 t0 t1).2.2.length ≤ 64)
  | 0, a, b, s0, s1, t0, t1, ha, hb, la, lb, ln, hab, l0, l1, m0, m1, hs, ht => ⟨⟨ha, la, by simp only [ez]; omega⟩, ⟨hs.r0, l0⟩, ⟨ht.r0, m0⟩⟩
  | n + 1, a, b, s0, s1, t0, t1, ha, hb, la, lb, ln, hab, l0, l1, m0, m1, hs, ht => by
    simp only [ez]
    by_cases h0 : b.length = 0
    · simp only [if_pos h0]
      exact ⟨⟨ha, la, by omega⟩, ⟨hs.r0, l0⟩, ⟨ht.r0, m0⟩⟩
    · simp only [if_neg h0]
      have hp2 := isP_pos hp
      have hrl := rem_len hp ha hb h0
      have p1 := hs.plen hM h0
      have p2 := ht.plen hM h0
      have c1 := comb_len p s0 (mul p (quo p a b) s1) (-1)
      have c2 := comb_len p t0 (mul p (quo p a b) t1) (-1)
      exact ez_row hp hM n b (rem p a b) _ _ _ _ hb (rem_row (by omega) ha b) lb (by omega) (by omega) (.inl h0) l1 (by unfold cx; omega) m1 (by unfold cx; omega) (hs.next hp ha hb h0) (ht.next hp ha hb h0)

/-- The greatest common divisor, monic, with its cofactors. -/
def eg (p : Int) (a b : List Int) : List Int × List Int × List Int := ez p 64 a b [1] [] [] [1]
def sc (p : Int) (k : Int) (l : List Int) : List Int := comb p [] l k
def bz (p : Int) (a b : List Int) : List Int × List Int × List Int := (sc p (inv p (lead (eg p a b).1)) (eg p a b).1, sc p (inv p (lead (eg p a b).1)) (eg p a b).2.1, sc p (inv p (lead (eg p a b).1)) (eg p a b).2.2)
theorem ezok_start {p : Int} (hp : 2 ≤ p) {a b : List Int} (la : a.length ≤ 64) (lb : b.length ≤ 64) : EzOk p (max a.length b.length + 1) a b [1] [] ∧ EzOk p (max a.length b.length + 1) a b [] [1] :=
  ⟨⟨row_one hp, row_nil p, by simp only [List.length_nil]; omega, by simp only [List.length_cons, List.length_nil]; omega⟩, ⟨row_nil p, row_one hp, by simp only [List.length_cons, List.length_nil]; omega, by simp only [List.length_nil]; omega⟩⟩
theorem eg_row {p : Int} (hp : isP p = true) {a b : List Int} (ha : Row p a) (hb : Row p b) (la : a.length ≤ 64) (lb : b.length ≤ 64) (hab : a.length ≠ 0 ∨ b.length ≠ 0) :
    (Row p (eg p a b).1 ∧ (eg p a b).1.length ≤ 64 ∧ (eg p a b).1.length ≠ 0) ∧ (Row p (eg p a b).2.1 ∧ (eg p a b).2.1.length ≤ 64) ∧ (Row p (eg p a b).2.2 ∧ (eg p a b).2.2.length ≤ 64) := by
  have hp2 := isP_pos hp
  obtain ⟨e1, e2⟩ := ezok_start (p := p) (by omega) la lb
  exact ez_row hp (by omega) 64 a b [1] [] [] [1] ha hb la lb lb hab (by simp) (by simp) (by simp) (by simp) e1 e2
theorem bezoutI_is {p : Int} (hp : isP p = true) {a b : List Int} (ha : Row p a) (hb : Row p b) (la : a.length ≤ 64) (lb : b.length ≤ 64) (hab : a.length ≠ 0 ∨ b.length ≠ 0) : impl_prime_bezout p a b = some (bz p a b) := by
  have hp2 := isP_pos hp
  have hq : 0 < p ∧ p ≤ 256 := by omega
  obtain ⟨e1, e2⟩ := ezok_start (p := p) (by omega) la lb
  have h := ezI_loop hp (by omega) 64 a b [1] [] [] [1] ha hb la lb lb e1 e2
  obtain ⟨⟨g1, g2, g3⟩, ⟨g4, g5⟩, g6, g7⟩ := eg_row hp ha hb la lb hab
  have h' : loopM (fun s : List Int × List Int × List Int × List Int × List Int × List Int => impl_prime_bezout_l1 p s.1 s.2.1 s.2.2.1 s.2.2.2.1 s.2.2.2.2.1 s.2.2.2.2.2) (a, b, [1], [], [], [1]) = some ((eg p a b).1, (eg p a b).2.1, (eg p a b).2.2) := h
  have hl := lead_pos (show 0 < p by omega) g1 g3
  have hi := inv_is hp hl
  simp only [impl_prime_bezout, impl_prime_scale, h', Option.bind_some, lead_is g3 (by omega), inverse_impl hp hl]
  rw [combine_is hq ((row_nil p).ent hq) (g1.ent hq) (by simp) (by omega) (by omega)]
  simp only [Option.bind_some]
  rw [combine_is hq ((row_nil p).ent hq) (g4.ent hq) (by simp) (by omega) (by omega)]
  simp only [Option.bind_some]
  rw [combine_is hq ((row_nil p).ent hq) (g6.ent hq) (by simp) (by omega) (by omega)]
  rfl
end Go.Proofs.Ytebfhlnfmkhmcaa
/- Greatest common divisors, and monic polynomials. -/
namespace Go.Proofs.Ytebfhlnfmkhmcaa
open Go.Abs

variable {P : Pri}
/-! The greatest common divisor. -/
theorem ez_gcd : ∀ (n : Nat) (a b : PP P) (s0 s1 t0 t1 : List Int), b.len ≤ n → ∃ g : PP P, (ez P.p n a.1 b.1 s0 s1 t0 t1).1 = g.1 ∧ ∀ d, Dv d g ↔ Dv d a ∧ Dv d b
  | 0, a, b, s0, s1, t0, t1, h => by
    have hb : b = 0 := len_zero.1 (by omega)
    refine ⟨a, by simp only [ez], fun d => ?_⟩
    rw [hb]
    exact ⟨fun h => ⟨h, ppring.dv_zero d⟩, fun h => h.1⟩
  | n + 1, a, b, s0, s1, t0, t1, h => by
    simp only [ez]
    by_cases h0 : b.1.length = 0
    · rw [if_pos h0]
      have hb : b = 0 := len_zero.1 h0
      refine ⟨a, rfl, fun d => ?_⟩
      rw [hb]
      exact ⟨fun h => ⟨h, ppring.dv_zero d⟩, fun h => h.1⟩
    · rw [if_neg h0]
      have hb : b ≠ 0 := fun e => h0 (len_zero.2 e)
      obtain ⟨h1, h2⟩ := pdiv a hb
      obtain ⟨g, e, hg⟩ := ez_gcd n b (prem a b) s1 (cx P.p (quo P.p a.1 b.1) s0 s1) t1 (cx P.p (quo P.p a.1 b.1) t0 t1) (by omega)
      refine ⟨g, e, fun d => ?_⟩
      rw [hg]
      constructor
      · rintro ⟨d1, d2⟩
        refine ⟨?_, d1⟩
        rw [h1]
        exact ppring.dv_add (ppring.dv_mul d1 _) d2
      · rintro ⟨d1, d2⟩
        refine ⟨d2, ?_⟩
        rw [h1] at d1
        exact ppring.dv_sub d1 (ppring.dv_mul d2 _)
theorem sc_nsm (a : PP P) (k : Nat) : sc P.p k a.1 = (nsm k a).1 := by
  have h := comb_nsm 0 a k
  rw [ppring.zero_add] at h
  exact h
/-- What the program and the reference compute. -/
theorem gcd_is {a b : PP P} (la : a.len ≤ 64) (lb : b.len ≤ 64) (hab : a ≠ 0 ∨ b ≠ 0) : ∃ g : PP P, (bz P.p a.1 b.1).1 = g.1 ∧ g.len ≤ 64 ∧ Mo g ∧ ∀ d, Dv d g ↔ Dv d a ∧ Dv d b := by
  obtain ⟨g, e, hg⟩ := ez_gcd 64 a b [1] [] [] [1] lb
  have hab' : a.1.length ≠ 0 ∨ b.1.length ≠ 0 := hab.imp ne_len ne_len
  obtain ⟨⟨g1, g2, g3⟩, _, _⟩ := eg_row P.okp a.2 b.2 la lb hab'
  have e' : (eg P.p a.1 b.1).1 = g.1 := e
  rw [e'] at g1 g2 g3
  have hg0 : g ≠ 0 := fun h => g3 (len_zero.2 h)
  have hl := lead_pos P.pos g.2 g3
  have hi := inv_is P.okp hl
  obtain ⟨k, hk⟩ : ∃ k : Nat, inv P.p (lead g.1) = k := ⟨(inv P.p (lead g.1)).toNat, by omega⟩
  have e2 : (bz P.p a.1 b.1).1 = (mon g).1 := by
    show sc P.p (inv P.p (lead (eg P.p a.1 b.1).1)) (eg P.p a.1 b.1).1 = _
    rw [e', hk, sc_nsm]
    unfold mon
    rw [hk, Int.toNat_natCast]
  refine ⟨mon g, e2, by rw [mon_len hg0]; exact g2, mon_mo hg0, fun d => ?_⟩
  obtain ⟨m1, m2⟩ := mon_dv hg0
  rw [← hg]
  exact ⟨fun h => ppring.dv_trans h m2, fun h => ppring.dv_trans h m1⟩
theorem gcdI {a b : PP P} (la : a.len ≤ 64) (lb : b.len ≤ 64) (hab : a ≠ 0 ∨ b ≠ 0) : ∃ g : PP P, impl_prime_gcd P.p a.1 b.1 = some g.1 ∧ g.len ≤ 64 ∧ Mo g ∧ ∀ d, Dv d g ↔ Dv d a ∧ Dv d b := by
  obtain ⟨g, e, h1, h2, h3⟩ := gcd_is la lb hab
  refine ⟨g, ?_, h1, h2, h3⟩
  simp only [impl_prime_gcd, bezoutI_is P.okp a.2 b.2 la lb (hab.imp ne_len ne_len), Option.bind_some, e]
end Go.Proofs.Ytebfhlnfmkhmcaa
/- Products of monic polynomials. -/
namespace Go.Proofs.Ytebfhlnfmkhmcaa
open Go.Abs
variable {P : Pri}
theorem lead_mul {a b : PP P} (ha : a ≠ 0) (hb : b ≠ 0) : lead (a * b).1 = lead a.1 * lead b.1 % P.p := by
  have h1 := len_mul ha hb
  have h2 := len_pos ha
  have h3 := len_pos hb
  rw [lead_c, lead_c, lead_c, mul_c, show (a * b).len - 1 = (a.len - 1) + (b.len - 1) by omega, conv_lead (a := a.c) (b := b.c) (n := a.len - 1) (m := b.len - 1)]
  · intro i hi; exact rd_ge (by show a.len ≤ i; omega)
  · intro i hi; exact rd_ge (by show b.len ≤ i; omega)
theorem mo_mul {a b : PP P} (ha : Mo a) (hb : Mo b) : Mo (a * b) := by
  unfold Mo
  have h1 : lead a.1 = 1 := ha
  have h2 : lead b.1 = 1 := hb
  rw [lead_mul ha.ne hb.ne, h1, h2, Int.one_mul]
  exact Int.emod_eq_of_lt (by omega) (by have := P.two; omega)
theorem mo_of_mul {a b : PP P} (ha : Mo a) (hb : b ≠ 0) (h : Mo (a * b)) : Mo b := by
  have h1 : lead a.1 = 1 := ha
  have h2 : lead (a * b).1 = 1 := h
  rw [lead_mul ha.ne hb, h1, Int.one_mul, lead_c, b.c_mod, ← lead_c] at h2
  exact h2
end Go.Proofs.Ytebfhlnfmkhmcaa
/- The polynomial with a number. -/
namespace Go.Proofs.Ytebfhlnfmkhmcaa
open Go.Abs

theorem numbered_loop {p : Nat} (hp : 2 ≤ p) : ∀ s : Int × List Int, (∃ n : Nat, s.1 = n ∧ s.2.length + n ≤ 1000000000000) → ∃ r, loopM (fun s : Int × List Int => impl_prime_numbered_l1 p s.1 s.2) s = some r ∧ ∀ n : Nat, s.1 = n → r = s.2 ++ digs p n := by
  refine loopM_ind (fun (s : Int × List Int) => ∃ n : Nat, s.1 = n ∧ s.2.length + n ≤ 1000000000000) (fun (s : Int × List Int) (r : List Int) => ∀ n : Nat, s.1 = n → r = s.2 ++ digs p n) (fun (s : Int × List Int) => s.1.toNat) ?_
  rintro ⟨x, l⟩ ⟨n, hx, h2⟩
  simp only at hx h2
  subst hx
  by_cases hn : n = 0
  · right
    subst hn
    refine ⟨l, by simp [impl_prime_numbered_l1], fun m hm => ?_⟩
    have : m = 0 := by simpa using hm.symm
    subst this
    rw [digs_zero]; simp
  · left
    have hlt : n / p < n := Nat.div_lt_self (by omega) hp
    have e1 : Int.tdiv (n : Int) p = ((n / p : Nat) : Int) := rfl
    have e2 : Int.tmod (n : Int) p = ((n % p : Nat) : Int) := rfl
    have ed := digs_pos hp (show 0 < n by omega)
    generalize n / p = q at hlt e1 ed
    generalize n % p = d at e2 ed
    refine ⟨((q : Int), l ++ [(d : Int)]), ?_, ⟨q, rfl, by simp only [List.length_append, List.length_singleton]; omega⟩, by simp only [Int.toNat_natCast]; exact hlt, fun r hr m hm => ?_⟩
    · simp only [impl_prime_numbered_l1]
      rw [if_pos (by simp; omega), ifp_pos (by omega), ifp_pos (by simp; omega), ifp_pos (by omega), e1, e2, wrap64 (by omega) (by omega)]
    · have : m = n := by have : (n : Int) = m := hm; omega
      subst this
      rw [hr q rfl, ed]
      simp

theorem numbered_is {p n : Nat} (hp : 2 ≤ p) (hn : n ≤ 1000000000000) : impl_prime_numbered p n = some (digs p n) := by
  obtain ⟨l, h3, h4⟩ := numbered_loop hp ((n : Int), []) ⟨n, rfl, by simp; omega⟩
  have e := h4 n rfl
  simp only [List.nil_append] at e
  simp [impl_prime_numbered, h3, e]

end Go.Proofs.Ytebfhlnfmkhmcaa
/- The exponent, in the program and in the reference. -/
namespace Go.Proofs.Ytebfhlnfmkhmcaa
open Go.Abs
variable {P : Pri}
/-- The program's least common multiple. -/
theorem lcmI {a b : PP P} (ha : Mo a) (hb : Mo b) (la : a.len ≤ 64) (lb : b.len ≤ 64) : ∃ l : PP P, impl_prime_lcm P.p a.1 b.1 = some l.1 ∧ Mo l ∧ ∀ c, Dv l c ↔ Dv a c ∧ Dv b c := by
  have R : IsRing (PP P) := ppring
  obtain ⟨g, g1, g2, g3, g4⟩ := gcdI la lb (.inl ha.ne)
  obtain ⟨d1, d2⟩ := (g4 g).1 (R.dv_refl g)
  obtain ⟨g0, u, v, e, e1, e2⟩ := bezout _ a b (Nat.le_refl _)
  obtain ⟨q, hq⟩ := (g4 g0).2 ⟨e1, e2⟩
  have hab : Mo (a * b) := mo_mul ha hb
  have lab : (a * b).len ≤ 500000 := by
    have : (a * b).len ≤ a.len + b.len - 1 := mul_len _ _ _
    omega
  have e3 : impl_prime_times P.p a.1 b.1 = some (a * b).1 := timesI (by omega) (by omega)
  have e4 := pdivI (P := P) (a := a * b) g3.ne lab (by omega)
  have hr : prem (a * b) g = 0 := (prem_iff g3.ne).2 (by rw [R.mul_comm]; exact R.dv_mul d1 b)
  have hd := (pdiv (a * b) g3.ne).1
  rw [hr, R.add_zero] at hd
  obtain ⟨a', ha'⟩ := d1
  obtain ⟨b', hb'⟩ := d2
  have hl0 : pquo (a * b) g ≠ 0 := fun h => hab.ne (by rw [hd, h, R.zero_mul])
  refine ⟨pquo (a * b) g, ?_, mo_of_mul g3 hl0 (by rw [R.mul_comm, ← hd]; exact hab), fun c => lcm_dv (u := q * u) (v := q * v) g3.ne ?_ (by rw [ha', R.mul_comm]) (by rw [hb', R.mul_comm]) (by rw [R.mul_comm g, ← hd]) c⟩
  · simp only [impl_prime_lcm, e3, g1, e4, Option.bind_some]
  · rw [R.mul_assoc, R.mul_assoc, ← R.mul_add, ← e, hq]
theorem digs_mnl : ∀ k : Nat, digs P.n (P.n ^ k) = (mnl k : PP P).1
  | 0 => by
    have := P.ge
    rw [Nat.pow_zero, digs_pos P.ge (by omega), Nat.mod_eq_of_lt (by omega), Nat.div_eq_of_lt (by omega), digs_zero]; rfl
  | k + 1 => by
    have hge := P.ge
    have hpos : 0 < P.n ^ (k + 1) := Nat.pow_pos (by omega)
    have e1 : P.n ^ (k + 1) % P.n = 0 := by rw [Nat.pow_succ]; exact Nat.mul_mod_left _ _
    have e2 : P.n ^ (k + 1) / P.n = P.n ^ k := by rw [Nat.pow_succ]; exact Nat.mul_div_cancel _ (by omega)
    rw [digs_pos P.ge hpos, e1, e2, digs_mnl k]
    show (0 : Int) :: (List.replicate k 0 ++ [1]) = List.replicate (k + 1) 0 ++ [1]
    rw [List.replicate_succ]; rfl
section
variable {m : PP P} (h2 : 2 ≤ m.len) (l6 : m.len ≤ 6)
include h2 l6
omit l6 in
theorem m_ne : m ≠ 0 := fun e => by have := len_zero.2 e; omega
omit l6 in
theorem cst_N : ∀ y : PP P, y.len ≤ m.len - 1 → (cst m y).len ≤ m.len - 1 := fun y _ => by
  have := cst_len (m_ne h2) y; omega
/-- What both sides compute. -/
def IsExp (m e : PP P) : Prop := Mo e ∧ e.len ≤ m.len ∧ ∀ c, Dv e c ↔ ∀ j, j < m.len - 1 → ev (cst m) c (mnl j) = 0
theorem exn_loop : ∀ (k i : Nat) (e : PP P), i + k = m.len - 1 → Mo e → (∀ c, Dv e c ↔ ∀ j, j < i → ev (cst m) c (mnl j) = 0) →
    ∃ r : PP P, IsExp m r ∧ loopM (fun s : List Int × Int => impl_ExponentOf_l1 ((m.len - 1 : Nat) : Int) P.p m.1 s.1 s.2) (e.1, (i : Int)) = some r.1 := by
  have hcy := cyclic (cst_add (m_ne h2)) (cst_N h2)
  obtain ⟨z, A, hz, hA, hk⟩ := hcy
  have hAl : A.len ≤ m.len := by
    obtain ⟨A', h1, h3⟩ := an_ex (cst_add (m_ne h2)) (cst_N h2) hz
    rw [hA.uniq h1]; omega
  have hln : ∀ (i : Nat) (e : PP P), i ≤ m.len - 1 → (∀ c, Dv e c ↔ ∀ j, j < i → ev (cst m) c (mnl j) = 0) → e.len ≤ m.len := fun i e hi he => by
    have := dv_len ((he A).2 fun j hj => hk _ (by rw [mnl_len]; omega)) hA.mo.ne
    omega
  intro k
  induction k with
  | zero =>
    intro i e hi hm he
    have hi' : i = m.len - 1 := by omega
    refine ⟨e, ⟨hm, hln i e (by omega) he, by rw [← hi']; exact he⟩, ?_⟩
    have step : impl_ExponentOf_l1 ((m.len - 1 : Nat) : Int) P.p m.1 e.1 (i : Int) = some (.inr e.1) := by
      simp only [impl_ExponentOf_l1]
      rw [if_neg (by rw [decide_eq_true_eq]; omega)]
    rw [loopM_eq]
    simp only [step, Option.bind_some]
  | succ k ih =>
    intro i e hi hm he
    have hp := P.two
    have hN := P.is
    obtain ⟨c, c1, c2, _⟩ := norm_is (p := P.n) (n := i) (most := 1099511627776) (by omega) (by omega) (by omega)
    have hpw : P.n ^ i ≤ 100000 := by
      have a1 : P.n ^ i ≤ 7 ^ i := Nat.pow_le_pow_left (by omega) _
      have a2 : 7 ^ i ≤ 7 ^ 5 := Nat.pow_le_pow_right (by omega) (by omega)
      omega
    have hc : c = P.n ^ i := by omega
    have c1' : impl_prime_norm P.p (i : Int) 1099511627776 = some ((P.n ^ i : Nat) : Int) := by rw [← hc]; exact c1
    have c3 : impl_prime_numbered P.p ((P.n ^ i : Nat) : Int) = some (mnl i : PP P).1 := by
      rw [← digs_mnl]; exact numbered_is P.ge (by omega)
    have hml : (mnl i : PP P).len < m.len := by rw [mnl_len]; omega
    obtain ⟨a, a1, a2, a3⟩ := annI (m_ne h2) (by omega) (x := mnl i) (by omega)
    rw [prem_small hml] at a2
    have hel := hln i e (by omega) he
    obtain ⟨l, b1, b2, b3⟩ := lcmI hm a2.mo (by omega) (by omega)
    have step : impl_ExponentOf_l1 ((m.len - 1 : Nat) : Int) P.p m.1 e.1 (i : Int) = some (.inl (l.1, ((i + 1 : Nat) : Int))) := by
      simp only [impl_ExponentOf_l1, c1', c3, a1, b1, Option.bind_some]
      rw [if_pos (decide_eq_true (by omega)), wrap64 (by omega) (by omega)]; rfl
    obtain ⟨r, r1, r2⟩ := ih (i + 1) l (by omega) b2 (fun c => by
      rw [b3, he, ← a2.dv (cst_add (m_ne h2))]
      constructor
      · rintro ⟨k1, k2⟩ j hj
        by_cases hji : j = i
        · subst hji; exact k2
        · exact k1 j (by omega)
      · intro h
        exact ⟨fun j hj => h j (by omega), h i (by omega)⟩)
    refine ⟨r, r1, ?_⟩
    rw [loopM_eq]
    simp only [step, Option.bind_some]
    exact r2
theorem IsExp.min {e : PP P} (h : IsExp m e) : IsMin (fun k => lg (m.len - 1) (m.len - 1) fun i => itf (cst m) k (mnl i)) e :=
  min_of (by omega) (cst_add (m_ne h2)) (cst_N h2) (fun i hi => by rw [mnl_len]; omega) h.1 h.2.2
theorem exn_both : ∃ e : PP P, IsExp m e ∧ loopM (fun s : List Int × Int => impl_ExponentOf_l1 ((m.len - 1 : Nat) : Int) P.p m.1 s.1 s.2) ([1], 0) = some e.1 ∧ spec_l04Exponent P.p (pad m.1) = some (pad e.1) := by
  obtain ⟨e, e1, e2⟩ := exn_loop h2 l6 (m.len - 1) 0 1 (by omega) rfl (fun c => ⟨fun _ j hj => by omega, fun _ => ⟨c, (ppring.mul_one c).symm⟩⟩)
  refine ⟨e, e1, e2, ?_⟩
  have hdeg : spec_l01Deg (pad m.1) = some ((m.len - 1 : Nat) : Int) := by rw [degS m (by omega)]; congr 1; omega
  obtain ⟨v, g1, g2⟩ := loopM_for (body := fun s : Int × List V64 => spec_l04Exponent_l1 (pad m.1) s.1 s.2) (fun i u => ((i : Int), u)) (fun u => u) (m.len - 1)
    (fun i u => u = padg i (fun j => (mnl j : PP P))) (fun i u hi hI => by
      subst hI
      refine ⟨_, ?_, rfl⟩
      have hl := padg_len i (fun j => (mnl j : PP P))
      have ep : padg i (fun j => (mnl j : PP P)) ++ [pad (mnl i : PP P).1] = padg (i + 1) (fun j => (mnl j : PP P)) := by
        unfold padg
        rw [List.range_succ, List.map_append]; rfl
      rw [spec_l04Exponent_l1, hdeg, Option.bind_some, if_pos (decide_eq_true (by omega)), ifp_pos (by omega), Int.toNat_natCast, pad_mnl (P := P) (by omega), ifp_pos (by simp; omega), ep, wrap64 (by omega) (by omega)]
      rfl) (fun u hI => by
      rw [spec_l04Exponent_l1, hdeg, Option.bind_some, if_neg (by rw [decide_eq_true_eq]; omega)]) (m.len - 1) 0 [] (by omega) rfl
  have g1' : loopM (fun s : Int × List V64 => spec_l04Exponent_l1 (pad m.1) s.1 s.2) (0, []) = some v := g1
  obtain ⟨a, a1, a2⟩ := annS (m_ne h2) (show m.len ≤ 60 by omega) (n := m.len - 1) (l := m.len - 1) (by omega) (by omega) (by
    have : (m.len - 1) * (m.len - 1) ≤ 5 * 5 := Nat.mul_le_mul (by omega) (by omega)
    omega) (by omega) (g := fun j => mnl j) (fun i hi => by rw [mnl_len]; omega)
  rw [a2.uniq (IsExp.min h2 l6 e1)] at a1
  rw [spec_l04Exponent, g1', Option.bind_some, g2, a1, Option.bind_some]
end
end Go.Proofs.Ytebfhlnfmkhmcaa
/- Which arrays have coefficients below p. -/
namespace Go.Proofs.Ytebfhlnfmkhmcaa
open Go.Abs
/-- All coefficients lie below p. -/
def Small (p : Int) (a : V64) : Prop := ∀ j, j < 64 → rd a.1 j < p
open Classical in
noncomputable def small (p : Int) (a : V64) : Bool := decide (Small p a)

theorem res_of_small {p : Int} {a : V64} (hb : IsB a) (h : small p a = true) : Res p a := fun j hj => by
  have h1 : Small p a := by simpa [small] using h
  exact ⟨(hb.rd hj).1, h1 j hj⟩
end Go.Proofs.Ytebfhlnfmkhmcaa
/- Which arrays are polynomials, in the program. -/
namespace Go.Proofs.Ytebfhlnfmkhmcaa
open Go.Abs

theorem index_loop {p : Int} {a : V64} (hb : IsB a) : ∀ s : Int, (∃ i : Nat, s = i ∧ i ≤ 64 ∧ ∀ j, j < i → rd a.1 j < p) → ∃ r, loopM (fun s : Int => slices_IndexFunc_byte_byte_of_impl_areAll_byte__c1_p_l1 a.1 p s) s = some r ∧ ((r = .inl () ∧ Small p a) ∨ (∃ i : Nat, r = .inr (i : Int) ∧ ¬ Small p a)) := by
  refine loopM_ind (fun (s : Int) => ∃ i : Nat, s = i ∧ i ≤ 64 ∧ ∀ j, j < i → rd a.1 j < p) (fun (s : Int) (r : Unit ⊕ Int) => (r = .inl () ∧ Small p a) ∨ (∃ i : Nat, r = .inr (i : Int) ∧ ¬ Small p a)) (fun s => 64 - s.toNat) ?_
  rintro s ⟨i, rfl, hi, hlt⟩
  have h64 := a.2
  by_cases h : i = 64
  · right
    subst h
    exact ⟨.inl (), by simp [slices_IndexFunc_byte_byte_of_impl_areAll_byte__c1_p_l1, h64], .inl ⟨rfl, hlt⟩⟩
  · have hbi := hb.rd (show i < 64 by omega)
    have e1 : impl_areAll_byte__c1_of_p (rd a.1 i) p = some (!decide (rd a.1 i < p)) := by
      simp only [impl_areAll_byte__c1_of_p, impl_isPoly_c1_of_p, Option.bind_some]
      rw [wrap64 (by omega) (by omega)]
    by_cases e : rd a.1 i < p
    · left
      refine ⟨((i + 1 : Nat) : Int), ?_, ⟨i + 1, rfl, by omega, fun j hj => ?_⟩, by simp; omega, fun r hr => hr⟩
      · simp only [slices_IndexFunc_byte_byte_of_impl_areAll_byte__c1_p_l1, h64]
        rw [if_pos (by simp; omega), ifp_pos (by omega), Int.toNat_natCast, e1, wrap64 (by omega) (by omega)]
        simp [e]
      · by_cases hj' : j = i
        · rw [hj']; exact e
        · exact hlt j (by omega)
    · right
      refine ⟨.inr (i : Int), ?_, .inr ⟨i, rfl, fun hs => e (hs i (by omega))⟩⟩
      simp only [slices_IndexFunc_byte_byte_of_impl_areAll_byte__c1_p_l1, h64]
      rw [if_pos (by simp; omega), ifp_pos (by omega), Int.toNat_natCast, e1]
      simp [e]
theorem isPoly_is {p : Int} {a : V64} (hb : IsB a) : impl_isPoly p a = some (small p a) := by
  obtain ⟨r, h1, h2⟩ := index_loop (p := p) hb 0 ⟨0, rfl, by omega, fun j hj => by omega⟩
  simp only [impl_isPoly, impl_areAll_byte_of_impl_isPoly_c1_p, slices_ContainsFunc_byte_byte_of_impl_areAll_byte__c1_p, slices_IndexFunc_byte_byte_of_impl_areAll_byte__c1_p, h1, Option.bind_some]
  rcases h2 with ⟨rfl, h⟩ | ⟨i, rfl, h⟩ <;> simp [small, h]
end Go.Proofs.Ytebfhlnfmkhmcaa
/- The code for polynomials, in the program. -/
namespace Go.Proofs.Ytebfhlnfmkhmcaa
open Go.Abs

theorem indexP_loop {p : Int} {l : List V64} (hb : ∀ a ∈ l, IsB a) (hl : l.length ≤ 2000000) : ∀ s : Int, (∃ i : Nat, s = i ∧ i ≤ l.length ∧ ∀ a ∈ l.take i, small p a = true) → ∃ r, loopM (fun s : Int => slices_IndexFunc_impl_Poly_impl_Poly_of_impl_areAll_impl_Poly__c1_p_l1 l p s) s = some r ∧ ((r = .inl () ∧ l.all (small p) = true) ∨ (∃ i : Nat, r = .inr (i : Int) ∧ l.all (small p) = false)) := by
  refine loopM_ind (fun (s : Int) => ∃ i : Nat, s = i ∧ i ≤ l.length ∧ ∀ a ∈ l.take i, small p a = true) (fun (s : Int) (r : Unit ⊕ Int) => (r = .inl () ∧ l.all (small p) = true) ∨ (∃ i : Nat, r = .inr (i : Int) ∧ l.all (small p) = false)) (fun s => l.length - s.toNat) ?_
  rintro s ⟨i, rfl, hi, hlt⟩
  by_cases h : i = l.length
  · right
    subst h
    exact ⟨.inl (), by simp [slices_IndexFunc_impl_Poly_impl_Poly_of_impl_areAll_impl_Poly__c1_p_l1], .inl ⟨rfl, by rw [List.take_length] at hlt; simpa using hlt⟩⟩
  · have hil : i < l.length := by omega
    have er : rd l i = l[i] := by simp [rd, hil]
    have hbi := isPoly_is (p := p) (hb l[i] (List.getElem_mem _))
    have e1 : impl_areAll_impl_Poly__c1_of_p (rd l i) p = some (!small p l[i]) := by
      simp only [impl_areAll_impl_Poly__c1_of_p, impl_polysCode_c1_of_p, er, hbi, Option.bind_some]
    cases e : small p l[i] with
    | true =>
      left
      refine ⟨((i + 1 : Nat) : Int), ?_, ⟨i + 1, rfl, by omega, fun a ha => ?_⟩, by simp; omega, fun r hr => hr⟩
      · simp only [slices_IndexFunc_impl_Poly_impl_Poly_of_impl_areAll_impl_Poly__c1_p_l1]
        rw [if_pos (decide_eq_true (by omega)), ifp_pos (by omega), Int.toNat_natCast, e1, e]
        simp only [Option.bind_some, Bool.not_true, Bool.false_eq_true, if_false]
        rw [wrap64 (by omega) (by omega)]; rfl
      · rw [List.take_succ_eq_append_getElem hil] at ha
        rcases List.mem_append.1 ha with ha | ha
        · exact hlt a ha
        · have : a = l[i] := by simpa using ha
          rw [this]; exact e
    | false =>
      right
      refine ⟨.inr (i : Int), ?_, .inr ⟨i, rfl, ?_⟩⟩
      · simp only [slices_IndexFunc_impl_Poly_impl_Poly_of_impl_areAll_impl_Poly__c1_p_l1]
        rw [if_pos (decide_eq_true (by omega)), ifp_pos (by omega), Int.toNat_natCast, e1, e]
        rfl
      · rw [List.all_eq_false]
        exact ⟨l[i], List.getElem_mem _, by simp [e]⟩
theorem polysCode_is {p : Int} {l : List V64} (hb : ∀ a ∈ l, IsB a) (hl : l.length ≤ 2000000) : impl_polysCode p l = some (if isP p && l.all (small p) then 0 else 1) := by
  obtain ⟨r, h1, h2⟩ := indexP_loop (p := p) hb hl 0 ⟨0, rfl, by omega, by simp⟩
  have e : impl_areAll_impl_Poly_of_impl_polysCode_c1_p l p = some (l.all (small p)) := by
    simp only [impl_areAll_impl_Poly_of_impl_polysCode_c1_p, slices_ContainsFunc_impl_Poly_impl_Poly_of_impl_areAll_impl_Poly__c1_p, slices_IndexFunc_impl_Poly_impl_Poly_of_impl_areAll_impl_Poly__c1_p, h1, Option.bind_some]
    rcases h2 with ⟨rfl, h⟩ | ⟨i, rfl, h⟩ <;> simp [h]
  simp only [impl_polysCode, isPrime_impl, e, Option.bind_some]
  cases isP p <;> cases l.all (small p) <;> simp
end Go.Proofs.Ytebfhlnfmkhmcaa
/- The row of an array, trimmed. -/
namespace Go.Proofs.Ytebfhlnfmkhmcaa
open Go.Abs

theorem rowOf_loop {a : V64} (hb : IsB a) : ∀ s : Int × List Int, (∃ i : Nat, s.1 = i ∧ i ≤ 64 ∧ s.2 = a.1.take i) → ∃ r, loopM (fun s : Int × List Int => impl_rowOf_l1 a s.1 s.2) s = some r ∧ r = a.1 := by
  refine loopM_ind (fun (s : Int × List Int) => ∃ i : Nat, s.1 = i ∧ i ≤ 64 ∧ s.2 = a.1.take i) (fun (s : Int × List Int) (r : List Int) => r = a.1) (fun (s : Int × List Int) => 64 - s.1.toNat) ?_
  rintro ⟨x, v⟩ ⟨i, hx, hi, hv⟩
  simp only at hx hv
  subst hx hv
  by_cases h : i = 64
  · right
    subst h
    exact ⟨a.1, by simp [impl_rowOf_l1, List.take_of_length_le (Nat.le_of_eq a.2)], rfl⟩
  · left
    have hil : i < a.1.length := by rw [a.2]; omega
    have er : rd a.1 i = a.1[i] := by simp [rd, hil]
    have hbi := hb.rd (show i < 64 by omega)
    refine ⟨(((i + 1 : Nat) : Int), a.1.take (i + 1)), ?_, ⟨i + 1, rfl, by omega, rfl⟩, by simp; omega, fun r hr => hr⟩
    simp only [impl_rowOf_l1]
    rw [if_pos (by simp; omega), ifp_pos (by omega), ifp_pos (by simp; omega)]
    rw [Int.toNat_natCast, wrap64 (by omega) (by omega), wrap64 (by omega) (by omega), er, List.take_succ_eq_append_getElem hil]
    simp

theorem rowOf_is {a : V64} (hb : IsB a) : impl_rowOf a = some (a.1.take (top (rd a.1) 64)) := by
  obtain ⟨r, h1, h2⟩ := rowOf_loop hb (0, []) ⟨0, rfl, by omega, by simp⟩
  subst h2
  have h3 := trimmed_is (l := a.1) (by rw [a.2]; omega)
  rw [a.2] at h3
  simp only [impl_rowOf, h1, Option.bind_some, h3]
end Go.Proofs.Ytebfhlnfmkhmcaa
/- The row of an array. -/
namespace Go.Proofs.Ytebfhlnfmkhmcaa
open Go.Abs
theorem row_is {d : V64} (hb : IsB d) : impl_rowOf d = some (row d) := by
  rw [rowOf_is hb]
  congr 1
  have := top_le (rd d.1) 64
  refine rd_ext (by rw [row, ofF_len]; simp; rw [d.2]; omega) fun i hi => ?_
  simp at hi
  rw [rd_take, row, rd_ofF', if_pos (by omega), if_pos (by omega)]
theorem row_length (d : V64) : (row d).length = top (rd d.1) 64 := by rw [row, ofF_len]
end Go.Proofs.Ytebfhlnfmkhmcaa
/- A row as an array. -/
namespace Go.Proofs.Ytebfhlnfmkhmcaa
open Go.Abs

theorem poly_loop {l : List Int} (hb : Bytes l) (hl : l.length ≤ 64) : ∀ s : Int × V64, (∃ i : Nat, s.1 = i ∧ i ≤ l.length ∧ s.2 = pad (l.take i)) → ∃ r, loopM (fun s : Int × V64 => impl_row_poly_l1 l s.1 s.2) s = some r ∧ r = pad l := by
  refine loopM_ind (fun (s : Int × V64) => ∃ i : Nat, s.1 = i ∧ i ≤ l.length ∧ s.2 = pad (l.take i)) (fun (s : Int × V64) r => r = pad l) (fun (s : Int × V64) => 64 - s.1.toNat) ?_
  rintro ⟨x, v⟩ ⟨i, hx, hi, hv⟩
  simp only at hx hv
  subst hx hv
  by_cases h : i = l.length
  · right
    subst h
    exact ⟨pad l, by simp [impl_row_poly_l1], rfl⟩
  · left
    have hil : i < l.length := by omega
    have er : rd l i = l[i] := by simp [rd, hil]
    have hbi := hb l[i] (List.getElem_mem _)
    refine ⟨(((i + 1 : Nat) : Int), pad (l.take (i + 1))), ?_, ⟨i + 1, rfl, by omega, rfl⟩, by simp; omega, fun r hr => hr⟩
    simp only [impl_row_poly_l1]
    rw [if_pos (by simp; omega), ifp_pos (by omega), ifp_pos (by omega)]
    simp only [Int.toNat_natCast, er]
    rw [wrap64 (by omega) (by omega), wrap8 hbi.1 hbi.2]
    have := pad_set (l.take i) l[i] (by simp; omega)
    rw [List.length_take, Nat.min_eq_left (by omega)] at this
    rw [this, List.take_succ_eq_append_getElem hil]
    simp

theorem poly_is {l : List Int} (hb : Bytes l) (hl : l.length ≤ 64) : impl_row_poly l = some (pad l) := by
  obtain ⟨r, h1, h2⟩ := poly_loop hb hl (0, pad []) ⟨0, rfl, by omega, by simp⟩
  simp only [impl_row_poly, ← pad_nil, h1, h2, Option.bind_some]
end Go.Proofs.Ytebfhlnfmkhmcaa
/- Polynomials from rows, told. -/
namespace Go.Proofs.Ytebfhlnfmkhmcaa
open Go.Abs
theorem told_is {l : List Int} (hb : Bytes l) (hl : l.length ≤ 64) : impl_told l = some (pad l, 0) := by
  simp only [impl_told, impl_row_fits, impl_row_degree, Option.bind_some, poly_is hb hl]
  rw [wrap64 (by omega) (by omega)]
  simp
  omega
end Go.Proofs.Ytebfhlnfmkhmcaa
/- Rows as arrays: codes, rows, told. -/
namespace Go.Proofs.Ytebfhlnfmkhmcaa
open Go.Abs
variable {P : Pri}
theorem isB_pp (a : PP P) : IsB (pad a.1) := fun x hx => by
  obtain ⟨i, hi, rfl⟩ := List.getElem_of_mem hx
  have h1 := res_pad a.2 P.pos i (by rw [← (pad a.1).2]; exact hi)
  have := P.two
  rw [rd_lt hi] at h1
  omega
theorem fitsI (a : PP P) (la : a.len ≤ 1000000) : impl_row_fits a.1 = some (decide (a.len ≤ 64)) := by
  have h : a.1.length = a.len := rfl
  simp only [impl_row_fits, impl_row_degree, Option.bind_some]
  rw [wrap64 (by omega) (by omega), h]
  congr 1
  rw [Bool.eq_iff_iff]; simp only [decide_eq_true_eq]; omega
theorem toldI (a : PP P) (la : a.len ≤ 1000000) : impl_told a.1 = some (if a.len ≤ 64 then (pad a.1, 0) else (vrep 64 0, 3)) := by
  by_cases h : a.len ≤ 64
  · rw [if_pos h]
    exact told_is (a.2.bytes P.sm.2) h
  · rw [if_neg h]
    simp only [impl_told, fitsI a la, decide_eq_false h, Option.bind_some]
    rfl
end Go.Proofs.Ytebfhlnfmkhmcaa
/- Which polynomials are moduli. -/
namespace Go.Proofs.Ytebfhlnfmkhmcaa
open Go.Abs

/-- With first coefficient 1, and of a degree from 1 to 5. -/
def modOk (a : V64) : Bool := decide (1 ≤ top (rd a.1) 64) && (rd a.1 (top (rd a.1) 64 - 1) == 1) && decide (2 ≤ top (rd a.1) 64 ∧ top (rd a.1) 64 ≤ 6)
theorem isModulus_is {a : V64} (hb : IsB a) : impl_isModulus a = some (modOk a) := by
  have ht := top_le (rd a.1) 64
  have hl : (a.1.take (top (rd a.1) 64)).length = top (rd a.1) 64 := by rw [List.length_take, a.2]; omega
  simp only [impl_isModulus, rowOf_is hb, Option.bind_some, impl_row_lead, impl_row_degree, impl_within, hl, modOk]
  generalize htt : top (rd a.1) 64 = t at ht hl
  by_cases h0 : t = 0
  · subst h0; simp
  · have e1 : IntKind.i64.wrap ((t : Int) - 1) = ((t - 1 : Nat) : Int) := by rw [wrap64 (by omega) (by omega)]; omega
    have er : rd (a.1.take t) (t - 1) = rd a.1 (t - 1) := by
      have : t - 1 < a.1.length := by rw [a.2]; omega
      simp [rd, show t - 1 < t by omega]
    rw [if_neg (by simp; omega), e1, ifp_pos (by omega), Int.toNat_natCast, er]
    by_cases h1 : rd a.1 (t - 1) = 1
    · have q1 : (decide (1 ≤ t)) = true := by simp; omega
      have q2 : decide (2 ≤ t ∧ t ≤ 6) = (decide ((1 : Int) ≤ ((t - 1 : Nat) : Int)) && decide (((t - 1 : Nat) : Int) ≤ 5)) := by
        rw [Bool.eq_iff_iff]; simp only [decide_eq_true_eq, Bool.and_eq_true]; omega
      rw [q1, q2, h1]
      have q3 : decide (((t - 1 : Nat) : Int) ≥ 1) = decide ((1 : Int) ≤ ((t - 1 : Nat) : Int)) := rfl
      try rw [q3]
      cases decide ((1 : Int) ≤ ((t - 1 : Nat) : Int)) <;> cases decide (((t - 1 : Nat) : Int) ≤ 5) <;> simp
    · simp [h1]
theorem spec_modulus {a : V64} : (Option.bind (spec_l01Monic a) fun r32 => (if (!r32) then (some true) else (Option.bind (spec_l01Deg a) fun r36 => (Option.bind (spec_l01In r36 1 5) fun r38 => (some (!r38)))))) = some (!modOk a) := by
  have ht := top_le (rd a.1) 64
  simp only [spec_l01Monic, deg_is, Option.bind_some, spec_l01In, modOk]
  generalize htt : top (rd a.1) 64 = t at ht
  by_cases h0 : t = 0
  · subst h0; simp
  · have e1 : ((t : Int) - 1) = ((t - 1 : Nat) : Int) := by omega
    rw [e1, if_pos (by simp), ifp_pos (by omega), Int.toNat_natCast]
    by_cases h1 : rd a.1 (t - 1) = 1
    · have q1 : (decide (1 ≤ t)) = true := by simp; omega
      have q2 : decide (2 ≤ t ∧ t ≤ 6) = (decide ((1 : Int) ≤ ((t - 1 : Nat) : Int)) && decide (((t - 1 : Nat) : Int) ≤ 5)) := by
        rw [Bool.eq_iff_iff]; simp only [decide_eq_true_eq, Bool.and_eq_true]; omega
      rw [q1, q2, h1]
      have q3 : decide (((t - 1 : Nat) : Int) ≥ 1) = decide ((1 : Int) ≤ ((t - 1 : Nat) : Int)) := rfl
      try rw [q3]
      cases decide ((1 : Int) ≤ ((t - 1 : Nat) : Int)) <;> cases decide (((t - 1 : Nat) : Int) ≤ 5) <;> simp
    · simp [h1]

end Go.Proofs.Ytebfhlnfmkhmcaa
/- The leading coefficient. -/
namespace Go.Proofs.Ytebfhlnfmkhmcaa
open Go.Abs

theorem degI_row (v : V64) : impl_row_degree (row v) = some (((row v).length : Int) - 1) := by
  have := row_len v
  simp only [impl_row_degree]
  rw [wrap64 (by omega) (by omega)]
theorem degS_row (v : V64) : spec_l01Deg v = some (((row v).length : Int) - 1) := by rw [deg_is, row_length]
end Go.Proofs.Ytebfhlnfmkhmcaa
/- Which arrays are polynomials, in the reference. -/
namespace Go.Proofs.Ytebfhlnfmkhmcaa
open Go.Abs
theorem is_loop {p : Int} {a : V64} (hb : IsB a) : ∀ s : Int, (∃ i : Nat, s = i ∧ i ≤ 64 ∧ ∀ j, j < i → rd a.1 j < p) → ∃ r, loopM (fun s : Int => spec_l01Is_l1 a p s) s = some r ∧ ((r = .inl () ∧ Small p a) ∨ (r = .inr false ∧ ¬ Small p a)) := by
  refine loopM_ind (fun (s : Int) => ∃ i : Nat, s = i ∧ i ≤ 64 ∧ ∀ j, j < i → rd a.1 j < p) (fun (s : Int) (r : Unit ⊕ Bool) => (r = .inl () ∧ Small p a) ∨ (r = .inr false ∧ ¬ Small p a)) (fun s => 64 - s.toNat) ?_
  rintro s ⟨i, rfl, hi, hlt⟩
  by_cases h : i = 64
  · right
    subst h
    exact ⟨.inl (), by simp [spec_l01Is_l1], .inl ⟨rfl, hlt⟩⟩
  · have hbi := hb.rd (show i < 64 by omega)
    by_cases e : rd a.1 i < p
    · left
      refine ⟨((i + 1 : Nat) : Int), ?_, ⟨i + 1, rfl, by omega, fun j hj => ?_⟩, by simp; omega, fun r hr => hr⟩
      · simp only [spec_l01Is_l1]
        rw [if_pos (by simp; omega), ifp_pos (by omega), Int.toNat_natCast, wrap64 (by omega) (by omega), if_neg (by simp; omega), wrap64 (by omega) (by omega)]
        rfl
      · by_cases hj' : j = i
        · rw [hj']; exact e
        · exact hlt j (by omega)
    · right
      refine ⟨.inr false, ?_, .inr ⟨rfl, fun hs => e (hs i (by omega))⟩⟩
      simp only [spec_l01Is_l1]
      rw [if_pos (by simp; omega), ifp_pos (by omega), Int.toNat_natCast, wrap64 (by omega) (by omega), if_pos (by simp; omega)]
theorem is_is {p : Int} {a : V64} (hb : IsB a) : spec_l01Is p a = some (small p a && isP p) := by
  obtain ⟨r, h1, h2⟩ := is_loop (p := p) hb 0 ⟨0, rfl, by omega, fun j hj => by omega⟩
  rcases h2 with ⟨rfl, h⟩ | ⟨rfl, h⟩ <;> simp [spec_l01Is, h1, small, h, isPrime_spec]

end Go.Proofs.Ytebfhlnfmkhmcaa
/- The code for polynomials, in the reference. -/
namespace Go.Proofs.Ytebfhlnfmkhmcaa
open Go.Abs
theorem code_loop {p : Int} {l : List V64} (hb : ∀ a ∈ l, IsB a) (hl : l.length ≤ 2000000) (hp : isP p = true) : ∀ s : Int, (∃ i : Nat, s = i ∧ i ≤ l.length ∧ ∀ a ∈ l.take i, small p a = true) → ∃ r, loopM (fun s : Int => spec_l01Code_l1 l p s) s = some r ∧ ((r = .inl () ∧ l.all (small p) = true) ∨ (r = .inr 1 ∧ l.all (small p) = false)) := by
  refine loopM_ind (fun (s : Int) => ∃ i : Nat, s = i ∧ i ≤ l.length ∧ ∀ a ∈ l.take i, small p a = true) (fun (s : Int) (r : Unit ⊕ Int) => (r = .inl () ∧ l.all (small p) = true) ∨ (r = .inr 1 ∧ l.all (small p) = false)) (fun s => l.length - s.toNat) ?_
  rintro s ⟨i, rfl, hi, hlt⟩
  by_cases h : i = l.length
  · right
    subst h
    exact ⟨.inl (), by simp [spec_l01Code_l1], .inl ⟨rfl, by rw [List.take_length] at hlt; simpa using hlt⟩⟩
  · have hil : i < l.length := by omega
    have er : rd l i = l[i] := by simp [rd, hil]
    have hbi := is_is (p := p) (hb l[i] (List.getElem_mem _))
    rw [hp, Bool.and_true] at hbi
    cases e : small p l[i] with
    | true =>
      left
      refine ⟨((i + 1 : Nat) : Int), ?_, ⟨i + 1, rfl, by omega, fun a ha => ?_⟩, by simp; omega, fun r hr => hr⟩
      · simp only [spec_l01Code_l1]
        rw [if_pos (by simp; omega), ifp_pos (by omega), Int.toNat_natCast, er, hbi, e]
        simp only [Option.bind_some, Bool.not_true, Bool.false_eq_true, if_false]
        rw [wrap64 (by omega) (by omega)]; rfl
      · rw [List.take_succ_eq_append_getElem hil] at ha
        rcases List.mem_append.1 ha with ha | ha
        · exact hlt a ha
        · have : a = l[i] := by simpa using ha
          rw [this]; exact e
    | false =>
      right
      refine ⟨.inr 1, ?_, .inr ⟨rfl, ?_⟩⟩
      · simp only [spec_l01Code_l1]
        rw [if_pos (by simp; omega), ifp_pos (by omega), Int.toNat_natCast, er, hbi, e]
        rfl
      · rw [List.all_eq_false]
        exact ⟨l[i], List.getElem_mem _, by simp [e]⟩
theorem code_is {p : Int} {l : List V64} (hb : ∀ a ∈ l, IsB a) (hl : l.length ≤ 2000000) : spec_l01Code p l = some (if isP p && l.all (small p) then 0 else 1) := by
  unfold spec_l01Code
  rw [isPrime_spec]
  cases hp : isP p with
  | false => simp
  | true =>
    obtain ⟨r, h1, h2⟩ := code_loop hb hl hp 0 ⟨0, rfl, by omega, by simp⟩
    simp only [Option.bind_some, Bool.not_true, Bool.false_eq_true, if_false, h1, Bool.true_and]
    rcases h2 with ⟨rfl, h⟩ | ⟨rfl, h⟩ <;> simp [h]

end Go.Proofs.Ytebfhlnfmkhmcaa
/- Polynomials in arrays. -/
namespace Go.Proofs.Ytebfhlnfmkhmcaa
open Go.Abs

theorem pri_of {p : Int} (h : isP p = true) : ∃ P : Pri, p = P.p := by
  have hp := isP_pos h
  obtain ⟨n, hn⟩ : ∃ n : Nat, p = n := ⟨p.toNat, by omega⟩
  subst hn
  exact ⟨⟨n, h⟩, rfl⟩
/-- The polynomial in an array. -/
def ppv {P : Pri} (v : V64) (hb : IsB v) (hs : small P.p v = true) : PP P := ⟨row v, row_row (res_of_small hb hs)⟩
theorem ppv_pad {P : Pri} {v : V64} {hb : IsB v} {hs : small P.p v = true} : pad (ppv v hb hs).1 = v := pad_row v
end Go.Proofs.Ytebfhlnfmkhmcaa
/- A copy of a polynomial. -/
namespace Go.Proofs.Ytebfhlnfmkhmcaa
open Go.Abs

theorem toPoly_loop (a : V64) : ∀ s : Int × V64, (∃ i : Nat, s.1 = i ∧ i ≤ 64 ∧ ∀ j, j < i → rd s.2.1 j = rd a.1 j) → ∃ r, loopM (fun s : Int × V64 => laws_toPoly_l1 a s.1 s.2) s = some r ∧ r = a := by
  refine loopM_ind (fun (s : Int × V64) => ∃ i : Nat, s.1 = i ∧ i ≤ 64 ∧ ∀ j, j < i → rd s.2.1 j = rd a.1 j) (fun (s : Int × V64) (r : V64) => r = a) (fun (s : Int × V64) => 64 - s.1.toNat) ?_
  rintro ⟨x, v⟩ ⟨i, hx, hi, hv⟩
  simp only at hx hv
  subst hx
  by_cases h : i = 64
  · right
    subst h
    exact ⟨v, by simp [laws_toPoly_l1], vec_ext hv⟩
  · left
    refine ⟨(((i + 1 : Nat) : Int), vset v i (rd a.1 i)), ?_, ⟨i + 1, rfl, by omega, fun j hj => ?_⟩, by simp; omega, fun r hr => hr⟩
    · simp only [laws_toPoly_l1]
      rw [if_pos (by simp; omega), ifp_pos (by omega), ifp_pos (by omega), wrap64 (by omega) (by omega)]
      simp
    · rw [rd_vset _ _ _ _ (by omega)]
      by_cases e : j = i
      · rw [if_pos e, e]
      · rw [if_neg e]; exact hv j (by omega)

theorem toPoly_is (a : V64) : laws_toPoly a = some a := by
  obtain ⟨r, h1, h2⟩ := toPoly_loop a (0, vrep 64 0) ⟨0, rfl, by omega, fun j hj => by omega⟩
  simp only [laws_toPoly, h1, h2, Option.bind_some]
end Go.Proofs.Ytebfhlnfmkhmcaa
/- Comparing polynomials. -/
namespace Go.Proofs.Ytebfhlnfmkhmcaa
open Go.Abs

theorem eqPoly_loop (a b : V64) : ∀ s : Int, (∃ i : Nat, s = i ∧ i ≤ 64) → ∃ r, loopM (fun s : Int => laws_eqPoly_l1 a b s) s = some r ∧ ∀ i : Nat, s = i → (r = .inl () ∧ ∀ j, i ≤ j → j < 64 → rd a.1 j = rd b.1 j) ∨ (r = .inr false ∧ ∃ j, j < 64 ∧ rd a.1 j ≠ rd b.1 j) := by
  refine loopM_ind (fun (s : Int) => ∃ i : Nat, s = i ∧ i ≤ 64) (fun (s : Int) (r : Unit ⊕ Bool) => ∀ i : Nat, s = i → (r = .inl () ∧ ∀ j, i ≤ j → j < 64 → rd a.1 j = rd b.1 j) ∨ (r = .inr false ∧ ∃ j, j < 64 ∧ rd a.1 j ≠ rd b.1 j)) (fun s => 64 - s.toNat) ?_
  rintro s ⟨i, rfl, hi⟩
  by_cases h : i = 64
  · subst h
    right
    refine ⟨.inl (), by simp [laws_eqPoly_l1], fun k hk => .inl ⟨rfl, fun j h1 h2 => by omega⟩⟩
  · by_cases e : rd a.1 i = rd b.1 i
    · left
      refine ⟨((i + 1 : Nat) : Int), ?_, ⟨i + 1, rfl, by omega⟩, by simp; omega, fun r hr k hk => ?_⟩
      · simp only [laws_eqPoly_l1]
        rw [if_pos (by simp; omega), ifp_pos (by omega), ifp_pos (by omega)]
        simp only [Int.toNat_natCast, e, bne_self_eq_false, Bool.false_eq_true, if_false]
        rw [wrap64 (by omega) (by omega)]; rfl
      · have hki : k = i := by omega
        subst hki
        rcases hr (k + 1) rfl with ⟨h1, h2⟩ | h1
        · refine .inl ⟨h1, fun j h3 h4 => ?_⟩
          by_cases hj : j = k
          · subst hj; exact e
          · exact h2 j (by omega) h4
        · exact .inr h1
    · right
      refine ⟨.inr false, ?_, fun k hk => .inr ⟨rfl, i, by omega, e⟩⟩
      simp only [laws_eqPoly_l1]
      rw [if_pos (by simp; omega), ifp_pos (by omega), ifp_pos (by omega)]
      simp [e]

theorem eqPoly_is (a b : V64) : laws_eqPoly a b = some (decide (a = b)) := by
  obtain ⟨r, h1, h2⟩ := eqPoly_loop a b 0 ⟨0, rfl, by omega⟩
  unfold laws_eqPoly
  rcases h2 0 rfl with ⟨rfl, h⟩ | ⟨rfl, j, h3, h4⟩
  · have : a = b := vec_ext fun j hj => h j (by omega) hj
    rw [h1]; simp [this]
  · have : a ≠ b := fun e => h4 (by rw [e])
    rw [h1]; simp [this]
end Go.Proofs.Ytebfhlnfmkhmcaa
/- FnExactExponentOf. -/
namespace Go.Proofs.Ytebfhlnfmkhmcaa
open Go.Abs
theorem exn_modOk {v : V64} (h : modOk v = true) : 2 ≤ (row v).length ∧ (row v).length ≤ 6 := by
  unfold modOk at h
  simp only [Bool.and_eq_true, decide_eq_true_eq] at h
  rw [row_length]; exact h.2
theorem exn_same (p : Int) (m : V64) (hm : IsB m) : (∃ c : Int, c ≠ 0 ∧ spec_l02Modulus p m [] = some c ∧ impl_modulusCode_of_sl p m [] = some c) ∨
    (spec_l02Modulus p m [] = some 0 ∧ impl_modulusCode_of_sl p m [] = some 0 ∧ isP p = true ∧ small p m = true ∧ modOk m = true) := by
  simp only [spec_l02Modulus, impl_modulusCode_of_sl]
  rw [code_is (l := [m]) (by simp [hm]) (by simp), code_is (l := []) (by simp) (by simp), ifp_pos (by simp), polysCode_is (by simp [hm]) (by simp)]
  simp only [Option.bind_some, List.all_cons, List.all_nil, Bool.and_true, List.cons_append, List.nil_append, spec_modulus, isModulus_is hm]
  cases h1 : isP p <;> cases h3 : small p m <;> cases hk : modOk m <;> simp [h1]
end Go.Proofs.Ytebfhlnfmkhmcaa
/- The polynomial of a number, in the reference. -/
namespace Go.Proofs.Ytebfhlnfmkhmcaa
open Go.Abs
theorem of_loop {p : Nat} (hp : 2 ≤ p) (hp2 : p ≤ 256) : ∀ s : Int × Int × V64, (∃ (n : Nat) (l : List Int), s.1 = n ∧ n ≤ 1000000000000 ∧ s.2.1 = (l.length : Nat) ∧ s.2.2 = pad l ∧ l.length + (digs p n).length ≤ 64) →
    ∃ r, loopM (fun s : Int × Int × V64 => spec_l01Of_l1 p s.1 s.2.1 s.2.2) s = some r ∧ ∀ (n : Nat) (l : List Int), s.1 = n → s.2.1 = (l.length : Nat) → s.2.2 = pad l → r = pad (l ++ digs p n) := by
  refine loopM_ind (fun (s : Int × Int × V64) => ∃ (n : Nat) (l : List Int), s.1 = n ∧ n ≤ 1000000000000 ∧ s.2.1 = (l.length : Nat) ∧ s.2.2 = pad l ∧ l.length + (digs p n).length ≤ 64)
    (fun (s : Int × Int × V64) (r : V64) => ∀ (n : Nat) (l : List Int), s.1 = n → s.2.1 = (l.length : Nat) → s.2.2 = pad l → r = pad (l ++ digs p n)) (fun (s : Int × Int × V64) => s.1.toNat) ?_
  rintro ⟨x, i, v⟩ ⟨n, l, hx, hn, hi, hv, hl⟩
  simp only at hx hi hv
  subst hx hi hv
  by_cases h : n = 0
  · right
    subst h
    refine ⟨pad l, by simp [spec_l01Of_l1], fun m k hm hk hv => ?_⟩
    have : m = 0 := by have : ((0 : Nat) : Int) = m := hm; omega
    subst this
    rw [digs_zero, List.append_nil]; exact hv
  · left
    have hlt : n / p < n := Nat.div_lt_self (by omega) hp
    have e1 : Int.tdiv (n : Int) p = ((n / p : Nat) : Int) := rfl
    have e2 : Int.tmod (n : Int) p = ((n % p : Nat) : Int) := rfl
    have ed := digs_pos hp (show 0 < n by omega)
    have hm := Nat.mod_lt n (show p > 0 by omega)
    generalize n / p = q at hlt e1 ed
    generalize n % p = d at e2 ed hm
    rw [ed] at hl
    simp only [List.length_cons] at hl
    refine ⟨((q : Int), ((l ++ [(d : Int)]).length : Nat), pad (l ++ [(d : Int)])), ?_, ⟨q, l ++ [(d : Int)], rfl, by omega, rfl, rfl, by simp; omega⟩, by simp only [Int.toNat_natCast]; exact hlt, fun r hr m k hm hk hv => ?_⟩
    · simp only [spec_l01Of_l1]
      rw [if_pos (by simp; omega), ifp_pos (by omega), ifp_pos (by omega), ifp_pos (by omega), e1, e2, wrap64 (by omega) (by omega), wrap64 (by omega) (by omega), wrap8 (by omega) (by omega)]
      rw [Int.toNat_natCast, pad_set l d (by omega)]
      simp
    · have : m = n := by have : (n : Int) = m := hm; omega
      subst this
      have h1 := hr q (l ++ [(d : Int)]) rfl rfl rfl
      rw [h1, ed]
      simp only at hv hk
      have hkl : k.length = l.length := by omega
      refine vec_ext fun j hj => ?_
      rw [pad_rd _ hj, pad_rd _ hj, List.append_assoc]
      simp only [List.singleton_append]
      have hv' : ∀ j, j < 64 → l.getD j 0 = k.getD j 0 := fun j hj => by
        have := congrArg (fun v : V64 => rd v.1 j) hv
        simp only [pad_rd _ hj] at this
        exact this
      rw [getD_app, getD_app, hkl]
      split
      · exact hv' j hj
      · rfl

theorem of_is {p n : Nat} (hp : 2 ≤ p) (hp2 : p ≤ 256) (hn : n ≤ 1000000000000) : spec_l01Of p n = some (pad (digs p n)) := by
  have hl := digs_len40 hp hn
  obtain ⟨r, h1, h2⟩ := of_loop hp hp2 ((n : Int), 0, pad []) ⟨n, [], rfl, hn, rfl, rfl, by simp; omega⟩
  have e := h2 n [] rfl rfl rfl
  simp only [spec_l01Of, ← pad_nil, h1, e, Option.bind_some, List.nil_append]
end Go.Proofs.Ytebfhlnfmkhmcaa
